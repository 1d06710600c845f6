/- Is a number in a list (has 59); what the counts of the reference say. -/
import Derived.Test.YtkbfcofifhngfaaGreatCM
namespace Go.Proofs.YtkbfcofifhngfaaGreat
open Go Tx Go.RowKit
set_option linter.unusedSimpArgs false
set_option linter.unusedVariables false
set_option maxHeartbeats 1000000 in
set_option maxRecDepth 100000 in
theorem has59_ok (L : List Int) (o : Option Addr) (c : Nat) (x : Int) (w : World) (hrd : Rd 1 iF (.slice o L.length c) L w) (hl : L.length ≤ 1000000) :
    Calls Tryz.prog 59 #[.slice o L.length c, iv x] w fun e w' => e = .returned (.bool (L.contains x)) ∧ Below w.heap.size w w' := by
  refine calls_val env mixed Tryz.func59 has59 Tryz.ntmps59 [.slice o L.length c, iv x] (by simp) ?_
  repeat'
   conv => whnf
   first
    | refine zA ?_ | refine zB ?_ | refine zC ?_ | refine zD ?_ | refine zE ?_ | refine zF ?_ | refine zG ?_ | refine zH ?_ | refine zJ ?_ | refine zI ?_ | refine splT ?_ | refine splF ?_ | refine splNot ?_
    | ((first | refine splIn (fun hc => ?_) (fun hc => ?_) | refine splD (fun hc => ?_) (fun hc => ?_) | refine splE (fun hc => ?_) (fun hc => ?_) | refine splNE (fun hc => ?_) (fun hc => ?_)) <;> first | (exfalso; omega) | (exfalso; dsimp only at hc; omega) | skip)
  refine loopE (fun k : Nat => [(0, .v (.slice o L.length c)), (1, .v (iv x)), (5, .v (iv k))]) (fun _ => []) (fun k => k ≤ L.length ∧ (L.take k).contains x = false) (fun k => L.length - k) 0 ⟨Nat.zero_le _, rfl⟩ ⟨rfl, rfl, rfl, trivial⟩ trivial (fun _ => ⟨rfl, rfl⟩) ?_
  intro k ⟨hk, hall⟩
  rcases Nat.lt_or_ge k L.length with hkl | hkl
  · obtain ⟨y, hy⟩ : ∃ b, L[k]? = some b := ⟨_, List.getElem?_eq_getElem hkl⟩
    obtain ⟨_, ad, rfl, _⟩ := hrd.ptr (by omega)
    have e0 := fun (w' : World) hw' => rd_ati (hrd.below (w' := w') hw') hy
    by_cases hxy : y = x
    · subst hxy
      have : L.contains y = true := List.contains_iff_mem.2 (List.mem_of_getElem? hy)
      rw [this]
      repeat'
       conv => whnf
       first
        | refine zA ?_ | refine zB ?_ | refine zC ?_ | refine zD ?_ | refine zE ?_ | refine zF ?_ | refine zG ?_ | refine zH ?_ | refine zJ ?_ | refine zI ?_ | refine splT ?_ | refine splF ?_ | refine splNot ?_
        | ((first | refine splIn (fun hc => ?_) (fun hc => ?_) | refine splD (fun hc => ?_) (fun hc => ?_) | refine splE (fun hc => ?_) (fun hc => ?_) | refine splNE (fun hc => ?_) (fun hc => ?_)) <;> first | (exfalso; omega) | (exfalso; dsimp only at hc; omega) | skip)
        | refine Exists.intro (α := List Value) [iv y] ⟨⟨rfl, fun w' hw' => e0 w' hw'⟩, ?_⟩
      all_goals first | (exfalso; omega) | exact ⟨fun β => rfl, fun w' h => h⟩
    · have hn : (L.take (k + 1)).contains x = false := by
        rw [List.take_add_one, hy]
        simp only [List.contains_eq_mem, Option.toList_some, List.mem_append, List.mem_singleton, decide_eq_false_iff_not] at hall ⊢
        rintro (h | h)
        · exact hall h
        · exact hxy h.symm
      repeat'
       conv => whnf
       first
        | refine zA ?_ | refine zB ?_ | refine zC ?_ | refine zD ?_ | refine zE ?_ | refine zF ?_ | refine zG ?_ | refine zH ?_ | refine zJ ?_ | refine zI ?_ | refine splT ?_ | refine splF ?_ | refine splNot ?_
        | ((first | refine splIn (fun hc => ?_) (fun hc => ?_) | refine splD (fun hc => ?_) (fun hc => ?_) | refine splE (fun hc => ?_) (fun hc => ?_) | refine splNE (fun hc => ?_) (fun hc => ?_)) <;> first | (exfalso; omega) | (exfalso; dsimp only at hc; omega) | skip)
        | refine Exists.intro (α := List Value) [iv y] ⟨⟨rfl, fun w' hw' => e0 w' hw'⟩, ?_⟩
      all_goals first | (exfalso; omega) | exact ⟨k + 1, ⟨by omega, hn⟩, by omega, Ent.weak rfl ⟨rfl, rfl, rfl, trivial⟩ trivial fun _ h => h⟩
  · rw [List.take_of_length_le hkl] at hall
    rw [hall]
    repeat'
     conv => whnf
     first
      | refine zA ?_ | refine zB ?_ | refine zC ?_ | refine zD ?_ | refine zE ?_ | refine zF ?_ | refine zG ?_ | refine zH ?_ | refine zJ ?_ | refine zI ?_ | refine splT ?_ | refine splF ?_ | refine splNot ?_
      | ((first | refine splIn (fun hc => ?_) (fun hc => ?_) | refine splD (fun hc => ?_) (fun hc => ?_) | refine splE (fun hc => ?_) (fun hc => ?_) | refine splNE (fun hc => ?_) (fun hc => ?_)) <;> first | (exfalso; omega) | (exfalso; dsimp only at hc; omega) | skip)
    all_goals first | (exfalso; omega) | exact ⟨fun β => rfl, fun w' h => h⟩

/-- Are the hours of each group those of the lessons? -/
def hoB (G : List (List Int)) (su n : Nat) (Y : List Ln) : Bool := alN (fun a => alN (fun b => cntP Y (a * 6 + b) == (G.getD a []).getD b 0) su) n
/-- What the reference asks of a timetable. -/
def rfitB (s : SD) (X : List (List Ln)) : Bool := decide ((X.length : Int) = s.sl) && (X.all (sltB s) && (hoB s.G s.su.toNat s.G.length X.flatten && alN (fun t => decide (cntT X.flatten t ≤ (s.T.getD t ([], 0)).2)) s.T.length))
theorem cntP_zero {Y : List Ln} {p : Nat} (h : ∀ x ∈ Y, ¬ (x.g = ((p / 6 : Nat) : Int) ∧ x.j = ((p % 6 : Nat) : Int))) : cntP Y p = 0 := by
  unfold cntP
  induction Y with
  | nil => rfl
  | cons x Y ih =>
    rw [List.map_cons, List.sum_cons, ih (fun y hy => h y (by simp [hy])), decide_eq_false (h x (by simp))]; rfl
theorem fit_ref {s : SD} {X : List (List Ln)} (h : scOk s = true) : fitB s X = rfitB s X := by
  unfold fitB rfitB
  rw [h, Bool.true_and]
  by_cases h1 : (X.length : Int) = s.sl
  · rw [decide_eq_true h1, Bool.true_and, Bool.true_and]
    cases h2 : X.all (sltB s) with
    | false => rfl
    | true =>
      rw [Bool.true_and, Bool.true_and, Bool.and_comm]
      congr 1
      obtain ⟨hv1, hv2, hv3, hv4, hv5, hv6, hv7⟩ := scOk_iff.1 h
      have hles := fun (x : Ln) (hx : x ∈ X.flatten) => lesB_bd (sltB_les h2 hx)
      have hrow : ∀ (a : Nat) (xs : List Int), s.G[a]? = some xs → (xs.length : Int) = s.su := fun a xs ha => by
        have := List.all_eq_true.1 hv6 xs (List.mem_of_getElem? ha)
        unfold grB at this
        simp only [Bool.and_eq_true, decide_eq_true_eq] at this
        exact this.1
      rw [Bool.eq_iff_iff, alN_iff, hoB, alN_iff]
      simp only [alN_iff, beq_iff_eq]
      constructor
      · intro hh a ha b hb
        have := hh (a * 6 + b) (by omega)
        unfold cellG at this
        rw [show (a * 6 + b) / 6 = a by omega, show (a * 6 + b) % 6 = b by omega] at this
        rw [List.getD_eq_getElem?_getD (l := s.G)]
        omega
      · intro hh p hp
        by_cases ha : p / 6 < s.G.length ∧ p % 6 < s.su.toNat
        · have := hh (p / 6) ha.1 (p % 6) ha.2
          rw [show p / 6 * 6 + p % 6 = p by omega, List.getD_eq_getElem?_getD (l := s.G)] at this
          unfold cellG
          omega
        · have h0 : cntP X.flatten p = 0 := cntP_zero fun x hx hc => by
            have := hles x hx
            omega
          have h3 : cellG s.G p = 0 := by
            unfold cellG
            cases hg : s.G[p / 6]? with
            | none => rfl
            | some xs =>
              have h4 := hrow _ _ hg
              have h5 := (List.getElem?_eq_some_iff.1 hg).1
              rw [Option.getD_some, List.getD_eq_getElem?_getD, List.getElem?_eq_none (by omega)]; rfl
          omega
  · rw [decide_eq_false h1]; rfl
end Go.Proofs.YtkbfcofifhngfaaGreat
