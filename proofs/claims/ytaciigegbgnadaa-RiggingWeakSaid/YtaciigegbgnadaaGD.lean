/- Logs that are right: what the reference's LogFault returns. -/
import Derived.Test.YtaciigegbgnadaaGC
namespace Go.Proofs.Ytaciigegbgnadaa
open Go Tx Go.RowKit
set_option linter.unusedSimpArgs false
set_option linter.unusedVariables false

set_option maxHeartbeats 1000000 in
set_option maxRecDepth 100000 in
theorem LogFault_ok (G : List (Int × Int)) (L : List En) (o p : Option Addr) (c d : Nat) (w : World) (hG : Rd 2 gF (.slice o G.length c) G w) (hL : Rd 4 En.cs (.slice p L.length d) L w) (hg : G.length ≤ 1000000) (hl : L.length ≤ 1000000) :
    Calls Try.prog 21 #[.slice o G.length c, .slice p L.length d] w fun e w' => e = .returned (iv (lgE G L)) ∧ Below w.heap.size w w' := by
  refine calls_val env mixed Try.func21 has21 Try.ntmps21 [.slice o G.length c, .slice p L.length d] (by simp) ?_
  unfold lgE
  by_cases h1 : 20 < G.length ∨ 200 < L.length
  · rw [if_pos h1]
    repeat'
      conv => whnf
      first
        | refine And.intro (a := drawB _ = true) (by kernel_rfl) ?_
        | refine And.intro (a := (_ : Bool) = true) rfl ?_
        | refine And.intro (a := (_ : Bool) = true ∧ (_ : Bool) = true) ⟨rfl, rfl⟩ ?_
        | refine And.intro (a := (_ : Bool) = true ∧ (_ : List _) = []) ⟨rfl, rfl⟩ ?_
        | refine And.intro (a := IR _ _) (And.intro (by omega) (by omega)) ?_
        | refine wrapE (And.intro (by omega) (by omega)) ?_
        | refine And.intro (a := (0 : Int) ≤ _ ∧ _ < _) (And.intro (by omega) (by omega)) ?_
        | refine And.intro (a := (_ : Bool) = true) (by simp only [Nat.beq_refl]; rfl) ?_
        | refine And.intro (a := ((_ : Bool) = true → 1 ≤ _) ∧ _ ≤ 9223372036854775807 ∧ _ ≤ 140737488355328) ⟨fun h => (by first | omega | cases h), by omega, by omega⟩ ?_
        | refine splT ?_
        | refine splF ?_
        | refine splNot ?_
        | (refine splIn (fun hc => ?_) (fun hc => ?_) <;> first | (exfalso; omega) | (exfalso; dsimp only at hc; omega) | skip)
        | (refine splD (fun hc => ?_) (fun hc => ?_) <;> first | (exfalso; omega) | (exfalso; dsimp only at hc; omega) | skip)
        | (refine splE (fun hc => ?_) (fun hc => ?_) <;> first | (exfalso; omega) | (exfalso; dsimp only at hc; omega) | skip)
        | (refine splNE (fun hc => ?_) (fun hc => ?_) <;> first | (exfalso; omega) | (exfalso; dsimp only at hc; omega) | skip)
    all_goals first | exact ⟨fun β => rfl, fun w' h => h⟩ | (exfalso; omega) | skip
  rw [if_neg h1]
  repeat'
    conv => whnf
    first
      | refine And.intro (a := drawB _ = true) (by kernel_rfl) ?_
      | refine And.intro (a := (_ : Bool) = true) rfl ?_
      | refine And.intro (a := (_ : Bool) = true ∧ (_ : Bool) = true) ⟨rfl, rfl⟩ ?_
      | refine And.intro (a := (_ : Bool) = true ∧ (_ : List _) = []) ⟨rfl, rfl⟩ ?_
      | refine And.intro (a := IR _ _) (And.intro (by omega) (by omega)) ?_
      | refine wrapE (And.intro (by omega) (by omega)) ?_
      | refine And.intro (a := (0 : Int) ≤ _ ∧ _ < _) (And.intro (by omega) (by omega)) ?_
      | refine And.intro (a := (_ : Bool) = true) (by simp only [Nat.beq_refl]; rfl) ?_
      | refine And.intro (a := ((_ : Bool) = true → 1 ≤ _) ∧ _ ≤ 9223372036854775807 ∧ _ ≤ 140737488355328) ⟨fun h => (by first | omega | cases h), by omega, by omega⟩ ?_
      | refine splT ?_
      | refine splF ?_
      | refine splNot ?_
      | (refine splIn (fun hc => ?_) (fun hc => ?_) <;> first | (exfalso; omega) | (exfalso; dsimp only at hc; omega) | skip)
      | (refine splD (fun hc => ?_) (fun hc => ?_) <;> first | (exfalso; omega) | (exfalso; dsimp only at hc; omega) | skip)
      | (refine splE (fun hc => ?_) (fun hc => ?_) <;> first | (exfalso; omega) | (exfalso; dsimp only at hc; omega) | skip)
      | (refine splNE (fun hc => ?_) (fun hc => ?_) <;> first | (exfalso; omega) | (exfalso; dsimp only at hc; omega) | skip)
  all_goals first | (exfalso; omega) | skip
  refine loopE (fun k : Nat => [(0, .v (.slice o G.length c)), (1, .v (.slice p L.length d)), (5, .v (iv k))]) (fun _ => []) (fun k => k ≤ G.length ∧ (G.take k).all gOk = true) (fun k => G.length - k) 0 ⟨Nat.zero_le _, rfl⟩ ⟨rfl, rfl, rfl, trivial⟩ trivial (fun _ => ⟨rfl, rfl⟩) ?_
  intro k ⟨hk, hall⟩
  rcases Nat.lt_or_ge k G.length with hkl | hkl
  · obtain ⟨g, hb⟩ : ∃ b, G[k]? = some b := ⟨_, List.getElem?_eq_getElem hkl⟩
    obtain ⟨_, ad, rfl, _⟩ := hG.ptr (by omega)
    have ht : (G.take (k + 1)).all gOk = gOk g := by rw [List.take_add_one, hb]; simp [hall]
    have e1 := fun (w' : World) hw' => rd_fld (hG.below (w' := w') hw') hb
    repeat'
      conv => whnf
      first
        | refine And.intro (a := drawB _ = true) (by kernel_rfl) ?_
        | refine And.intro (a := (_ : Bool) = true) rfl ?_
        | refine And.intro (a := (_ : Bool) = true ∧ (_ : Bool) = true) ⟨rfl, rfl⟩ ?_
        | refine And.intro (a := (_ : Bool) = true ∧ (_ : List _) = []) ⟨rfl, rfl⟩ ?_
        | refine And.intro (a := IR _ _) (And.intro (by omega) (by omega)) ?_
        | refine wrapE (And.intro (by omega) (by omega)) ?_
        | refine And.intro (a := (0 : Int) ≤ _ ∧ _ < _) (And.intro (by omega) (by omega)) ?_
        | refine And.intro (a := (_ : Bool) = true) (by simp only [Nat.beq_refl]; rfl) ?_
        | refine And.intro (a := ((_ : Bool) = true → 1 ≤ _) ∧ _ ≤ 9223372036854775807 ∧ _ ≤ 140737488355328) ⟨fun h => (by first | omega | cases h), by omega, by omega⟩ ?_
        | refine splT ?_
        | refine splF ?_
        | refine splNot ?_
        | (refine splIn (fun hc => ?_) (fun hc => ?_) <;> first | (exfalso; omega) | (exfalso; dsimp only at hc; omega) | skip)
        | (refine splD (fun hc => ?_) (fun hc => ?_) <;> first | (exfalso; omega) | (exfalso; dsimp only at hc; omega) | skip)
        | (refine splE (fun hc => ?_) (fun hc => ?_) <;> first | (exfalso; omega) | (exfalso; dsimp only at hc; omega) | skip)
        | (refine splNE (fun hc => ?_) (fun hc => ?_) <;> first | (exfalso; omega) | (exfalso; dsimp only at hc; omega) | skip)
        | refine Exists.intro (α := List Value) [iv g.1] ⟨⟨rfl, fun w' hw' => e1 w' hw' 0 _ rfl⟩, ?_⟩
        | refine Exists.intro (α := List Value) [iv g.2] ⟨⟨rfl, fun w' hw' => e1 w' hw' 1 _ rfl⟩, ?_⟩
        | ((with_reducible show CallEv _ _ 23 _ _ _ _ _); refine callE (k := 23) (fun β w' hbw => In_ok _ _ _ _) ?_)
    all_goals first
      | (exfalso; omega)
      | (have hgo : gOk g = true := by simp [gOk, inB]; omega
         exact ⟨k + 1, ⟨by omega, by rw [ht, hgo]⟩, by omega, Ent.weak rfl ⟨rfl, rfl, rfl, trivial⟩ trivial fun _ h => h⟩)
      | (have hgo : gOk g = false := by rw [Bool.eq_false_iff]; intro hc; simp [gOk, inB] at hc; omega
         have hno : G.all gOk = false := by
           rw [List.all_eq_false]
           exact ⟨_, List.mem_of_getElem? hb, by simp [hgo]⟩
         rw [hno]
         exact ⟨fun β => rfl, fun w' h => h⟩)
      | (trace_state; sorry)
  rw [List.take_of_length_le hkl] at hall
  rw [if_pos hall]
  have hkg : k = G.length := by omega
  repeat'
    conv => whnf
    first
      | refine And.intro (a := drawB _ = true) (by kernel_rfl) ?_
      | refine And.intro (a := (_ : Bool) = true) rfl ?_
      | refine And.intro (a := (_ : Bool) = true ∧ (_ : Bool) = true) ⟨rfl, rfl⟩ ?_
      | refine And.intro (a := (_ : Bool) = true ∧ (_ : List _) = []) ⟨rfl, rfl⟩ ?_
      | refine And.intro (a := IR _ _) (And.intro (by omega) (by omega)) ?_
      | refine wrapE (And.intro (by omega) (by omega)) ?_
      | refine And.intro (a := (0 : Int) ≤ _ ∧ _ < _) (And.intro (by omega) (by omega)) ?_
      | refine And.intro (a := (_ : Bool) = true) (by simp only [Nat.beq_refl]; rfl) ?_
      | refine And.intro (a := ((_ : Bool) = true → 1 ≤ _) ∧ _ ≤ 9223372036854775807 ∧ _ ≤ 140737488355328) ⟨fun h => (by first | omega | cases h), by omega, by omega⟩ ?_
      | refine splT ?_
      | refine splF ?_
      | refine splNot ?_
      | (refine splIn (fun hc => ?_) (fun hc => ?_) <;> first | (exfalso; omega) | (exfalso; dsimp only at hc; omega) | skip)
      | (refine splD (fun hc => ?_) (fun hc => ?_) <;> first | (exfalso; omega) | (exfalso; dsimp only at hc; omega) | skip)
      | (refine splE (fun hc => ?_) (fun hc => ?_) <;> first | (exfalso; omega) | (exfalso; dsimp only at hc; omega) | skip)
      | (refine splNE (fun hc => ?_) (fun hc => ?_) <;> first | (exfalso; omega) | (exfalso; dsimp only at hc; omega) | skip)
  refine loopE (fun k : Nat => [(0, .v (.slice o G.length c)), (1, .v (.slice p L.length d)), (6, .v (iv k))]) (fun _ => [])
    (fun k => k ≤ L.length ∧ ensOk G.length 0 L = ensOk G.length (lastD L k) (L.drop k) ∧ 0 ≤ lastD L k) (fun k => L.length - k) 0 ⟨Nat.zero_le _, rfl, Int.le_refl _⟩ ⟨rfl, rfl, rfl, trivial⟩ trivial (fun _ => ⟨rfl, rfl⟩) ?_
  clear hkl hall hkg hk
  intro k ⟨hk, hen, h0⟩
  rcases Nat.lt_or_ge k L.length with hkl | hkl
  · obtain ⟨x, hx⟩ : ∃ b, L[k]? = some b := ⟨_, List.getElem?_eq_getElem hkl⟩
    obtain ⟨_, ad, rfl, _⟩ := hL.ptr (by omega)
    have e0 := fun (w' : World) hw' => rd_ati (hL.below (w' := w') hw') hx
    rw [ensOk_drop hx, ← lastD_succ hx] at hen
    unfold enOk at hen
    have hlast : ∀ b, ensOk G.length 0 L = (b && ensOk G.length (lastD L (k + 1)) (L.drop (k + 1))) → b = false → (if ensOk G.length 0 L = true then (0 : Int) else 1) = 1 := by
      intro b hb hf
      rw [hb, hf]; rfl
    cases k with
    | zero =>
      have l0 : lastD L 0 = 0 := rfl
      repeat'
        conv => whnf
        first
          | refine And.intro (a := drawB _ = true) (by kernel_rfl) ?_
          | refine And.intro (a := (_ : Bool) = true) rfl ?_
          | refine And.intro (a := (_ : Bool) = true ∧ (_ : Bool) = true) ⟨rfl, rfl⟩ ?_
          | refine And.intro (a := (_ : Bool) = true ∧ (_ : List _) = []) ⟨rfl, rfl⟩ ?_
          | refine And.intro (a := IR _ _) (And.intro (by omega) (by omega)) ?_
          | refine wrapE (And.intro (by omega) (by omega)) ?_
          | refine And.intro (a := (0 : Int) ≤ _ ∧ _ < _) (And.intro (by omega) (by omega)) ?_
          | refine And.intro (a := (_ : Bool) = true) (by simp only [Nat.beq_refl]; rfl) ?_
          | refine And.intro (a := ((_ : Bool) = true → 1 ≤ _) ∧ _ ≤ 9223372036854775807 ∧ _ ≤ 140737488355328) ⟨fun h => (by first | omega | cases h), by omega, by omega⟩ ?_
          | refine splT ?_
          | refine splF ?_
          | refine splNot ?_
          | (refine splIn (fun hc => ?_) (fun hc => ?_) <;> first | (exfalso; omega) | (exfalso; dsimp only at hc; omega) | skip)
          | (refine splD (fun hc => ?_) (fun hc => ?_) <;> first | (exfalso; omega) | (exfalso; dsimp only at hc; omega) | skip)
          | (refine splE (fun hc => ?_) (fun hc => ?_) <;> first | (exfalso; omega) | (exfalso; dsimp only at hc; omega) | skip)
          | (refine splNE (fun hc => ?_) (fun hc => ?_) <;> first | (exfalso; omega) | (exfalso; dsimp only at hc; omega) | skip)
          | refine Exists.intro (α := List Value) x.cs ⟨⟨rfl, fun w' hw' => e0 w' hw'⟩, ?_⟩
          | ((with_reducible show CallEv _ _ 23 _ _ _ _ _); refine callE (k := 23) (fun β w' hbw => In_ok _ _ _ _) ?_)
      · have ht : (inB x.day (lastD L 0) 10000 && inB x.num 0 (G.length - 1) && inB x.hrs 0 24) = true := by simp only [inB, Bool.and_eq_true, decide_eq_true_eq]; omega
        rw [ht, Bool.true_and] at hen
        exact ⟨0 + 1, ⟨by omega, hen, by rw [lastD_succ hx]; omega⟩, by omega, Ent.weak rfl ⟨rfl, rfl, rfl, trivial⟩ trivial fun _ h => h⟩
      all_goals
        have hf : (inB x.day (lastD L 0) 10000 && inB x.num 0 (G.length - 1) && inB x.hrs 0 24) = false := by
          rw [Bool.eq_false_iff]; intro hc; simp only [inB, Bool.and_eq_true, decide_eq_true_eq] at hc; omega
        exact ⟨fun β => congrArg (fun z : Int => iv z) (hlast _ hen hf).symm, fun w' h => h⟩
    | succ m =>
      obtain ⟨y, hy⟩ : ∃ b, L[m]? = some b := ⟨_, List.getElem?_eq_getElem (by omega)⟩
      rw [lastD_succ hy] at hen h0
      have hm1 : ((m + 1 : Nat) : Int) - 1 = (m : Int) := by omega
      have e1 := fun (w' : World) hw' => rd_fld (hL.below (w' := w') hw') hy
      repeat'
        conv => whnf
        first
          | refine And.intro (a := drawB _ = true) (by kernel_rfl) ?_
          | refine And.intro (a := (_ : Bool) = true) rfl ?_
          | refine And.intro (a := (_ : Bool) = true ∧ (_ : Bool) = true) ⟨rfl, rfl⟩ ?_
          | refine And.intro (a := (_ : Bool) = true ∧ (_ : List _) = []) ⟨rfl, rfl⟩ ?_
          | refine And.intro (a := IR _ _) (And.intro (by omega) (by omega)) ?_
          | refine wrapE (And.intro (by omega) (by omega)) ?_
          | refine And.intro (a := (0 : Int) ≤ _ ∧ _ < _) (And.intro (by omega) (by omega)) ?_
          | refine And.intro (a := (_ : Bool) = true) (by simp only [Nat.beq_refl]; rfl) ?_
          | refine And.intro (a := ((_ : Bool) = true → 1 ≤ _) ∧ _ ≤ 9223372036854775807 ∧ _ ≤ 140737488355328) ⟨fun h => (by first | omega | cases h), by omega, by omega⟩ ?_
          | refine splT ?_
          | refine splF ?_
          | refine splNot ?_
          | (refine splIn (fun hc => ?_) (fun hc => ?_) <;> first | (exfalso; omega) | (exfalso; dsimp only at hc; omega) | skip)
          | (refine splD (fun hc => ?_) (fun hc => ?_) <;> first | (exfalso; omega) | (exfalso; dsimp only at hc; omega) | skip)
          | (refine splE (fun hc => ?_) (fun hc => ?_) <;> first | (exfalso; omega) | (exfalso; dsimp only at hc; omega) | skip)
          | (refine splNE (fun hc => ?_) (fun hc => ?_) <;> first | (exfalso; omega) | (exfalso; dsimp only at hc; omega) | skip)
          | refine Exists.intro (α := List Value) x.cs ⟨⟨rfl, fun w' hw' => e0 w' hw'⟩, ?_⟩
          | ((with_reducible show CallEv _ _ 23 _ _ _ _ _); refine callE (k := 23) (fun β w' hbw => In_ok _ _ _ _) ?_)
          | refine Exists.intro (α := List Value) [iv y.day] ⟨⟨rfl, fun w' hw' => by rw [hm1]; exact e1 w' hw' 0 _ rfl⟩, ?_⟩
      all_goals first
        | (have ht : (inB x.day y.day 10000 && inB x.num 0 (G.length - 1) && inB x.hrs 0 24) = true := by simp [inB, lastD]; omega
           rw [ht, Bool.true_and] at hen
           exact ⟨m + 1 + 1, ⟨by omega, hen, by rw [lastD_succ hx]; first | omega | (simp only [lastD] at *; omega)⟩, by omega, Ent.weak rfl ⟨rfl, rfl, rfl, trivial⟩ trivial fun _ h => h⟩)
        | (have hf : (inB x.day y.day 10000 && inB x.num 0 (G.length - 1) && inB x.hrs 0 24) = false := by
             rw [Bool.eq_false_iff]; intro hc; simp [inB, lastD] at hc; omega
           exact ⟨fun β => congrArg (fun z : Int => iv z) (hlast _ hen hf).symm, fun w' h => h⟩)
        | (trace_state; sorry)
  · rw [List.drop_eq_nil_of_le hkl] at hen
    rw [hen, show ensOk G.length (lastD L k) [] = true from rfl, if_pos rfl]
    repeat'
      conv => whnf
      first
        | refine And.intro (a := drawB _ = true) (by kernel_rfl) ?_
        | refine And.intro (a := (_ : Bool) = true) rfl ?_
        | refine And.intro (a := (_ : Bool) = true ∧ (_ : Bool) = true) ⟨rfl, rfl⟩ ?_
        | refine And.intro (a := (_ : Bool) = true ∧ (_ : List _) = []) ⟨rfl, rfl⟩ ?_
        | refine And.intro (a := IR _ _) (And.intro (by omega) (by omega)) ?_
        | refine wrapE (And.intro (by omega) (by omega)) ?_
        | refine And.intro (a := (0 : Int) ≤ _ ∧ _ < _) (And.intro (by omega) (by omega)) ?_
        | refine And.intro (a := (_ : Bool) = true) (by simp only [Nat.beq_refl]; rfl) ?_
        | refine And.intro (a := ((_ : Bool) = true → 1 ≤ _) ∧ _ ≤ 9223372036854775807 ∧ _ ≤ 140737488355328) ⟨fun h => (by first | omega | cases h), by omega, by omega⟩ ?_
        | refine splT ?_
        | refine splF ?_
        | refine splNot ?_
        | (refine splIn (fun hc => ?_) (fun hc => ?_) <;> first | (exfalso; omega) | (exfalso; dsimp only at hc; omega) | skip)
        | (refine splD (fun hc => ?_) (fun hc => ?_) <;> first | (exfalso; omega) | (exfalso; dsimp only at hc; omega) | skip)
        | (refine splE (fun hc => ?_) (fun hc => ?_) <;> first | (exfalso; omega) | (exfalso; dsimp only at hc; omega) | skip)
        | (refine splNE (fun hc => ?_) (fun hc => ?_) <;> first | (exfalso; omega) | (exfalso; dsimp only at hc; omega) | skip)
    exact ⟨fun β => rfl, fun w' h => h⟩
end Go.Proofs.Ytaciigegbgnadaa
