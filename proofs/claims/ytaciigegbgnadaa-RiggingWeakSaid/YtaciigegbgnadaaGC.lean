/- Gear and logs that are right: what CheckLog and the reference's LogFault return. -/
import Derived.Test.YtaciigegbgnadaaGB
namespace Go.Proofs.Ytaciigegbgnadaa
open Go Tx Go.RowKit
set_option linter.unusedSimpArgs false
set_option linter.unusedVariables false

def gOk (g : Int × Int) : Bool := inB g.1 1 2000 && inB g.2 1 20000
theorem gok_ok (g : Int × Int) (w : World) : Calls Try.prog 60 #[.agg #[iv g.1, iv g.2]] w fun e w' => e = .returned (.bool (gOk g)) ∧ Below w.heap.size w w' := by
  refine calls_val env mixed Try.func60 has60 Try.ntmps60 [.agg #[iv g.1, iv g.2]] (by simp) ?_
  repeat'
    conv => whnf
    first
      | refine And.intro (a := drawB _ = true) (by kernel_rfl) ?_
      | refine And.intro (a := (_ : Bool) = true) rfl ?_
      | refine And.intro (a := (_ : Bool) = true ∧ (_ : Bool) = true) ⟨rfl, rfl⟩ ?_
      | refine And.intro (a := (_ : Bool) = true ∧ (_ : List _) = []) ⟨rfl, rfl⟩ ?_
      | refine And.intro (a := IR _ _) (And.intro (by omega) (by omega)) ?_
      | refine wrapE (And.intro (by omega) (by omega)) ?_
      | refine And.intro (a := (0 : Int) ≤ _ ∧ _ < _) (And.intro (by omega) (by omega)) ?_
      | refine And.intro (a := (_ : Bool) = true) (by simp only [Nat.beq_refl]; rfl) ?_
      | refine And.intro (a := ((_ : Bool) = true → 1 ≤ _) ∧ _ ≤ 9223372036854775807 ∧ _ ≤ 140737488355328) ⟨fun h => (by first | omega | cases h), by omega, by omega⟩ ?_
      | refine splT ?_
      | refine splF ?_
      | refine splNot ?_
      | (refine splIn (fun hc => ?_) (fun hc => ?_) <;> first | (exfalso; omega) | (exfalso; dsimp only at hc; omega) | skip)
      | (refine splD (fun hc => ?_) (fun hc => ?_) <;> first | (exfalso; omega) | (exfalso; dsimp only at hc; omega) | skip)
      | (refine splE (fun hc => ?_) (fun hc => ?_) <;> first | (exfalso; omega) | (exfalso; dsimp only at hc; omega) | skip)
      | (refine splNE (fun hc => ?_) (fun hc => ?_) <;> first | (exfalso; omega) | (exfalso; dsimp only at hc; omega) | skip)
      | ((with_reducible show CallEv _ _ 56 _ _ _ _ _); refine callE (k := 56) (fun β w' hbw => within_ok _ _ _ _) ?_)
  all_goals exact ⟨fun β => congrArg Value.bool (by simp [gOk, inB, *]), fun w' h => h⟩

set_option maxRecDepth 100000 in
theorem all59_ok (L : List (Int × Int)) (o : Option Addr) (c : Nat) (w : World) (hrd : Rd 2 gF (.slice o L.length c) L w) (hl : L.length ≤ 1000000) :
    Calls Try.prog 59 #[.slice o L.length c, .func (.func 60) #[] #[]] w fun e w' => e = .returned (.bool (L.all gOk)) ∧ Below w.heap.size w w' := by
  refine calls_val env mixed Try.func59 has59 Try.ntmps59 [.slice o L.length c, .func (.func 60) #[] #[]] (by simp) ?_
  repeat'
    conv => whnf
    first
      | refine And.intro (a := drawB _ = true) (by kernel_rfl) ?_
      | refine And.intro (a := (_ : Bool) = true) rfl ?_
      | refine And.intro (a := (_ : Bool) = true ∧ (_ : Bool) = true) ⟨rfl, rfl⟩ ?_
      | refine And.intro (a := (_ : Bool) = true ∧ (_ : List _) = []) ⟨rfl, rfl⟩ ?_
      | refine And.intro (a := IR _ _) (And.intro (by omega) (by omega)) ?_
      | refine wrapE (And.intro (by omega) (by omega)) ?_
      | refine And.intro (a := (0 : Int) ≤ _ ∧ _ < _) (And.intro (by omega) (by omega)) ?_
      | refine And.intro (a := (_ : Bool) = true) (by simp only [Nat.beq_refl]; rfl) ?_
      | refine And.intro (a := ((_ : Bool) = true → 1 ≤ _) ∧ _ ≤ 9223372036854775807 ∧ _ ≤ 140737488355328) ⟨fun h => (by first | omega | cases h), by omega, by omega⟩ ?_
      | refine splT ?_
      | refine splF ?_
      | refine splNot ?_
      | (refine splIn (fun hc => ?_) (fun hc => ?_) <;> first | (exfalso; omega) | (exfalso; dsimp only at hc; omega) | skip)
      | (refine splD (fun hc => ?_) (fun hc => ?_) <;> first | (exfalso; omega) | (exfalso; dsimp only at hc; omega) | skip)
      | (refine splE (fun hc => ?_) (fun hc => ?_) <;> first | (exfalso; omega) | (exfalso; dsimp only at hc; omega) | skip)
      | (refine splNE (fun hc => ?_) (fun hc => ?_) <;> first | (exfalso; omega) | (exfalso; dsimp only at hc; omega) | skip)
      | ((with_reducible show CallEv _ _ 81 _ _ _ _ _); refine callI env mixed 1000 [] Try.func81 has81 Try.ntmps81 (Nat.le_of_ble_eq_true rfl) rfl rfl rfl ?_)
      | ((with_reducible show CallEv _ _ 101 _ _ _ _ _); refine callI env mixed 2000 [] Try.func101 has101 Try.ntmps101 (Nat.le_of_ble_eq_true rfl) rfl rfl rfl ?_)
  refine loopE (fun k : Nat => [(0, .v (.slice o L.length c)), (1, .fn (.func 82) [.ptr 0 0]), (7, .v (iv L.length)), (8, .v (iv k))]) (fun _ => [(0, .cells [.v (.func (.func 60) #[] #[])] 125)]) (fun k => k ≤ L.length ∧ (L.take k).all gOk = true) (fun k => L.length - k) 0 ⟨Nat.zero_le _, rfl⟩ ⟨rfl, rfl, rfl, rfl, trivial⟩ ⟨rfl, trivial⟩ (fun _ => ⟨rfl, rfl⟩) ?_
  intro k ⟨hk, hall⟩
  rcases Nat.lt_or_ge k L.length with hkl | hkl
  · obtain ⟨g, hb⟩ : ∃ b, L[k]? = some b := ⟨_, List.getElem?_eq_getElem hkl⟩
    obtain ⟨_, ad, rfl, _⟩ := hrd.ptr (by omega)
    have ht : (L.take (k + 1)).all gOk = gOk g := by rw [List.take_add_one, hb]; simp [hall]
    have e0 := fun (w' : World) hw' => rd_ati (hrd.below (w' := w') hw') hb
    have hv := fun w' => gok_ok g w'
    cases hg : gOk g with
    | true =>
      rw [hg] at hv ht
      repeat'
        conv => whnf
        first
          | refine And.intro (a := drawB _ = true) (by kernel_rfl) ?_
          | refine And.intro (a := (_ : Bool) = true) rfl ?_
          | refine And.intro (a := (_ : Bool) = true ∧ (_ : Bool) = true) ⟨rfl, rfl⟩ ?_
          | refine And.intro (a := (_ : Bool) = true ∧ (_ : List _) = []) ⟨rfl, rfl⟩ ?_
          | refine And.intro (a := IR _ _) (And.intro (by omega) (by omega)) ?_
          | refine wrapE (And.intro (by omega) (by omega)) ?_
          | refine And.intro (a := (0 : Int) ≤ _ ∧ _ < _) (And.intro (by omega) (by omega)) ?_
          | refine And.intro (a := (_ : Bool) = true) (by simp only [Nat.beq_refl]; rfl) ?_
          | refine And.intro (a := ((_ : Bool) = true → 1 ≤ _) ∧ _ ≤ 9223372036854775807 ∧ _ ≤ 140737488355328) ⟨fun h => (by first | omega | cases h), by omega, by omega⟩ ?_
          | refine splT ?_
          | refine splF ?_
          | refine splNot ?_
          | (refine splIn (fun hc => ?_) (fun hc => ?_) <;> first | (exfalso; omega) | (exfalso; dsimp only at hc; omega) | skip)
          | (refine splD (fun hc => ?_) (fun hc => ?_) <;> first | (exfalso; omega) | (exfalso; dsimp only at hc; omega) | skip)
          | (refine splE (fun hc => ?_) (fun hc => ?_) <;> first | (exfalso; omega) | (exfalso; dsimp only at hc; omega) | skip)
          | (refine splNE (fun hc => ?_) (fun hc => ?_) <;> first | (exfalso; omega) | (exfalso; dsimp only at hc; omega) | skip)
          | refine Exists.intro (α := List Value) [iv g.1, iv g.2] ⟨⟨rfl, fun w' hw' => e0 w' hw'⟩, ?_⟩
          | ((with_reducible show CallEv _ _ 82 _ _ _ _ _); refine callI env mixed 3000 [0,1,5,7,8] Try.func82 has82 Try.ntmps82 (Nat.le_of_ble_eq_true rfl) rfl rfl rfl ?_)
          | ((with_reducible show CallEv _ _ 60 _ _ _ _ _); refine callE (k := 60) (fun β w' hbw => hv _) ?_)
      exact ⟨k + 1, ⟨by omega, ht⟩, by omega, Ent.weak rfl ⟨rfl, rfl, rfl, rfl, trivial⟩ ⟨rfl, trivial⟩ fun _ h => h⟩
    | false =>
      rw [hg] at hv ht
      have hno : L.all gOk = false := by
        rw [List.all_eq_false]
        exact ⟨_, List.mem_of_getElem? hb, by simp [hg]⟩
      rw [hno]
      repeat'
        conv => whnf
        first
          | refine And.intro (a := drawB _ = true) (by kernel_rfl) ?_
          | refine And.intro (a := (_ : Bool) = true) rfl ?_
          | refine And.intro (a := (_ : Bool) = true ∧ (_ : Bool) = true) ⟨rfl, rfl⟩ ?_
          | refine And.intro (a := (_ : Bool) = true ∧ (_ : List _) = []) ⟨rfl, rfl⟩ ?_
          | refine And.intro (a := IR _ _) (And.intro (by omega) (by omega)) ?_
          | refine wrapE (And.intro (by omega) (by omega)) ?_
          | refine And.intro (a := (0 : Int) ≤ _ ∧ _ < _) (And.intro (by omega) (by omega)) ?_
          | refine And.intro (a := (_ : Bool) = true) (by simp only [Nat.beq_refl]; rfl) ?_
          | refine And.intro (a := ((_ : Bool) = true → 1 ≤ _) ∧ _ ≤ 9223372036854775807 ∧ _ ≤ 140737488355328) ⟨fun h => (by first | omega | cases h), by omega, by omega⟩ ?_
          | refine splT ?_
          | refine splF ?_
          | refine splNot ?_
          | (refine splIn (fun hc => ?_) (fun hc => ?_) <;> first | (exfalso; omega) | (exfalso; dsimp only at hc; omega) | skip)
          | (refine splD (fun hc => ?_) (fun hc => ?_) <;> first | (exfalso; omega) | (exfalso; dsimp only at hc; omega) | skip)
          | (refine splE (fun hc => ?_) (fun hc => ?_) <;> first | (exfalso; omega) | (exfalso; dsimp only at hc; omega) | skip)
          | (refine splNE (fun hc => ?_) (fun hc => ?_) <;> first | (exfalso; omega) | (exfalso; dsimp only at hc; omega) | skip)
          | refine Exists.intro (α := List Value) [iv g.1, iv g.2] ⟨⟨rfl, fun w' hw' => e0 w' hw'⟩, ?_⟩
          | ((with_reducible show CallEv _ _ 82 _ _ _ _ _); refine callI env mixed 3000 [0,1,5,7,8] Try.func82 has82 Try.ntmps82 (Nat.le_of_ble_eq_true rfl) rfl rfl rfl ?_)
          | ((with_reducible show CallEv _ _ 60 _ _ _ _ _); refine callE (k := 60) (fun β w' hbw => hv _) ?_)
      all_goals first | exact ⟨fun β => rfl, fun w' h => h⟩ | (exfalso; omega) | skip
  · rw [List.take_of_length_le hkl] at hall
    rw [hall]
    repeat'
      conv => whnf
      first
        | refine And.intro (a := drawB _ = true) (by kernel_rfl) ?_
        | refine And.intro (a := (_ : Bool) = true) rfl ?_
        | refine And.intro (a := (_ : Bool) = true ∧ (_ : Bool) = true) ⟨rfl, rfl⟩ ?_
        | refine And.intro (a := (_ : Bool) = true ∧ (_ : List _) = []) ⟨rfl, rfl⟩ ?_
        | refine And.intro (a := IR _ _) (And.intro (by omega) (by omega)) ?_
        | refine wrapE (And.intro (by omega) (by omega)) ?_
        | refine And.intro (a := (0 : Int) ≤ _ ∧ _ < _) (And.intro (by omega) (by omega)) ?_
        | refine And.intro (a := (_ : Bool) = true) (by simp only [Nat.beq_refl]; rfl) ?_
        | refine And.intro (a := ((_ : Bool) = true → 1 ≤ _) ∧ _ ≤ 9223372036854775807 ∧ _ ≤ 140737488355328) ⟨fun h => (by first | omega | cases h), by omega, by omega⟩ ?_
        | refine splT ?_
        | refine splF ?_
        | refine splNot ?_
        | (refine splIn (fun hc => ?_) (fun hc => ?_) <;> first | (exfalso; omega) | (exfalso; dsimp only at hc; omega) | skip)
        | (refine splD (fun hc => ?_) (fun hc => ?_) <;> first | (exfalso; omega) | (exfalso; dsimp only at hc; omega) | skip)
        | (refine splE (fun hc => ?_) (fun hc => ?_) <;> first | (exfalso; omega) | (exfalso; dsimp only at hc; omega) | skip)
        | (refine splNE (fun hc => ?_) (fun hc => ?_) <;> first | (exfalso; omega) | (exfalso; dsimp only at hc; omega) | skip)
    all_goals first | exact ⟨fun β => rfl, fun w' h => h⟩ | (exfalso; omega) | skip

/-- Is an entry right behind a day? -/
def enOk (n last : Int) (x : En) : Bool := (inB x.day last 10000 && inB x.num 0 (n - 1)) && inB x.hrs 0 24
def ensOk (n : Int) : Int → List En → Bool
  | _, [] => true
  | last, x :: r => enOk n last x && ensOk n x.day r
def lgE (G : List (Int × Int)) (L : List En) : Int :=
  if 20 < G.length ∨ 200 < L.length then 3 else if G.all gOk = true then (if ensOk G.length 0 L = true then 0 else 1) else 1
theorem ensOk_drop {n last : Int} {L : List En} {k : Nat} {x : En} (h : L[k]? = some x) : ensOk n last (L.drop k) = (enOk n last x && ensOk n x.day (L.drop (k + 1))) := by
  obtain ⟨h1, h2⟩ := List.getElem?_eq_some_iff.1 h
  rw [List.drop_eq_getElem_cons h1, h2, ensOk]
/-- The day ahead of an entry. -/
def lastD (L : List En) : Nat → Int
  | 0 => 0
  | k + 1 => ((L[k]?).map En.day).getD 0
theorem lastD_succ {L : List En} {k : Nat} {x : En} (h : L[k]? = some x) : lastD L (k + 1) = x.day := by simp [lastD, h]

set_option maxRecDepth 100000 in
theorem entry_ok (n : Nat) (o : Option Addr) (c : Nat) (last : Int) (x : En) (hn : n ≤ 1000000) : True := trivial

set_option maxHeartbeats 1000000 in
set_option maxRecDepth 100000 in
theorem CheckLog_ok (G : List (Int × Int)) (L : List En) (o p : Option Addr) (c d : Nat) (w : World) (hG : Rd 2 gF (.slice o G.length c) G w) (hL : Rd 4 En.cs (.slice p L.length d) L w) (hg : G.length ≤ 1000000) (hl : L.length ≤ 1000000) :
    Calls Try.prog 22 #[.slice o G.length c, .slice p L.length d] w fun e w' => e = .returned (iv (lgE G L)) ∧ Below w.heap.size w w' := by
  refine calls_val env mixed Try.func22 has22 Try.ntmps22 [.slice o G.length c, .slice p L.length d] (by simp) ?_
  unfold lgE
  by_cases h1 : 20 < G.length ∨ 200 < L.length
  · rw [if_pos h1]
    repeat'
      conv => whnf
      first
        | refine And.intro (a := drawB _ = true) (by kernel_rfl) ?_
        | refine And.intro (a := (_ : Bool) = true) rfl ?_
        | refine And.intro (a := (_ : Bool) = true ∧ (_ : Bool) = true) ⟨rfl, rfl⟩ ?_
        | refine And.intro (a := (_ : Bool) = true ∧ (_ : List _) = []) ⟨rfl, rfl⟩ ?_
        | refine And.intro (a := IR _ _) (And.intro (by omega) (by omega)) ?_
        | refine wrapE (And.intro (by omega) (by omega)) ?_
        | refine And.intro (a := (0 : Int) ≤ _ ∧ _ < _) (And.intro (by omega) (by omega)) ?_
        | refine And.intro (a := (_ : Bool) = true) (by simp only [Nat.beq_refl]; rfl) ?_
        | refine And.intro (a := ((_ : Bool) = true → 1 ≤ _) ∧ _ ≤ 9223372036854775807 ∧ _ ≤ 140737488355328) ⟨fun h => (by first | omega | cases h), by omega, by omega⟩ ?_
        | refine splT ?_
        | refine splF ?_
        | refine splNot ?_
        | (refine splIn (fun hc => ?_) (fun hc => ?_) <;> first | (exfalso; omega) | (exfalso; dsimp only at hc; omega) | skip)
        | (refine splD (fun hc => ?_) (fun hc => ?_) <;> first | (exfalso; omega) | (exfalso; dsimp only at hc; omega) | skip)
        | (refine splE (fun hc => ?_) (fun hc => ?_) <;> first | (exfalso; omega) | (exfalso; dsimp only at hc; omega) | skip)
        | (refine splNE (fun hc => ?_) (fun hc => ?_) <;> first | (exfalso; omega) | (exfalso; dsimp only at hc; omega) | skip)
    all_goals first | exact ⟨fun β => rfl, fun w' h => h⟩ | (exfalso; omega) | skip
  rw [if_neg h1]
  have ha := fun w' hb => all59_ok G o c w' (hG.below hb) hg
  cases h2 : G.all gOk with
  | false =>
    rw [h2] at ha
    rw [if_neg (by decide)]
    repeat'
      conv => whnf
      first
        | refine And.intro (a := drawB _ = true) (by kernel_rfl) ?_
        | refine And.intro (a := (_ : Bool) = true) rfl ?_
        | refine And.intro (a := (_ : Bool) = true ∧ (_ : Bool) = true) ⟨rfl, rfl⟩ ?_
        | refine And.intro (a := (_ : Bool) = true ∧ (_ : List _) = []) ⟨rfl, rfl⟩ ?_
        | refine And.intro (a := IR _ _) (And.intro (by omega) (by omega)) ?_
        | refine wrapE (And.intro (by omega) (by omega)) ?_
        | refine And.intro (a := (0 : Int) ≤ _ ∧ _ < _) (And.intro (by omega) (by omega)) ?_
        | refine And.intro (a := (_ : Bool) = true) (by simp only [Nat.beq_refl]; rfl) ?_
        | refine And.intro (a := ((_ : Bool) = true → 1 ≤ _) ∧ _ ≤ 9223372036854775807 ∧ _ ≤ 140737488355328) ⟨fun h => (by first | omega | cases h), by omega, by omega⟩ ?_
        | refine splT ?_
        | refine splF ?_
        | refine splNot ?_
        | (refine splIn (fun hc => ?_) (fun hc => ?_) <;> first | (exfalso; omega) | (exfalso; dsimp only at hc; omega) | skip)
        | (refine splD (fun hc => ?_) (fun hc => ?_) <;> first | (exfalso; omega) | (exfalso; dsimp only at hc; omega) | skip)
        | (refine splE (fun hc => ?_) (fun hc => ?_) <;> first | (exfalso; omega) | (exfalso; dsimp only at hc; omega) | skip)
        | (refine splNE (fun hc => ?_) (fun hc => ?_) <;> first | (exfalso; omega) | (exfalso; dsimp only at hc; omega) | skip)
        | ((with_reducible show CallEv _ _ 59 _ _ _ _ _); refine callE (k := 59) (fun β w' hbw => ha _ hbw) ?_)
    all_goals first | exact ⟨fun β => rfl, fun w' h => h⟩ | (exfalso; omega) | skip
  | true =>
    rw [h2] at ha
    rw [if_pos rfl]
    repeat'
      conv => whnf
      first
        | refine And.intro (a := drawB _ = true) (by kernel_rfl) ?_
        | refine And.intro (a := (_ : Bool) = true) rfl ?_
        | refine And.intro (a := (_ : Bool) = true ∧ (_ : Bool) = true) ⟨rfl, rfl⟩ ?_
        | refine And.intro (a := (_ : Bool) = true ∧ (_ : List _) = []) ⟨rfl, rfl⟩ ?_
        | refine And.intro (a := IR _ _) (And.intro (by omega) (by omega)) ?_
        | refine wrapE (And.intro (by omega) (by omega)) ?_
        | refine And.intro (a := (0 : Int) ≤ _ ∧ _ < _) (And.intro (by omega) (by omega)) ?_
        | refine And.intro (a := (_ : Bool) = true) (by simp only [Nat.beq_refl]; rfl) ?_
        | refine And.intro (a := ((_ : Bool) = true → 1 ≤ _) ∧ _ ≤ 9223372036854775807 ∧ _ ≤ 140737488355328) ⟨fun h => (by first | omega | cases h), by omega, by omega⟩ ?_
        | refine splT ?_
        | refine splF ?_
        | refine splNot ?_
        | (refine splIn (fun hc => ?_) (fun hc => ?_) <;> first | (exfalso; omega) | (exfalso; dsimp only at hc; omega) | skip)
        | (refine splD (fun hc => ?_) (fun hc => ?_) <;> first | (exfalso; omega) | (exfalso; dsimp only at hc; omega) | skip)
        | (refine splE (fun hc => ?_) (fun hc => ?_) <;> first | (exfalso; omega) | (exfalso; dsimp only at hc; omega) | skip)
        | (refine splNE (fun hc => ?_) (fun hc => ?_) <;> first | (exfalso; omega) | (exfalso; dsimp only at hc; omega) | skip)
        | ((with_reducible show CallEv _ _ 59 _ _ _ _ _); refine callE (k := 59) (fun β w' hbw => ha _ hbw) ?_)
        | ((with_reducible show CallEv _ _ 62 _ _ _ _ _); refine callI env mixed 1000 [] Try.func62 has62 Try.ntmps62 (Nat.le_of_ble_eq_true rfl) rfl rfl rfl ?_)
        | ((with_reducible show CallEv _ _ 83 _ _ _ _ _); refine callI env mixed 2000 [] Try.func83 has83 Try.ntmps83 (Nat.le_of_ble_eq_true rfl) rfl rfl rfl ?_)
        | ((with_reducible show CallEv _ _ 102 _ _ _ _ _); refine callI env mixed 3000 [] Try.func102 has102 Try.ntmps102 (Nat.le_of_ble_eq_true rfl) rfl rfl rfl ?_)
    all_goals first | (exfalso; omega) | skip
    conv => whnf
    refine loopE (fun k : Nat => [(0, .v (.slice p L.length d)), (1, .fn (.func 84) [.ptr 2 0]), (7, .v (iv L.length)), (8, .v (iv k))])
      (fun k => [(0, .cells [.v (.slice o G.length c)] 29), (1, .cells [.v (iv (lastD L k))] 3), (2, .cells [.fn (.func 61) [.ptr 1 0, .ptr 0 0]] 126)])
      (fun k => k ≤ L.length ∧ ensOk G.length 0 L = ensOk G.length (lastD L k) (L.drop k)) (fun k => L.length - k) 0 ⟨Nat.zero_le _, rfl⟩ ⟨rfl, rfl, rfl, rfl, trivial⟩ ⟨rfl, rfl, rfl, trivial⟩ (fun _ => ⟨rfl, rfl⟩) ?_
    intro k ⟨hk, hen⟩
    rcases Nat.lt_or_ge k L.length with hkl | hkl
    · obtain ⟨x, hx⟩ : ∃ b, L[k]? = some b := ⟨_, List.getElem?_eq_getElem hkl⟩
      obtain ⟨_, ad, rfl, _⟩ := hL.ptr (by omega)
      have e0 := fun (w' : World) hw' => rd_ati (hL.below (w' := w') hw') hx
      rw [ensOk_drop hx, ← lastD_succ hx] at hen
      unfold enOk at hen
      have hlast : ∀ b, ensOk G.length 0 L = (b && ensOk G.length (lastD L (k + 1)) (L.drop (k + 1))) → b = false → (if ensOk G.length 0 L = true then (0 : Int) else 1) = 1 := by
        intro b hb hf
        rw [hb, hf]; rfl
      repeat'
        conv => whnf
        first
          | refine And.intro (a := drawB _ = true) (by kernel_rfl) ?_
          | refine And.intro (a := (_ : Bool) = true) rfl ?_
          | refine And.intro (a := (_ : Bool) = true ∧ (_ : Bool) = true) ⟨rfl, rfl⟩ ?_
          | refine And.intro (a := (_ : Bool) = true ∧ (_ : List _) = []) ⟨rfl, rfl⟩ ?_
          | refine And.intro (a := IR _ _) (And.intro (by omega) (by omega)) ?_
          | refine wrapE (And.intro (by omega) (by omega)) ?_
          | refine And.intro (a := (0 : Int) ≤ _ ∧ _ < _) (And.intro (by omega) (by omega)) ?_
          | refine And.intro (a := (_ : Bool) = true) (by simp only [Nat.beq_refl]; rfl) ?_
          | refine And.intro (a := ((_ : Bool) = true → 1 ≤ _) ∧ _ ≤ 9223372036854775807 ∧ _ ≤ 140737488355328) ⟨fun h => (by first | omega | cases h), by omega, by omega⟩ ?_
          | refine splT ?_
          | refine splF ?_
          | refine splNot ?_
          | (refine splIn (fun hc => ?_) (fun hc => ?_) <;> first | (exfalso; omega) | (exfalso; dsimp only at hc; omega) | skip)
          | (refine splD (fun hc => ?_) (fun hc => ?_) <;> first | (exfalso; omega) | (exfalso; dsimp only at hc; omega) | skip)
          | (refine splE (fun hc => ?_) (fun hc => ?_) <;> first | (exfalso; omega) | (exfalso; dsimp only at hc; omega) | skip)
          | (refine splNE (fun hc => ?_) (fun hc => ?_) <;> first | (exfalso; omega) | (exfalso; dsimp only at hc; omega) | skip)
          | refine Exists.intro (α := List Value) x.cs ⟨⟨rfl, fun w' hw' => e0 w' hw'⟩, ?_⟩
          | ((with_reducible show CallEv _ _ 84 _ _ _ _ _); refine callI env mixed 4000 [0,1,5,7,8] Try.func84 has84 Try.ntmps84 (Nat.le_of_ble_eq_true rfl) rfl rfl rfl ?_)
          | ((with_reducible show CallEv _ _ 61 _ _ _ _ _); refine callI env mixed 5000 [] Try.func61 has61 Try.ntmps61 (Nat.le_of_ble_eq_true rfl) rfl rfl rfl ?_)
          | ((with_reducible show CallEv _ _ 56 _ _ _ _ _); refine callE (k := 56) (fun β w' hbw => within_ok _ _ _ _) ?_)
          | refine splB (fun hb => ?_) (fun hb => ?_)
      · have ht : (inB x.day (lastD L k) 10000 && inB x.num 0 (G.length - 1) && inB x.hrs 0 24) = true := by simp [inB]; omega
        rw [ht, Bool.true_and] at hen
        exact ⟨k + 1, ⟨by omega, hen⟩, by omega, Ent.weak rfl ⟨rfl, rfl, rfl, rfl, trivial⟩ ⟨rfl, by rw [lastD_succ hx]; rfl, rfl, trivial⟩ fun _ h => h⟩
      all_goals
        have hf : (inB x.day (lastD L k) 10000 && inB x.num 0 (G.length - 1) && inB x.hrs 0 24) = false := by
          rw [Bool.eq_false_iff]; intro hc; simp [inB] at hc; omega
        exact ⟨fun β => congrArg (fun z : Int => iv z) (hlast _ hen hf).symm, fun w' h => h⟩
    · rw [List.drop_eq_nil_of_le hkl] at hen
      rw [hen, show ensOk G.length (lastD L k) [] = true from rfl, if_pos rfl]
      repeat'
        conv => whnf
        first
          | refine And.intro (a := drawB _ = true) (by kernel_rfl) ?_
          | refine And.intro (a := (_ : Bool) = true) rfl ?_
          | refine And.intro (a := (_ : Bool) = true ∧ (_ : Bool) = true) ⟨rfl, rfl⟩ ?_
          | refine And.intro (a := (_ : Bool) = true ∧ (_ : List _) = []) ⟨rfl, rfl⟩ ?_
          | refine And.intro (a := IR _ _) (And.intro (by omega) (by omega)) ?_
          | refine wrapE (And.intro (by omega) (by omega)) ?_
          | refine And.intro (a := (0 : Int) ≤ _ ∧ _ < _) (And.intro (by omega) (by omega)) ?_
          | refine And.intro (a := (_ : Bool) = true) (by simp only [Nat.beq_refl]; rfl) ?_
          | refine And.intro (a := ((_ : Bool) = true → 1 ≤ _) ∧ _ ≤ 9223372036854775807 ∧ _ ≤ 140737488355328) ⟨fun h => (by first | omega | cases h), by omega, by omega⟩ ?_
          | refine splT ?_
          | refine splF ?_
          | refine splNot ?_
          | (refine splIn (fun hc => ?_) (fun hc => ?_) <;> first | (exfalso; omega) | (exfalso; dsimp only at hc; omega) | skip)
          | (refine splD (fun hc => ?_) (fun hc => ?_) <;> first | (exfalso; omega) | (exfalso; dsimp only at hc; omega) | skip)
          | (refine splE (fun hc => ?_) (fun hc => ?_) <;> first | (exfalso; omega) | (exfalso; dsimp only at hc; omega) | skip)
          | (refine splNE (fun hc => ?_) (fun hc => ?_) <;> first | (exfalso; omega) | (exfalso; dsimp only at hc; omega) | skip)
      exact ⟨fun β => rfl, fun w' h => h⟩
end Go.Proofs.Ytaciigegbgnadaa
