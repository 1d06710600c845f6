/- Acts: whether an act is light: what the function returns. -/
import Derived.Test.YtlehjapeomallaaVF
import Derived.Test.YtlehjapeomallaaVE
namespace Go.Proofs.Ytlehjapeomallaa.V
open Go Tx Go.RowKit
set_option linter.unusedSimpArgs false
set_option linter.unusedVariables false

/-- Is a flight light? -/
def lt1 (g : Fg) : Bool := decide ((g.n : Int) ≤ 700) && !((inB g.le 0 300) && inB g.mo (g.le + 60) 300)
def ltB (act : List Fg) : Bool := act.all lt1 && (decide (act.length ≤ 3) || (decide (12 < act.length) && decide (act.length ≤ 14)))

set_option maxRecDepth 100000 in
theorem light_ok (act : List Fg) (o : Option Addr) (c : Nat) (w : World) (hrd : Rd 15 Fg.cs (.slice o act.length c) act w) (hl : act.length ≤ 9223372036854775807) :
    Calls Try.prog 49 #[.slice o act.length c] w fun e w' => e = .returned (.bool (ltB act)) ∧ Below w.heap.size w w' := by
  refine calls_val env mixed Try.func49 has49 Try.ntmps49 [.slice o act.length c] (by simp) ?_
  repeat'
    conv => whnf
    first
      | refine And.intro (a := drawB _ = true) (by kernel_rfl) ?_
      | refine And.intro (a := (_ : Bool) = true) rfl ?_
      | refine And.intro (a := (_ : Bool) = true ∧ (_ : Bool) = true) ⟨rfl, rfl⟩ ?_
      | refine And.intro (a := (_ : Bool) = true ∧ (_ : List _) = []) ⟨rfl, rfl⟩ ?_
      | refine And.intro (a := IR _ _) (And.intro (by omega) (by omega)) ?_
      | refine wrapE (And.intro (by omega) (by omega)) ?_
      | refine And.intro (a := (0 : Int) ≤ _ ∧ _ < _) (And.intro (by omega) (by omega)) ?_
      | refine And.intro (a := (_ : Bool) = true) (by simp only [Nat.beq_refl]; rfl) ?_
      | refine And.intro (a := ((_ : Bool) = true → 1 ≤ _) ∧ _ ≤ 9223372036854775807 ∧ _ ≤ 140737488355328) ⟨fun h => (by first | omega | cases h), by omega, by omega⟩ ?_
      | refine splT ?_
      | refine splF ?_
      | refine splNot ?_
      | (refine splIn (fun hc => ?_) (fun hc => ?_) <;> first | (exfalso; omega) | (exfalso; dsimp only at hc; omega) | skip)
      | (refine splD (fun hc => ?_) (fun hc => ?_) <;> first | (exfalso; omega) | (exfalso; dsimp only at hc; omega) | skip)
      | (refine splE (fun hc => ?_) (fun hc => ?_) <;> first | (exfalso; omega) | (exfalso; dsimp only at hc; omega) | skip)
      | (refine splNE (fun hc => ?_) (fun hc => ?_) <;> first | (exfalso; omega) | (exfalso; dsimp only at hc; omega) | skip)
  refine loopE (fun k : Nat => [(0, .v (.slice o act.length c)), (3, .v (iv k))]) (fun _ => []) (fun k => k ≤ act.length ∧ (act.take k).all lt1 = true) (fun k => act.length - k) 0 ⟨Nat.zero_le _, rfl⟩ ⟨rfl, rfl, trivial⟩ trivial (fun _ => ⟨rfl, rfl⟩) ?_
  intro k ⟨hk, hall⟩
  rcases Nat.lt_or_ge k act.length with hkl | hkl
  · obtain ⟨g, hb⟩ : ∃ b, act[k]? = some b := ⟨_, List.getElem?_eq_getElem hkl⟩
    obtain ⟨_, ad, rfl, _⟩ := hrd.some (by omega)
    have ht : (act.take (k + 1)).all lt1 = lt1 g := by rw [List.take_add_one, hb]; simp [hall]
    have e0 := fun (w' : World) hw' => rd_ati (hrd.below (w' := w') hw') hb
    have e1 := fun (w' : World) hw' => rd_fld (hrd.below (w' := w') hw') hb
    have hno : lt1 g = false → ltB act = false := fun h => by
      unfold ltB
      rw [Bool.and_eq_false_iff]
      left
      rw [List.all_eq_false]
      exact ⟨g, List.mem_of_getElem? hb, by simp [h]⟩
    by_cases h1 : (g.n : Int) ≤ 700 <;> by_cases h2 : 0 ≤ g.le ∧ g.le ≤ 300 <;> by_cases h3 : g.le + 60 ≤ g.mo ∧ g.mo ≤ 300
    all_goals skip
    repeat'
      conv => whnf
      first
        | refine And.intro (a := drawB _ = true) (by kernel_rfl) ?_
        | refine And.intro (a := (_ : Bool) = true) rfl ?_
        | refine And.intro (a := (_ : Bool) = true ∧ (_ : Bool) = true) ⟨rfl, rfl⟩ ?_
        | refine And.intro (a := (_ : Bool) = true ∧ (_ : List _) = []) ⟨rfl, rfl⟩ ?_
        | refine And.intro (a := IR _ _) (And.intro (by omega) (by omega)) ?_
        | refine wrapE (And.intro (by omega) (by omega)) ?_
        | refine And.intro (a := (0 : Int) ≤ _ ∧ _ < _) (And.intro (by omega) (by omega)) ?_
        | refine And.intro (a := (_ : Bool) = true) (by simp only [Nat.beq_refl]; rfl) ?_
        | refine And.intro (a := ((_ : Bool) = true → 1 ≤ _) ∧ _ ≤ 9223372036854775807 ∧ _ ≤ 140737488355328) ⟨fun h => (by first | omega | cases h), by omega, by omega⟩ ?_
        | refine splT ?_
        | refine splF ?_
        | refine splNot ?_
        | (refine splIn (fun hc => ?_) (fun hc => ?_) <;> first | (exfalso; omega) | (exfalso; dsimp only at hc; omega) | skip)
        | (refine splD (fun hc => ?_) (fun hc => ?_) <;> first | (exfalso; omega) | (exfalso; dsimp only at hc; omega) | skip)
        | (refine splE (fun hc => ?_) (fun hc => ?_) <;> first | (exfalso; omega) | (exfalso; dsimp only at hc; omega) | skip)
        | (refine splNE (fun hc => ?_) (fun hc => ?_) <;> first | (exfalso; omega) | (exfalso; dsimp only at hc; omega) | skip)
        | refine Exists.intro (α := List Value) g.cs ⟨⟨rfl, fun w' hw' => e0 w' hw'⟩, ?_⟩
        | refine Exists.intro (α := List Value) [iv g.le] ⟨⟨rfl, fun w' hw' => e1 w' hw' 13 _ rfl⟩, ?_⟩
        | refine Exists.intro (α := List Value) [iv g.mo] ⟨⟨rfl, fun w' hw' => e1 w' hw' 14 _ rfl⟩, ?_⟩
        | ((with_reducible show CallEv _ _ 23 _ _ _ _ _); refine callE (k := 23) (fun β w' hbw => few_ok g _) ?_)
        | ((with_reducible show CallEv _ _ 19 _ _ _ _ _); refine callE (k := 19) (fun β w' hbw => In_ok _ _ _ _) ?_)
    all_goals first
      | exact ⟨k + 1, ⟨by omega, by rw [ht]; (simp [lt1, inB, *] <;> omega)⟩, by omega, Ent.weak rfl ⟨rfl, rfl, trivial⟩ trivial fun _ h => h⟩
      | exact ⟨fun β => congrArg Value.bool (hno (by simp [lt1, inB, *] <;> omega)).symm, fun w' h => h⟩
      | (exfalso; simp_all; done)
      | skip
  · rw [List.take_of_length_le hkl] at hall
    repeat'
      conv => whnf
      first
        | refine And.intro (a := drawB _ = true) (by kernel_rfl) ?_
        | refine And.intro (a := (_ : Bool) = true) rfl ?_
        | refine And.intro (a := (_ : Bool) = true ∧ (_ : Bool) = true) ⟨rfl, rfl⟩ ?_
        | refine And.intro (a := (_ : Bool) = true ∧ (_ : List _) = []) ⟨rfl, rfl⟩ ?_
        | refine And.intro (a := IR _ _) (And.intro (by omega) (by omega)) ?_
        | refine wrapE (And.intro (by omega) (by omega)) ?_
        | refine And.intro (a := (0 : Int) ≤ _ ∧ _ < _) (And.intro (by omega) (by omega)) ?_
        | refine And.intro (a := (_ : Bool) = true) (by simp only [Nat.beq_refl]; rfl) ?_
        | refine And.intro (a := ((_ : Bool) = true → 1 ≤ _) ∧ _ ≤ 9223372036854775807 ∧ _ ≤ 140737488355328) ⟨fun h => (by first | omega | cases h), by omega, by omega⟩ ?_
        | refine splT ?_
        | refine splF ?_
        | refine splNot ?_
        | (refine splIn (fun hc => ?_) (fun hc => ?_) <;> first | (exfalso; omega) | (exfalso; dsimp only at hc; omega) | skip)
        | (refine splD (fun hc => ?_) (fun hc => ?_) <;> first | (exfalso; omega) | (exfalso; dsimp only at hc; omega) | skip)
        | (refine splE (fun hc => ?_) (fun hc => ?_) <;> first | (exfalso; omega) | (exfalso; dsimp only at hc; omega) | skip)
        | (refine splNE (fun hc => ?_) (fun hc => ?_) <;> first | (exfalso; omega) | (exfalso; dsimp only at hc; omega) | skip)
    all_goals first
      | exact ⟨fun β => congrArg Value.bool (by rw [Bool.eq_iff_iff]; simp only [ltB, hall, Bool.true_and, Bool.or_eq_true, Bool.and_eq_true, decide_eq_true_eq, true_iff, Bool.false_eq_true, false_iff]; omega), fun w' h => h⟩
      | skip
end Go.Proofs.Ytlehjapeomallaa.V
