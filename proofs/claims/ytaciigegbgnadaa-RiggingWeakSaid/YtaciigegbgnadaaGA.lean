/- Gear: what its log says, whether it is stale: what these functions return. -/
import Derived.Test.YtaciigegbgnadaaE
namespace Go.Proofs.Ytaciigegbgnadaa
open Go Tx Go.RowKit
set_option linter.unusedSimpArgs false
set_option linter.unusedVariables false

theorem within_ok (n lo hi : Int) (w : World) : Calls Try.prog 56 #[iv n, iv lo, iv hi] w fun e w' => e = .returned (.bool (inB n lo hi)) ∧ Below w.heap.size w w' := by
  refine calls_val env mixed Try.func56 has56 Try.ntmps56 [iv n, iv lo, iv hi] (by simp) ?_
  repeat'
    conv => whnf
    first
      | refine And.intro (a := drawB _ = true) (by kernel_rfl) ?_
      | refine And.intro (a := (_ : Bool) = true) rfl ?_
      | refine And.intro (a := (_ : Bool) = true ∧ (_ : Bool) = true) ⟨rfl, rfl⟩ ?_
      | refine And.intro (a := (_ : Bool) = true ∧ (_ : List _) = []) ⟨rfl, rfl⟩ ?_
      | refine And.intro (a := IR _ _) (And.intro (by omega) (by omega)) ?_
      | refine wrapE (And.intro (by omega) (by omega)) ?_
      | refine And.intro (a := (0 : Int) ≤ _ ∧ _ < _) (And.intro (by omega) (by omega)) ?_
      | refine And.intro (a := (_ : Bool) = true) (by simp only [Nat.beq_refl]; rfl) ?_
      | refine And.intro (a := ((_ : Bool) = true → 1 ≤ _) ∧ _ ≤ 9223372036854775807 ∧ _ ≤ 140737488355328) ⟨fun h => (by first | omega | cases h), by omega, by omega⟩ ?_
      | refine splT ?_
      | refine splF ?_
      | refine splNot ?_
      | (refine splIn (fun hc => ?_) (fun hc => ?_) <;> first | (exfalso; omega) | (exfalso; dsimp only at hc; omega) | skip)
      | (refine splD (fun hc => ?_) (fun hc => ?_) <;> first | (exfalso; omega) | (exfalso; dsimp only at hc; omega) | skip)
      | (refine splE (fun hc => ?_) (fun hc => ?_) <;> first | (exfalso; omega) | (exfalso; dsimp only at hc; omega) | skip)
      | (refine splNE (fun hc => ?_) (fun hc => ?_) <;> first | (exfalso; omega) | (exfalso; dsimp only at hc; omega) | skip)
  all_goals exact ⟨fun β => congrArg Value.bool (by simp [inB, *]), fun w' h => h⟩
theorem In_ok (n lo hi : Int) (w : World) : Calls Try.prog 23 #[iv n, iv lo, iv hi] w fun e w' => e = .returned (.bool (inB n lo hi)) ∧ Below w.heap.size w w' := by
  refine calls_val env mixed Try.func23 has23 Try.ntmps23 [iv n, iv lo, iv hi] (by simp) ?_
  repeat'
    conv => whnf
    first
      | refine And.intro (a := drawB _ = true) (by kernel_rfl) ?_
      | refine And.intro (a := (_ : Bool) = true) rfl ?_
      | refine And.intro (a := (_ : Bool) = true ∧ (_ : Bool) = true) ⟨rfl, rfl⟩ ?_
      | refine And.intro (a := (_ : Bool) = true ∧ (_ : List _) = []) ⟨rfl, rfl⟩ ?_
      | refine And.intro (a := IR _ _) (And.intro (by omega) (by omega)) ?_
      | refine wrapE (And.intro (by omega) (by omega)) ?_
      | refine And.intro (a := (0 : Int) ≤ _ ∧ _ < _) (And.intro (by omega) (by omega)) ?_
      | refine And.intro (a := (_ : Bool) = true) (by simp only [Nat.beq_refl]; rfl) ?_
      | refine And.intro (a := ((_ : Bool) = true → 1 ≤ _) ∧ _ ≤ 9223372036854775807 ∧ _ ≤ 140737488355328) ⟨fun h => (by first | omega | cases h), by omega, by omega⟩ ?_
      | refine splT ?_
      | refine splF ?_
      | refine splNot ?_
      | (refine splIn (fun hc => ?_) (fun hc => ?_) <;> first | (exfalso; omega) | (exfalso; dsimp only at hc; omega) | skip)
      | (refine splD (fun hc => ?_) (fun hc => ?_) <;> first | (exfalso; omega) | (exfalso; dsimp only at hc; omega) | skip)
      | (refine splE (fun hc => ?_) (fun hc => ?_) <;> first | (exfalso; omega) | (exfalso; dsimp only at hc; omega) | skip)
      | (refine splNE (fun hc => ?_) (fun hc => ?_) <;> first | (exfalso; omega) | (exfalso; dsimp only at hc; omega) | skip)
  all_goals exact ⟨fun β => congrArg Value.bool (by simp [inB, *]), fun w' h => h⟩

/-- An entry of a log. -/
structure En where
  day : Int
  num : Int
  hrs : Int
  chk : Bool
abbrev En.cs (x : En) : List Value := [iv x.day, iv x.num, iv x.hrs, .bool x.chk]
abbrev gF (g : Int × Int) : List Value := [iv g.1, iv g.2]
/-- What a log says of a gear up to a day: whether it was checked, the last day, the hours since. -/
def stS (num day : Int) (s : Bool × Int × Int) (x : En) : Bool × Int × Int :=
  if x.num ≠ num ∨ x.day > day then s else if x.chk then (true, x.day, 0) else (s.1, s.2.1, s.2.2 + x.hrs)
def stL (num day : Int) (L : List En) : Bool × Int × Int := L.foldl (stS num day) (false, 0, 0)
theorem stL_take {num day : Int} {L : List En} {k : Nat} {x : En} (h : L[k]? = some x) : stL num day (L.take (k + 1)) = stS num day (stL num day (L.take k)) x := by
  unfold stL
  rw [List.take_add_one, h, Option.toList_some, List.foldl_append]
  rfl
/-- A log of hours and days that are not great. -/
def EB (L : List En) : Prop := L.length ≤ 1000 ∧ ∀ x ∈ L, (0 ≤ x.hrs ∧ x.hrs ≤ 24) ∧ (0 ≤ x.day ∧ x.day ≤ 10000)
theorem stL_bd {num day : Int} {L : List En} (h : EB L) : ∀ k, (0 ≤ (stL num day (L.take k)).2.2 ∧ (stL num day (L.take k)).2.2 ≤ 24 * k) ∧ (0 ≤ (stL num day (L.take k)).2.1 ∧ (stL num day (L.take k)).2.1 ≤ 10000)
  | 0 => by simp [stL]
  | k + 1 => by
    have ih := stL_bd (num := num) (day := day) h k
    cases hx : L[k]? with
    | none =>
      rw [List.getElem?_eq_none_iff] at hx
      rw [List.take_of_length_le (show L.length ≤ k + 1 by omega)]
      rw [List.take_of_length_le hx] at ih
      omega
    | some x =>
      have hb := h.2 x (List.mem_of_getElem? hx)
      rw [stL_take hx, stS]
      split
      · omega
      · split
        · dsimp only; omega
        · dsimp only; omega
theorem stL_bdl {num day : Int} {L : List En} (h : EB L) : (0 ≤ (stL num day L).2.2 ∧ (stL num day L).2.2 ≤ 24000) ∧ (0 ≤ (stL num day L).2.1 ∧ (stL num day L).2.1 ≤ 10000) := by
  have := stL_bd (num := num) (day := day) h L.length
  rw [List.take_of_length_le (Nat.le_refl _)] at this
  have := h.1
  omega
abbrev rcV (g : Int × Int) (s : Bool × Int × Int) : Value := .agg #[iv g.1, iv g.2, .bool s.1, iv s.2.1, iv s.2.2]

set_option maxRecDepth 100000 in
theorem record_ok (g : Int × Int) (L : List En) (o : Option Addr) (c : Nat) (num day : Int) (w : World) (hrd : Rd 4 En.cs (.slice o L.length c) L w) (hE : EB L) :
    Calls Try.prog 57 #[.agg #[iv g.1, iv g.2], .slice o L.length c, iv num, iv day] w fun e w' => e = .returned (rcV g (stL num day L)) ∧ Below w.heap.size w w' := by
  refine calls_val env mixed Try.func57 has57 Try.ntmps57 [.agg #[iv g.1, iv g.2], .slice o L.length c, iv num, iv day] (by simp) ?_
  have hl := hE.1
  repeat'
    conv => whnf
    first
      | refine And.intro (a := drawB _ = true) (by kernel_rfl) ?_
      | refine And.intro (a := (_ : Bool) = true) rfl ?_
      | refine And.intro (a := (_ : Bool) = true ∧ (_ : Bool) = true) ⟨rfl, rfl⟩ ?_
      | refine And.intro (a := (_ : Bool) = true ∧ (_ : List _) = []) ⟨rfl, rfl⟩ ?_
      | refine And.intro (a := IR _ _) (And.intro (by omega) (by omega)) ?_
      | refine wrapE (And.intro (by omega) (by omega)) ?_
      | refine And.intro (a := (0 : Int) ≤ _ ∧ _ < _) (And.intro (by omega) (by omega)) ?_
      | refine And.intro (a := (_ : Bool) = true) (by simp only [Nat.beq_refl]; rfl) ?_
      | refine And.intro (a := ((_ : Bool) = true → 1 ≤ _) ∧ _ ≤ 9223372036854775807 ∧ _ ≤ 140737488355328) ⟨fun h => (by first | omega | cases h), by omega, by omega⟩ ?_
      | refine splT ?_
      | refine splF ?_
      | refine splNot ?_
      | (refine splIn (fun hc => ?_) (fun hc => ?_) <;> first | (exfalso; omega) | (exfalso; dsimp only at hc; omega) | skip)
      | (refine splD (fun hc => ?_) (fun hc => ?_) <;> first | (exfalso; omega) | (exfalso; dsimp only at hc; omega) | skip)
      | (refine splE (fun hc => ?_) (fun hc => ?_) <;> first | (exfalso; omega) | (exfalso; dsimp only at hc; omega) | skip)
      | (refine splNE (fun hc => ?_) (fun hc => ?_) <;> first | (exfalso; omega) | (exfalso; dsimp only at hc; omega) | skip)
  refine loopN 3 (fun k : Nat => [(2, .v (iv num)), (3, .v (iv day)), (8, .ptr 1 0), (9, .ptr 2 0), (14, .v (.slice o L.length c)), (15, .v (iv L.length)), (16, .v (iv k))])
    (fun k => [(1, .cells [.v (iv 0), .v (iv 0), .v (.bool false), .v (iv 0), .v (iv 0)] 121), (2, .cells [.v (iv g.1), .v (iv g.2), .v (.bool (stL num day (L.take k)).1), .v (iv (stL num day (L.take k)).2.1), .v (iv (stL num day (L.take k)).2.2)] 121)])
    (fun k => k ≤ L.length) (fun k => L.length - k) 0 (Nat.zero_le _) ⟨rfl, rfl, rfl, rfl, rfl, rfl, rfl, trivial⟩ ⟨rfl, rfl, trivial⟩ (fun _ _ => ⟨rfl, rfl⟩) ?_
  intro k hk
  have hbd := stL_bd (num := num) (day := day) hE k
  rcases Nat.lt_or_ge k L.length with hkl | hkl
  · obtain ⟨x, hx⟩ : ∃ b, L[k]? = some b := ⟨_, List.getElem?_eq_getElem hkl⟩
    obtain ⟨_, ad, rfl, _⟩ := hrd.ptr (by omega)
    have e0 := fun (w' : World) hw' => rd_ati (hrd.below (w' := w') hw') hx
    have hxb := hE.2 x (List.mem_of_getElem? hx)
    have hst := stL_take (num := num) (day := day) hx
    rw [stS] at hst
    generalize stL num day (L.take k) = s at *
    obtain ⟨s1, s2, s3⟩ := s
    dsimp only at hbd hst ⊢
    by_cases hc1 : x.num ≠ num ∨ x.day > day
    · rw [if_pos hc1] at hst
      repeat'
        conv => whnf
        first
          | refine And.intro (a := drawB _ = true) (by kernel_rfl) ?_
          | refine And.intro (a := (_ : Bool) = true) rfl ?_
          | refine And.intro (a := (_ : Bool) = true ∧ (_ : Bool) = true) ⟨rfl, rfl⟩ ?_
          | refine And.intro (a := (_ : Bool) = true ∧ (_ : List _) = []) ⟨rfl, rfl⟩ ?_
          | refine And.intro (a := IR _ _) (And.intro (by omega) (by omega)) ?_
          | refine wrapE (And.intro (by omega) (by omega)) ?_
          | refine And.intro (a := (0 : Int) ≤ _ ∧ _ < _) (And.intro (by omega) (by omega)) ?_
          | refine And.intro (a := (_ : Bool) = true) (by simp only [Nat.beq_refl]; rfl) ?_
          | refine And.intro (a := ((_ : Bool) = true → 1 ≤ _) ∧ _ ≤ 9223372036854775807 ∧ _ ≤ 140737488355328) ⟨fun h => (by first | omega | cases h), by omega, by omega⟩ ?_
          | refine splT ?_
          | refine splF ?_
          | refine splNot ?_
          | (refine splIn (fun hc => ?_) (fun hc => ?_) <;> first | (exfalso; omega) | (exfalso; dsimp only at hc; omega) | skip)
          | (refine splD (fun hc => ?_) (fun hc => ?_) <;> first | (exfalso; omega) | (exfalso; dsimp only at hc; omega) | skip)
          | (refine splE (fun hc => ?_) (fun hc => ?_) <;> first | (exfalso; omega) | (exfalso; dsimp only at hc; omega) | skip)
          | (refine splNE (fun hc => ?_) (fun hc => ?_) <;> first | (exfalso; omega) | (exfalso; dsimp only at hc; omega) | skip)
          | refine Exists.intro (α := List Value) x.cs ⟨⟨rfl, fun w' hw' => e0 w' hw'⟩, ?_⟩
      all_goals first | (exfalso; omega) | exact ⟨k + 1, by omega, by omega, Ent.weak rfl ⟨rfl, rfl, rfl, rfl, rfl, rfl, rfl, trivial⟩ (by rw [hst]; exact ⟨rfl, rfl, trivial⟩) fun _ h => h⟩
    · rw [if_neg hc1] at hst
      cases hch : x.chk with
      | true =>
        rw [hch, if_pos rfl] at hst
        repeat'
          conv => whnf
          first
            | refine And.intro (a := drawB _ = true) (by kernel_rfl) ?_
            | refine And.intro (a := (_ : Bool) = true) rfl ?_
            | refine And.intro (a := (_ : Bool) = true ∧ (_ : Bool) = true) ⟨rfl, rfl⟩ ?_
            | refine And.intro (a := (_ : Bool) = true ∧ (_ : List _) = []) ⟨rfl, rfl⟩ ?_
            | refine And.intro (a := IR _ _) (And.intro (by omega) (by omega)) ?_
            | refine wrapE (And.intro (by omega) (by omega)) ?_
            | refine And.intro (a := (0 : Int) ≤ _ ∧ _ < _) (And.intro (by omega) (by omega)) ?_
            | refine And.intro (a := (_ : Bool) = true) (by simp only [Nat.beq_refl]; rfl) ?_
            | refine And.intro (a := ((_ : Bool) = true → 1 ≤ _) ∧ _ ≤ 9223372036854775807 ∧ _ ≤ 140737488355328) ⟨fun h => (by first | omega | cases h), by omega, by omega⟩ ?_
            | refine splT ?_
            | refine splF ?_
            | refine splNot ?_
            | (refine splIn (fun hc => ?_) (fun hc => ?_) <;> first | (exfalso; omega) | (exfalso; dsimp only at hc; omega) | skip)
            | (refine splD (fun hc => ?_) (fun hc => ?_) <;> first | (exfalso; omega) | (exfalso; dsimp only at hc; omega) | skip)
            | (refine splE (fun hc => ?_) (fun hc => ?_) <;> first | (exfalso; omega) | (exfalso; dsimp only at hc; omega) | skip)
            | (refine splNE (fun hc => ?_) (fun hc => ?_) <;> first | (exfalso; omega) | (exfalso; dsimp only at hc; omega) | skip)
            | refine Exists.intro (α := List Value) x.cs ⟨⟨rfl, fun w' hw' => e0 w' hw'⟩, ?_⟩
            | refine splB (fun hb => ?_) (fun hb => ?_)
        all_goals first | (exfalso; omega) | (exfalso; simp_all; done) | exact ⟨k + 1, by omega, by omega, Ent.weak rfl ⟨rfl, rfl, rfl, rfl, rfl, rfl, rfl, trivial⟩ (by rw [hst]; exact ⟨rfl, rfl, trivial⟩) fun _ h => h⟩
      | false =>
        rw [hch, if_neg (by decide)] at hst
        repeat'
          conv => whnf
          first
            | refine And.intro (a := drawB _ = true) (by kernel_rfl) ?_
            | refine And.intro (a := (_ : Bool) = true) rfl ?_
            | refine And.intro (a := (_ : Bool) = true ∧ (_ : Bool) = true) ⟨rfl, rfl⟩ ?_
            | refine And.intro (a := (_ : Bool) = true ∧ (_ : List _) = []) ⟨rfl, rfl⟩ ?_
            | refine And.intro (a := IR _ _) (And.intro (by omega) (by omega)) ?_
            | refine wrapE (And.intro (by omega) (by omega)) ?_
            | refine And.intro (a := (0 : Int) ≤ _ ∧ _ < _) (And.intro (by omega) (by omega)) ?_
            | refine And.intro (a := (_ : Bool) = true) (by simp only [Nat.beq_refl]; rfl) ?_
            | refine And.intro (a := ((_ : Bool) = true → 1 ≤ _) ∧ _ ≤ 9223372036854775807 ∧ _ ≤ 140737488355328) ⟨fun h => (by first | omega | cases h), by omega, by omega⟩ ?_
            | refine splT ?_
            | refine splF ?_
            | refine splNot ?_
            | (refine splIn (fun hc => ?_) (fun hc => ?_) <;> first | (exfalso; omega) | (exfalso; dsimp only at hc; omega) | skip)
            | (refine splD (fun hc => ?_) (fun hc => ?_) <;> first | (exfalso; omega) | (exfalso; dsimp only at hc; omega) | skip)
            | (refine splE (fun hc => ?_) (fun hc => ?_) <;> first | (exfalso; omega) | (exfalso; dsimp only at hc; omega) | skip)
            | (refine splNE (fun hc => ?_) (fun hc => ?_) <;> first | (exfalso; omega) | (exfalso; dsimp only at hc; omega) | skip)
            | refine Exists.intro (α := List Value) x.cs ⟨⟨rfl, fun w' hw' => e0 w' hw'⟩, ?_⟩
            | refine splB (fun hb => ?_) (fun hb => ?_)
        all_goals first | (exfalso; omega) | (exfalso; simp_all; done) | exact ⟨k + 1, by omega, by omega, Ent.weak rfl ⟨rfl, rfl, rfl, rfl, rfl, rfl, rfl, trivial⟩ (by rw [hst]; exact ⟨rfl, rfl, trivial⟩) fun _ h => h⟩
  · rw [List.take_of_length_le hkl]
    repeat'
      conv => whnf
      first
        | refine And.intro (a := drawB _ = true) (by kernel_rfl) ?_
        | refine And.intro (a := (_ : Bool) = true) rfl ?_
        | refine And.intro (a := (_ : Bool) = true ∧ (_ : Bool) = true) ⟨rfl, rfl⟩ ?_
        | refine And.intro (a := (_ : Bool) = true ∧ (_ : List _) = []) ⟨rfl, rfl⟩ ?_
        | refine And.intro (a := IR _ _) (And.intro (by omega) (by omega)) ?_
        | refine wrapE (And.intro (by omega) (by omega)) ?_
        | refine And.intro (a := (0 : Int) ≤ _ ∧ _ < _) (And.intro (by omega) (by omega)) ?_
        | refine And.intro (a := (_ : Bool) = true) (by simp only [Nat.beq_refl]; rfl) ?_
        | refine And.intro (a := ((_ : Bool) = true → 1 ≤ _) ∧ _ ≤ 9223372036854775807 ∧ _ ≤ 140737488355328) ⟨fun h => (by first | omega | cases h), by omega, by omega⟩ ?_
        | refine splT ?_
        | refine splF ?_
        | refine splNot ?_
        | (refine splIn (fun hc => ?_) (fun hc => ?_) <;> first | (exfalso; omega) | (exfalso; dsimp only at hc; omega) | skip)
        | (refine splD (fun hc => ?_) (fun hc => ?_) <;> first | (exfalso; omega) | (exfalso; dsimp only at hc; omega) | skip)
        | (refine splE (fun hc => ?_) (fun hc => ?_) <;> first | (exfalso; omega) | (exfalso; dsimp only at hc; omega) | skip)
        | (refine splNE (fun hc => ?_) (fun hc => ?_) <;> first | (exfalso; omega) | (exfalso; dsimp only at hc; omega) | skip)
    exact ⟨fun β => rfl, fun w' h => h⟩
end Go.Proofs.Ytaciigegbgnadaa
