/- Gear: whether it is stale, until when it is not: what these functions return, the program's and the reference's. -/
import Derived.Test.YtaciigegbgnadaaGA
namespace Go.Proofs.Ytaciigegbgnadaa
open Go Tx Go.RowKit
set_option linter.unusedSimpArgs false
set_option linter.unusedVariables false

set_option maxRecDepth 100000 in
theorem State_ok (L : List En) (o : Option Addr) (c : Nat) (num day : Int) (w : World) (hrd : Rd 4 En.cs (.slice o L.length c) L w) (hE : EB L) :
    Calls Try.prog 63 #[.slice o L.length c, iv num, iv day] w fun e w' => e = .returned (.tuple #[.bool (stL num day L).1, iv (stL num day L).2.1, iv (stL num day L).2.2]) ∧ Below w.heap.size w w' := by
  refine calls_val env mixed Try.func63 has63 Try.ntmps63 [.slice o L.length c, iv num, iv day] (by simp) ?_
  have hl := hE.1
  repeat'
    conv => whnf
    first
      | refine And.intro (a := drawB _ = true) (by kernel_rfl) ?_
      | refine And.intro (a := (_ : Bool) = true) rfl ?_
      | refine And.intro (a := (_ : Bool) = true ∧ (_ : Bool) = true) ⟨rfl, rfl⟩ ?_
      | refine And.intro (a := (_ : Bool) = true ∧ (_ : List _) = []) ⟨rfl, rfl⟩ ?_
      | refine And.intro (a := IR _ _) (And.intro (by omega) (by omega)) ?_
      | refine wrapE (And.intro (by omega) (by omega)) ?_
      | refine And.intro (a := (0 : Int) ≤ _ ∧ _ < _) (And.intro (by omega) (by omega)) ?_
      | refine And.intro (a := (_ : Bool) = true) (by simp only [Nat.beq_refl]; rfl) ?_
      | refine And.intro (a := ((_ : Bool) = true → 1 ≤ _) ∧ _ ≤ 9223372036854775807 ∧ _ ≤ 140737488355328) ⟨fun h => (by first | omega | cases h), by omega, by omega⟩ ?_
      | refine splT ?_
      | refine splF ?_
      | refine splNot ?_
      | (refine splIn (fun hc => ?_) (fun hc => ?_) <;> first | (exfalso; omega) | (exfalso; dsimp only at hc; omega) | skip)
      | (refine splD (fun hc => ?_) (fun hc => ?_) <;> first | (exfalso; omega) | (exfalso; dsimp only at hc; omega) | skip)
      | (refine splE (fun hc => ?_) (fun hc => ?_) <;> first | (exfalso; omega) | (exfalso; dsimp only at hc; omega) | skip)
      | (refine splNE (fun hc => ?_) (fun hc => ?_) <;> first | (exfalso; omega) | (exfalso; dsimp only at hc; omega) | skip)
  refine loopE (fun k : Nat => [(0, .v (.slice o L.length c)), (1, .v (iv num)), (2, .v (iv day)), (9, .v (.bool (stL num day (L.take k)).1)), (10, .v (iv (stL num day (L.take k)).2.1)), (11, .v (iv (stL num day (L.take k)).2.2)), (12, .v (iv k))])
    (fun _ => []) (fun k => k ≤ L.length) (fun k => L.length - k) 0 (Nat.zero_le _) ⟨rfl, rfl, rfl, rfl, rfl, rfl, rfl, trivial⟩ trivial (fun _ => ⟨rfl, rfl⟩) ?_
  intro k hk
  have hbd := stL_bd (num := num) (day := day) hE k
  rcases Nat.lt_or_ge k L.length with hkl | hkl
  · obtain ⟨x, hx⟩ : ∃ b, L[k]? = some b := ⟨_, List.getElem?_eq_getElem hkl⟩
    obtain ⟨_, ad, rfl, _⟩ := hrd.ptr (by omega)
    have e1 := fun (w' : World) hw' => rd_fld (hrd.below (w' := w') hw') hx
    have hxb := hE.2 x (List.mem_of_getElem? hx)
    have hst := stL_take (num := num) (day := day) hx
    rw [stS] at hst
    generalize stL num day (L.take k) = s at *
    obtain ⟨s1, s2, s3⟩ := s
    dsimp only at hbd hst ⊢
    by_cases hc1 : x.num ≠ num ∨ x.day > day
    · rw [if_pos hc1] at hst
      repeat'
        conv => whnf
        first
          | refine And.intro (a := drawB _ = true) (by kernel_rfl) ?_
          | refine And.intro (a := (_ : Bool) = true) rfl ?_
          | refine And.intro (a := (_ : Bool) = true ∧ (_ : Bool) = true) ⟨rfl, rfl⟩ ?_
          | refine And.intro (a := (_ : Bool) = true ∧ (_ : List _) = []) ⟨rfl, rfl⟩ ?_
          | refine And.intro (a := IR _ _) (And.intro (by omega) (by omega)) ?_
          | refine wrapE (And.intro (by omega) (by omega)) ?_
          | refine And.intro (a := (0 : Int) ≤ _ ∧ _ < _) (And.intro (by omega) (by omega)) ?_
          | refine And.intro (a := (_ : Bool) = true) (by simp only [Nat.beq_refl]; rfl) ?_
          | refine And.intro (a := ((_ : Bool) = true → 1 ≤ _) ∧ _ ≤ 9223372036854775807 ∧ _ ≤ 140737488355328) ⟨fun h => (by first | omega | cases h), by omega, by omega⟩ ?_
          | refine splT ?_
          | refine splF ?_
          | refine splNot ?_
          | (refine splIn (fun hc => ?_) (fun hc => ?_) <;> first | (exfalso; omega) | (exfalso; dsimp only at hc; omega) | skip)
          | (refine splD (fun hc => ?_) (fun hc => ?_) <;> first | (exfalso; omega) | (exfalso; dsimp only at hc; omega) | skip)
          | (refine splE (fun hc => ?_) (fun hc => ?_) <;> first | (exfalso; omega) | (exfalso; dsimp only at hc; omega) | skip)
          | (refine splNE (fun hc => ?_) (fun hc => ?_) <;> first | (exfalso; omega) | (exfalso; dsimp only at hc; omega) | skip)
          | refine Exists.intro (α := List Value) [iv x.day] ⟨⟨rfl, fun w' hw' => e1 w' hw' 0 _ rfl⟩, ?_⟩
          | refine Exists.intro (α := List Value) [iv x.num] ⟨⟨rfl, fun w' hw' => e1 w' hw' 1 _ rfl⟩, ?_⟩
          | refine Exists.intro (α := List Value) [iv x.hrs] ⟨⟨rfl, fun w' hw' => e1 w' hw' 2 _ rfl⟩, ?_⟩
          | refine Exists.intro (α := List Value) [.bool x.chk] ⟨⟨rfl, fun w' hw' => e1 w' hw' 3 _ rfl⟩, ?_⟩
      all_goals first | (exfalso; omega) | exact ⟨k + 1, by omega, by omega, Ent.weak rfl ⟨rfl, rfl, rfl, by rw [hst]; rfl, by rw [hst]; rfl, by rw [hst]; rfl, rfl, trivial⟩ trivial fun _ h => h⟩
    · rw [if_neg hc1] at hst
      cases hch : x.chk with
      | true =>
        rw [hch, if_pos rfl] at hst
        repeat'
          conv => whnf
          first
            | refine And.intro (a := drawB _ = true) (by kernel_rfl) ?_
            | refine And.intro (a := (_ : Bool) = true) rfl ?_
            | refine And.intro (a := (_ : Bool) = true ∧ (_ : Bool) = true) ⟨rfl, rfl⟩ ?_
            | refine And.intro (a := (_ : Bool) = true ∧ (_ : List _) = []) ⟨rfl, rfl⟩ ?_
            | refine And.intro (a := IR _ _) (And.intro (by omega) (by omega)) ?_
            | refine wrapE (And.intro (by omega) (by omega)) ?_
            | refine And.intro (a := (0 : Int) ≤ _ ∧ _ < _) (And.intro (by omega) (by omega)) ?_
            | refine And.intro (a := (_ : Bool) = true) (by simp only [Nat.beq_refl]; rfl) ?_
            | refine And.intro (a := ((_ : Bool) = true → 1 ≤ _) ∧ _ ≤ 9223372036854775807 ∧ _ ≤ 140737488355328) ⟨fun h => (by first | omega | cases h), by omega, by omega⟩ ?_
            | refine splT ?_
            | refine splF ?_
            | refine splNot ?_
            | (refine splIn (fun hc => ?_) (fun hc => ?_) <;> first | (exfalso; omega) | (exfalso; dsimp only at hc; omega) | skip)
            | (refine splD (fun hc => ?_) (fun hc => ?_) <;> first | (exfalso; omega) | (exfalso; dsimp only at hc; omega) | skip)
            | (refine splE (fun hc => ?_) (fun hc => ?_) <;> first | (exfalso; omega) | (exfalso; dsimp only at hc; omega) | skip)
            | (refine splNE (fun hc => ?_) (fun hc => ?_) <;> first | (exfalso; omega) | (exfalso; dsimp only at hc; omega) | skip)
            | refine Exists.intro (α := List Value) [iv x.day] ⟨⟨rfl, fun w' hw' => e1 w' hw' 0 _ rfl⟩, ?_⟩
            | refine Exists.intro (α := List Value) [iv x.num] ⟨⟨rfl, fun w' hw' => e1 w' hw' 1 _ rfl⟩, ?_⟩
            | refine Exists.intro (α := List Value) [iv x.hrs] ⟨⟨rfl, fun w' hw' => e1 w' hw' 2 _ rfl⟩, ?_⟩
            | refine Exists.intro (α := List Value) [.bool true] ⟨⟨rfl, fun w' hw' => e1 w' hw' 3 _ (by rw [← hch]; rfl)⟩, ?_⟩
        all_goals first | (exfalso; omega) | exact ⟨k + 1, by omega, by omega, Ent.weak rfl ⟨rfl, rfl, rfl, by rw [hst]; rfl, by rw [hst]; rfl, by rw [hst]; rfl, rfl, trivial⟩ trivial fun _ h => h⟩
      | false =>
        rw [hch, if_neg (by decide)] at hst
        repeat'
          conv => whnf
          first
            | refine And.intro (a := drawB _ = true) (by kernel_rfl) ?_
            | refine And.intro (a := (_ : Bool) = true) rfl ?_
            | refine And.intro (a := (_ : Bool) = true ∧ (_ : Bool) = true) ⟨rfl, rfl⟩ ?_
            | refine And.intro (a := (_ : Bool) = true ∧ (_ : List _) = []) ⟨rfl, rfl⟩ ?_
            | refine And.intro (a := IR _ _) (And.intro (by omega) (by omega)) ?_
            | refine wrapE (And.intro (by omega) (by omega)) ?_
            | refine And.intro (a := (0 : Int) ≤ _ ∧ _ < _) (And.intro (by omega) (by omega)) ?_
            | refine And.intro (a := (_ : Bool) = true) (by simp only [Nat.beq_refl]; rfl) ?_
            | refine And.intro (a := ((_ : Bool) = true → 1 ≤ _) ∧ _ ≤ 9223372036854775807 ∧ _ ≤ 140737488355328) ⟨fun h => (by first | omega | cases h), by omega, by omega⟩ ?_
            | refine splT ?_
            | refine splF ?_
            | refine splNot ?_
            | (refine splIn (fun hc => ?_) (fun hc => ?_) <;> first | (exfalso; omega) | (exfalso; dsimp only at hc; omega) | skip)
            | (refine splD (fun hc => ?_) (fun hc => ?_) <;> first | (exfalso; omega) | (exfalso; dsimp only at hc; omega) | skip)
            | (refine splE (fun hc => ?_) (fun hc => ?_) <;> first | (exfalso; omega) | (exfalso; dsimp only at hc; omega) | skip)
            | (refine splNE (fun hc => ?_) (fun hc => ?_) <;> first | (exfalso; omega) | (exfalso; dsimp only at hc; omega) | skip)
            | refine Exists.intro (α := List Value) [iv x.day] ⟨⟨rfl, fun w' hw' => e1 w' hw' 0 _ rfl⟩, ?_⟩
            | refine Exists.intro (α := List Value) [iv x.num] ⟨⟨rfl, fun w' hw' => e1 w' hw' 1 _ rfl⟩, ?_⟩
            | refine Exists.intro (α := List Value) [iv x.hrs] ⟨⟨rfl, fun w' hw' => e1 w' hw' 2 _ rfl⟩, ?_⟩
            | refine Exists.intro (α := List Value) [.bool false] ⟨⟨rfl, fun w' hw' => e1 w' hw' 3 _ (by rw [← hch]; rfl)⟩, ?_⟩
        all_goals first | (exfalso; omega) | exact ⟨k + 1, by omega, by omega, Ent.weak rfl ⟨rfl, rfl, rfl, by rw [hst]; rfl, by rw [hst]; rfl, by rw [hst]; rfl, rfl, trivial⟩ trivial fun _ h => h⟩
  · rw [List.take_of_length_le hkl]
    repeat'
      conv => whnf
      first
        | refine And.intro (a := drawB _ = true) (by kernel_rfl) ?_
        | refine And.intro (a := (_ : Bool) = true) rfl ?_
        | refine And.intro (a := (_ : Bool) = true ∧ (_ : Bool) = true) ⟨rfl, rfl⟩ ?_
        | refine And.intro (a := (_ : Bool) = true ∧ (_ : List _) = []) ⟨rfl, rfl⟩ ?_
        | refine And.intro (a := IR _ _) (And.intro (by omega) (by omega)) ?_
        | refine wrapE (And.intro (by omega) (by omega)) ?_
        | refine And.intro (a := (0 : Int) ≤ _ ∧ _ < _) (And.intro (by omega) (by omega)) ?_
        | refine And.intro (a := (_ : Bool) = true) (by simp only [Nat.beq_refl]; rfl) ?_
        | refine And.intro (a := ((_ : Bool) = true → 1 ≤ _) ∧ _ ≤ 9223372036854775807 ∧ _ ≤ 140737488355328) ⟨fun h => (by first | omega | cases h), by omega, by omega⟩ ?_
        | refine splT ?_
        | refine splF ?_
        | refine splNot ?_
        | (refine splIn (fun hc => ?_) (fun hc => ?_) <;> first | (exfalso; omega) | (exfalso; dsimp only at hc; omega) | skip)
        | (refine splD (fun hc => ?_) (fun hc => ?_) <;> first | (exfalso; omega) | (exfalso; dsimp only at hc; omega) | skip)
        | (refine splE (fun hc => ?_) (fun hc => ?_) <;> first | (exfalso; omega) | (exfalso; dsimp only at hc; omega) | skip)
        | (refine splNE (fun hc => ?_) (fun hc => ?_) <;> first | (exfalso; omega) | (exfalso; dsimp only at hc; omega) | skip)
    exact ⟨fun β => rfl, fun w' h => h⟩

/-- Is a gear stale, with what its log says, on a day, with more hours? -/
def stB (g : Int × Int) (s : Bool × Int × Int) (day more : Int) : Bool := (!s.1 || decide (day - s.2.1 > g.1)) || decide (s.2.2 + more > g.2)

set_option maxRecDepth 100000 in
theorem stale_ok (g : Int × Int) (s : Bool × Int × Int) (day more : Int) (w : World) (h1 : (0 ≤ s.2.2 ∧ s.2.2 ≤ 24000) ∧ (0 ≤ s.2.1 ∧ s.2.1 ≤ 10000)) (h2 : 0 ≤ day ∧ day ≤ 1000000) (h3 : 0 ≤ more ∧ more ≤ 100000000) :
    Calls Try.prog 58 #[rcV g s, iv day, iv more] w fun e w' => e = .returned (.bool (stB g s day more)) ∧ Below w.heap.size w w' := by
  obtain ⟨s1, s2, s3⟩ := s
  dsimp only at h1
  refine calls_val env mixed Try.func58 has58 Try.ntmps58 [.agg #[iv g.1, iv g.2, .bool s1, iv s2, iv s3], iv day, iv more] (by simp) ?_
  unfold stB
  dsimp only
  cases s1
  all_goals skip
  repeat'
    conv => whnf
    first
      | refine And.intro (a := drawB _ = true) (by kernel_rfl) ?_
      | refine And.intro (a := (_ : Bool) = true) rfl ?_
      | refine And.intro (a := (_ : Bool) = true ∧ (_ : Bool) = true) ⟨rfl, rfl⟩ ?_
      | refine And.intro (a := (_ : Bool) = true ∧ (_ : List _) = []) ⟨rfl, rfl⟩ ?_
      | refine And.intro (a := IR _ _) (And.intro (by omega) (by omega)) ?_
      | refine wrapE (And.intro (by omega) (by omega)) ?_
      | refine And.intro (a := (0 : Int) ≤ _ ∧ _ < _) (And.intro (by omega) (by omega)) ?_
      | refine And.intro (a := (_ : Bool) = true) (by simp only [Nat.beq_refl]; rfl) ?_
      | refine And.intro (a := ((_ : Bool) = true → 1 ≤ _) ∧ _ ≤ 9223372036854775807 ∧ _ ≤ 140737488355328) ⟨fun h => (by first | omega | cases h), by omega, by omega⟩ ?_
      | refine splT ?_
      | refine splF ?_
      | refine splNot ?_
      | (refine splIn (fun hc => ?_) (fun hc => ?_) <;> first | (exfalso; omega) | (exfalso; dsimp only at hc; omega) | skip)
      | (refine splD (fun hc => ?_) (fun hc => ?_) <;> first | (exfalso; omega) | (exfalso; dsimp only at hc; omega) | skip)
      | (refine splE (fun hc => ?_) (fun hc => ?_) <;> first | (exfalso; omega) | (exfalso; dsimp only at hc; omega) | skip)
      | (refine splNE (fun hc => ?_) (fun hc => ?_) <;> first | (exfalso; omega) | (exfalso; dsimp only at hc; omega) | skip)
  all_goals exact ⟨fun β => congrArg Value.bool (by simp [*]), fun w' h => h⟩

set_option maxRecDepth 100000 in
theorem Rstale_ok (g : Int × Int) (L : List En) (o : Option Addr) (c : Nat) (num fr day more : Int) (w : World) (hrd : Rd 4 En.cs (.slice o L.length c) L w) (hE : EB L) (h2 : 0 ≤ day ∧ day ≤ 1000000) (h3 : 0 ≤ more ∧ more ≤ 100000000) :
    Calls Try.prog 24 #[.agg #[iv g.1, iv g.2], .slice o L.length c, iv num, iv fr, iv day, iv more] w fun e w' => e = .returned (.bool (stB g (stL num fr L) day more)) ∧ Below w.heap.size w w' := by
  refine calls_val env mixed Try.func24 has24 Try.ntmps24 [.agg #[iv g.1, iv g.2], .slice o L.length c, iv num, iv fr, iv day, iv more] (by simp) ?_
  have hS := fun w' hb => State_ok L o c num fr w' (hrd.below hb) hE
  have hbd := stL_bdl (num := num) (day := fr) hE
  generalize stL num fr L = s at *
  obtain ⟨s1, s2, s3⟩ := s
  dsimp only at hbd hS
  unfold stB
  dsimp only
  cases s1
  all_goals skip
  repeat'
    conv => whnf
    first
      | refine And.intro (a := drawB _ = true) (by kernel_rfl) ?_
      | refine And.intro (a := (_ : Bool) = true) rfl ?_
      | refine And.intro (a := (_ : Bool) = true ∧ (_ : Bool) = true) ⟨rfl, rfl⟩ ?_
      | refine And.intro (a := (_ : Bool) = true ∧ (_ : List _) = []) ⟨rfl, rfl⟩ ?_
      | refine And.intro (a := IR _ _) (And.intro (by omega) (by omega)) ?_
      | refine wrapE (And.intro (by omega) (by omega)) ?_
      | refine And.intro (a := (0 : Int) ≤ _ ∧ _ < _) (And.intro (by omega) (by omega)) ?_
      | refine And.intro (a := (_ : Bool) = true) (by simp only [Nat.beq_refl]; rfl) ?_
      | refine And.intro (a := ((_ : Bool) = true → 1 ≤ _) ∧ _ ≤ 9223372036854775807 ∧ _ ≤ 140737488355328) ⟨fun h => (by first | omega | cases h), by omega, by omega⟩ ?_
      | refine splT ?_
      | refine splF ?_
      | refine splNot ?_
      | (refine splIn (fun hc => ?_) (fun hc => ?_) <;> first | (exfalso; omega) | (exfalso; dsimp only at hc; omega) | skip)
      | (refine splD (fun hc => ?_) (fun hc => ?_) <;> first | (exfalso; omega) | (exfalso; dsimp only at hc; omega) | skip)
      | (refine splE (fun hc => ?_) (fun hc => ?_) <;> first | (exfalso; omega) | (exfalso; dsimp only at hc; omega) | skip)
      | (refine splNE (fun hc => ?_) (fun hc => ?_) <;> first | (exfalso; omega) | (exfalso; dsimp only at hc; omega) | skip)
      | ((with_reducible show CallEv _ _ 63 _ _ _ _ _); refine callE (k := 63) (fun β w' hbw => hS _ hbw) ?_)
  all_goals exact ⟨fun β => congrArg Value.bool (by simp [*]), fun w' h => h⟩

/-- The first number at which something holds; n if none ahead of it. -/
def fstN (p : Nat → Bool) : Nat → Nat → Nat
  | 0, k => k
  | n + 1, k => if p k then k else fstN p n (k + 1)
theorem fstN_spec {p : Nat → Bool} : ∀ (n k : Nat), k ≤ fstN p n k ∧ fstN p n k ≤ k + n ∧ (∀ i, k ≤ i → i < fstN p n k → p i = false) ∧ (fstN p n k < k + n → p (fstN p n k) = true)
  | 0, k => ⟨Nat.le_refl _, Nat.le_refl _, fun i h1 h2 => by simp only [fstN] at h2; omega, fun h => by simp only [fstN] at h; omega⟩
  | n + 1, k => by
    rw [fstN]
    split
    · rename_i hp
      exact ⟨Nat.le_refl _, by omega, fun i h1 h2 => by omega, fun _ => hp⟩
    · rename_i hp
      obtain ⟨h1, h2, h3, h4⟩ := fstN_spec (p := p) n (k + 1)
      refine ⟨by omega, by omega, fun i q1 q2 => ?_, fun h => h4 (by omega)⟩
      by_cases hik : i = k
      · subst hik; simpa using hp
      · exact h3 i (by omega) q2
/-- How many days from a day on a gear is not stale, if it works some hours a day. -/
def untN (g : Int × Int) (s : Bool × Int × Int) (day hours : Int) : Nat := fstN (fun m => stB g s (day + m) ((m + 1) * hours)) 12001 0
theorem stB_end {g : Int × Int} {s : Bool × Int × Int} {day : Int} (hg : g.1 ≤ 2000) (h1 : s.2.1 ≤ 10000) (h2 : 0 ≤ day) {m : Nat} (hm : 12001 ≤ m) (more : Int) : stB g s (day + m) more = true := by
  unfold stB
  rw [show decide (day + (m : Int) - s.2.1 > g.1) = true from decide_eq_true (by omega)]
  simp
theorem untN_st {g : Int × Int} {s : Bool × Int × Int} {day hours : Int} (hg : g.1 ≤ 2000) (h1 : s.2.1 ≤ 10000) (h2 : 0 ≤ day) : stB g s (day + untN g s day hours) ((untN g s day hours + 1) * hours) = true := by
  obtain ⟨_, q2, _, q4⟩ := fstN_spec (p := fun m : Nat => stB g s (day + m) ((m + 1) * hours)) 12001 0
  by_cases h : fstN (fun m : Nat => stB g s (day + m) ((m + 1) * hours)) 12001 0 < 0 + 12001
  · exact q4 h
  · exact stB_end hg h1 h2 (by unfold untN; omega) _
theorem untN_no {g : Int × Int} {s : Bool × Int × Int} {day hours : Int} {m : Nat} (h : m < untN g s day hours) : stB g s (day + m) ((m + 1) * hours) = false := by
  obtain ⟨_, _, q3, _⟩ := fstN_spec (p := fun m : Nat => stB g s (day + m) ((m + 1) * hours)) 12001 0
  exact q3 m (Nat.zero_le _) h
theorem untN_le {g : Int × Int} {s : Bool × Int × Int} {day hours : Int} : untN g s day hours ≤ 12001 := by
  obtain ⟨_, q2, _, _⟩ := fstN_spec (p := fun m : Nat => stB g s (day + m) ((m + 1) * hours)) 12001 0
  unfold untN; omega

set_option maxRecDepth 100000 in
theorem Runtil_ok (g : Int × Int) (L : List En) (o : Option Addr) (c : Nat) (num day hours : Int) (w : World) (hrd : Rd 4 En.cs (.slice o L.length c) L w) (hE : EB L) (hg : g.1 ≤ 2000) (h2 : 0 ≤ day ∧ day ≤ 10000) (h3 : 0 ≤ hours ∧ hours ≤ 24) :
    Calls Try.prog 26 #[.agg #[iv g.1, iv g.2], .slice o L.length c, iv num, iv day, iv hours] w fun e w' => e = .returned (iv (day + untN g (stL num day L) day hours)) ∧ Below w.heap.size w w' := by
  refine calls_val env mixed Try.func26 has26 Try.ntmps26 [.agg #[iv g.1, iv g.2], .slice o L.length c, iv num, iv day, iv hours] (by simp) ?_
  have hbd := stL_bdl (num := num) (day := day) hE
  have hu := untN_st (g := g) (s := stL num day L) (day := day) (hours := hours) hg hbd.2.2 h2.1
  have hle := untN_le (g := g) (s := stL num day L) (day := day) (hours := hours)
  repeat'
    conv => whnf
    first
      | refine And.intro (a := drawB _ = true) (by kernel_rfl) ?_
      | refine And.intro (a := (_ : Bool) = true) rfl ?_
      | refine And.intro (a := (_ : Bool) = true ∧ (_ : Bool) = true) ⟨rfl, rfl⟩ ?_
      | refine And.intro (a := (_ : Bool) = true ∧ (_ : List _) = []) ⟨rfl, rfl⟩ ?_
      | refine And.intro (a := IR _ _) (And.intro (by omega) (by omega)) ?_
      | refine wrapE (And.intro (by omega) (by omega)) ?_
      | refine And.intro (a := (0 : Int) ≤ _ ∧ _ < _) (And.intro (by omega) (by omega)) ?_
      | refine And.intro (a := (_ : Bool) = true) (by simp only [Nat.beq_refl]; rfl) ?_
      | refine And.intro (a := ((_ : Bool) = true → 1 ≤ _) ∧ _ ≤ 9223372036854775807 ∧ _ ≤ 140737488355328) ⟨fun h => (by first | omega | cases h), by omega, by omega⟩ ?_
      | refine splT ?_
      | refine splF ?_
      | refine splNot ?_
      | (refine splIn (fun hc => ?_) (fun hc => ?_) <;> first | (exfalso; omega) | (exfalso; dsimp only at hc; omega) | skip)
      | (refine splD (fun hc => ?_) (fun hc => ?_) <;> first | (exfalso; omega) | (exfalso; dsimp only at hc; omega) | skip)
      | (refine splE (fun hc => ?_) (fun hc => ?_) <;> first | (exfalso; omega) | (exfalso; dsimp only at hc; omega) | skip)
      | (refine splNE (fun hc => ?_) (fun hc => ?_) <;> first | (exfalso; omega) | (exfalso; dsimp only at hc; omega) | skip)
  refine loopE (fun k : Nat => [(1, .v (.slice o L.length c)), (2, .v (iv num)), (3, .v (iv day)), (4, .v (iv hours)), (5, .ptr 0 0), (11, .v (iv (day + k)))]) (fun _ => [(0, .cells [.v (iv g.1), .v (iv g.2)] 40)])
    (fun k => k ≤ untN g (stL num day L) day hours) (fun k => untN g (stL num day L) day hours - k) 0 (Nat.zero_le _) ⟨rfl, rfl, rfl, rfl, rfl, by rw [Int.natCast_zero, Int.add_zero]; rfl, trivial⟩ ⟨rfl, trivial⟩ (fun _ => ⟨rfl, rfl⟩) ?_
  intro k hk
  have hik : day + ((k + 1 : Nat) : Int) = day + (k : Int) + 1 := by omega
  have hm0 : 0 ≤ ((k : Int) + 1) * hours := Int.mul_nonneg (by omega) h3.1
  have hm1 : ((k : Int) + 1) * hours ≤ 12002 * 24 := Int.mul_le_mul (by omega) h3.2 h3.1 (by omega)
  have hmul : (day + (k : Int) - day + 1) * hours = ((k : Int) + 1) * hours := by congr 1; omega
  have hS := fun w' hb => Rstale_ok g L o c num day (day + k) (((k : Int) + 1) * hours) w' (hrd.below hb) hE (by omega) (by omega)
  rw [← hmul] at hS hm0 hm1
  by_cases hlt : k < untN g (stL num day L) day hours
  · have hno := untN_no hlt
    rw [← hmul] at hno
    rw [hno] at hS
    repeat'
      conv => whnf
      first
        | refine And.intro (a := drawB _ = true) (by kernel_rfl) ?_
        | refine And.intro (a := (_ : Bool) = true) rfl ?_
        | refine And.intro (a := (_ : Bool) = true ∧ (_ : Bool) = true) ⟨rfl, rfl⟩ ?_
        | refine And.intro (a := (_ : Bool) = true ∧ (_ : List _) = []) ⟨rfl, rfl⟩ ?_
        | refine And.intro (a := IR _ _) (And.intro (by omega) (by omega)) ?_
        | refine wrapE (And.intro (by omega) (by omega)) ?_
        | refine And.intro (a := (0 : Int) ≤ _ ∧ _ < _) (And.intro (by omega) (by omega)) ?_
        | refine And.intro (a := (_ : Bool) = true) (by simp only [Nat.beq_refl]; rfl) ?_
        | refine And.intro (a := ((_ : Bool) = true → 1 ≤ _) ∧ _ ≤ 9223372036854775807 ∧ _ ≤ 140737488355328) ⟨fun h => (by first | omega | cases h), by omega, by omega⟩ ?_
        | refine splT ?_
        | refine splF ?_
        | refine splNot ?_
        | (refine splIn (fun hc => ?_) (fun hc => ?_) <;> first | (exfalso; omega) | (exfalso; dsimp only at hc; omega) | skip)
        | (refine splD (fun hc => ?_) (fun hc => ?_) <;> first | (exfalso; omega) | (exfalso; dsimp only at hc; omega) | skip)
        | (refine splE (fun hc => ?_) (fun hc => ?_) <;> first | (exfalso; omega) | (exfalso; dsimp only at hc; omega) | skip)
        | (refine splNE (fun hc => ?_) (fun hc => ?_) <;> first | (exfalso; omega) | (exfalso; dsimp only at hc; omega) | skip)
        | ((with_reducible show CallEv _ _ 24 _ _ _ _ _); refine callE (k := 24) (fun β w' hbw => hS _ hbw) ?_)
    exact ⟨k + 1, by omega, by omega, Ent.weak rfl ⟨rfl, rfl, rfl, rfl, rfl, by rw [hik]; rfl, trivial⟩ ⟨rfl, trivial⟩ fun _ h => h⟩
  · obtain rfl : k = untN g (stL num day L) day hours := by omega
    rw [← hmul] at hu
    rw [hu] at hS
    repeat'
      conv => whnf
      first
        | refine And.intro (a := drawB _ = true) (by kernel_rfl) ?_
        | refine And.intro (a := (_ : Bool) = true) rfl ?_
        | refine And.intro (a := (_ : Bool) = true ∧ (_ : Bool) = true) ⟨rfl, rfl⟩ ?_
        | refine And.intro (a := (_ : Bool) = true ∧ (_ : List _) = []) ⟨rfl, rfl⟩ ?_
        | refine And.intro (a := IR _ _) (And.intro (by omega) (by omega)) ?_
        | refine wrapE (And.intro (by omega) (by omega)) ?_
        | refine And.intro (a := (0 : Int) ≤ _ ∧ _ < _) (And.intro (by omega) (by omega)) ?_
        | refine And.intro (a := (_ : Bool) = true) (by simp only [Nat.beq_refl]; rfl) ?_
        | refine And.intro (a := ((_ : Bool) = true → 1 ≤ _) ∧ _ ≤ 9223372036854775807 ∧ _ ≤ 140737488355328) ⟨fun h => (by first | omega | cases h), by omega, by omega⟩ ?_
        | refine splT ?_
        | refine splF ?_
        | refine splNot ?_
        | (refine splIn (fun hc => ?_) (fun hc => ?_) <;> first | (exfalso; omega) | (exfalso; dsimp only at hc; omega) | skip)
        | (refine splD (fun hc => ?_) (fun hc => ?_) <;> first | (exfalso; omega) | (exfalso; dsimp only at hc; omega) | skip)
        | (refine splE (fun hc => ?_) (fun hc => ?_) <;> first | (exfalso; omega) | (exfalso; dsimp only at hc; omega) | skip)
        | (refine splNE (fun hc => ?_) (fun hc => ?_) <;> first | (exfalso; omega) | (exfalso; dsimp only at hc; omega) | skip)
        | ((with_reducible show CallEv _ _ 24 _ _ _ _ _); refine callE (k := 24) (fun β w' hbw => hS _ hbw) ?_)
    exact ⟨fun β => rfl, fun w' h => h⟩
end Go.Proofs.Ytaciigegbgnadaa
