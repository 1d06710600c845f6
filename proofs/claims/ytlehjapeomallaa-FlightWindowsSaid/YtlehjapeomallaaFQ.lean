/- The reference's words on flights: Right and Catches return what the program's return; the conversion of a flight returns the same flight in new memory. -/
import Derived.Test.YtlehjapeomallaaFP
namespace Go.Proofs.Ytlehjapeomallaa
open Go Sx Go.RowKit
set_option linter.unusedSimpArgs false

/-- A slice that grows by append from nil on: its value, and its block. -/
def oSV {α : Type} (i j : Nat) : List α → SV
  | [] => .v (.slice none 0 0)
  | _ :: r => .os i j (r.length + 1)
def oM {α : Type} (i j sz : Nat) (f : α → List Value) (ty : TypeId) : List α → List (Nat × Blk)
  | [] => []
  | a :: r => [(i, .own j (r.length + 1) sz ((a :: r).flatMap f) ty)]

theorem all_take {bs : List Bx} {k : Nat} {b : Bx} (h : bs[k]? = some b) : (bs.take (k + 1)).all (·.ok 10000000) = ((bs.take k).all (·.ok 10000000) && b.ok 10000000) := by
  rw [List.take_add_one, h]; simp

theorem Boxed_ok2 (b : Bx) (w : World) :
    Calls Try.prog 64 #[.agg #[iv b.x.lo, iv b.x.hi, iv b.z.lo, iv b.z.hi], iv 10000000] w fun e w' => e = .returned (.bool (b.ok 10000000)) ∧ Below w.heap.size w w' := Boxed_ok b 10000000 w (by omega) (by omega)

set_option maxRecDepth 100000 in
theorem Right_ok (g : Fg) (bs : List Bx) (w : World) (hr : Rd 4 Bx.cs (.slice g.o g.n g.c) bs w) (hl : bs.length ≤ 1000000) :
    Calls Try.prog 26 #[g.v] w fun e w' => e = .returned (.bool (g.ok bs)) ∧ Below w.heap.size w w' := by
  have hn : g.n = bs.length := hr.len
  have hdone : bs.all (·.ok 10000000) = true → g.ok bs = (g.f.ok && decide ((g.n : Int) ≥ 1) && decide ((g.n : Int) ≤ 600) && inB g.re 0 10000000 && inB g.so 1 100 && inB g.be 0 100000000 && inB g.le 0 300 && inB g.mo g.le 300) := fun h => by
    unfold Fg.ok inB
    rw [h, Bool.and_true]
    simp only [ge_iff_le, Bool.and_assoc]
  rcases Nat.eq_zero_or_pos bs.length with h0 | h0
  · have e0 : bs = [] := List.eq_nil_of_length_eq_zero h0
    subst e0
    have hnn : g.n = 0 := hn
    have hgo : g.ok [] = false := by unfold Fg.ok inB; simp [hnn]
    rw [hgo]
    refine calls_val env mixed Try.func26 has26 Try.ntmps26 [g.v] (by simp) ?_
    repeat'
      conv => whnf
      first
        | refine And.intro (a := drawB _ = true) (by kernel_rfl) ?_
        | refine And.intro (a := (_ : Bool) = true) rfl ?_
        | refine And.intro (a := (_ : Bool) = true ∧ (_ : Bool) = true) ⟨rfl, rfl⟩ ?_
        | refine And.intro (a := (_ : Bool) = true ∧ (_ : List _) = []) ⟨rfl, rfl⟩ ?_
        | refine And.intro (a := IR _ _) (And.intro (by omega) (by omega)) ?_
        | refine And.intro (a := (0 : Int) ≤ _ ∧ _ < _) (And.intro (by omega) (by omega)) ?_
        | refine And.intro (a := (_ : Bool) = true) (by simp only [Nat.beq_refl]; rfl) ?_
        | refine And.intro (a := ((_ : Bool) = true → 1 ≤ _) ∧ _ ≤ 9223372036854775807 ∧ _ ≤ 140737488355328) ⟨fun h => (by first | omega | cases h), by omega, by omega⟩ ?_
        | refine splT ?_
        | refine splF ?_
        | refine splNot ?_
        | (refine splIn (fun hc => ?_) (fun hc => ?_) <;> first | (exfalso; omega) | (exfalso; dsimp only at hc; omega) | skip)
        | (refine splD (fun hc => ?_) (fun hc => ?_) <;> first | (exfalso; omega) | (exfalso; dsimp only at hc; omega) | skip)
        | (refine splE (fun hc => ?_) (fun hc => ?_) <;> first | (exfalso; omega) | (exfalso; dsimp only at hc; omega) | skip)
        | (refine splNE (fun hc => ?_) (fun hc => ?_) <;> first | (exfalso; omega) | (exfalso; dsimp only at hc; omega) | skip)
    refine loopE (fun _ : Unit => [(1, .ptr 0 0), (3, .ptr 1 0), (4, .v (iv 0))]) (fun _ => [(0, .cells g.ss 41), (1, .cells [.v (.slice g.o g.n g.c), .v (iv g.re), .v (iv g.so), .v (iv g.be)] 39)]) (fun _ => True) (fun _ => 0) () trivial ⟨rfl, rfl, rfl, trivial⟩ ⟨rfl, rfl, trivial⟩ (fun _ => ⟨rfl, rfl⟩) ?_
    intro _ _
    repeat'
      conv => whnf
      first
        | refine And.intro (a := drawB _ = true) (by kernel_rfl) ?_
        | refine And.intro (a := (_ : Bool) = true) rfl ?_
        | refine And.intro (a := (_ : Bool) = true ∧ (_ : Bool) = true) ⟨rfl, rfl⟩ ?_
        | refine And.intro (a := (_ : Bool) = true ∧ (_ : List _) = []) ⟨rfl, rfl⟩ ?_
        | refine And.intro (a := IR _ _) (And.intro (by omega) (by omega)) ?_
        | refine And.intro (a := (0 : Int) ≤ _ ∧ _ < _) (And.intro (by omega) (by omega)) ?_
        | refine And.intro (a := (_ : Bool) = true) (by simp only [Nat.beq_refl]; rfl) ?_
        | refine And.intro (a := ((_ : Bool) = true → 1 ≤ _) ∧ _ ≤ 9223372036854775807 ∧ _ ≤ 140737488355328) ⟨fun h => (by first | omega | cases h), by omega, by omega⟩ ?_
        | refine splT ?_
        | refine splF ?_
        | refine splNot ?_
        | (refine splIn (fun hc => ?_) (fun hc => ?_) <;> first | (exfalso; omega) | (exfalso; dsimp only at hc; omega) | skip)
        | (refine splD (fun hc => ?_) (fun hc => ?_) <;> first | (exfalso; omega) | (exfalso; dsimp only at hc; omega) | skip)
        | (refine splE (fun hc => ?_) (fun hc => ?_) <;> first | (exfalso; omega) | (exfalso; dsimp only at hc; omega) | skip)
        | (refine splNE (fun hc => ?_) (fun hc => ?_) <;> first | (exfalso; omega) | (exfalso; dsimp only at hc; omega) | skip)
        | ((with_reducible show CallEv _ _ 37 _ _ _ _ _); refine callE (k := 37) (fun β w' hbw => RightFlyer_ok g.f _) ?_)
        | refine splB (fun hc => ?_) (fun hc => ?_)
    all_goals first | exact ⟨fun β => rfl, fun w' h => h⟩ | skip
  · obtain ⟨hn2, ad, ho, hc⟩ := hr.some (by omega)
    show Calls Try.prog 26 #[g.vo g.o] w _
    rw [ho]
    refine calls_val env mixed Try.func26 has26 Try.ntmps26 [g.vo (some ad)] (by simp) ?_
    repeat'
      conv => whnf
      first
        | refine And.intro (a := drawB _ = true) (by kernel_rfl) ?_
        | refine And.intro (a := (_ : Bool) = true) rfl ?_
        | refine And.intro (a := (_ : Bool) = true ∧ (_ : Bool) = true) ⟨rfl, rfl⟩ ?_
        | refine And.intro (a := (_ : Bool) = true ∧ (_ : List _) = []) ⟨rfl, rfl⟩ ?_
        | refine And.intro (a := IR _ _) (And.intro (by omega) (by omega)) ?_
        | refine And.intro (a := (0 : Int) ≤ _ ∧ _ < _) (And.intro (by omega) (by omega)) ?_
        | refine And.intro (a := (_ : Bool) = true) (by simp only [Nat.beq_refl]; rfl) ?_
        | refine And.intro (a := ((_ : Bool) = true → 1 ≤ _) ∧ _ ≤ 9223372036854775807 ∧ _ ≤ 140737488355328) ⟨fun h => (by first | omega | cases h), by omega, by omega⟩ ?_
        | refine splT ?_
        | refine splF ?_
        | refine splNot ?_
        | (refine splIn (fun hc => ?_) (fun hc => ?_) <;> first | (exfalso; omega) | (exfalso; dsimp only at hc; omega) | skip)
        | (refine splD (fun hc => ?_) (fun hc => ?_) <;> first | (exfalso; omega) | (exfalso; dsimp only at hc; omega) | skip)
        | (refine splE (fun hc => ?_) (fun hc => ?_) <;> first | (exfalso; omega) | (exfalso; dsimp only at hc; omega) | skip)
        | (refine splNE (fun hc => ?_) (fun hc => ?_) <;> first | (exfalso; omega) | (exfalso; dsimp only at hc; omega) | skip)
    refine loopE (fun k : Nat => [(1, .ptr 0 0), (3, .ptr 1 0), (4, .v (iv k))]) (fun _ => [(0, .cells [.v (iv g.f.a.x.lo), .v (iv g.f.a.x.hi), .v (iv g.f.a.z.lo), .v (iv g.f.a.z.hi), .v (iv g.f.s.x.lo), .v (iv g.f.s.x.hi), .v (iv g.f.s.z.lo), .v (iv g.f.s.z.hi), .v (iv g.f.m), .v (.slice (some ad) g.n g.c), .v (iv g.re), .v (iv g.so), .v (iv g.be), .v (iv g.le), .v (iv g.mo)] 41), (1, .cells [.v (.slice (some ad) g.n g.c), .v (iv g.re), .v (iv g.so), .v (iv g.be)] 39)]) (fun k => k ≤ bs.length ∧ (bs.take k).all (·.ok 10000000) = true) (fun k => bs.length - k) 0 ⟨Nat.zero_le _, rfl⟩ ⟨rfl, rfl, rfl, trivial⟩ ⟨rfl, rfl, trivial⟩ (fun _ => ⟨rfl, rfl⟩) ?_
    intro k ⟨hk, ht⟩
    rcases Nat.lt_or_ge k bs.length with hkl | hkl
    · obtain ⟨b, hb⟩ : ∃ b, bs[k]? = some b := ⟨_, List.getElem?_eq_getElem hkl⟩
      have e1 : ∀ w', Below w.heap.size w w' → ∀ j v, (Bx.cs b)[j]? = some v → w'.cell? ((ad.add (((k : Int).toNat) * 4)).add j) = some v := fun w' hw' j v hv => by
        rw [Int.toNat_natCast]; exact ext_below hw' (hc _ _ hb j v hv)
      repeat'
        conv => whnf
        first
          | refine And.intro (a := drawB _ = true) (by kernel_rfl) ?_
          | refine And.intro (a := (_ : Bool) = true) rfl ?_
          | refine And.intro (a := (_ : Bool) = true ∧ (_ : Bool) = true) ⟨rfl, rfl⟩ ?_
          | refine And.intro (a := (_ : Bool) = true ∧ (_ : List _) = []) ⟨rfl, rfl⟩ ?_
          | refine And.intro (a := IR _ _) (And.intro (by omega) (by omega)) ?_
          | refine And.intro (a := (0 : Int) ≤ _ ∧ _ < _) (And.intro (by omega) (by omega)) ?_
          | refine And.intro (a := (_ : Bool) = true) (by simp only [Nat.beq_refl]; rfl) ?_
          | refine And.intro (a := ((_ : Bool) = true → 1 ≤ _) ∧ _ ≤ 9223372036854775807 ∧ _ ≤ 140737488355328) ⟨fun h => (by first | omega | cases h), by omega, by omega⟩ ?_
          | refine splT ?_
          | refine splF ?_
          | refine splNot ?_
          | (refine splIn (fun hc => ?_) (fun hc => ?_) <;> first | (exfalso; omega) | (exfalso; dsimp only at hc; omega) | skip)
          | (refine splD (fun hc => ?_) (fun hc => ?_) <;> first | (exfalso; omega) | (exfalso; dsimp only at hc; omega) | skip)
          | (refine splE (fun hc => ?_) (fun hc => ?_) <;> first | (exfalso; omega) | (exfalso; dsimp only at hc; omega) | skip)
          | (refine splNE (fun hc => ?_) (fun hc => ?_) <;> first | (exfalso; omega) | (exfalso; dsimp only at hc; omega) | skip)
          | refine Exists.intro (α := List Value) (Bx.cs b) ⟨⟨rfl, e1⟩, ?_⟩
          | ((with_reducible show CallEv _ _ 64 _ _ _ _ _); refine callE (k := 64) (fun β w' hbw => Boxed_ok2 b _) ?_)
          | refine splB (fun hc => ?_) (fun hc => ?_)
      · exact ⟨k + 1, ⟨by omega, by rw [all_take hb, ht]; simp_all⟩, by omega, Ent.weak rfl ⟨rfl, rfl, rfl, trivial⟩ ⟨rfl, rfl, trivial⟩ fun _ h => h⟩
      · refine ⟨fun β => ?_, fun w' h => h⟩
        have hf : bs.all (·.ok 10000000) = false := by
          rw [List.all_eq_false]
          exact ⟨b, List.mem_of_getElem? hb, by simp_all⟩
        unfold Fg.ok
        rw [hf]; simp; rfl
    · rw [List.take_of_length_le hkl] at ht
      rw [hdone ht]
      have hkn : ¬ (k : Int) < (g.n : Int) := by omega
      clear hn hn2
      repeat'
        conv => whnf
        first
          | refine And.intro (a := drawB _ = true) (by kernel_rfl) ?_
          | refine And.intro (a := (_ : Bool) = true) rfl ?_
          | refine And.intro (a := (_ : Bool) = true ∧ (_ : Bool) = true) ⟨rfl, rfl⟩ ?_
          | refine And.intro (a := (_ : Bool) = true ∧ (_ : List _) = []) ⟨rfl, rfl⟩ ?_
          | refine And.intro (a := IR _ _) (And.intro (by omega) (by omega)) ?_
          | refine And.intro (a := (0 : Int) ≤ _ ∧ _ < _) (And.intro (by omega) (by omega)) ?_
          | refine And.intro (a := (_ : Bool) = true) (by simp only [Nat.beq_refl]; rfl) ?_
          | refine And.intro (a := ((_ : Bool) = true → 1 ≤ _) ∧ _ ≤ 9223372036854775807 ∧ _ ≤ 140737488355328) ⟨fun h => (by first | omega | cases h), by omega, by omega⟩ ?_
          | refine splT ?_
          | refine splF ?_
          | refine splNot ?_
          | (refine splIn (fun hc => ?_) (fun hc => ?_) <;> first | (exfalso; omega) | (exfalso; dsimp only at hc; omega) | skip)
          | (refine splD (fun hc => ?_) (fun hc => ?_) <;> first | (exfalso; omega) | (exfalso; dsimp only at hc; omega) | skip)
          | (refine splE (fun hc => ?_) (fun hc => ?_) <;> first | (exfalso; omega) | (exfalso; dsimp only at hc; omega) | skip)
          | (refine splNE (fun hc => ?_) (fun hc => ?_) <;> first | (exfalso; omega) | (exfalso; dsimp only at hc; omega) | skip)
          | ((with_reducible show CallEv _ _ 37 _ _ _ _ _); refine callE (k := 37) (fun β w' hbw => RightFlyer_ok g.f _) ?_)
          | ((with_reducible show CallEv _ _ 19 _ _ _ _ _); refine callE (k := 19) (fun β w' hbw => In_ok _ _ _ _) ?_)
          | refine splB (fun hc => ?_) (fun hc => ?_)
      all_goals exact ⟨fun β => congrArg Value.bool (by rw [Bool.eq_iff_iff]; simp only [Bool.and_eq_true, decide_eq_true_eq, inB_iff, Bool.false_eq_true, false_iff, true_and, and_true, false_and, and_false, not_false_eq_true, *]), fun w' h => h⟩

theorem oEnd {α : Type} {f : α → List Value} {sz i j ty : Nat} {n : Nat} {β : Nat → Nat} {w' : World} (hf : ∀ a, (f a).length = sz) (a : α) (L : List α)
    (h : St n (fun w2 => (Blk.own j (L.length + 1) sz ((a :: L).flatMap f) ty).ok β w2 (β i)) w') :
    ∃ y : Option Addr × Nat, (oSV i j (a :: L)).c β = sV (L.length + 1) y ∧ St n (Rd sz f (sV (L.length + 1) y) (a :: L)) w' :=
  ⟨(some ⟨β i, 0, none⟩, β j), rfl, h.imp fun _ q => Rd.of_owns (sz := sz) (f := f) hf rfl rfl q⟩
theorem oNil {α : Type} {f : α → List Value} {sz i j : Nat} {n : Nat} {β : Nat → Nat} {w' : World} : ∃ y : Option Addr × Nat, (oSV i j ([] : List α)).c β = sV 0 y ∧ St n (Rd sz f (sV 0 y) ([] : List α)) w' :=
  ⟨(none, 0), rfl, fun _ _ => .inl ⟨rfl, rfl⟩⟩

theorem Rsure_k (g : Fg) (bs : List Bx) (r : Int) (k : Nat) (w : World) (hg : g.ok bs = true) (hr : Rd 4 Bx.cs (.slice g.o g.n g.c) bs w) (hr0 : 0 ≤ r ∧ r ≤ 100000) (hk : k < g.k) :
    Calls Try.prog 47 #[g.v, iv r, iv (r + g.le + k)] w fun e w' => e = .returned (.bool (sureB g bs r k)) ∧ Below w.heap.size w w' := by
  have hg' := Fg.ok_iff.1 hg
  have hkk : (g.k : Int) = g.mo - g.le + 1 := by unfold Fg.k; omega
  have := Rsure_ok g bs r (r + g.le + k) w hg hr hr0 (by omega)
  rwa [show sureAt g bs r (r + g.le + k) = sureB g bs r k from by
    unfold sureAt
    rw [show inB (r + g.le + k - r) g.le g.mo = true from inB_iff.2 (by omega), Bool.true_and, show r + g.le + (k : Int) - r - g.le = k from by omega]] at this

set_option maxRecDepth 100000 in
theorem Rcatches_ok (g : Fg) (bs : List Bx) (r : Int) (w : World) (hg : g.ok bs = true) (hrd : Rd 4 Bx.cs (.slice g.o g.n g.c) bs w) (hr0 : 0 ≤ r ∧ r ≤ 100000) :
    Calls Try.prog 28 #[g.v, iv r] w fun e w' => ∃ y : Option Addr × Nat, e = .returned (sV (catL g bs r g.k).length y) ∧ Below w.heap.size w w' ∧ St w.heap.size (Rd 1 iF (sV (catL g bs r g.k).length y) (catL g bs r g.k)) w' := by
  refine calls_fam env mixed Try.func28 has28 Try.ntmps28 [g.v, iv r] (by simp) ?_
  have hg' := Fg.ok_iff.1 hg
  have hkk : (g.k : Int) = g.mo - g.le + 1 := by unfold Fg.k; omega
  repeat'
    conv => whnf
    first
      | refine And.intro (a := drawB _ = true) (by kernel_rfl) ?_
      | refine And.intro (a := (_ : Bool) = true) rfl ?_
      | refine And.intro (a := (_ : Bool) = true ∧ (_ : Bool) = true) ⟨rfl, rfl⟩ ?_
      | refine And.intro (a := (_ : Bool) = true ∧ (_ : List _) = []) ⟨rfl, rfl⟩ ?_
      | refine And.intro (a := IR _ _) (And.intro (by omega) (by omega)) ?_
      | refine And.intro (a := (0 : Int) ≤ _ ∧ _ < _) (And.intro (by omega) (by omega)) ?_
      | refine And.intro (a := (_ : Bool) = true) (by simp only [Nat.beq_refl]; rfl) ?_
      | refine And.intro (a := ((_ : Bool) = true → 1 ≤ _) ∧ _ ≤ 9223372036854775807 ∧ _ ≤ 140737488355328) ⟨fun h => (by first | omega | cases h), by omega, by omega⟩ ?_
      | refine splT ?_
      | refine splF ?_
      | refine splNot ?_
      | (refine splIn (fun hc => ?_) (fun hc => ?_) <;> first | (exfalso; omega) | (exfalso; dsimp only at hc; omega) | skip)
      | (refine splD (fun hc => ?_) (fun hc => ?_) <;> first | (exfalso; omega) | (exfalso; dsimp only at hc; omega) | skip)
      | (refine splE (fun hc => ?_) (fun hc => ?_) <;> first | (exfalso; omega) | (exfalso; dsimp only at hc; omega) | skip)
      | (refine splNE (fun hc => ?_) (fun hc => ?_) <;> first | (exfalso; omega) | (exfalso; dsimp only at hc; omega) | skip)
  refine loopN 3 (fun k : Nat => [(1, .v (iv r)), (2, .ptr 0 0), (5, oSV 1 2 (catL g bs r k)), (6, .v (iv (r + g.le + k)))]) (fun k => (0, .cells g.ss 41) :: oM 1 2 1 iF 3 (catL g bs r k))
    (fun k => k ≤ g.k) (fun k => g.k - k) 0 (Nat.zero_le _) ⟨rfl, rfl, rfl, by rw [Int.ofNat_zero, Int.add_zero]; rfl, trivial⟩ ⟨rfl, trivial⟩ (fun k _ => by cases catL g bs r k <;> exact ⟨rfl, rfl⟩) ?_
  intro k hk
  have hlen := catL_len g bs r k
  have hi : r + g.le + ((k + 1 : Nat) : Int) = r + g.le + (k : Nat) + 1 := by omega
  rcases Nat.lt_or_ge k g.k with hlt | hge
  · have hsu := fun w' (hw' : Below w.heap.size w w') => Rsure_k g bs r k w' hg (hrd.below hw') hr0 hlt
    have hcat : catL g bs r (k + 1) = catL g bs r k ++ (if sureB g bs r k = true then [r + g.le + k] else []) := rfl
    generalize sureB g bs r k = sb at hsu hcat
    generalize catL g bs r k = L at *
    cases sb with
    | false =>
      rw [if_neg (by simp), List.append_nil] at hcat
      repeat'
        conv => whnf
        first
          | refine And.intro (a := drawB _ = true) (by kernel_rfl) ?_
          | refine And.intro (a := (_ : Bool) = true) rfl ?_
          | refine And.intro (a := (_ : Bool) = true ∧ (_ : Bool) = true) ⟨rfl, rfl⟩ ?_
          | refine And.intro (a := (_ : Bool) = true ∧ (_ : List _) = []) ⟨rfl, rfl⟩ ?_
          | refine And.intro (a := IR _ _) (And.intro (by omega) (by omega)) ?_
          | refine And.intro (a := (0 : Int) ≤ _ ∧ _ < _) (And.intro (by omega) (by omega)) ?_
          | refine And.intro (a := (_ : Bool) = true) (by simp only [Nat.beq_refl]; rfl) ?_
          | refine And.intro (a := ((_ : Bool) = true → 1 ≤ _) ∧ _ ≤ 9223372036854775807 ∧ _ ≤ 140737488355328) ⟨fun h => (by first | omega | cases h), by omega, by omega⟩ ?_
          | refine splT ?_
          | refine splF ?_
          | refine splNot ?_
          | (refine splIn (fun hc => ?_) (fun hc => ?_) <;> first | (exfalso; omega) | (exfalso; dsimp only at hc; omega) | skip)
          | (refine splD (fun hc => ?_) (fun hc => ?_) <;> first | (exfalso; omega) | (exfalso; dsimp only at hc; omega) | skip)
          | (refine splE (fun hc => ?_) (fun hc => ?_) <;> first | (exfalso; omega) | (exfalso; dsimp only at hc; omega) | skip)
          | (refine splNE (fun hc => ?_) (fun hc => ?_) <;> first | (exfalso; omega) | (exfalso; dsimp only at hc; omega) | skip)
          | ((with_reducible show CallEv _ _ 47 _ _ _ _ _); refine callE (k := 47) (fun β w' hbw => hsu _ hbw) ?_)
      exact ⟨k + 1, by omega, by omega, Ent.weak rfl ⟨rfl, rfl, by rw [hcat]; rfl, by rw [hi]; rfl, trivial⟩ (by rw [hcat]; cases L <;> exact ⟨rfl, by first | trivial | exact ⟨rfl, trivial⟩⟩) fun _ h => h⟩
    | true =>
      rw [if_pos rfl] at hcat
      cases L with
      | nil =>
        repeat'
          conv => whnf
          first
            | refine And.intro (a := drawB _ = true) (by kernel_rfl) ?_
            | refine And.intro (a := (_ : Bool) = true) rfl ?_
            | refine And.intro (a := (_ : Bool) = true ∧ (_ : Bool) = true) ⟨rfl, rfl⟩ ?_
            | refine And.intro (a := (_ : Bool) = true ∧ (_ : List _) = []) ⟨rfl, rfl⟩ ?_
            | refine And.intro (a := IR _ _) (And.intro (by omega) (by omega)) ?_
            | refine And.intro (a := (0 : Int) ≤ _ ∧ _ < _) (And.intro (by omega) (by omega)) ?_
            | refine And.intro (a := (_ : Bool) = true) (by simp only [Nat.beq_refl]; rfl) ?_
            | refine And.intro (a := ((_ : Bool) = true → 1 ≤ _) ∧ _ ≤ 9223372036854775807 ∧ _ ≤ 140737488355328) ⟨fun h => (by first | omega | cases h), by omega, by omega⟩ ?_
            | refine splT ?_
            | refine splF ?_
            | refine splNot ?_
            | (refine splIn (fun hc => ?_) (fun hc => ?_) <;> first | (exfalso; omega) | (exfalso; dsimp only at hc; omega) | skip)
            | (refine splD (fun hc => ?_) (fun hc => ?_) <;> first | (exfalso; omega) | (exfalso; dsimp only at hc; omega) | skip)
            | (refine splE (fun hc => ?_) (fun hc => ?_) <;> first | (exfalso; omega) | (exfalso; dsimp only at hc; omega) | skip)
            | (refine splNE (fun hc => ?_) (fun hc => ?_) <;> first | (exfalso; omega) | (exfalso; dsimp only at hc; omega) | skip)
            | ((with_reducible show CallEv _ _ 47 _ _ _ _ _); refine callE (k := 47) (fun β w' hbw => hsu _ hbw) ?_)
        exact ⟨k + 1, by omega, by omega, Ent.ren (rho [(1, 4), (2, 5)]) rfl (by rw [hcat]; rfl) ⟨rfl, rfl, by rw [hcat]; rfl, by rw [hi]; rfl, trivial⟩ (by rw [hcat]; exact ⟨rfl, rfl, trivial⟩) fun _ h => h⟩
      | cons a L =>
        simp only [List.length_cons] at hlen
        repeat'
          conv => whnf
          first
            | refine And.intro (a := drawB _ = true) (by kernel_rfl) ?_
            | refine And.intro (a := (_ : Bool) = true) rfl ?_
            | refine And.intro (a := (_ : Bool) = true ∧ (_ : Bool) = true) ⟨rfl, rfl⟩ ?_
            | refine And.intro (a := (_ : Bool) = true ∧ (_ : List _) = []) ⟨rfl, rfl⟩ ?_
            | refine And.intro (a := IR _ _) (And.intro (by omega) (by omega)) ?_
            | refine And.intro (a := (0 : Int) ≤ _ ∧ _ < _) (And.intro (by omega) (by omega)) ?_
            | refine And.intro (a := (_ : Bool) = true) (by simp only [Nat.beq_refl]; rfl) ?_
            | refine And.intro (a := ((_ : Bool) = true → 1 ≤ _) ∧ _ ≤ 9223372036854775807 ∧ _ ≤ 140737488355328) ⟨fun h => (by first | omega | cases h), by omega, by omega⟩ ?_
            | refine splT ?_
            | refine splF ?_
            | refine splNot ?_
            | (refine splIn (fun hc => ?_) (fun hc => ?_) <;> first | (exfalso; omega) | (exfalso; dsimp only at hc; omega) | skip)
            | (refine splD (fun hc => ?_) (fun hc => ?_) <;> first | (exfalso; omega) | (exfalso; dsimp only at hc; omega) | skip)
            | (refine splE (fun hc => ?_) (fun hc => ?_) <;> first | (exfalso; omega) | (exfalso; dsimp only at hc; omega) | skip)
            | (refine splNE (fun hc => ?_) (fun hc => ?_) <;> first | (exfalso; omega) | (exfalso; dsimp only at hc; omega) | skip)
            | ((with_reducible show CallEv _ _ 47 _ _ _ _ _); refine callE (k := 47) (fun β w' hbw => hsu _ hbw) ?_)
        exact ⟨k + 1, by omega, by omega, Ent.ren (rho [(1, 4), (2, 5)]) rfl (by rw [hcat]; rfl) ⟨rfl, rfl, by rw [hcat]; simp [oSV]; rfl, by rw [hi]; rfl, trivial⟩ (by rw [hcat]; exact ⟨rfl, by simp [oM]; rfl, trivial⟩) fun _ h => h⟩
  · have hk' : k = g.k := by omega
    subst hk'
    generalize catL g bs r g.k = L at *
    cases L with
    | nil =>
      repeat'
        conv => whnf
        first
          | refine And.intro (a := drawB _ = true) (by kernel_rfl) ?_
          | refine And.intro (a := (_ : Bool) = true) rfl ?_
          | refine And.intro (a := (_ : Bool) = true ∧ (_ : Bool) = true) ⟨rfl, rfl⟩ ?_
          | refine And.intro (a := (_ : Bool) = true ∧ (_ : List _) = []) ⟨rfl, rfl⟩ ?_
          | refine And.intro (a := IR _ _) (And.intro (by omega) (by omega)) ?_
          | refine And.intro (a := (0 : Int) ≤ _ ∧ _ < _) (And.intro (by omega) (by omega)) ?_
          | refine And.intro (a := (_ : Bool) = true) (by simp only [Nat.beq_refl]; rfl) ?_
          | refine And.intro (a := ((_ : Bool) = true → 1 ≤ _) ∧ _ ≤ 9223372036854775807 ∧ _ ≤ 140737488355328) ⟨fun h => (by first | omega | cases h), by omega, by omega⟩ ?_
          | refine splT ?_
          | refine splF ?_
          | refine splNot ?_
          | (refine splIn (fun hc => ?_) (fun hc => ?_) <;> first | (exfalso; omega) | (exfalso; dsimp only at hc; omega) | skip)
          | (refine splD (fun hc => ?_) (fun hc => ?_) <;> first | (exfalso; omega) | (exfalso; dsimp only at hc; omega) | skip)
          | (refine splE (fun hc => ?_) (fun hc => ?_) <;> first | (exfalso; omega) | (exfalso; dsimp only at hc; omega) | skip)
          | (refine splNE (fun hc => ?_) (fun hc => ?_) <;> first | (exfalso; omega) | (exfalso; dsimp only at hc; omega) | skip)
      exact ⟨fun w' h => h, fun β w' hB hblk => oNil (f := iF) (sz := 1)⟩
    | cons a L =>
      repeat'
        conv => whnf
        first
          | refine And.intro (a := drawB _ = true) (by kernel_rfl) ?_
          | refine And.intro (a := (_ : Bool) = true) rfl ?_
          | refine And.intro (a := (_ : Bool) = true ∧ (_ : Bool) = true) ⟨rfl, rfl⟩ ?_
          | refine And.intro (a := (_ : Bool) = true ∧ (_ : List _) = []) ⟨rfl, rfl⟩ ?_
          | refine And.intro (a := IR _ _) (And.intro (by omega) (by omega)) ?_
          | refine And.intro (a := (0 : Int) ≤ _ ∧ _ < _) (And.intro (by omega) (by omega)) ?_
          | refine And.intro (a := (_ : Bool) = true) (by simp only [Nat.beq_refl]; rfl) ?_
          | refine And.intro (a := ((_ : Bool) = true → 1 ≤ _) ∧ _ ≤ 9223372036854775807 ∧ _ ≤ 140737488355328) ⟨fun h => (by first | omega | cases h), by omega, by omega⟩ ?_
          | refine splT ?_
          | refine splF ?_
          | refine splNot ?_
          | (refine splIn (fun hc => ?_) (fun hc => ?_) <;> first | (exfalso; omega) | (exfalso; dsimp only at hc; omega) | skip)
          | (refine splD (fun hc => ?_) (fun hc => ?_) <;> first | (exfalso; omega) | (exfalso; dsimp only at hc; omega) | skip)
          | (refine splE (fun hc => ?_) (fun hc => ?_) <;> first | (exfalso; omega) | (exfalso; dsimp only at hc; omega) | skip)
          | (refine splNE (fun hc => ?_) (fun hc => ?_) <;> first | (exfalso; omega) | (exfalso; dsimp only at hc; omega) | skip)
      exact ⟨fun w' h => h, fun β w' hB hblk => oEnd (sz := 1) (f := iF) (fun _ => rfl) a L (hblk 1 _ rfl rfl)⟩

abbrev Fg.s1 (g : Fg) (s : SV) : List SV := [.v (iv g.f.a.x.lo), .v (iv g.f.a.x.hi), .v (iv g.f.a.z.lo), .v (iv g.f.a.z.hi), .v (iv g.f.s.x.lo), .v (iv g.f.s.x.hi), .v (iv g.f.s.z.lo), .v (iv g.f.s.z.hi), .v (iv g.f.m), s, .v (iv g.re), .v (iv g.so), .v (iv g.be), .v (iv g.le), .v (iv g.mo)]
/-- The same flight, its boxes elsewhere. -/
abbrev Fg.at (g : Fg) (y : Option Addr × Nat) : Fg := ⟨g.f, y.1, g.n, y.2, g.re, g.so, g.be, g.le, g.mo⟩
def flM (g : Fg) (L : List Bx) : List (Nat × Blk) := (0, .cells g.ss 41) :: (1, .cells (ti54.zero.map .v) 54) :: (2, .cells (g.s1 (oSV 3 4 L)) 54) :: oM 3 4 4 Bx.cs 47 L
theorem Flyer_ok2 (f : Fl) (w : World) : Calls Try.prog 34 #[.agg #[iv f.a.x.lo, iv f.a.x.hi, iv f.a.z.lo, iv f.a.z.hi, iv f.s.x.lo, iv f.s.x.hi, iv f.s.z.lo, iv f.s.z.hi, iv f.m]] w fun e w' => e = .returned (.agg #[iv f.a.x.lo, iv f.a.x.hi, iv f.a.z.lo, iv f.a.z.hi, iv f.s.x.lo, iv f.s.x.hi, iv f.s.z.lo, iv f.s.z.hi, iv f.m]) ∧ Below w.heap.size w w' := Flyer_ok f w

set_option maxRecDepth 100000 in
theorem Flight_ok (g : Fg) (bs : List Bx) (w : World) (hrd : Rd 4 Bx.cs (.slice g.o g.n g.c) bs w) (hl : bs.length ≤ 1000000) :
    Calls Try.prog 25 #[g.v] w fun e w' => ∃ y : Option Addr × Nat, e = .returned (g.at y).v ∧ Below w.heap.size w w' ∧ St w.heap.size (Rd 4 Bx.cs (.slice y.1 g.n y.2) bs) w' := by
  have hn : g.n = bs.length := hrd.len
  refine calls_fam env mixed Try.func25 has25 Try.ntmps25 [g.v] (by simp) ?_
  repeat'
    conv => whnf
    first
      | refine And.intro (a := drawB _ = true) (by kernel_rfl) ?_
      | refine And.intro (a := (_ : Bool) = true) rfl ?_
      | refine And.intro (a := (_ : Bool) = true ∧ (_ : Bool) = true) ⟨rfl, rfl⟩ ?_
      | refine And.intro (a := (_ : Bool) = true ∧ (_ : List _) = []) ⟨rfl, rfl⟩ ?_
      | refine And.intro (a := IR _ _) (And.intro (by omega) (by omega)) ?_
      | refine And.intro (a := (0 : Int) ≤ _ ∧ _ < _) (And.intro (by omega) (by omega)) ?_
      | refine And.intro (a := (_ : Bool) = true) (by simp only [Nat.beq_refl]; rfl) ?_
      | refine And.intro (a := ((_ : Bool) = true → 1 ≤ _) ∧ _ ≤ 9223372036854775807 ∧ _ ≤ 140737488355328) ⟨fun h => (by first | omega | cases h), by omega, by omega⟩ ?_
      | refine splT ?_
      | refine splF ?_
      | refine splNot ?_
      | (refine splIn (fun hc => ?_) (fun hc => ?_) <;> first | (exfalso; omega) | (exfalso; dsimp only at hc; omega) | skip)
      | (refine splD (fun hc => ?_) (fun hc => ?_) <;> first | (exfalso; omega) | (exfalso; dsimp only at hc; omega) | skip)
      | (refine splE (fun hc => ?_) (fun hc => ?_) <;> first | (exfalso; omega) | (exfalso; dsimp only at hc; omega) | skip)
      | (refine splNE (fun hc => ?_) (fun hc => ?_) <;> first | (exfalso; omega) | (exfalso; dsimp only at hc; omega) | skip)
      | ((with_reducible show CallEv _ _ 34 _ _ _ _ _); refine callE (k := 34) (fun β w' hbw => Flyer_ok2 g.f _) ?_)
  refine loopN 5 (fun k : Nat => [(1, .ptr 0 0), (2, .ptr 1 0), (3, .ptr 2 0), (4, .v (iv k))]) (fun k => flM g (bs.take k))
    (fun k => k ≤ bs.length) (fun k => bs.length - k) 0 (Nat.zero_le _) ⟨rfl, rfl, rfl, rfl, trivial⟩ ⟨rfl, rfl, rfl, trivial⟩ (fun k _ => by unfold flM; cases bs.take k <;> exact ⟨rfl, rfl⟩) ?_
  intro k hk
  have hlen : (bs.take k).length ≤ k := List.length_take_le _ _
  have hi : ((k + 1 : Nat) : Int) = (k : Int) + 1 := by omega
  rcases Nat.lt_or_ge k bs.length with hlt | hge
  · obtain ⟨b, hb⟩ : ∃ b, bs[k]? = some b := ⟨_, List.getElem?_eq_getElem hlt⟩
    obtain ⟨_, ad, ho, hc⟩ := hrd.some (by omega)
    have e1 : ∀ w', Below w.heap.size w w' → ∀ j v, (Bx.cs b)[j]? = some v → w'.cell? ((ad.add (((k : Int).toNat) * 4)).add j) = some v := fun w' hw' j v hv => by
      rw [Int.toNat_natCast]; exact ext_below hw' (hc _ _ hb j v hv)
    have ht : bs.take (k + 1) = bs.take k ++ [b] := by rw [List.take_add_one, hb]; rfl
    generalize bs.take k = L at *
    obtain ⟨gf, go, gn, gc, gre, gso, gbe, gle, gmo⟩ := g
    simp only at ho hn
    subst ho
    cases L with
    | nil =>
      repeat'
        conv => whnf
        first
          | refine And.intro (a := drawB _ = true) (by kernel_rfl) ?_
          | refine And.intro (a := (_ : Bool) = true) rfl ?_
          | refine And.intro (a := (_ : Bool) = true ∧ (_ : Bool) = true) ⟨rfl, rfl⟩ ?_
          | refine And.intro (a := (_ : Bool) = true ∧ (_ : List _) = []) ⟨rfl, rfl⟩ ?_
          | refine And.intro (a := IR _ _) (And.intro (by omega) (by omega)) ?_
          | refine And.intro (a := (0 : Int) ≤ _ ∧ _ < _) (And.intro (by omega) (by omega)) ?_
          | refine And.intro (a := (_ : Bool) = true) (by simp only [Nat.beq_refl]; rfl) ?_
          | refine And.intro (a := ((_ : Bool) = true → 1 ≤ _) ∧ _ ≤ 9223372036854775807 ∧ _ ≤ 140737488355328) ⟨fun h => (by first | omega | cases h), by omega, by omega⟩ ?_
          | refine splT ?_
          | refine splF ?_
          | refine splNot ?_
          | (refine splIn (fun hc => ?_) (fun hc => ?_) <;> first | (exfalso; omega) | (exfalso; dsimp only at hc; omega) | skip)
          | (refine splD (fun hc => ?_) (fun hc => ?_) <;> first | (exfalso; omega) | (exfalso; dsimp only at hc; omega) | skip)
          | (refine splE (fun hc => ?_) (fun hc => ?_) <;> first | (exfalso; omega) | (exfalso; dsimp only at hc; omega) | skip)
          | (refine splNE (fun hc => ?_) (fun hc => ?_) <;> first | (exfalso; omega) | (exfalso; dsimp only at hc; omega) | skip)
          | refine Exists.intro (α := List Value) (Bx.cs b) ⟨⟨rfl, e1⟩, ?_⟩
          | ((with_reducible show CallEv _ _ 44 _ _ _ _ _); refine callE (k := 44) (fun β w' hbw => Box_ok _ _ _ _ _) ?_)
      exact ⟨k + 1, by omega, by omega, Ent.ren (rho [(3, 6), (4, 7)]) rfl (by rw [ht]; rfl) ⟨rfl, rfl, rfl, by rw [hi]; rfl, trivial⟩ (by rw [ht]; exact ⟨rfl, rfl, rfl, rfl, trivial⟩) fun _ h => h⟩
    | cons a L =>
      simp only [List.length_cons] at hlen
      repeat'
        conv => whnf
        first
          | refine And.intro (a := drawB _ = true) (by kernel_rfl) ?_
          | refine And.intro (a := (_ : Bool) = true) rfl ?_
          | refine And.intro (a := (_ : Bool) = true ∧ (_ : Bool) = true) ⟨rfl, rfl⟩ ?_
          | refine And.intro (a := (_ : Bool) = true ∧ (_ : List _) = []) ⟨rfl, rfl⟩ ?_
          | refine And.intro (a := IR _ _) (And.intro (by omega) (by omega)) ?_
          | refine And.intro (a := (0 : Int) ≤ _ ∧ _ < _) (And.intro (by omega) (by omega)) ?_
          | refine And.intro (a := (_ : Bool) = true) (by simp only [Nat.beq_refl]; rfl) ?_
          | refine And.intro (a := ((_ : Bool) = true → 1 ≤ _) ∧ _ ≤ 9223372036854775807 ∧ _ ≤ 140737488355328) ⟨fun h => (by first | omega | cases h), by omega, by omega⟩ ?_
          | refine splT ?_
          | refine splF ?_
          | refine splNot ?_
          | (refine splIn (fun hc => ?_) (fun hc => ?_) <;> first | (exfalso; omega) | (exfalso; dsimp only at hc; omega) | skip)
          | (refine splD (fun hc => ?_) (fun hc => ?_) <;> first | (exfalso; omega) | (exfalso; dsimp only at hc; omega) | skip)
          | (refine splE (fun hc => ?_) (fun hc => ?_) <;> first | (exfalso; omega) | (exfalso; dsimp only at hc; omega) | skip)
          | (refine splNE (fun hc => ?_) (fun hc => ?_) <;> first | (exfalso; omega) | (exfalso; dsimp only at hc; omega) | skip)
          | refine Exists.intro (α := List Value) (Bx.cs b) ⟨⟨rfl, e1⟩, ?_⟩
          | ((with_reducible show CallEv _ _ 44 _ _ _ _ _); refine callE (k := 44) (fun β w' hbw => Box_ok _ _ _ _ _) ?_)
      exact ⟨k + 1, by omega, by omega, Ent.ren (rho [(3, 6), (4, 7)]) rfl (by rw [ht]; rfl) ⟨rfl, rfl, rfl, by rw [hi]; rfl, trivial⟩ (by rw [ht]; exact ⟨rfl, rfl, by simp [oSV]; rfl, by simp [oM]; rfl, trivial⟩) fun _ h => h⟩
  · have ht : bs.take k = bs := List.take_of_length_le hge
    rw [ht]
    clear ht hlen
    obtain ⟨gf, go, gn, gc, gre, gso, gbe, gle, gmo⟩ := g
    simp only at hn
    subst hn
    cases bs with
    | nil =>
      repeat'
        conv => whnf
        first
          | refine And.intro (a := drawB _ = true) (by kernel_rfl) ?_
          | refine And.intro (a := (_ : Bool) = true) rfl ?_
          | refine And.intro (a := (_ : Bool) = true ∧ (_ : Bool) = true) ⟨rfl, rfl⟩ ?_
          | refine And.intro (a := (_ : Bool) = true ∧ (_ : List _) = []) ⟨rfl, rfl⟩ ?_
          | refine And.intro (a := IR _ _) (And.intro (by omega) (by omega)) ?_
          | refine And.intro (a := (0 : Int) ≤ _ ∧ _ < _) (And.intro (by omega) (by omega)) ?_
          | refine And.intro (a := (_ : Bool) = true) (by simp only [Nat.beq_refl]; rfl) ?_
          | refine And.intro (a := ((_ : Bool) = true → 1 ≤ _) ∧ _ ≤ 9223372036854775807 ∧ _ ≤ 140737488355328) ⟨fun h => (by first | omega | cases h), by omega, by omega⟩ ?_
          | refine splT ?_
          | refine splF ?_
          | refine splNot ?_
          | (refine splIn (fun hc => ?_) (fun hc => ?_) <;> first | (exfalso; omega) | (exfalso; dsimp only at hc; omega) | skip)
          | (refine splD (fun hc => ?_) (fun hc => ?_) <;> first | (exfalso; omega) | (exfalso; dsimp only at hc; omega) | skip)
          | (refine splE (fun hc => ?_) (fun hc => ?_) <;> first | (exfalso; omega) | (exfalso; dsimp only at hc; omega) | skip)
          | (refine splNE (fun hc => ?_) (fun hc => ?_) <;> first | (exfalso; omega) | (exfalso; dsimp only at hc; omega) | skip)
      exact ⟨fun w' h => h, fun β w' hB hblk => ⟨(none, 0), rfl, fun _ _ => .inl ⟨rfl, rfl⟩⟩⟩
    | cons a L =>
      repeat'
        conv => whnf
        first
          | refine And.intro (a := drawB _ = true) (by kernel_rfl) ?_
          | refine And.intro (a := (_ : Bool) = true) rfl ?_
          | refine And.intro (a := (_ : Bool) = true ∧ (_ : Bool) = true) ⟨rfl, rfl⟩ ?_
          | refine And.intro (a := (_ : Bool) = true ∧ (_ : List _) = []) ⟨rfl, rfl⟩ ?_
          | refine And.intro (a := IR _ _) (And.intro (by omega) (by omega)) ?_
          | refine And.intro (a := (0 : Int) ≤ _ ∧ _ < _) (And.intro (by omega) (by omega)) ?_
          | refine And.intro (a := (_ : Bool) = true) (by simp only [Nat.beq_refl]; rfl) ?_
          | refine And.intro (a := ((_ : Bool) = true → 1 ≤ _) ∧ _ ≤ 9223372036854775807 ∧ _ ≤ 140737488355328) ⟨fun h => (by first | omega | cases h), by omega, by omega⟩ ?_
          | refine splT ?_
          | refine splF ?_
          | refine splNot ?_
          | (refine splIn (fun hc => ?_) (fun hc => ?_) <;> first | (exfalso; omega) | (exfalso; dsimp only at hc; omega) | skip)
          | (refine splD (fun hc => ?_) (fun hc => ?_) <;> first | (exfalso; omega) | (exfalso; dsimp only at hc; omega) | skip)
          | (refine splE (fun hc => ?_) (fun hc => ?_) <;> first | (exfalso; omega) | (exfalso; dsimp only at hc; omega) | skip)
          | (refine splNE (fun hc => ?_) (fun hc => ?_) <;> first | (exfalso; omega) | (exfalso; dsimp only at hc; omega) | skip)
      exact ⟨fun w' h => h, fun β w' hB hblk => ⟨(some ⟨β 3, 0, none⟩, β 4), rfl, (hblk 3 _ rfl rfl).imp fun _ q => Rd.of_owns (sz := 4) (f := Bx.cs) (fun _ => rfl) rfl rfl q⟩⟩
end Go.Proofs.Ytlehjapeomallaa
