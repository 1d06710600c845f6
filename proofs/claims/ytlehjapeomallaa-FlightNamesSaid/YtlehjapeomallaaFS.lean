import Derived.Test.YtlehjapeomallaaFP
/- The reference's words on flights: Right and Catches return what the program's return; the conversion of a flight returns the same flight in new memory. -/
namespace Go.Proofs.Ytlehjapeomallaa
open Go Sx Go.RowKit
set_option linter.unusedSimpArgs false

/-- A slice that grows by append from nil on: its value, and its block. -/
def oSV {α : Type} (i j : Nat) : List α → SV
  | [] => .v (.slice none 0 0)
  | _ :: r => .os i j (r.length + 1)
def oM {α : Type} (i j sz : Nat) (f : α → List Value) (ty : TypeId) : List α → List (Nat × Blk)
  | [] => []
  | a :: r => [(i, .own j (r.length + 1) sz ((a :: r).flatMap f) ty)]

theorem all_take {bs : List Bx} {k : Nat} {b : Bx} (h : bs[k]? = some b) : (bs.take (k + 1)).all (·.ok 10000000) = ((bs.take k).all (·.ok 10000000) && b.ok 10000000) := by
  rw [List.take_add_one, h]; simp

theorem Boxed_ok2 (b : Bx) (w : World) :
    Calls Try.prog 64 #[.agg #[iv b.x.lo, iv b.x.hi, iv b.z.lo, iv b.z.hi], iv 10000000] w fun e w' => e = .returned (.bool (b.ok 10000000)) ∧ Below w.heap.size w w' := Boxed_ok b 10000000 w (by omega) (by omega)

set_option maxRecDepth 100000 in
theorem Right_ok (g : Fg) (bs : List Bx) (w : World) (hr : Rd 4 Bx.cs (.slice g.o g.n g.c) bs w) (hl : bs.length ≤ 1000000) :
    Calls Try.prog 26 #[g.v] w fun e w' => e = .returned (.bool (g.ok bs)) ∧ Below w.heap.size w w' := by
  have hn : g.n = bs.length := hr.len
  have hdone : bs.all (·.ok 10000000) = true → g.ok bs = (g.f.ok && decide ((g.n : Int) ≥ 1) && decide ((g.n : Int) ≤ 600) && inB g.re 0 10000000 && inB g.so 1 100 && inB g.be 0 100000000 && inB g.le 0 300 && inB g.mo g.le 300) := fun h => by
    unfold Fg.ok inB
    rw [h, Bool.and_true]
    simp only [ge_iff_le, Bool.and_assoc]
  rcases Nat.eq_zero_or_pos bs.length with h0 | h0
  · have e0 : bs = [] := List.eq_nil_of_length_eq_zero h0
    subst e0
    have hnn : g.n = 0 := hn
    have hgo : g.ok [] = false := by unfold Fg.ok inB; simp [hnn]
    rw [hgo]
    refine calls_val env mixed Try.func26 has26 Try.ntmps26 [g.v] (by simp) ?_
    repeat'
      conv => whnf
      first
        | refine And.intro (a := drawB _ = true) (by kernel_rfl) ?_
        | refine And.intro (a := (_ : Bool) = true) rfl ?_
        | refine And.intro (a := (_ : Bool) = true ∧ (_ : Bool) = true) ⟨rfl, rfl⟩ ?_
        | refine And.intro (a := (_ : Bool) = true ∧ (_ : List _) = []) ⟨rfl, rfl⟩ ?_
        | refine And.intro (a := IR _ _) (And.intro (by omega) (by omega)) ?_
        | refine And.intro (a := (0 : Int) ≤ _ ∧ _ < _) (And.intro (by omega) (by omega)) ?_
        | refine And.intro (a := (_ : Bool) = true) (by simp only [Nat.beq_refl]; rfl) ?_
        | refine And.intro (a := ((_ : Bool) = true → 1 ≤ _) ∧ _ ≤ 9223372036854775807 ∧ _ ≤ 140737488355328) ⟨fun h => (by first | omega | cases h), by omega, by omega⟩ ?_
        | refine splT ?_
        | refine splF ?_
        | refine splNot ?_
        | (refine splIn (fun hc => ?_) (fun hc => ?_) <;> first | (exfalso; omega) | (exfalso; dsimp only at hc; omega) | skip)
        | (refine splD (fun hc => ?_) (fun hc => ?_) <;> first | (exfalso; omega) | (exfalso; dsimp only at hc; omega) | skip)
        | (refine splE (fun hc => ?_) (fun hc => ?_) <;> first | (exfalso; omega) | (exfalso; dsimp only at hc; omega) | skip)
        | (refine splNE (fun hc => ?_) (fun hc => ?_) <;> first | (exfalso; omega) | (exfalso; dsimp only at hc; omega) | skip)
    refine loopE (fun _ : Unit => [(1, .ptr 0 0), (3, .ptr 1 0), (4, .v (iv 0))]) (fun _ => [(0, .cells g.ss 41), (1, .cells [.v (.slice g.o g.n g.c), .v (iv g.re), .v (iv g.so), .v (iv g.be)] 39)]) (fun _ => True) (fun _ => 0) () trivial ⟨rfl, rfl, rfl, trivial⟩ ⟨rfl, rfl, trivial⟩ (fun _ => ⟨rfl, rfl⟩) ?_
    intro _ _
    repeat'
      conv => whnf
      first
        | refine And.intro (a := drawB _ = true) (by kernel_rfl) ?_
        | refine And.intro (a := (_ : Bool) = true) rfl ?_
        | refine And.intro (a := (_ : Bool) = true ∧ (_ : Bool) = true) ⟨rfl, rfl⟩ ?_
        | refine And.intro (a := (_ : Bool) = true ∧ (_ : List _) = []) ⟨rfl, rfl⟩ ?_
        | refine And.intro (a := IR _ _) (And.intro (by omega) (by omega)) ?_
        | refine And.intro (a := (0 : Int) ≤ _ ∧ _ < _) (And.intro (by omega) (by omega)) ?_
        | refine And.intro (a := (_ : Bool) = true) (by simp only [Nat.beq_refl]; rfl) ?_
        | refine And.intro (a := ((_ : Bool) = true → 1 ≤ _) ∧ _ ≤ 9223372036854775807 ∧ _ ≤ 140737488355328) ⟨fun h => (by first | omega | cases h), by omega, by omega⟩ ?_
        | refine splT ?_
        | refine splF ?_
        | refine splNot ?_
        | (refine splIn (fun hc => ?_) (fun hc => ?_) <;> first | (exfalso; omega) | (exfalso; dsimp only at hc; omega) | skip)
        | (refine splD (fun hc => ?_) (fun hc => ?_) <;> first | (exfalso; omega) | (exfalso; dsimp only at hc; omega) | skip)
        | (refine splE (fun hc => ?_) (fun hc => ?_) <;> first | (exfalso; omega) | (exfalso; dsimp only at hc; omega) | skip)
        | (refine splNE (fun hc => ?_) (fun hc => ?_) <;> first | (exfalso; omega) | (exfalso; dsimp only at hc; omega) | skip)
        | ((with_reducible show CallEv _ _ 37 _ _ _ _ _); refine callE (k := 37) (fun β w' hbw => RightFlyer_ok g.f _) ?_)
        | refine splB (fun hc => ?_) (fun hc => ?_)
    all_goals first | exact ⟨fun β => rfl, fun w' h => h⟩ | skip
  · obtain ⟨hn2, ad, ho, hc⟩ := hr.some (by omega)
    show Calls Try.prog 26 #[g.vo g.o] w _
    rw [ho]
    refine calls_val env mixed Try.func26 has26 Try.ntmps26 [g.vo (some ad)] (by simp) ?_
    repeat'
      conv => whnf
      first
        | refine And.intro (a := drawB _ = true) (by kernel_rfl) ?_
        | refine And.intro (a := (_ : Bool) = true) rfl ?_
        | refine And.intro (a := (_ : Bool) = true ∧ (_ : Bool) = true) ⟨rfl, rfl⟩ ?_
        | refine And.intro (a := (_ : Bool) = true ∧ (_ : List _) = []) ⟨rfl, rfl⟩ ?_
        | refine And.intro (a := IR _ _) (And.intro (by omega) (by omega)) ?_
        | refine And.intro (a := (0 : Int) ≤ _ ∧ _ < _) (And.intro (by omega) (by omega)) ?_
        | refine And.intro (a := (_ : Bool) = true) (by simp only [Nat.beq_refl]; rfl) ?_
        | refine And.intro (a := ((_ : Bool) = true → 1 ≤ _) ∧ _ ≤ 9223372036854775807 ∧ _ ≤ 140737488355328) ⟨fun h => (by first | omega | cases h), by omega, by omega⟩ ?_
        | refine splT ?_
        | refine splF ?_
        | refine splNot ?_
        | (refine splIn (fun hc => ?_) (fun hc => ?_) <;> first | (exfalso; omega) | (exfalso; dsimp only at hc; omega) | skip)
        | (refine splD (fun hc => ?_) (fun hc => ?_) <;> first | (exfalso; omega) | (exfalso; dsimp only at hc; omega) | skip)
        | (refine splE (fun hc => ?_) (fun hc => ?_) <;> first | (exfalso; omega) | (exfalso; dsimp only at hc; omega) | skip)
        | (refine splNE (fun hc => ?_) (fun hc => ?_) <;> first | (exfalso; omega) | (exfalso; dsimp only at hc; omega) | skip)
    refine loopE (fun k : Nat => [(1, .ptr 0 0), (3, .ptr 1 0), (4, .v (iv k))]) (fun _ => [(0, .cells [.v (iv g.f.a.x.lo), .v (iv g.f.a.x.hi), .v (iv g.f.a.z.lo), .v (iv g.f.a.z.hi), .v (iv g.f.s.x.lo), .v (iv g.f.s.x.hi), .v (iv g.f.s.z.lo), .v (iv g.f.s.z.hi), .v (iv g.f.m), .v (.slice (some ad) g.n g.c), .v (iv g.re), .v (iv g.so), .v (iv g.be), .v (iv g.le), .v (iv g.mo)] 41), (1, .cells [.v (.slice (some ad) g.n g.c), .v (iv g.re), .v (iv g.so), .v (iv g.be)] 39)]) (fun k => k ≤ bs.length ∧ (bs.take k).all (·.ok 10000000) = true) (fun k => bs.length - k) 0 ⟨Nat.zero_le _, rfl⟩ ⟨rfl, rfl, rfl, trivial⟩ ⟨rfl, rfl, trivial⟩ (fun _ => ⟨rfl, rfl⟩) ?_
    intro k ⟨hk, ht⟩
    rcases Nat.lt_or_ge k bs.length with hkl | hkl
    · obtain ⟨b, hb⟩ : ∃ b, bs[k]? = some b := ⟨_, List.getElem?_eq_getElem hkl⟩
      have e1 : ∀ w', Below w.heap.size w w' → ∀ j v, (Bx.cs b)[j]? = some v → w'.cell? ((ad.add (((k : Int).toNat) * 4)).add j) = some v := fun w' hw' j v hv => by
        rw [Int.toNat_natCast]; exact ext_below hw' (hc _ _ hb j v hv)
      repeat'
        conv => whnf
        first
          | refine And.intro (a := drawB _ = true) (by kernel_rfl) ?_
          | refine And.intro (a := (_ : Bool) = true) rfl ?_
          | refine And.intro (a := (_ : Bool) = true ∧ (_ : Bool) = true) ⟨rfl, rfl⟩ ?_
          | refine And.intro (a := (_ : Bool) = true ∧ (_ : List _) = []) ⟨rfl, rfl⟩ ?_
          | refine And.intro (a := IR _ _) (And.intro (by omega) (by omega)) ?_
          | refine And.intro (a := (0 : Int) ≤ _ ∧ _ < _) (And.intro (by omega) (by omega)) ?_
          | refine And.intro (a := (_ : Bool) = true) (by simp only [Nat.beq_refl]; rfl) ?_
          | refine And.intro (a := ((_ : Bool) = true → 1 ≤ _) ∧ _ ≤ 9223372036854775807 ∧ _ ≤ 140737488355328) ⟨fun h => (by first | omega | cases h), by omega, by omega⟩ ?_
          | refine splT ?_
          | refine splF ?_
          | refine splNot ?_
          | (refine splIn (fun hc => ?_) (fun hc => ?_) <;> first | (exfalso; omega) | (exfalso; dsimp only at hc; omega) | skip)
          | (refine splD (fun hc => ?_) (fun hc => ?_) <;> first | (exfalso; omega) | (exfalso; dsimp only at hc; omega) | skip)
          | (refine splE (fun hc => ?_) (fun hc => ?_) <;> first | (exfalso; omega) | (exfalso; dsimp only at hc; omega) | skip)
          | (refine splNE (fun hc => ?_) (fun hc => ?_) <;> first | (exfalso; omega) | (exfalso; dsimp only at hc; omega) | skip)
          | refine Exists.intro (α := List Value) (Bx.cs b) ⟨⟨rfl, e1⟩, ?_⟩
          | ((with_reducible show CallEv _ _ 64 _ _ _ _ _); refine callE (k := 64) (fun β w' hbw => Boxed_ok2 b _) ?_)
          | refine splB (fun hc => ?_) (fun hc => ?_)
      · exact ⟨k + 1, ⟨by omega, by rw [all_take hb, ht]; simp_all⟩, by omega, Ent.weak rfl ⟨rfl, rfl, rfl, trivial⟩ ⟨rfl, rfl, trivial⟩ fun _ h => h⟩
      · refine ⟨fun β => ?_, fun w' h => h⟩
        have hf : bs.all (·.ok 10000000) = false := by
          rw [List.all_eq_false]
          exact ⟨b, List.mem_of_getElem? hb, by simp_all⟩
        unfold Fg.ok
        rw [hf]; simp; rfl
    · rw [List.take_of_length_le hkl] at ht
      rw [hdone ht]
      have hkn : ¬ (k : Int) < (g.n : Int) := by omega
      clear hn hn2
      repeat'
        conv => whnf
        first
          | refine And.intro (a := drawB _ = true) (by kernel_rfl) ?_
          | refine And.intro (a := (_ : Bool) = true) rfl ?_
          | refine And.intro (a := (_ : Bool) = true ∧ (_ : Bool) = true) ⟨rfl, rfl⟩ ?_
          | refine And.intro (a := (_ : Bool) = true ∧ (_ : List _) = []) ⟨rfl, rfl⟩ ?_
          | refine And.intro (a := IR _ _) (And.intro (by omega) (by omega)) ?_
          | refine And.intro (a := (0 : Int) ≤ _ ∧ _ < _) (And.intro (by omega) (by omega)) ?_
          | refine And.intro (a := (_ : Bool) = true) (by simp only [Nat.beq_refl]; rfl) ?_
          | refine And.intro (a := ((_ : Bool) = true → 1 ≤ _) ∧ _ ≤ 9223372036854775807 ∧ _ ≤ 140737488355328) ⟨fun h => (by first | omega | cases h), by omega, by omega⟩ ?_
          | refine splT ?_
          | refine splF ?_
          | refine splNot ?_
          | (refine splIn (fun hc => ?_) (fun hc => ?_) <;> first | (exfalso; omega) | (exfalso; dsimp only at hc; omega) | skip)
          | (refine splD (fun hc => ?_) (fun hc => ?_) <;> first | (exfalso; omega) | (exfalso; dsimp only at hc; omega) | skip)
          | (refine splE (fun hc => ?_) (fun hc => ?_) <;> first | (exfalso; omega) | (exfalso; dsimp only at hc; omega) | skip)
          | (refine splNE (fun hc => ?_) (fun hc => ?_) <;> first | (exfalso; omega) | (exfalso; dsimp only at hc; omega) | skip)
          | ((with_reducible show CallEv _ _ 37 _ _ _ _ _); refine callE (k := 37) (fun β w' hbw => RightFlyer_ok g.f _) ?_)
          | ((with_reducible show CallEv _ _ 19 _ _ _ _ _); refine callE (k := 19) (fun β w' hbw => In_ok _ _ _ _) ?_)
          | refine splB (fun hc => ?_) (fun hc => ?_)
      all_goals exact ⟨fun β => congrArg Value.bool (by rw [Bool.eq_iff_iff]; simp only [Bool.and_eq_true, decide_eq_true_eq, inB_iff, Bool.false_eq_true, false_iff, true_and, and_true, false_and, and_false, not_false_eq_true, *]), fun w' h => h⟩

theorem oEnd {α : Type} {f : α → List Value} {sz i j ty : Nat} {n : Nat} {β : Nat → Nat} {w' : World} (hf : ∀ a, (f a).length = sz) (a : α) (L : List α)
    (h : St n (fun w2 => (Blk.own j (L.length + 1) sz ((a :: L).flatMap f) ty).ok β w2 (β i)) w') :
    ∃ y : Option Addr × Nat, (oSV i j (a :: L)).c β = sV (L.length + 1) y ∧ St n (Rd sz f (sV (L.length + 1) y) (a :: L)) w' :=
  ⟨(some ⟨β i, 0, none⟩, β j), rfl, h.imp fun _ q => Rd.of_owns (sz := sz) (f := f) hf rfl rfl q⟩
theorem oNil {α : Type} {f : α → List Value} {sz i j : Nat} {n : Nat} {β : Nat → Nat} {w' : World} : ∃ y : Option Addr × Nat, (oSV i j ([] : List α)).c β = sV 0 y ∧ St n (Rd sz f (sV 0 y) ([] : List α)) w' :=
  ⟨(none, 0), rfl, fun _ _ => .inl ⟨rfl, rfl⟩⟩

theorem Rsure_k (g : Fg) (bs : List Bx) (r : Int) (k : Nat) (w : World) (hg : g.ok bs = true) (hr : Rd 4 Bx.cs (.slice g.o g.n g.c) bs w) (hr0 : 0 ≤ r ∧ r ≤ 100000) (hk : k < g.k) :
    Calls Try.prog 47 #[g.v, iv r, iv (r + g.le + k)] w fun e w' => e = .returned (.bool (sureB g bs r k)) ∧ Below w.heap.size w w' := by
  have hg' := Fg.ok_iff.1 hg
  have hkk : (g.k : Int) = g.mo - g.le + 1 := by unfold Fg.k; omega
  have := Rsure_ok g bs r (r + g.le + k) w hg hr hr0 (by omega)
  rwa [show sureAt g bs r (r + g.le + k) = sureB g bs r k from by
    unfold sureAt
    rw [show inB (r + g.le + k - r) g.le g.mo = true from inB_iff.2 (by omega), Bool.true_and, show r + g.le + (k : Int) - r - g.le = k from by omega]] at this

set_option maxRecDepth 100000 in
theorem Rcatches_ok (g : Fg) (bs : List Bx) (r : Int) (w : World) (hg : g.ok bs = true) (hrd : Rd 4 Bx.cs (.slice g.o g.n g.c) bs w) (hr0 : 0 ≤ r ∧ r ≤ 100000) :
    Calls Try.prog 28 #[g.v, iv r] w fun e w' => ∃ y : Option Addr × Nat, e = .returned (sV (catL g bs r g.k).length y) ∧ Below w.heap.size w w' ∧ St w.heap.size (Rd 1 iF (sV (catL g bs r g.k).length y) (catL g bs r g.k)) w' := by
  refine calls_fam env mixed Try.func28 has28 Try.ntmps28 [g.v, iv r] (by simp) ?_
  have hg' := Fg.ok_iff.1 hg
  have hkk : (g.k : Int) = g.mo - g.le + 1 := by unfold Fg.k; omega
  repeat'
    conv => whnf
    first
      | refine And.intro (a := drawB _ = true) (by kernel_rfl) ?_
      | refine And.intro (a := (_ : Bool) = true) rfl ?_
      | refine And.intro (a := (_ : Bool) = true ∧ (_ : Bool) = true) ⟨rfl, rfl⟩ ?_
      | refine And.intro (a := (_ : Bool) = true ∧ (_ : List _) = []) ⟨rfl, rfl⟩ ?_
      | refine And.intro (a := IR _ _) (And.intro (by omega) (by omega)) ?_
      | refine And.intro (a := (0 : Int) ≤ _ ∧ _ < _) (And.intro (by omega) (by omega)) ?_
      | refine And.intro (a := (_ : Bool) = true) (by simp only [Nat.beq_refl]; rfl) ?_
      | refine And.intro (a := ((_ : Bool) = true → 1 ≤ _) ∧ _ ≤ 9223372036854775807 ∧ _ ≤ 140737488355328) ⟨fun h => (by first | omega | cases h), by omega, by omega⟩ ?_
      | refine splT ?_
      | refine splF ?_
      | refine splNot ?_
      | (refine splIn (fun hc => ?_) (fun hc => ?_) <;> first | (exfalso; omega) | (exfalso; dsimp only at hc; omega) | skip)
      | (refine splD (fun hc => ?_) (fun hc => ?_) <;> first | (exfalso; omega) | (exfalso; dsimp only at hc; omega) | skip)
      | (refine splE (fun hc => ?_) (fun hc => ?_) <;> first | (exfalso; omega) | (exfalso; dsimp only at hc; omega) | skip)
      | (refine splNE (fun hc => ?_) (fun hc => ?_) <;> first | (exfalso; omega) | (exfalso; dsimp only at hc; omega) | skip)
  refine loopN 3 (fun k : Nat => [(1, .v (iv r)), (2, .ptr 0 0), (5, oSV 1 2 (catL g bs r k)), (6, .v (iv (r + g.le + k)))]) (fun k => (0, .cells g.ss 41) :: oM 1 2 1 iF 3 (catL g bs r k))
    (fun k => k ≤ g.k) (fun k => g.k - k) 0 (Nat.zero_le _) ⟨rfl, rfl, rfl, by rw [Int.ofNat_zero, Int.add_zero]; rfl, trivial⟩ ⟨rfl, trivial⟩ (fun k _ => by cases catL g bs r k <;> exact ⟨rfl, rfl⟩) ?_
  intro k hk
  have hlen := catL_len g bs r k
  have hi : r + g.le + ((k + 1 : Nat) : Int) = r + g.le + (k : Nat) + 1 := by omega
  rcases Nat.lt_or_ge k g.k with hlt | hge
  · have hsu := fun w' (hw' : Below w.heap.size w w') => Rsure_k g bs r k w' hg (hrd.below hw') hr0 hlt
    have hcat : catL g bs r (k + 1) = catL g bs r k ++ (if sureB g bs r k = true then [r + g.le + k] else []) := rfl
    generalize sureB g bs r k = sb at hsu hcat
    generalize catL g bs r k = L at *
    cases sb with
    | false =>
      rw [if_neg (by simp), List.append_nil] at hcat
      repeat'
        conv => whnf
        first
          | refine And.intro (a := drawB _ = true) (by kernel_rfl) ?_
          | refine And.intro (a := (_ : Bool) = true) rfl ?_
          | refine And.intro (a := (_ : Bool) = true ∧ (_ : Bool) = true) ⟨rfl, rfl⟩ ?_
          | refine And.intro (a := (_ : Bool) = true ∧ (_ : List _) = []) ⟨rfl, rfl⟩ ?_
          | refine And.intro (a := IR _ _) (And.intro (by omega) (by omega)) ?_
          | refine And.intro (a := (0 : Int) ≤ _ ∧ _ < _) (And.intro (by omega) (by omega)) ?_
          | refine And.intro (a := (_ : Bool) = true) (by simp only [Nat.beq_refl]; rfl) ?_
          | refine And.intro (a := ((_ : Bool) = true → 1 ≤ _) ∧ _ ≤ 9223372036854775807 ∧ _ ≤ 140737488355328) ⟨fun h => (by first | omega | cases h), by omega, by omega⟩ ?_
          | refine splT ?_
          | refine splF ?_
          | refine splNot ?_
          | (refine splIn (fun hc => ?_) (fun hc => ?_) <;> first | (exfalso; omega) | (exfalso; dsimp only at hc; omega) | skip)
          | (refine splD (fun hc => ?_) (fun hc => ?_) <;> first | (exfalso; omega) | (exfalso; dsimp only at hc; omega) | skip)
          | (refine splE (fun hc => ?_) (fun hc => ?_) <;> first | (exfalso; omega) | (exfalso; dsimp only at hc; omega) | skip)
          | (refine splNE (fun hc => ?_) (fun hc => ?_) <;> first | (exfalso; omega) | (exfalso; dsimp only at hc; omega) | skip)
          | ((with_reducible show CallEv _ _ 47 _ _ _ _ _); refine callE (k := 47) (fun β w' hbw => hsu _ hbw) ?_)
      exact ⟨k + 1, by omega, by omega, Ent.weak rfl ⟨rfl, rfl, by rw [hcat]; rfl, by rw [hi]; rfl, trivial⟩ (by rw [hcat]; cases L <;> exact ⟨rfl, by first | trivial | exact ⟨rfl, trivial⟩⟩) fun _ h => h⟩
    | true =>
      rw [if_pos rfl] at hcat
      cases L with
      | nil =>
        repeat'
          conv => whnf
          first
            | refine And.intro (a := drawB _ = true) (by kernel_rfl) ?_
            | refine And.intro (a := (_ : Bool) = true) rfl ?_
            | refine And.intro (a := (_ : Bool) = true ∧ (_ : Bool) = true) ⟨rfl, rfl⟩ ?_
            | refine And.intro (a := (_ : Bool) = true ∧ (_ : List _) = []) ⟨rfl, rfl⟩ ?_
            | refine And.intro (a := IR _ _) (And.intro (by omega) (by omega)) ?_
            | refine And.intro (a := (0 : Int) ≤ _ ∧ _ < _) (And.intro (by omega) (by omega)) ?_
            | refine And.intro (a := (_ : Bool) = true) (by simp only [Nat.beq_refl]; rfl) ?_
            | refine And.intro (a := ((_ : Bool) = true → 1 ≤ _) ∧ _ ≤ 9223372036854775807 ∧ _ ≤ 140737488355328) ⟨fun h => (by first | omega | cases h), by omega, by omega⟩ ?_
            | refine splT ?_
            | refine splF ?_
            | refine splNot ?_
            | (refine splIn (fun hc => ?_) (fun hc => ?_) <;> first | (exfalso; omega) | (exfalso; dsimp only at hc; omega) | skip)
            | (refine splD (fun hc => ?_) (fun hc => ?_) <;> first | (exfalso; omega) | (exfalso; dsimp only at hc; omega) | skip)
            | (refine splE (fun hc => ?_) (fun hc => ?_) <;> first | (exfalso; omega) | (exfalso; dsimp only at hc; omega) | skip)
            | (refine splNE (fun hc => ?_) (fun hc => ?_) <;> first | (exfalso; omega) | (exfalso; dsimp only at hc; omega) | skip)
            | ((with_reducible show CallEv _ _ 47 _ _ _ _ _); refine callE (k := 47) (fun β w' hbw => hsu _ hbw) ?_)
        exact ⟨k + 1, by omega, by omega, Ent.ren (rho [(1, 4), (2, 5)]) rfl (by rw [hcat]; rfl) ⟨rfl, rfl, by rw [hcat]; rfl, by rw [hi]; rfl, trivial⟩ (by rw [hcat]; exact ⟨rfl, rfl, trivial⟩) fun _ h => h⟩
      | cons a L =>
        simp only [List.length_cons] at hlen
        repeat'
          conv => whnf
          first
            | refine And.intro (a := drawB _ = true) (by kernel_rfl) ?_
            | refine And.intro (a := (_ : Bool) = true) rfl ?_
            | refine And.intro (a := (_ : Bool) = true ∧ (_ : Bool) = true) ⟨rfl, rfl⟩ ?_
            | refine And.intro (a := (_ : Bool) = true ∧ (_ : List _) = []) ⟨rfl, rfl⟩ ?_
            | refine And.intro (a := IR _ _) (And.intro (by omega) (by omega)) ?_
            | refine And.intro (a := (0 : Int) ≤ _ ∧ _ < _) (And.intro (by omega) (by omega)) ?_
            | refine And.intro (a := (_ : Bool) = true) (by simp only [Nat.beq_refl]; rfl) ?_
            | refine And.intro (a := ((_ : Bool) = true → 1 ≤ _) ∧ _ ≤ 9223372036854775807 ∧ _ ≤ 140737488355328) ⟨fun h => (by first | omega | cases h), by omega, by omega⟩ ?_
            | refine splT ?_
            | refine splF ?_
            | refine splNot ?_
            | (refine splIn (fun hc => ?_) (fun hc => ?_) <;> first | (exfalso; omega) | (exfalso; dsimp only at hc; omega) | skip)
            | (refine splD (fun hc => ?_) (fun hc => ?_) <;> first | (exfalso; omega) | (exfalso; dsimp only at hc; omega) | skip)
            | (refine splE (fun hc => ?_) (fun hc => ?_) <;> first | (exfalso; omega) | (exfalso; dsimp only at hc; omega) | skip)
            | (refine splNE (fun hc => ?_) (fun hc => ?_) <;> first | (exfalso; omega) | (exfalso; dsimp only at hc; omega) | skip)
            | ((with_reducible show CallEv _ _ 47 _ _ _ _ _); refine callE (k := 47) (fun β w' hbw => hsu _ hbw) ?_)
        exact ⟨k + 1, by omega, by omega, Ent.ren (rho [(1, 4), (2, 5)]) rfl (by rw [hcat]; rfl) ⟨rfl, rfl, by rw [hcat]; simp [oSV]; rfl, by rw [hi]; rfl, trivial⟩ (by rw [hcat]; exact ⟨rfl, by simp [oM]; rfl, trivial⟩) fun _ h => h⟩
  · have hk' : k = g.k := by omega
    subst hk'
    generalize catL g bs r g.k = L at *
    cases L with
    | nil =>
      repeat'
        conv => whnf
        first
          | refine And.intro (a := drawB _ = true) (by kernel_rfl) ?_
          | refine And.intro (a := (_ : Bool) = true) rfl ?_
          | refine And.intro (a := (_ : Bool) = true ∧ (_ : Bool) = true) ⟨rfl, rfl⟩ ?_
          | refine And.intro (a := (_ : Bool) = true ∧ (_ : List _) = []) ⟨rfl, rfl⟩ ?_
          | refine And.intro (a := IR _ _) (And.intro (by omega) (by omega)) ?_
          | refine And.intro (a := (0 : Int) ≤ _ ∧ _ < _) (And.intro (by omega) (by omega)) ?_
          | refine And.intro (a := (_ : Bool) = true) (by simp only [Nat.beq_refl]; rfl) ?_
          | refine And.intro (a := ((_ : Bool) = true → 1 ≤ _) ∧ _ ≤ 9223372036854775807 ∧ _ ≤ 140737488355328) ⟨fun h => (by first | omega | cases h), by omega, by omega⟩ ?_
          | refine splT ?_
          | refine splF ?_
          | refine splNot ?_
          | (refine splIn (fun hc => ?_) (fun hc => ?_) <;> first | (exfalso; omega) | (exfalso; dsimp only at hc; omega) | skip)
          | (refine splD (fun hc => ?_) (fun hc => ?_) <;> first | (exfalso; omega) | (exfalso; dsimp only at hc; omega) | skip)
          | (refine splE (fun hc => ?_) (fun hc => ?_) <;> first | (exfalso; omega) | (exfalso; dsimp only at hc; omega) | skip)
          | (refine splNE (fun hc => ?_) (fun hc => ?_) <;> first | (exfalso; omega) | (exfalso; dsimp only at hc; omega) | skip)
      exact ⟨fun w' h => h, fun β w' hB hblk => oNil (f := iF) (sz := 1)⟩
    | cons a L =>
      repeat'
        conv => whnf
        first
          | refine And.intro (a := drawB _ = true) (by kernel_rfl) ?_
          | refine And.intro (a := (_ : Bool) = true) rfl ?_
          | refine And.intro (a := (_ : Bool) = true ∧ (_ : Bool) = true) ⟨rfl, rfl⟩ ?_
          | refine And.intro (a := (_ : Bool) = true ∧ (_ : List _) = []) ⟨rfl, rfl⟩ ?_
          | refine And.intro (a := IR _ _) (And.intro (by omega) (by omega)) ?_
          | refine And.intro (a := (0 : Int) ≤ _ ∧ _ < _) (And.intro (by omega) (by omega)) ?_
          | refine And.intro (a := (_ : Bool) = true) (by simp only [Nat.beq_refl]; rfl) ?_
          | refine And.intro (a := ((_ : Bool) = true → 1 ≤ _) ∧ _ ≤ 9223372036854775807 ∧ _ ≤ 140737488355328) ⟨fun h => (by first | omega | cases h), by omega, by omega⟩ ?_
          | refine splT ?_
          | refine splF ?_
          | refine splNot ?_
          | (refine splIn (fun hc => ?_) (fun hc => ?_) <;> first | (exfalso; omega) | (exfalso; dsimp only at hc; omega) | skip)
          | (refine splD (fun hc => ?_) (fun hc => ?_) <;> first | (exfalso; omega) | (exfalso; dsimp only at hc; omega) | skip)
          | (refine splE (fun hc => ?_) (fun hc => ?_) <;> first | (exfalso; omega) | (exfalso; dsimp only at hc; omega) | skip)
          | (refine splNE (fun hc => ?_) (fun hc => ?_) <;> first | (exfalso; omega) | (exfalso; dsimp only at hc; omega) | skip)
      exact ⟨fun w' h => h, fun β w' hB hblk => oEnd (sz := 1) (f := iF) (fun _ => rfl) a L (hblk 1 _ rfl rfl)⟩

abbrev Fg.s1 (g : Fg) (s : SV) : List SV := [.v (iv g.f.a.x.lo), .v (iv g.f.a.x.hi), .v (iv g.f.a.z.lo), .v (iv g.f.a.z.hi), .v (iv g.f.s.x.lo), .v (iv g.f.s.x.hi), .v (iv g.f.s.z.lo), .v (iv g.f.s.z.hi), .v (iv g.f.m), s, .v (iv g.re), .v (iv g.so), .v (iv g.be), .v (iv g.le), .v (iv g.mo)]
/-- The same flight, its boxes elsewhere. -/
abbrev Fg.at (g : Fg) (y : Option Addr × Nat) : Fg := ⟨g.f, y.1, g.n, y.2, g.re, g.so, g.be, g.le, g.mo⟩
def flM (g : Fg) (L : List Bx) : List (Nat × Blk) := (0, .cells g.ss 41) :: (1, .cells (ti54.zero.map .v) 54) :: (2, .cells (g.s1 (oSV 3 4 L)) 54) :: oM 3 4 4 Bx.cs 47 L
theorem Flyer_ok2 (f : Fl) (w : World) : Calls Try.prog 34 #[.agg #[iv f.a.x.lo, iv f.a.x.hi, iv f.a.z.lo, iv f.a.z.hi, iv f.s.x.lo, iv f.s.x.hi, iv f.s.z.lo, iv f.s.z.hi, iv f.m]] w fun e w' => e = .returned (.agg #[iv f.a.x.lo, iv f.a.x.hi, iv f.a.z.lo, iv f.a.z.hi, iv f.s.x.lo, iv f.s.x.hi, iv f.s.z.lo, iv f.s.z.hi, iv f.m]) ∧ Below w.heap.size w w' := Flyer_ok f w

set_option maxRecDepth 100000 in
theorem Flight_ok (g : Fg) (bs : List Bx) (w : World) (hrd : Rd 4 Bx.cs (.slice g.o g.n g.c) bs w) (hl : bs.length ≤ 1000000) :
    Calls Try.prog 25 #[g.v] w fun e w' => ∃ y : Option Addr × Nat, e = .returned (g.at y).v ∧ Below w.heap.size w w' ∧ St w.heap.size (Rd 4 Bx.cs (.slice y.1 g.n y.2) bs) w' := by
  have hn : g.n = bs.length := hrd.len
  refine calls_fam env mixed Try.func25 has25 Try.ntmps25 [g.v] (by simp) ?_
  repeat'
    conv => whnf
    first
      | refine And.intro (a := drawB _ = true) (by kernel_rfl) ?_
      | refine And.intro (a := (_ : Bool) = true) rfl ?_
      | refine And.intro (a := (_ : Bool) = true ∧ (_ : Bool) = true) ⟨rfl, rfl⟩ ?_
      | refine And.intro (a := (_ : Bool) = true ∧ (_ : List _) = []) ⟨rfl, rfl⟩ ?_
      | refine And.intro (a := IR _ _) (And.intro (by omega) (by omega)) ?_
      | refine And.intro (a := (0 : Int) ≤ _ ∧ _ < _) (And.intro (by omega) (by omega)) ?_
      | refine And.intro (a := (_ : Bool) = true) (by simp only [Nat.beq_refl]; rfl) ?_
      | refine And.intro (a := ((_ : Bool) = true → 1 ≤ _) ∧ _ ≤ 9223372036854775807 ∧ _ ≤ 140737488355328) ⟨fun h => (by first | omega | cases h), by omega, by omega⟩ ?_
      | refine splT ?_
      | refine splF ?_
      | refine splNot ?_
      | (refine splIn (fun hc => ?_) (fun hc => ?_) <;> first | (exfalso; omega) | (exfalso; dsimp only at hc; omega) | skip)
      | (refine splD (fun hc => ?_) (fun hc => ?_) <;> first | (exfalso; omega) | (exfalso; dsimp only at hc; omega) | skip)
      | (refine splE (fun hc => ?_) (fun hc => ?_) <;> first | (exfalso; omega) | (exfalso; dsimp only at hc; omega) | skip)
      | (refine splNE (fun hc => ?_) (fun hc => ?_) <;> first | (exfalso; omega) | (exfalso; dsimp only at hc; omega) | skip)
      | ((with_reducible show CallEv _ _ 34 _ _ _ _ _); refine callE (k := 34) (fun β w' hbw => Flyer_ok2 g.f _) ?_)
  refine loopN 5 (fun k : Nat => [(1, .ptr 0 0), (2, .ptr 1 0), (3, .ptr 2 0), (4, .v (iv k))]) (fun k => flM g (bs.take k))
    (fun k => k ≤ bs.length) (fun k => bs.length - k) 0 (Nat.zero_le _) ⟨rfl, rfl, rfl, rfl, trivial⟩ ⟨rfl, rfl, rfl, trivial⟩ (fun k _ => by unfold flM; cases bs.take k <;> exact ⟨rfl, rfl⟩) ?_
  intro k hk
  have hlen : (bs.take k).length ≤ k := List.length_take_le _ _
  have hi : ((k + 1 : Nat) : Int) = (k : Int) + 1 := by omega
  rcases Nat.lt_or_ge k bs.length with hlt | hge
  · obtain ⟨b, hb⟩ : ∃ b, bs[k]? = some b := ⟨_, List.getElem?_eq_getElem hlt⟩
    obtain ⟨_, ad, ho, hc⟩ := hrd.some (by omega)
    have e1 : ∀ w', Below w.heap.size w w' → ∀ j v, (Bx.cs b)[j]? = some v → w'.cell? ((ad.add (((k : Int).toNat) * 4)).add j) = some v := fun w' hw' j v hv => by
      rw [Int.toNat_natCast]; exact ext_below hw' (hc _ _ hb j v hv)
    have ht : bs.take (k + 1) = bs.take k ++ [b] := by rw [List.take_add_one, hb]; rfl
    generalize bs.take k = L at *
    obtain ⟨gf, go, gn, gc, gre, gso, gbe, gle, gmo⟩ := g
    simp only at ho hn
    subst ho
    cases L with
    | nil =>
      repeat'
        conv => whnf
        first
          | refine And.intro (a := drawB _ = true) (by kernel_rfl) ?_
          | refine And.intro (a := (_ : Bool) = true) rfl ?_
          | refine And.intro (a := (_ : Bool) = true ∧ (_ : Bool) = true) ⟨rfl, rfl⟩ ?_
          | refine And.intro (a := (_ : Bool) = true ∧ (_ : List _) = []) ⟨rfl, rfl⟩ ?_
          | refine And.intro (a := IR _ _) (And.intro (by omega) (by omega)) ?_
          | refine And.intro (a := (0 : Int) ≤ _ ∧ _ < _) (And.intro (by omega) (by omega)) ?_
          | refine And.intro (a := (_ : Bool) = true) (by simp only [Nat.beq_refl]; rfl) ?_
          | refine And.intro (a := ((_ : Bool) = true → 1 ≤ _) ∧ _ ≤ 9223372036854775807 ∧ _ ≤ 140737488355328) ⟨fun h => (by first | omega | cases h), by omega, by omega⟩ ?_
          | refine splT ?_
          | refine splF ?_
          | refine splNot ?_
          | (refine splIn (fun hc => ?_) (fun hc => ?_) <;> first | (exfalso; omega) | (exfalso; dsimp only at hc; omega) | skip)
          | (refine splD (fun hc => ?_) (fun hc => ?_) <;> first | (exfalso; omega) | (exfalso; dsimp only at hc; omega) | skip)
          | (refine splE (fun hc => ?_) (fun hc => ?_) <;> first | (exfalso; omega) | (exfalso; dsimp only at hc; omega) | skip)
          | (refine splNE (fun hc => ?_) (fun hc => ?_) <;> first | (exfalso; omega) | (exfalso; dsimp only at hc; omega) | skip)
          | refine Exists.intro (α := List Value) (Bx.cs b) ⟨⟨rfl, e1⟩, ?_⟩
          | ((with_reducible show CallEv _ _ 44 _ _ _ _ _); refine callE (k := 44) (fun β w' hbw => Box_ok _ _ _ _ _) ?_)
      exact ⟨k + 1, by omega, by omega, Ent.ren (rho [(3, 6), (4, 7)]) rfl (by rw [ht]; rfl) ⟨rfl, rfl, rfl, by rw [hi]; rfl, trivial⟩ (by rw [ht]; exact ⟨rfl, rfl, rfl, rfl, trivial⟩) fun _ h => h⟩
    | cons a L =>
      simp only [List.length_cons] at hlen
      repeat'
        conv => whnf
        first
          | refine And.intro (a := drawB _ = true) (by kernel_rfl) ?_
          | refine And.intro (a := (_ : Bool) = true) rfl ?_
          | refine And.intro (a := (_ : Bool) = true ∧ (_ : Bool) = true) ⟨rfl, rfl⟩ ?_
          | refine And.intro (a := (_ : Bool) = true ∧ (_ : List _) = []) ⟨rfl, rfl⟩ ?_
          | refine And.intro (a := IR _ _) (And.intro (by omega) (by omega)) ?_
          | refine And.intro (a := (0 : Int) ≤ _ ∧ _ < _) (And.intro (by omega) (by omega)) ?_
          | refine And.intro (a := (_ : Bool) = true) (by simp only [Nat.beq_refl]; rfl) ?_
          | refine And.intro (a := ((_ : Bool) = true → 1 ≤ _) ∧ _ ≤ 9223372036854775807 ∧ _ ≤ 140737488355328) ⟨fun h => (by first | omega | cases h), by omega, by omega⟩ ?_
          | refine splT ?_
          | refine splF ?_
          | refine splNot ?_
          | (refine splIn (fun hc => ?_) (fun hc => ?_) <;> first | (exfalso; omega) | (exfalso; dsimp only at hc; omega) | skip)
          | (refine splD (fun hc => ?_) (fun hc => ?_) <;> first | (exfalso; omega) | (exfalso; dsimp only at hc; omega) | skip)
          | (refine splE (fun hc => ?_) (fun hc => ?_) <;> first | (exfalso; omega) | (exfalso; dsimp only at hc; omega) | skip)
          | (refine splNE (fun hc => ?_) (fun hc => ?_) <;> first | (exfalso; omega) | (exfalso; dsimp only at hc; omega) | skip)
          | refine Exists.intro (α := List Value) (Bx.cs b) ⟨⟨rfl, e1⟩, ?_⟩
          | ((with_reducible show CallEv _ _ 44 _ _ _ _ _); refine callE (k := 44) (fun β w' hbw => Box_ok _ _ _ _ _) ?_)
      exact ⟨k + 1, by omega, by omega, Ent.ren (rho [(3, 6), (4, 7)]) rfl (by rw [ht]; rfl) ⟨rfl, rfl, rfl, by rw [hi]; rfl, trivial⟩ (by rw [ht]; exact ⟨rfl, rfl, by simp [oSV]; rfl, by simp [oM]; rfl, trivial⟩) fun _ h => h⟩
  · have ht : bs.take k = bs := List.take_of_length_le hge
    rw [ht]
    clear ht hlen
    obtain ⟨gf, go, gn, gc, gre, gso, gbe, gle, gmo⟩ := g
    simp only at hn
    subst hn
    cases bs with
    | nil =>
      repeat'
        conv => whnf
        first
          | refine And.intro (a := drawB _ = true) (by kernel_rfl) ?_
          | refine And.intro (a := (_ : Bool) = true) rfl ?_
          | refine And.intro (a := (_ : Bool) = true ∧ (_ : Bool) = true) ⟨rfl, rfl⟩ ?_
          | refine And.intro (a := (_ : Bool) = true ∧ (_ : List _) = []) ⟨rfl, rfl⟩ ?_
          | refine And.intro (a := IR _ _) (And.intro (by omega) (by omega)) ?_
          | refine And.intro (a := (0 : Int) ≤ _ ∧ _ < _) (And.intro (by omega) (by omega)) ?_
          | refine And.intro (a := (_ : Bool) = true) (by simp only [Nat.beq_refl]; rfl) ?_
          | refine And.intro (a := ((_ : Bool) = true → 1 ≤ _) ∧ _ ≤ 9223372036854775807 ∧ _ ≤ 140737488355328) ⟨fun h => (by first | omega | cases h), by omega, by omega⟩ ?_
          | refine splT ?_
          | refine splF ?_
          | refine splNot ?_
          | (refine splIn (fun hc => ?_) (fun hc => ?_) <;> first | (exfalso; omega) | (exfalso; dsimp only at hc; omega) | skip)
          | (refine splD (fun hc => ?_) (fun hc => ?_) <;> first | (exfalso; omega) | (exfalso; dsimp only at hc; omega) | skip)
          | (refine splE (fun hc => ?_) (fun hc => ?_) <;> first | (exfalso; omega) | (exfalso; dsimp only at hc; omega) | skip)
          | (refine splNE (fun hc => ?_) (fun hc => ?_) <;> first | (exfalso; omega) | (exfalso; dsimp only at hc; omega) | skip)
      exact ⟨fun w' h => h, fun β w' hB hblk => ⟨(none, 0), rfl, fun _ _ => .inl ⟨rfl, rfl⟩⟩⟩
    | cons a L =>
      repeat'
        conv => whnf
        first
          | refine And.intro (a := drawB _ = true) (by kernel_rfl) ?_
          | refine And.intro (a := (_ : Bool) = true) rfl ?_
          | refine And.intro (a := (_ : Bool) = true ∧ (_ : Bool) = true) ⟨rfl, rfl⟩ ?_
          | refine And.intro (a := (_ : Bool) = true ∧ (_ : List _) = []) ⟨rfl, rfl⟩ ?_
          | refine And.intro (a := IR _ _) (And.intro (by omega) (by omega)) ?_
          | refine And.intro (a := (0 : Int) ≤ _ ∧ _ < _) (And.intro (by omega) (by omega)) ?_
          | refine And.intro (a := (_ : Bool) = true) (by simp only [Nat.beq_refl]; rfl) ?_
          | refine And.intro (a := ((_ : Bool) = true → 1 ≤ _) ∧ _ ≤ 9223372036854775807 ∧ _ ≤ 140737488355328) ⟨fun h => (by first | omega | cases h), by omega, by omega⟩ ?_
          | refine splT ?_
          | refine splF ?_
          | refine splNot ?_
          | (refine splIn (fun hc => ?_) (fun hc => ?_) <;> first | (exfalso; omega) | (exfalso; dsimp only at hc; omega) | skip)
          | (refine splD (fun hc => ?_) (fun hc => ?_) <;> first | (exfalso; omega) | (exfalso; dsimp only at hc; omega) | skip)
          | (refine splE (fun hc => ?_) (fun hc => ?_) <;> first | (exfalso; omega) | (exfalso; dsimp only at hc; omega) | skip)
          | (refine splNE (fun hc => ?_) (fun hc => ?_) <;> first | (exfalso; omega) | (exfalso; dsimp only at hc; omega) | skip)
      exact ⟨fun w' h => h, fun β w' hB hblk => ⟨(some ⟨β 3, 0, none⟩, β 4), rfl, (hblk 3 _ rfl rfl).imp fun _ q => Rd.of_owns (sz := 4) (f := Bx.cs) (fun _ => rfl) rfl rfl q⟩⟩
end Go.Proofs.Ytlehjapeomallaa

/- The law of catches answers true at every flight and release. -/
namespace Go.Proofs.Ytlehjapeomallaa
open Go Sx Go.RowKit
set_option linter.unusedSimpArgs false

theorem catL_at (g : Fg) (bs : List Bx) (r : Int) (y : Option Addr × Nat) : ∀ k, catL (g.at y) bs r k = catL g bs r k
  | 0 => rfl
  | k + 1 => by
    rw [catL, catL, catL_at g bs r y k]
    rfl
theorem ok_at (g : Fg) (bs : List Bx) (y : Option Addr × Nat) : (g.at y).ok bs = g.ok bs := rfl

/-- Catches of the flight that was converted: three ways. -/
theorem Cat_bad (g : Fg) (bs : List Bx) (y : Option Addr × Nat) (r : Int) (w : World) (hrd : Rd 4 Bx.cs (.slice y.1 g.n y.2) bs w) (hl : bs.length ≤ 1000000) (hg : ¬ g.ok bs = true) :
    Calls Try.prog 24 #[(g.at y).v, iv r] w fun e w' => ∃ z : Option Addr × Nat, e = .returned (.tuple #[sV 0 z, iv 1]) ∧ Below w.heap.size w w' ∧ St w.heap.size (fun _ => True) w' := by
  have := Catches_ok (g.at y) bs r w hrd hl
  rw [show catR (g.at y) bs r = [] from if_neg fun h => hg h.1, show catE (g.at y) bs r = 1 from by rw [catE, ok_at, if_neg hg]] at this
  exact this.mono fun _ _ ⟨z, h1, h2, _⟩ => ⟨z, h1, h2, fun _ _ => trivial⟩
theorem Cat_out (g : Fg) (bs : List Bx) (y : Option Addr × Nat) (r : Int) (w : World) (hrd : Rd 4 Bx.cs (.slice y.1 g.n y.2) bs w) (hl : bs.length ≤ 1000000) (hg : g.ok bs = true) (hr : ¬ (0 ≤ r ∧ r ≤ 6000)) :
    Calls Try.prog 24 #[(g.at y).v, iv r] w fun e w' => ∃ z : Option Addr × Nat, e = .returned (.tuple #[sV 0 z, iv 2]) ∧ Below w.heap.size w w' ∧ St w.heap.size (fun _ => True) w' := by
  have := Catches_ok (g.at y) bs r w hrd hl
  rw [show catR (g.at y) bs r = [] from if_neg fun h => hr h.2, show catE (g.at y) bs r = 2 from by rw [catE, ok_at, if_pos hg, if_neg hr]] at this
  exact this.mono fun _ _ ⟨z, h1, h2, _⟩ => ⟨z, h1, h2, fun _ _ => trivial⟩
theorem Cat_yes (g : Fg) (bs : List Bx) (y : Option Addr × Nat) (r : Int) (w : World) (hrd : Rd 4 Bx.cs (.slice y.1 g.n y.2) bs w) (hl : bs.length ≤ 1000000) (hg : g.ok bs = true) (hr : 0 ≤ r ∧ r ≤ 6000) :
    Calls Try.prog 24 #[(g.at y).v, iv r] w fun e w' => ∃ z : Option Addr × Nat, e = .returned (.tuple #[sV (catL g bs r g.k).length z, iv 0]) ∧ Below w.heap.size w w' ∧ St w.heap.size (Rd 1 iF (sV (catL g bs r g.k).length z) (catL g bs r g.k)) w' := by
  have := Catches_ok (g.at y) bs r w hrd hl
  rwa [show catR (g.at y) bs r = catL g bs r g.k from (if_pos ⟨hg, hr⟩).trans (catL_at g bs r y _), show catE (g.at y) bs r = 0 from by rw [catE, ok_at, if_pos hg, if_pos hr]] at this
theorem ints_same (y z : Option Addr × Nat) (xs : List Int) (w : World) (hx : Rd 1 iF (sV xs.length y) xs w) (hy : Rd 1 iF (sV xs.length z) xs w) (hl : xs.length ≤ 1000000) :
    Calls Try.prog 27 #[sV xs.length y, sV xs.length z] w fun e w' => e = .returned (.bool true) ∧ Below w.heap.size w w' := by
  have := ints_ok y z xs xs w hx hy hl
  rwa [decide_eq_true rfl] at this

set_option maxRecDepth 100000 in
theorem FlightCatches_ok (g : Fg) (bs : List Bx) (r : Int) (w : World) (hrd : Rd 4 Bx.cs (.slice g.o g.n g.c) bs w) :
    Calls Try.prog 4 #[g.v, iv r] w fun e w' => e = .returned (.bool true) ∧ Below w.heap.size w w' := by
  have hn : g.n = bs.length := hrd.len
  refine calls_val env mixed Try.func4 has4 Try.ntmps4 [g.v, iv r] (by simp) ?_
  by_cases hfew : (g.n : Int) ≤ 700
  case neg =>
    repeat'
      conv => whnf
      first
        | refine And.intro (a := drawB _ = true) (by kernel_rfl) ?_
        | refine And.intro (a := (_ : Bool) = true) rfl ?_
        | refine And.intro (a := (_ : Bool) = true ∧ (_ : Bool) = true) ⟨rfl, rfl⟩ ?_
        | refine And.intro (a := (_ : Bool) = true ∧ (_ : List _) = []) ⟨rfl, rfl⟩ ?_
        | refine And.intro (a := IR _ _) (And.intro (by omega) (by omega)) ?_
        | refine And.intro (a := (0 : Int) ≤ _ ∧ _ < _) (And.intro (by omega) (by omega)) ?_
        | refine And.intro (a := (_ : Bool) = true) (by simp only [Nat.beq_refl]; rfl) ?_
        | refine And.intro (a := ((_ : Bool) = true → 1 ≤ _) ∧ _ ≤ 9223372036854775807 ∧ _ ≤ 140737488355328) ⟨fun h => (by first | omega | cases h), by omega, by omega⟩ ?_
        | refine splT ?_
        | refine splF ?_
        | refine splNot ?_
        | (refine splIn (fun hc => ?_) (fun hc => ?_) <;> first | (exfalso; omega) | (exfalso; dsimp only at hc; omega) | skip)
        | (refine splD (fun hc => ?_) (fun hc => ?_) <;> first | (exfalso; omega) | (exfalso; dsimp only at hc; omega) | skip)
        | (refine splE (fun hc => ?_) (fun hc => ?_) <;> first | (exfalso; omega) | (exfalso; dsimp only at hc; omega) | skip)
        | (refine splNE (fun hc => ?_) (fun hc => ?_) <;> first | (exfalso; omega) | (exfalso; dsimp only at hc; omega) | skip)
        | ((with_reducible show CallEv _ _ 23 _ _ _ _ _); refine callE (k := 23) (fun β w' hbw => few_ok g _) ?_)
        | ((with_reducible show CallEv _ _ 20 _ _ _ _ _); refine callE (k := 20) (fun β w' hbw => wakes_ok _) ?_)
    exact ⟨fun β => rfl, fun w' h => h⟩
  have hl : bs.length ≤ 1000000 := by omega
  by_cases hg : g.ok bs = true
  case neg =>
    have hR : ∀ w', Below w.heap.size w w' → Calls Try.prog 26 #[g.v] w' fun e w'' => e = .returned (.bool false) ∧ Below w'.heap.size w' w'' := fun w' hb => by
      have := Right_ok g bs w' (hrd.below hb) hl
      rwa [Bool.eq_false_iff.2 hg] at this
    repeat'
      conv => whnf
      first
        | refine And.intro (a := drawB _ = true) (by kernel_rfl) ?_
        | refine And.intro (a := (_ : Bool) = true) rfl ?_
        | refine And.intro (a := (_ : Bool) = true ∧ (_ : Bool) = true) ⟨rfl, rfl⟩ ?_
        | refine And.intro (a := (_ : Bool) = true ∧ (_ : List _) = []) ⟨rfl, rfl⟩ ?_
        | refine And.intro (a := IR _ _) (And.intro (by omega) (by omega)) ?_
        | refine And.intro (a := (0 : Int) ≤ _ ∧ _ < _) (And.intro (by omega) (by omega)) ?_
        | refine And.intro (a := (_ : Bool) = true) (by simp only [Nat.beq_refl]; rfl) ?_
        | refine And.intro (a := ((_ : Bool) = true → 1 ≤ _) ∧ _ ≤ 9223372036854775807 ∧ _ ≤ 140737488355328) ⟨fun h => (by first | omega | cases h), by omega, by omega⟩ ?_
        | refine splT ?_
        | refine splF ?_
        | refine splNot ?_
        | (refine splIn (fun hc => ?_) (fun hc => ?_) <;> first | (exfalso; omega) | (exfalso; dsimp only at hc; omega) | skip)
        | (refine splD (fun hc => ?_) (fun hc => ?_) <;> first | (exfalso; omega) | (exfalso; dsimp only at hc; omega) | skip)
        | (refine splE (fun hc => ?_) (fun hc => ?_) <;> first | (exfalso; omega) | (exfalso; dsimp only at hc; omega) | skip)
        | (refine splNE (fun hc => ?_) (fun hc => ?_) <;> first | (exfalso; omega) | (exfalso; dsimp only at hc; omega) | skip)
        | ((with_reducible show CallEv _ _ 23 _ _ _ _ _); refine callE (k := 23) (fun β w' hbw => few_ok g _) ?_)
        | ((with_reducible show CallEv _ _ 25 _ _ _ _ _); refine callF [] (fun y => (g.at y).v) (fun y => Rd 4 Bx.cs (.slice y.1 g.n y.2) bs) (fun β w' _ hbw => Flight_ok g bs w' (hrd.below hbw) hl) ?_; intro y)
        | ((with_reducible show CallEv _ _ 24 _ _ _ _ _); refine callF [] (fun z => .tuple #[sV 0 z, iv 1]) (fun _ _ => True) (fun β w' _ hbw => Cat_bad g bs y r w' hbw.2 hl hg) ?_; intro z)
        | ((with_reducible show CallEv _ _ 26 _ _ _ _ _); refine callE (k := 26) (fun β w' hbw => hR _ hbw.1.1) ?_)
        | ((with_reducible show CallEv _ _ 20 _ _ _ _ _); refine callE (k := 20) (fun β w' hbw => wakes_ok _) ?_)
    exact ⟨fun β => rfl, fun w' h => h.1.1⟩
  have hR : ∀ w', Below w.heap.size w w' → Calls Try.prog 26 #[g.v] w' fun e w'' => e = .returned (.bool true) ∧ Below w'.heap.size w' w'' := fun w' hb => by
    have := Right_ok g bs w' (hrd.below hb) hl
    rwa [hg] at this
  by_cases hr : 0 ≤ r ∧ r ≤ 6000
  case neg =>
    repeat'
      conv => whnf
      first
        | refine And.intro (a := drawB _ = true) (by kernel_rfl) ?_
        | refine And.intro (a := (_ : Bool) = true) rfl ?_
        | refine And.intro (a := (_ : Bool) = true ∧ (_ : Bool) = true) ⟨rfl, rfl⟩ ?_
        | refine And.intro (a := (_ : Bool) = true ∧ (_ : List _) = []) ⟨rfl, rfl⟩ ?_
        | refine And.intro (a := IR _ _) (And.intro (by omega) (by omega)) ?_
        | refine And.intro (a := (0 : Int) ≤ _ ∧ _ < _) (And.intro (by omega) (by omega)) ?_
        | refine And.intro (a := (_ : Bool) = true) (by simp only [Nat.beq_refl]; rfl) ?_
        | refine And.intro (a := ((_ : Bool) = true → 1 ≤ _) ∧ _ ≤ 9223372036854775807 ∧ _ ≤ 140737488355328) ⟨fun h => (by first | omega | cases h), by omega, by omega⟩ ?_
        | refine splT ?_
        | refine splF ?_
        | refine splNot ?_
        | (refine splIn (fun hc => ?_) (fun hc => ?_) <;> first | (exfalso; omega) | (exfalso; dsimp only at hc; omega) | skip)
        | (refine splD (fun hc => ?_) (fun hc => ?_) <;> first | (exfalso; omega) | (exfalso; dsimp only at hc; omega) | skip)
        | (refine splE (fun hc => ?_) (fun hc => ?_) <;> first | (exfalso; omega) | (exfalso; dsimp only at hc; omega) | skip)
        | (refine splNE (fun hc => ?_) (fun hc => ?_) <;> first | (exfalso; omega) | (exfalso; dsimp only at hc; omega) | skip)
        | ((with_reducible show CallEv _ _ 23 _ _ _ _ _); refine callE (k := 23) (fun β w' hbw => few_ok g _) ?_)
        | ((with_reducible show CallEv _ _ 25 _ _ _ _ _); refine callF [] (fun y => (g.at y).v) (fun y => Rd 4 Bx.cs (.slice y.1 g.n y.2) bs) (fun β w' _ hbw => Flight_ok g bs w' (hrd.below hbw) hl) ?_; intro y)
        | ((with_reducible show CallEv _ _ 24 _ _ _ _ _); refine callF [] (fun z => .tuple #[sV 0 z, iv 2]) (fun _ _ => True) (fun β w' _ hbw => Cat_out g bs y r w' hbw.2 hl hg hr) ?_; intro z)
        | ((with_reducible show CallEv _ _ 26 _ _ _ _ _); refine callE (k := 26) (fun β w' hbw => hR _ hbw.1.1) ?_)
        | ((with_reducible show CallEv _ _ 19 _ _ _ _ _); refine callE (k := 19) (fun β w' hbw => In_ok _ _ _ _) ?_)
        | ((with_reducible show CallEv _ _ 20 _ _ _ _ _); refine callE (k := 20) (fun β w' hbw => wakes_ok _) ?_)
    exact ⟨fun β => rfl, fun w' h => h.1.1⟩
  have hlen := catL_len g bs r g.k
  have hkk : (g.k : Int) ≤ 301 := by have := Fg.ok_iff.1 hg; unfold Fg.k; omega
  have hsame := fun y z w' h1 h2 => ints_same y z (catL g bs r g.k) w' h1 h2 (by omega)
  repeat'
    conv => whnf
    first
      | refine And.intro (a := drawB _ = true) (by kernel_rfl) ?_
      | refine And.intro (a := (_ : Bool) = true) rfl ?_
      | refine And.intro (a := (_ : Bool) = true ∧ (_ : Bool) = true) ⟨rfl, rfl⟩ ?_
      | refine And.intro (a := (_ : Bool) = true ∧ (_ : List _) = []) ⟨rfl, rfl⟩ ?_
      | refine And.intro (a := IR _ _) (And.intro (by omega) (by omega)) ?_
      | refine And.intro (a := (0 : Int) ≤ _ ∧ _ < _) (And.intro (by omega) (by omega)) ?_
      | refine And.intro (a := (_ : Bool) = true) (by simp only [Nat.beq_refl]; rfl) ?_
      | refine And.intro (a := ((_ : Bool) = true → 1 ≤ _) ∧ _ ≤ 9223372036854775807 ∧ _ ≤ 140737488355328) ⟨fun h => (by first | omega | cases h), by omega, by omega⟩ ?_
      | refine splT ?_
      | refine splF ?_
      | refine splNot ?_
      | (refine splIn (fun hc => ?_) (fun hc => ?_) <;> first | (exfalso; omega) | (exfalso; dsimp only at hc; omega) | skip)
      | (refine splD (fun hc => ?_) (fun hc => ?_) <;> first | (exfalso; omega) | (exfalso; dsimp only at hc; omega) | skip)
      | (refine splE (fun hc => ?_) (fun hc => ?_) <;> first | (exfalso; omega) | (exfalso; dsimp only at hc; omega) | skip)
      | (refine splNE (fun hc => ?_) (fun hc => ?_) <;> first | (exfalso; omega) | (exfalso; dsimp only at hc; omega) | skip)
      | ((with_reducible show CallEv _ _ 23 _ _ _ _ _); refine callE (k := 23) (fun β w' hbw => few_ok g _) ?_)
      | ((with_reducible show CallEv _ _ 25 _ _ _ _ _); refine callF [] (fun y => (g.at y).v) (fun y => Rd 4 Bx.cs (.slice y.1 g.n y.2) bs) (fun β w' _ hbw => Flight_ok g bs w' (hrd.below hbw) hl) ?_; intro y)
      | ((with_reducible show CallEv _ _ 24 _ _ _ _ _); refine callF [] (fun z => .tuple #[sV (catL g bs r g.k).length z, iv 0]) (fun z => Rd 1 iF (sV (catL g bs r g.k).length z) (catL g bs r g.k)) (fun β w' _ hbw => Cat_yes g bs y r w' hbw.2 hl hg hr) ?_; intro z)
      | ((with_reducible show CallEv _ _ 26 _ _ _ _ _); refine callE (k := 26) (fun β w' hbw => hR _ hbw.1.1) ?_)
      | ((with_reducible show CallEv _ _ 19 _ _ _ _ _); refine callE (k := 19) (fun β w' hbw => In_ok _ _ _ _) ?_)
      | ((with_reducible show CallEv _ _ 28 _ _ _ _ _); refine callF [] (fun u => sV (catL g bs r g.k).length u) (fun u => Rd 1 iF (sV (catL g bs r g.k).length u) (catL g bs r g.k)) (fun β w' _ hbw => Rcatches_ok g bs r w' hg (hrd.below hbw.1.1) (by omega)) ?_; intro u)
      | ((with_reducible show CallEv _ _ 27 _ _ _ _ _); refine callE (k := 27) (fun β w' hbw => hsame z u _ hbw.1.2 hbw.2) ?_)
      | ((with_reducible show CallEv _ _ 20 _ _ _ _ _); refine callE (k := 20) (fun β w' hbw => wakes_ok _) ?_)
  exact ⟨fun β => rfl, fun w' h => h.1.1.1⟩
end Go.Proofs.Ytlehjapeomallaa

/- The law of cycles answers true at every flight and release; what pick, size, narrow and within return. -/
namespace Go.Proofs.Ytlehjapeomallaa
open Go Sx Go.RowKit
set_option linter.unusedSimpArgs false

/-- Where a slice that has come as a result lies: somewhere, if it has elements. -/
abbrev YS {α : Type} (L : List α) := { y : Option Addr × Nat // L = [] ∨ ∃ ad, y.1 = some ad }
theorem rd_ys {α : Type} {sz : Nat} {f : α → List Value} {y : Option Addr × Nat} {L : List α} {w : World} (h : Rd sz f (sV L.length y) L w) : L = [] ∨ ∃ ad, y.1 = some ad := by
  rcases h with ⟨_, h⟩ | ⟨ad, c, h, _⟩
  · exact .inl h
  · simp only [Value.slice.injEq] at h
    exact .inr ⟨ad, h.1⟩
theorem fam_ys {α : Type} {P : Program} {k : Nat} {args : Array Value} {w : World} {sz : Nat} {f : α → List Value} {L : List α} {F : Option Addr × Nat → Value}
    (h : Calls P k args w fun e w' => ∃ y : Option Addr × Nat, e = .returned (F y) ∧ Below w.heap.size w w' ∧ St w.heap.size (Rd sz f (sV L.length y) L) w') :
    Calls P k args w fun e w' => ∃ y : YS L, e = .returned (F y.1) ∧ Below w.heap.size w w' ∧ St w.heap.size (Rd sz f (sV L.length y.1) L) w' :=
  h.mono fun _ _ ⟨y, h1, h2, h3⟩ => ⟨⟨y, rd_ys h3.now⟩, h1, h2, h3⟩
theorem rd_at {α : Type} {sz : Nat} {f : α → List Value} {ad : Addr} {n c : Nat} {L : List α} {w : World} (h : Rd sz f (.slice (some ad) n c) L w) {k : Nat} {b : α} (hk : L[k]? = some b) :
    ∀ j v, (f b)[j]? = some v → w.cell? ((ad.add (k * sz)).add j) = some v := by
  rcases h with ⟨h, _⟩ | ⟨ad', c', h, h2⟩
  · simp at h
  · simp only [Value.slice.injEq, Option.some.injEq] at h
    obtain ⟨rfl, _⟩ := h
    exact h2 k b hk
theorem rd_ati {α : Type} {sz : Nat} {f : α → List Value} {ad : Addr} {n c : Nat} {L : List α} {w : World} (h : Rd sz f (.slice (some ad) n c) L w) {k : Nat} {b : α} (hk : L[k]? = some b) :
    ∀ j v, (f b)[j]? = some v → w.cell? ((ad.add ((k : Int).toNat * sz)).add j) = some v := by rw [Int.toNat_natCast]; exact rd_at h hk

theorem pick_bd {lo hi w : Int} (h : lo ≤ hi) : lo ≤ lo + w % (hi - lo + 1) ∧ lo + w % (hi - lo + 1) ≤ hi := by
  have h2 := Int.emod_nonneg w (b := hi - lo + 1) (by omega)
  have h3 := Int.emod_lt_of_pos w (b := hi - lo + 1) (by omega)
  omega

theorem cv16 (n : Int) (h : 0 ≤ n ∧ n ≤ 65535) : RunIs Try.prog (convert 59 3 (.int .u16 n)) (iv n) := fun w => by
  have h1 : Try.prog.underlying 59 = some (.int .u16) := by kernel_rfl
  have h2 : Try.prog.underlying 3 = some (.int .i64) := by kernel_rfl
  have h3 : IntKind.i64.wrap n = n := IR.wrap (k := .i64) ⟨by omega, by omega⟩
  simp [convert, Conv.intToInt, Go.run_underlying h1 w, Go.run_underlying h2 w, h3]
theorem cv8 (n : Int) (h : 0 ≤ n ∧ n ≤ 255) : RunIs Try.prog (convert 5 3 (.int .u8 n)) (iv n) := fun w => by
  have h1 : Try.prog.underlying 5 = some (.int .u8) := by kernel_rfl
  have h2 : Try.prog.underlying 3 = some (.int .i64) := by kernel_rfl
  have h3 : IntKind.i64.wrap n = n := IR.wrap (k := .i64) ⟨by omega, by omega⟩
  simp [convert, Conv.intToInt, Go.run_underlying h1 w, Go.run_underlying h2 w, h3]

set_option maxRecDepth 100000 in
theorem pick_ok (lo hi n : Int) (w : World) (h : lo ≤ hi) (h0 : -10000000 ≤ lo) (h1 : hi ≤ 10000000) (hn : 0 ≤ n ∧ n ≤ 65535) :
    Calls Try.prog 29 #[.agg #[iv lo, iv hi], .int .u16 n] w fun e w' => e = .returned (iv (lo + n % (hi - lo + 1))) ∧ Below w.heap.size w w' := by
  have hb := pick_bd (w := n) h
  refine calls_val env mixed Try.func29 has29 Try.ntmps29 [.agg #[iv lo, iv hi], .int .u16 n] (by simp) ?_
  repeat'
    conv => whnf
    first
      | refine And.intro (a := drawB _ = true) (by kernel_rfl) ?_
      | refine And.intro (a := (_ : Bool) = true) rfl ?_
      | refine And.intro (a := (_ : Bool) = true ∧ (_ : Bool) = true) ⟨rfl, rfl⟩ ?_
      | refine And.intro (a := (_ : Bool) = true ∧ (_ : List _) = []) ⟨rfl, rfl⟩ ?_
      | refine And.intro (a := IR _ _) (And.intro (by omega) (by omega)) ?_
      | refine And.intro (a := (0 : Int) ≤ _ ∧ _ < _) (And.intro (by omega) (by omega)) ?_
      | refine And.intro (a := (_ : Bool) = true) (by simp only [Nat.beq_refl]; rfl) ?_
      | refine And.intro (a := ((_ : Bool) = true → 1 ≤ _) ∧ _ ≤ 9223372036854775807 ∧ _ ≤ 140737488355328) ⟨fun h => (by first | omega | cases h), by omega, by omega⟩ ?_
      | refine splT ?_
      | refine splF ?_
      | refine splNot ?_
      | (refine splIn (fun hc => ?_) (fun hc => ?_) <;> first | (exfalso; omega) | (exfalso; dsimp only at hc; omega) | skip)
      | (refine splD (fun hc => ?_) (fun hc => ?_) <;> first | (exfalso; omega) | (exfalso; dsimp only at hc; omega) | skip)
      | (refine splE (fun hc => ?_) (fun hc => ?_) <;> first | (exfalso; omega) | (exfalso; dsimp only at hc; omega) | skip)
      | (refine splNE (fun hc => ?_) (fun hc => ?_) <;> first | (exfalso; omega) | (exfalso; dsimp only at hc; omega) | skip)
      | refine Exists.intro (α := Value) (iv n) ⟨cv16 n hn, ?_⟩
      | refine remE (by omega) (by omega) ?_
  exact ⟨fun β => rfl, fun w' h => h⟩
theorem size_ok (n : Int) (w : World) (h : -4000000000000 ≤ n ∧ n ≤ 4000000000000) :
    Calls Try.prog 30 #[iv n] w fun e w' => e = .returned (iv (imax n (-n))) ∧ Below w.heap.size w w' := by
  refine calls_val env mixed Try.func30 has30 Try.ntmps30 [iv n] (by simp) ?_
  repeat'
    conv => whnf
    first
      | refine And.intro (a := drawB _ = true) (by kernel_rfl) ?_
      | refine And.intro (a := (_ : Bool) = true) rfl ?_
      | refine And.intro (a := (_ : Bool) = true ∧ (_ : Bool) = true) ⟨rfl, rfl⟩ ?_
      | refine And.intro (a := (_ : Bool) = true ∧ (_ : List _) = []) ⟨rfl, rfl⟩ ?_
      | refine And.intro (a := IR _ _) (And.intro (by omega) (by omega)) ?_
      | refine And.intro (a := (0 : Int) ≤ _ ∧ _ < _) (And.intro (by omega) (by omega)) ?_
      | refine And.intro (a := (_ : Bool) = true) (by simp only [Nat.beq_refl]; rfl) ?_
      | refine And.intro (a := ((_ : Bool) = true → 1 ≤ _) ∧ _ ≤ 9223372036854775807 ∧ _ ≤ 140737488355328) ⟨fun h => (by first | omega | cases h), by omega, by omega⟩ ?_
      | refine splT ?_
      | refine splF ?_
      | refine splNot ?_
      | (refine splIn (fun hc => ?_) (fun hc => ?_) <;> first | (exfalso; omega) | (exfalso; dsimp only at hc; omega) | skip)
      | (refine splD (fun hc => ?_) (fun hc => ?_) <;> first | (exfalso; omega) | (exfalso; dsimp only at hc; omega) | skip)
      | (refine splE (fun hc => ?_) (fun hc => ?_) <;> first | (exfalso; omega) | (exfalso; dsimp only at hc; omega) | skip)
      | (refine splNE (fun hc => ?_) (fun hc => ?_) <;> first | (exfalso; omega) | (exfalso; dsimp only at hc; omega) | skip)
  exact ⟨fun β => rfl, fun w' h => h⟩
/-- A range within another one, by words. -/
def nar (r : Rg) (a b : Int) : Rg := ⟨r.lo + a % (r.hi - r.lo + 1), (r.lo + a % (r.hi - r.lo + 1)) + b % (r.hi - (r.lo + a % (r.hi - r.lo + 1)) + 1)⟩
set_option maxRecDepth 100000 in
theorem narrow_ok (r : Rg) (a b : Int) (w : World) (h : r.lo ≤ r.hi) (h0 : -10000000 ≤ r.lo) (h1 : r.hi ≤ 10000000) (ha : 0 ≤ a ∧ a ≤ 255) (hb : 0 ≤ b ∧ b ≤ 255) :
    Calls Try.prog 31 #[.agg #[iv r.lo, iv r.hi], .int .u8 a, .int .u8 b] w fun e w' => e = .returned (.agg #[iv (nar r a b).lo, iv (nar r a b).hi]) ∧ Below w.heap.size w w' := by
  have hc := pick_bd (w := a) h
  have hd := pick_bd (lo := r.lo + a % (r.hi - r.lo + 1)) (hi := r.hi) (w := b) (by omega)
  refine calls_val env mixed Try.func31 has31 Try.ntmps31 [.agg #[iv r.lo, iv r.hi], .int .u8 a, .int .u8 b] (by simp) ?_
  repeat'
    conv => whnf
    first
      | refine And.intro (a := drawB _ = true) (by kernel_rfl) ?_
      | refine And.intro (a := (_ : Bool) = true) rfl ?_
      | refine And.intro (a := (_ : Bool) = true ∧ (_ : Bool) = true) ⟨rfl, rfl⟩ ?_
      | refine And.intro (a := (_ : Bool) = true ∧ (_ : List _) = []) ⟨rfl, rfl⟩ ?_
      | refine And.intro (a := IR _ _) (And.intro (by omega) (by omega)) ?_
      | refine And.intro (a := (0 : Int) ≤ _ ∧ _ < _) (And.intro (by omega) (by omega)) ?_
      | refine And.intro (a := (_ : Bool) = true) (by simp only [Nat.beq_refl]; rfl) ?_
      | refine And.intro (a := ((_ : Bool) = true → 1 ≤ _) ∧ _ ≤ 9223372036854775807 ∧ _ ≤ 140737488355328) ⟨fun h => (by first | omega | cases h), by omega, by omega⟩ ?_
      | refine splT ?_
      | refine splF ?_
      | refine splNot ?_
      | (refine splIn (fun hc => ?_) (fun hc => ?_) <;> first | (exfalso; omega) | (exfalso; dsimp only at hc; omega) | skip)
      | (refine splD (fun hc => ?_) (fun hc => ?_) <;> first | (exfalso; omega) | (exfalso; dsimp only at hc; omega) | skip)
      | (refine splE (fun hc => ?_) (fun hc => ?_) <;> first | (exfalso; omega) | (exfalso; dsimp only at hc; omega) | skip)
      | (refine splNE (fun hc => ?_) (fun hc => ?_) <;> first | (exfalso; omega) | (exfalso; dsimp only at hc; omega) | skip)
      | refine Exists.intro (α := Value) (iv a) ⟨cv8 a ha, ?_⟩
      | refine Exists.intro (α := Value) (iv b) ⟨cv8 b hb, ?_⟩
      | refine remE (by omega) (by omega) ?_
  exact ⟨fun β => rfl, fun w' h => h⟩

theorem catL_mem {g : Fg} {bs : List Bx} {r x : Int} : ∀ {m : Nat}, x ∈ catL g bs r m → ∃ k : Nat, k < m ∧ x = r + g.le + k ∧ sureB g bs r k = true
  | 0, h => by simp [catL] at h
  | m + 1, h => by
    rw [catL, List.mem_append] at h
    rcases h with h | h
    · obtain ⟨k, h1, h2⟩ := catL_mem h
      exact ⟨k, by omega, h2⟩
    · split at h
      · rw [List.mem_singleton] at h
        exact ⟨m, by omega, h, ‹_›⟩
      · simp at h
theorem hnd_cyc (g : Fg) (bs : List Bx) (t : Int) : hnd g bs (t + g.n) = hnd g bs t := by
  unfold hnd
  rw [Int.add_emod_right]
theorem catL_cyc (g : Fg) (bs : List Bx) (r : Int) : ∀ k, catL g bs (r + g.n) k = (catL g bs r k).map (· + (g.n : Int))
  | 0 => rfl
  | k + 1 => by
    have hs : sureB g bs (r + g.n) k = sureB g bs r k := by
      unfold sureB
      rw [show r + (g.n : Int) + g.le + k = r + g.le + k + g.n from by omega, hnd_cyc]
    rw [catL, catL, catL_cyc g bs r k, List.map_append, hs]
    congr 1
    split
    · simp; omega
    · rfl

set_option maxRecDepth 100000 in
theorem FlightCycles_ok (g : Fg) (bs : List Bx) (rel : Int) (w : World) (hrd : Rd 4 Bx.cs (.slice g.o g.n g.c) bs w) (hrel : 0 ≤ rel ∧ rel ≤ 65535) :
    Calls Try.prog 6 #[g.v, .int .u16 rel] w fun e w' => e = .returned (.bool true) ∧ Below w.heap.size w w' := by
  have hn : g.n = bs.length := hrd.len
  refine calls_val env mixed Try.func6 has6 Try.ntmps6 [g.v, .int .u16 rel] (by simp) ?_
  by_cases hfew : (g.n : Int) ≤ 700
  case neg =>
    repeat'
      conv => whnf
      first
        | refine And.intro (a := drawB _ = true) (by kernel_rfl) ?_
        | refine And.intro (a := (_ : Bool) = true) rfl ?_
        | refine And.intro (a := (_ : Bool) = true ∧ (_ : Bool) = true) ⟨rfl, rfl⟩ ?_
        | refine And.intro (a := (_ : Bool) = true ∧ (_ : List _) = []) ⟨rfl, rfl⟩ ?_
        | refine And.intro (a := IR _ _) (And.intro (by omega) (by omega)) ?_
        | refine And.intro (a := (0 : Int) ≤ _ ∧ _ < _) (And.intro (by omega) (by omega)) ?_
        | refine And.intro (a := (_ : Bool) = true) (by simp only [Nat.beq_refl]; rfl) ?_
        | refine And.intro (a := ((_ : Bool) = true → 1 ≤ _) ∧ _ ≤ 9223372036854775807 ∧ _ ≤ 140737488355328) ⟨fun h => (by first | omega | cases h), by omega, by omega⟩ ?_
        | refine splT ?_
        | refine splF ?_
        | refine splNot ?_
        | (refine splIn (fun hc => ?_) (fun hc => ?_) <;> first | (exfalso; omega) | (exfalso; dsimp only at hc; omega) | skip)
        | (refine splD (fun hc => ?_) (fun hc => ?_) <;> first | (exfalso; omega) | (exfalso; dsimp only at hc; omega) | skip)
        | (refine splE (fun hc => ?_) (fun hc => ?_) <;> first | (exfalso; omega) | (exfalso; dsimp only at hc; omega) | skip)
        | (refine splNE (fun hc => ?_) (fun hc => ?_) <;> first | (exfalso; omega) | (exfalso; dsimp only at hc; omega) | skip)
        | ((with_reducible show CallEv _ _ 23 _ _ _ _ _); refine callE (k := 23) (fun β w' hbw => few_ok g _) ?_)
        | ((with_reducible show CallEv _ _ 20 _ _ _ _ _); refine callE (k := 20) (fun β w' hbw => wakes_ok _) ?_)
    exact ⟨fun β => rfl, fun w' h => h⟩
  have hl : bs.length ≤ 1000000 := by omega
  by_cases hg : g.ok bs = true
  case neg =>
    have hR : ∀ w', Below w.heap.size w w' → Calls Try.prog 26 #[g.v] w' fun e w'' => e = .returned (.bool false) ∧ Below w'.heap.size w' w'' := fun w' hb => by
      have := Right_ok g bs w' (hrd.below hb) hl
      rwa [Bool.eq_false_iff.2 hg] at this
    repeat'
      conv => whnf
      first
        | refine And.intro (a := drawB _ = true) (by kernel_rfl) ?_
        | refine And.intro (a := (_ : Bool) = true) rfl ?_
        | refine And.intro (a := (_ : Bool) = true ∧ (_ : Bool) = true) ⟨rfl, rfl⟩ ?_
        | refine And.intro (a := (_ : Bool) = true ∧ (_ : List _) = []) ⟨rfl, rfl⟩ ?_
        | refine And.intro (a := IR _ _) (And.intro (by omega) (by omega)) ?_
        | refine And.intro (a := (0 : Int) ≤ _ ∧ _ < _) (And.intro (by omega) (by omega)) ?_
        | refine And.intro (a := (_ : Bool) = true) (by simp only [Nat.beq_refl]; rfl) ?_
        | refine And.intro (a := ((_ : Bool) = true → 1 ≤ _) ∧ _ ≤ 9223372036854775807 ∧ _ ≤ 140737488355328) ⟨fun h => (by first | omega | cases h), by omega, by omega⟩ ?_
        | refine splT ?_
        | refine splF ?_
        | refine splNot ?_
        | (refine splIn (fun hc => ?_) (fun hc => ?_) <;> first | (exfalso; omega) | (exfalso; dsimp only at hc; omega) | skip)
        | (refine splD (fun hc => ?_) (fun hc => ?_) <;> first | (exfalso; omega) | (exfalso; dsimp only at hc; omega) | skip)
        | (refine splE (fun hc => ?_) (fun hc => ?_) <;> first | (exfalso; omega) | (exfalso; dsimp only at hc; omega) | skip)
        | (refine splNE (fun hc => ?_) (fun hc => ?_) <;> first | (exfalso; omega) | (exfalso; dsimp only at hc; omega) | skip)
        | ((with_reducible show CallEv _ _ 23 _ _ _ _ _); refine callE (k := 23) (fun β w' hbw => few_ok g _) ?_)
        | ((with_reducible show CallEv _ _ 26 _ _ _ _ _); refine callE (k := 26) (fun β w' hbw => hR _ hbw) ?_)
        | ((with_reducible show CallEv _ _ 20 _ _ _ _ _); refine callE (k := 20) (fun β w' hbw => wakes_ok _) ?_)
    exact ⟨fun β => rfl, fun w' h => h⟩
  have hR : ∀ w', Below w.heap.size w w' → Calls Try.prog 26 #[g.v] w' fun e w'' => e = .returned (.bool true) ∧ Below w'.heap.size w' w'' := fun w' hb => by
    have := Right_ok g bs w' (hrd.below hb) hl
    rwa [hg] at this
  have hg' := Fg.ok_iff.1 hg
  have m0 := Int.emod_nonneg rel (b := 6001 - (g.n : Int)) (by omega)
  have m1 := Int.emod_lt_of_pos rel (b := 6001 - (g.n : Int)) (by omega)
  have hrr : ∃ r, rel % (6001 - (g.n : Int)) = r := ⟨_, rfl⟩
  obtain ⟨r, hr⟩ := hrr
  rw [hr] at m0 m1
  have hlen := catL_len g bs r g.k
  have hkk : (g.k : Int) ≤ 301 := by unfold Fg.k; omega
  have hcyc := catL_cyc g bs r g.k
  have c1 := fun (y : Option Addr × Nat) w' h => fam_ys (F := fun z => .tuple #[sV (catL g bs r g.k).length z, iv 0]) (Cat_yes g bs y r w' h hl hg (by omega))
  have c2 := fun (y : Option Addr × Nat) w' h => fam_ys (F := fun z => .tuple #[sV (catL g bs (r + g.n) g.k).length z, iv 0]) (Cat_yes g bs y (r + g.n) w' h hl hg (by omega))
  rw [hcyc] at c2
  have hbd : ∀ x ∈ catL g bs r g.k, 0 ≤ x ∧ x ≤ 100000 := fun x hx => by
    obtain ⟨k, h1, h2, _⟩ := catL_mem hx
    omega
  have hL2 : ∀ (k : Nat) (a : Int), (catL g bs r g.k)[k]? = some a → ((catL g bs r g.k).map (· + (g.n : Int)))[k]? = some (a + g.n) := fun k a h => by
    rw [List.getElem?_map, h]; rfl
  have hL1 : ((catL g bs r g.k).map (· + (g.n : Int))).length = (catL g bs r g.k).length := List.length_map _
  generalize (catL g bs r g.k).map (· + (g.n : Int)) = L2 at *
  generalize catL g bs r g.k = L at *
  repeat'
    conv => whnf
    first
      | refine And.intro (a := drawB _ = true) (by kernel_rfl) ?_
      | refine And.intro (a := (_ : Bool) = true) rfl ?_
      | refine And.intro (a := (_ : Bool) = true ∧ (_ : Bool) = true) ⟨rfl, rfl⟩ ?_
      | refine And.intro (a := (_ : Bool) = true ∧ (_ : List _) = []) ⟨rfl, rfl⟩ ?_
      | refine And.intro (a := IR _ _) (And.intro (by omega) (by omega)) ?_
      | refine And.intro (a := (0 : Int) ≤ _ ∧ _ < _) (And.intro (by omega) (by omega)) ?_
      | refine And.intro (a := (_ : Bool) = true) (by simp only [Nat.beq_refl]; rfl) ?_
      | refine And.intro (a := ((_ : Bool) = true → 1 ≤ _) ∧ _ ≤ 9223372036854775807 ∧ _ ≤ 140737488355328) ⟨fun h => (by first | omega | cases h), by omega, by omega⟩ ?_
      | refine splT ?_
      | refine splF ?_
      | refine splNot ?_
      | (refine splIn (fun hc => ?_) (fun hc => ?_) <;> first | (exfalso; omega) | (exfalso; dsimp only at hc; omega) | skip)
      | (refine splD (fun hc => ?_) (fun hc => ?_) <;> first | (exfalso; omega) | (exfalso; dsimp only at hc; omega) | skip)
      | (refine splE (fun hc => ?_) (fun hc => ?_) <;> first | (exfalso; omega) | (exfalso; dsimp only at hc; omega) | skip)
      | (refine splNE (fun hc => ?_) (fun hc => ?_) <;> first | (exfalso; omega) | (exfalso; dsimp only at hc; omega) | skip)
      | ((with_reducible show CallEv _ _ 23 _ _ _ _ _); refine callE (k := 23) (fun β w' hbw => few_ok g _) ?_)
      | ((with_reducible show CallEv _ _ 26 _ _ _ _ _); refine callE (k := 26) (fun β w' hbw => hR _ hbw) ?_)
      | refine Exists.intro (α := Value) (iv rel) ⟨cv16 rel hrel, ?_⟩
      | refine remE (by omega) (by omega) ?_; rw [hr]
      | ((with_reducible show CallEv _ _ 25 _ _ _ _ _); refine callF [] (fun y => (g.at y).v) (fun y => Rd 4 Bx.cs (.slice y.1 g.n y.2) bs) (fun β w' _ hbw => Flight_ok g bs w' (hrd.below (by first | exact hbw | exact hbw.1 | exact hbw.1.1 | exact hbw.1.1.1 | exact hbw.1.1.1.1 | exact hbw.1.1.1.1.1 | exact hbw.1.1.1.1.1.1 | exact hbw.1.1.1.1.1.1.1)) hl) ?_; intro y)
      | ((with_reducible show CallEv _ _ 24 [_, .v (iv r)] _ _ _ _); refine callF [] (fun z : YS L => .tuple #[sV L.length z.1, iv 0]) (fun z => Rd 1 iF (sV L.length z.1) L) (fun β w' _ hbw => c1 _ w' hbw.2) ?_; rintro ⟨z, hz⟩)
      | ((with_reducible show CallEv _ _ 24 [_, .v (iv (r + (g.n : Int)))] _ _ _ _); refine callF [] (fun z : YS L2 => .tuple #[sV L2.length z.1, iv 0]) (fun z => Rd 1 iF (sV L2.length z.1) L2) (fun β w' _ hbw => c2 _ w' hbw.2) ?_; rintro ⟨u, hu⟩)
  refine loopE (fun k : Nat => [(5, .v (iv g.n)), (7, .v (sV L.length z)), (9, .v (sV L2.length u)), (11, .v (iv k))]) (fun _ => []) (fun k => k ≤ L.length) (fun k => L.length - k) 0 (Nat.zero_le _) ⟨rfl, rfl, rfl, rfl, trivial⟩ trivial (fun _ => ⟨rfl, rfl⟩) ?_
  intro k hk
  rcases Nat.lt_or_ge k L.length with hkl | hkl
  · obtain ⟨x, hx⟩ : ∃ x, L[k]? = some x := ⟨_, List.getElem?_eq_getElem hkl⟩
    have hxb := hbd x (List.mem_of_getElem? hx)
    have hx2 := hL2 k x hx
    obtain ⟨z1, z2⟩ := z
    obtain ⟨u1, u2⟩ := u
    obtain ⟨az, rfl⟩ : ∃ ad, z1 = some ad := hz.resolve_left (fun h => by rw [h] at hx; simp at hx)
    obtain ⟨au, rfl⟩ : ∃ ad, u1 = some ad := hu.resolve_left (fun h => by rw [h] at hx2; simp at hx2)
    repeat'
      conv => whnf
      first
        | refine And.intro (a := drawB _ = true) (by kernel_rfl) ?_
        | refine And.intro (a := (_ : Bool) = true) rfl ?_
        | refine And.intro (a := (_ : Bool) = true ∧ (_ : Bool) = true) ⟨rfl, rfl⟩ ?_
        | refine And.intro (a := (_ : Bool) = true ∧ (_ : List _) = []) ⟨rfl, rfl⟩ ?_
        | refine And.intro (a := IR _ _) (And.intro (by omega) (by omega)) ?_
        | refine And.intro (a := (0 : Int) ≤ _ ∧ _ < _) (And.intro (by omega) (by omega)) ?_
        | refine And.intro (a := (_ : Bool) = true) (by simp only [Nat.beq_refl]; rfl) ?_
        | refine And.intro (a := ((_ : Bool) = true → 1 ≤ _) ∧ _ ≤ 9223372036854775807 ∧ _ ≤ 140737488355328) ⟨fun h => (by first | omega | cases h), by omega, by omega⟩ ?_
        | refine splT ?_
        | refine splF ?_
        | refine splNot ?_
        | (refine splIn (fun hc => ?_) (fun hc => ?_) <;> first | (exfalso; omega) | (exfalso; dsimp only at hc; omega) | skip)
        | (refine splD (fun hc => ?_) (fun hc => ?_) <;> first | (exfalso; omega) | (exfalso; dsimp only at hc; omega) | skip)
        | (refine splE (fun hc => ?_) (fun hc => ?_) <;> first | (exfalso; omega) | (exfalso; dsimp only at hc; omega) | skip)
        | (refine splNE (fun hc => ?_) (fun hc => ?_) <;> first | (exfalso; omega) | (exfalso; dsimp only at hc; omega) | skip)
        | refine Exists.intro (α := List Value) [iv x] ⟨⟨rfl, fun w' hw' => rd_ati hw'.1.1.2 hx⟩, ?_⟩
        | refine Exists.intro (α := List Value) [iv (x + g.n)] ⟨⟨rfl, fun w' hw' => rd_ati hw'.2 hx2⟩, ?_⟩
    exact ⟨k + 1, by omega, by omega, Ent.weak rfl ⟨rfl, rfl, rfl, rfl, trivial⟩ trivial fun _ h => h⟩
  · skip
    repeat'
      conv => whnf
      first
        | refine And.intro (a := drawB _ = true) (by kernel_rfl) ?_
        | refine And.intro (a := (_ : Bool) = true) rfl ?_
        | refine And.intro (a := (_ : Bool) = true ∧ (_ : Bool) = true) ⟨rfl, rfl⟩ ?_
        | refine And.intro (a := (_ : Bool) = true ∧ (_ : List _) = []) ⟨rfl, rfl⟩ ?_
        | refine And.intro (a := IR _ _) (And.intro (by omega) (by omega)) ?_
        | refine And.intro (a := (0 : Int) ≤ _ ∧ _ < _) (And.intro (by omega) (by omega)) ?_
        | refine And.intro (a := (_ : Bool) = true) (by simp only [Nat.beq_refl]; rfl) ?_
        | refine And.intro (a := ((_ : Bool) = true → 1 ≤ _) ∧ _ ≤ 9223372036854775807 ∧ _ ≤ 140737488355328) ⟨fun h => (by first | omega | cases h), by omega, by omega⟩ ?_
        | refine splT ?_
        | refine splF ?_
        | refine splNot ?_
        | (refine splIn (fun hc => ?_) (fun hc => ?_) <;> first | (exfalso; omega) | (exfalso; dsimp only at hc; omega) | skip)
        | (refine splD (fun hc => ?_) (fun hc => ?_) <;> first | (exfalso; omega) | (exfalso; dsimp only at hc; omega) | skip)
        | (refine splE (fun hc => ?_) (fun hc => ?_) <;> first | (exfalso; omega) | (exfalso; dsimp only at hc; omega) | skip)
        | (refine splNE (fun hc => ?_) (fun hc => ?_) <;> first | (exfalso; omega) | (exfalso; dsimp only at hc; omega) | skip)
        | ((with_reducible show CallEv _ _ 20 _ _ _ _ _); refine callE (k := 20) (fun β w' hbw => wakes_ok _) ?_)
    exact ⟨fun β => rfl, fun w' h => (by first | exact h | exact h.1 | exact h.1.1 | exact h.1.1.1 | exact h.1.1.1.1 | exact h.1.1.1.1.1 | exact h.1.1.1.1.1.1 | exact h.1.1.1.1.1.1.1)⟩
end Go.Proofs.Ytlehjapeomallaa
