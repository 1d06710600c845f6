/- The law of catches answers true at every flight and release. -/
import Derived.Test.YtlehjapeomallaaFQ
namespace Go.Proofs.Ytlehjapeomallaa
open Go Sx Go.RowKit
set_option linter.unusedSimpArgs false

theorem catL_at (g : Fg) (bs : List Bx) (r : Int) (y : Option Addr × Nat) : ∀ k, catL (g.at y) bs r k = catL g bs r k
  | 0 => rfl
  | k + 1 => by
    rw [catL, catL, catL_at g bs r y k]
    rfl
theorem ok_at (g : Fg) (bs : List Bx) (y : Option Addr × Nat) : (g.at y).ok bs = g.ok bs := rfl

/-- Catches of the flight that was converted: three ways. -/
theorem Cat_bad (g : Fg) (bs : List Bx) (y : Option Addr × Nat) (r : Int) (w : World) (hrd : Rd 4 Bx.cs (.slice y.1 g.n y.2) bs w) (hl : bs.length ≤ 1000000) (hg : ¬ g.ok bs = true) :
    Calls Try.prog 24 #[(g.at y).v, iv r] w fun e w' => ∃ z : Option Addr × Nat, e = .returned (.tuple #[sV 0 z, iv 1]) ∧ Below w.heap.size w w' ∧ St w.heap.size (fun _ => True) w' := by
  have := Catches_ok (g.at y) bs r w hrd hl
  rw [show catR (g.at y) bs r = [] from if_neg fun h => hg h.1, show catE (g.at y) bs r = 1 from by rw [catE, ok_at, if_neg hg]] at this
  exact this.mono fun _ _ ⟨z, h1, h2, _⟩ => ⟨z, h1, h2, fun _ _ => trivial⟩
theorem Cat_out (g : Fg) (bs : List Bx) (y : Option Addr × Nat) (r : Int) (w : World) (hrd : Rd 4 Bx.cs (.slice y.1 g.n y.2) bs w) (hl : bs.length ≤ 1000000) (hg : g.ok bs = true) (hr : ¬ (0 ≤ r ∧ r ≤ 6000)) :
    Calls Try.prog 24 #[(g.at y).v, iv r] w fun e w' => ∃ z : Option Addr × Nat, e = .returned (.tuple #[sV 0 z, iv 2]) ∧ Below w.heap.size w w' ∧ St w.heap.size (fun _ => True) w' := by
  have := Catches_ok (g.at y) bs r w hrd hl
  rw [show catR (g.at y) bs r = [] from if_neg fun h => hr h.2, show catE (g.at y) bs r = 2 from by rw [catE, ok_at, if_pos hg, if_neg hr]] at this
  exact this.mono fun _ _ ⟨z, h1, h2, _⟩ => ⟨z, h1, h2, fun _ _ => trivial⟩
theorem Cat_yes (g : Fg) (bs : List Bx) (y : Option Addr × Nat) (r : Int) (w : World) (hrd : Rd 4 Bx.cs (.slice y.1 g.n y.2) bs w) (hl : bs.length ≤ 1000000) (hg : g.ok bs = true) (hr : 0 ≤ r ∧ r ≤ 6000) :
    Calls Try.prog 24 #[(g.at y).v, iv r] w fun e w' => ∃ z : Option Addr × Nat, e = .returned (.tuple #[sV (catL g bs r g.k).length z, iv 0]) ∧ Below w.heap.size w w' ∧ St w.heap.size (Rd 1 iF (sV (catL g bs r g.k).length z) (catL g bs r g.k)) w' := by
  have := Catches_ok (g.at y) bs r w hrd hl
  rwa [show catR (g.at y) bs r = catL g bs r g.k from (if_pos ⟨hg, hr⟩).trans (catL_at g bs r y _), show catE (g.at y) bs r = 0 from by rw [catE, ok_at, if_pos hg, if_pos hr]] at this
theorem ints_same (y z : Option Addr × Nat) (xs : List Int) (w : World) (hx : Rd 1 iF (sV xs.length y) xs w) (hy : Rd 1 iF (sV xs.length z) xs w) (hl : xs.length ≤ 1000000) :
    Calls Try.prog 27 #[sV xs.length y, sV xs.length z] w fun e w' => e = .returned (.bool true) ∧ Below w.heap.size w w' := by
  have := ints_ok y z xs xs w hx hy hl
  rwa [decide_eq_true rfl] at this

set_option maxRecDepth 100000 in
theorem FlightCatches_ok (g : Fg) (bs : List Bx) (r : Int) (w : World) (hrd : Rd 4 Bx.cs (.slice g.o g.n g.c) bs w) :
    Calls Try.prog 4 #[g.v, iv r] w fun e w' => e = .returned (.bool true) ∧ Below w.heap.size w w' := by
  have hn : g.n = bs.length := hrd.len
  refine calls_val env mixed Try.func4 has4 Try.ntmps4 [g.v, iv r] (by simp) ?_
  by_cases hfew : (g.n : Int) ≤ 700
  case neg =>
    repeat'
      conv => whnf
      first
        | refine And.intro (a := drawB _ = true) (by kernel_rfl) ?_
        | refine And.intro (a := (_ : Bool) = true) rfl ?_
        | refine And.intro (a := (_ : Bool) = true ∧ (_ : Bool) = true) ⟨rfl, rfl⟩ ?_
        | refine And.intro (a := (_ : Bool) = true ∧ (_ : List _) = []) ⟨rfl, rfl⟩ ?_
        | refine And.intro (a := IR _ _) (And.intro (by omega) (by omega)) ?_
        | refine And.intro (a := (0 : Int) ≤ _ ∧ _ < _) (And.intro (by omega) (by omega)) ?_
        | refine And.intro (a := (_ : Bool) = true) (by simp only [Nat.beq_refl]; rfl) ?_
        | refine And.intro (a := ((_ : Bool) = true → 1 ≤ _) ∧ _ ≤ 9223372036854775807 ∧ _ ≤ 140737488355328) ⟨fun h => (by first | omega | cases h), by omega, by omega⟩ ?_
        | refine splT ?_
        | refine splF ?_
        | refine splNot ?_
        | (refine splIn (fun hc => ?_) (fun hc => ?_) <;> first | (exfalso; omega) | (exfalso; dsimp only at hc; omega) | skip)
        | (refine splD (fun hc => ?_) (fun hc => ?_) <;> first | (exfalso; omega) | (exfalso; dsimp only at hc; omega) | skip)
        | (refine splE (fun hc => ?_) (fun hc => ?_) <;> first | (exfalso; omega) | (exfalso; dsimp only at hc; omega) | skip)
        | (refine splNE (fun hc => ?_) (fun hc => ?_) <;> first | (exfalso; omega) | (exfalso; dsimp only at hc; omega) | skip)
        | ((with_reducible show CallEv _ _ 23 _ _ _ _ _); refine callE (k := 23) (fun β w' hbw => few_ok g _) ?_)
        | ((with_reducible show CallEv _ _ 20 _ _ _ _ _); refine callE (k := 20) (fun β w' hbw => wakes_ok _) ?_)
    exact ⟨fun β => rfl, fun w' h => h⟩
  have hl : bs.length ≤ 1000000 := by omega
  by_cases hg : g.ok bs = true
  case neg =>
    have hR : ∀ w', Below w.heap.size w w' → Calls Try.prog 26 #[g.v] w' fun e w'' => e = .returned (.bool false) ∧ Below w'.heap.size w' w'' := fun w' hb => by
      have := Right_ok g bs w' (hrd.below hb) hl
      rwa [Bool.eq_false_iff.2 hg] at this
    repeat'
      conv => whnf
      first
        | refine And.intro (a := drawB _ = true) (by kernel_rfl) ?_
        | refine And.intro (a := (_ : Bool) = true) rfl ?_
        | refine And.intro (a := (_ : Bool) = true ∧ (_ : Bool) = true) ⟨rfl, rfl⟩ ?_
        | refine And.intro (a := (_ : Bool) = true ∧ (_ : List _) = []) ⟨rfl, rfl⟩ ?_
        | refine And.intro (a := IR _ _) (And.intro (by omega) (by omega)) ?_
        | refine And.intro (a := (0 : Int) ≤ _ ∧ _ < _) (And.intro (by omega) (by omega)) ?_
        | refine And.intro (a := (_ : Bool) = true) (by simp only [Nat.beq_refl]; rfl) ?_
        | refine And.intro (a := ((_ : Bool) = true → 1 ≤ _) ∧ _ ≤ 9223372036854775807 ∧ _ ≤ 140737488355328) ⟨fun h => (by first | omega | cases h), by omega, by omega⟩ ?_
        | refine splT ?_
        | refine splF ?_
        | refine splNot ?_
        | (refine splIn (fun hc => ?_) (fun hc => ?_) <;> first | (exfalso; omega) | (exfalso; dsimp only at hc; omega) | skip)
        | (refine splD (fun hc => ?_) (fun hc => ?_) <;> first | (exfalso; omega) | (exfalso; dsimp only at hc; omega) | skip)
        | (refine splE (fun hc => ?_) (fun hc => ?_) <;> first | (exfalso; omega) | (exfalso; dsimp only at hc; omega) | skip)
        | (refine splNE (fun hc => ?_) (fun hc => ?_) <;> first | (exfalso; omega) | (exfalso; dsimp only at hc; omega) | skip)
        | ((with_reducible show CallEv _ _ 23 _ _ _ _ _); refine callE (k := 23) (fun β w' hbw => few_ok g _) ?_)
        | ((with_reducible show CallEv _ _ 25 _ _ _ _ _); refine callF [] (fun y => (g.at y).v) (fun y => Rd 4 Bx.cs (.slice y.1 g.n y.2) bs) (fun β w' _ hbw => Flight_ok g bs w' (hrd.below hbw) hl) ?_; intro y)
        | ((with_reducible show CallEv _ _ 24 _ _ _ _ _); refine callF [] (fun z => .tuple #[sV 0 z, iv 1]) (fun _ _ => True) (fun β w' _ hbw => Cat_bad g bs y r w' hbw.2 hl hg) ?_; intro z)
        | ((with_reducible show CallEv _ _ 26 _ _ _ _ _); refine callE (k := 26) (fun β w' hbw => hR _ hbw.1.1) ?_)
        | ((with_reducible show CallEv _ _ 20 _ _ _ _ _); refine callE (k := 20) (fun β w' hbw => wakes_ok _) ?_)
    exact ⟨fun β => rfl, fun w' h => h.1.1⟩
  have hR : ∀ w', Below w.heap.size w w' → Calls Try.prog 26 #[g.v] w' fun e w'' => e = .returned (.bool true) ∧ Below w'.heap.size w' w'' := fun w' hb => by
    have := Right_ok g bs w' (hrd.below hb) hl
    rwa [hg] at this
  by_cases hr : 0 ≤ r ∧ r ≤ 6000
  case neg =>
    repeat'
      conv => whnf
      first
        | refine And.intro (a := drawB _ = true) (by kernel_rfl) ?_
        | refine And.intro (a := (_ : Bool) = true) rfl ?_
        | refine And.intro (a := (_ : Bool) = true ∧ (_ : Bool) = true) ⟨rfl, rfl⟩ ?_
        | refine And.intro (a := (_ : Bool) = true ∧ (_ : List _) = []) ⟨rfl, rfl⟩ ?_
        | refine And.intro (a := IR _ _) (And.intro (by omega) (by omega)) ?_
        | refine And.intro (a := (0 : Int) ≤ _ ∧ _ < _) (And.intro (by omega) (by omega)) ?_
        | refine And.intro (a := (_ : Bool) = true) (by simp only [Nat.beq_refl]; rfl) ?_
        | refine And.intro (a := ((_ : Bool) = true → 1 ≤ _) ∧ _ ≤ 9223372036854775807 ∧ _ ≤ 140737488355328) ⟨fun h => (by first | omega | cases h), by omega, by omega⟩ ?_
        | refine splT ?_
        | refine splF ?_
        | refine splNot ?_
        | (refine splIn (fun hc => ?_) (fun hc => ?_) <;> first | (exfalso; omega) | (exfalso; dsimp only at hc; omega) | skip)
        | (refine splD (fun hc => ?_) (fun hc => ?_) <;> first | (exfalso; omega) | (exfalso; dsimp only at hc; omega) | skip)
        | (refine splE (fun hc => ?_) (fun hc => ?_) <;> first | (exfalso; omega) | (exfalso; dsimp only at hc; omega) | skip)
        | (refine splNE (fun hc => ?_) (fun hc => ?_) <;> first | (exfalso; omega) | (exfalso; dsimp only at hc; omega) | skip)
        | ((with_reducible show CallEv _ _ 23 _ _ _ _ _); refine callE (k := 23) (fun β w' hbw => few_ok g _) ?_)
        | ((with_reducible show CallEv _ _ 25 _ _ _ _ _); refine callF [] (fun y => (g.at y).v) (fun y => Rd 4 Bx.cs (.slice y.1 g.n y.2) bs) (fun β w' _ hbw => Flight_ok g bs w' (hrd.below hbw) hl) ?_; intro y)
        | ((with_reducible show CallEv _ _ 24 _ _ _ _ _); refine callF [] (fun z => .tuple #[sV 0 z, iv 2]) (fun _ _ => True) (fun β w' _ hbw => Cat_out g bs y r w' hbw.2 hl hg hr) ?_; intro z)
        | ((with_reducible show CallEv _ _ 26 _ _ _ _ _); refine callE (k := 26) (fun β w' hbw => hR _ hbw.1.1) ?_)
        | ((with_reducible show CallEv _ _ 19 _ _ _ _ _); refine callE (k := 19) (fun β w' hbw => In_ok _ _ _ _) ?_)
        | ((with_reducible show CallEv _ _ 20 _ _ _ _ _); refine callE (k := 20) (fun β w' hbw => wakes_ok _) ?_)
    exact ⟨fun β => rfl, fun w' h => h.1.1⟩
  have hlen := catL_len g bs r g.k
  have hkk : (g.k : Int) ≤ 301 := by have := Fg.ok_iff.1 hg; unfold Fg.k; omega
  have hsame := fun y z w' h1 h2 => ints_same y z (catL g bs r g.k) w' h1 h2 (by omega)
  repeat'
    conv => whnf
    first
      | refine And.intro (a := drawB _ = true) (by kernel_rfl) ?_
      | refine And.intro (a := (_ : Bool) = true) rfl ?_
      | refine And.intro (a := (_ : Bool) = true ∧ (_ : Bool) = true) ⟨rfl, rfl⟩ ?_
      | refine And.intro (a := (_ : Bool) = true ∧ (_ : List _) = []) ⟨rfl, rfl⟩ ?_
      | refine And.intro (a := IR _ _) (And.intro (by omega) (by omega)) ?_
      | refine And.intro (a := (0 : Int) ≤ _ ∧ _ < _) (And.intro (by omega) (by omega)) ?_
      | refine And.intro (a := (_ : Bool) = true) (by simp only [Nat.beq_refl]; rfl) ?_
      | refine And.intro (a := ((_ : Bool) = true → 1 ≤ _) ∧ _ ≤ 9223372036854775807 ∧ _ ≤ 140737488355328) ⟨fun h => (by first | omega | cases h), by omega, by omega⟩ ?_
      | refine splT ?_
      | refine splF ?_
      | refine splNot ?_
      | (refine splIn (fun hc => ?_) (fun hc => ?_) <;> first | (exfalso; omega) | (exfalso; dsimp only at hc; omega) | skip)
      | (refine splD (fun hc => ?_) (fun hc => ?_) <;> first | (exfalso; omega) | (exfalso; dsimp only at hc; omega) | skip)
      | (refine splE (fun hc => ?_) (fun hc => ?_) <;> first | (exfalso; omega) | (exfalso; dsimp only at hc; omega) | skip)
      | (refine splNE (fun hc => ?_) (fun hc => ?_) <;> first | (exfalso; omega) | (exfalso; dsimp only at hc; omega) | skip)
      | ((with_reducible show CallEv _ _ 23 _ _ _ _ _); refine callE (k := 23) (fun β w' hbw => few_ok g _) ?_)
      | ((with_reducible show CallEv _ _ 25 _ _ _ _ _); refine callF [] (fun y => (g.at y).v) (fun y => Rd 4 Bx.cs (.slice y.1 g.n y.2) bs) (fun β w' _ hbw => Flight_ok g bs w' (hrd.below hbw) hl) ?_; intro y)
      | ((with_reducible show CallEv _ _ 24 _ _ _ _ _); refine callF [] (fun z => .tuple #[sV (catL g bs r g.k).length z, iv 0]) (fun z => Rd 1 iF (sV (catL g bs r g.k).length z) (catL g bs r g.k)) (fun β w' _ hbw => Cat_yes g bs y r w' hbw.2 hl hg hr) ?_; intro z)
      | ((with_reducible show CallEv _ _ 26 _ _ _ _ _); refine callE (k := 26) (fun β w' hbw => hR _ hbw.1.1) ?_)
      | ((with_reducible show CallEv _ _ 19 _ _ _ _ _); refine callE (k := 19) (fun β w' hbw => In_ok _ _ _ _) ?_)
      | ((with_reducible show CallEv _ _ 28 _ _ _ _ _); refine callF [] (fun u => sV (catL g bs r g.k).length u) (fun u => Rd 1 iF (sV (catL g bs r g.k).length u) (catL g bs r g.k)) (fun β w' _ hbw => Rcatches_ok g bs r w' hg (hrd.below hbw.1.1) (by omega)) ?_; intro u)
      | ((with_reducible show CallEv _ _ 27 _ _ _ _ _); refine callE (k := 27) (fun β w' hbw => hsame z u _ hbw.1.2 hbw.2) ?_)
      | ((with_reducible show CallEv _ _ 20 _ _ _ _ _); refine callE (k := 20) (fun β w' hbw => wakes_ok _) ?_)
  exact ⟨fun β => rfl, fun w' h => h.1.1.1⟩
end Go.Proofs.Ytlehjapeomallaa
