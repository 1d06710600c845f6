/- Whether two slices of ints are the same, and the flight of the examples: what these functions return. -/
import Derived.Test.YtlehjapeomallaaFG
namespace Go.Proofs.Ytlehjapeomallaa
open Go Sx Go.RowKit

theorem Rd.len {α : Type} {sz : Nat} {f : α → List Value} {o : Option Addr} {n c : Nat} {bs : List α} {w : World} (h : Rd sz f (.slice o n c) bs w) : n = bs.length := by
  rcases h with ⟨h, rfl⟩ | ⟨ad, c', h, _⟩ <;> simp only [Value.slice.injEq] at h <;> simp [h.2.1]

theorem ints_ok (y z : Option Addr × Nat) (xs ys : List Int) (w : World) (hx : Rd 1 iF (sV xs.length y) xs w) (hy : Rd 1 iF (sV ys.length z) ys w) (hl : xs.length ≤ 1000000) :
    Calls Try.prog 27 #[sV xs.length y, sV ys.length z] w fun e w' => e = .returned (.bool (decide (xs = ys))) ∧ Below w.heap.size w w' := by
  obtain ⟨o1, c1⟩ := y
  obtain ⟨o2, c2⟩ := z
  by_cases hlen : xs.length = ys.length
  case neg =>
    rw [decide_eq_false (fun h => hlen (by rw [h]))]
    refine calls_val env mixed Try.func27 has27 Try.ntmps27 [.slice o1 xs.length c1, .slice o2 ys.length c2] (by simp) ?_
    repeat'
      conv => whnf
      first
        | refine And.intro (a := drawB _ = true) (by kernel_rfl) ?_
        | refine And.intro (a := (_ : Bool) = true) rfl ?_
        | refine And.intro (a := (_ : Bool) = true ∧ (_ : Bool) = true) ⟨rfl, rfl⟩ ?_
        | refine And.intro (a := (_ : Bool) = true ∧ (_ : List _) = []) ⟨rfl, rfl⟩ ?_
        | refine And.intro (a := IR _ _) (And.intro (by omega) (by omega)) ?_
        | refine And.intro (a := (0 : Int) ≤ _ ∧ _ < _) (And.intro (by omega) (by omega)) ?_
        | refine splT ?_
        | refine splF ?_
        | refine splNot ?_
        | (refine splIn (fun hc => ?_) (fun hc => ?_) <;> first | (exfalso; omega) | skip)
        | (refine splD (fun hc => ?_) (fun hc => ?_) <;> first | (exfalso; omega) | skip)
        | (refine splE (fun hc => ?_) (fun hc => ?_) <;> first | (exfalso; omega) | skip)
        | (refine splNE (fun hc => ?_) (fun hc => ?_) <;> first | (exfalso; omega) | skip)
    exact ⟨fun β => rfl, fun w' h => h⟩
  rcases Nat.eq_zero_or_pos xs.length with h0 | h0
  · have e1 : xs = [] := List.eq_nil_of_length_eq_zero h0
    have e2 : ys = [] := List.eq_nil_of_length_eq_zero (by omega)
    subst e1 e2
    refine calls_val env mixed Try.func27 has27 Try.ntmps27 [.slice o1 0 c1, .slice o2 0 c2] (by simp) ?_
    repeat'
      conv => whnf
      first
        | refine And.intro (a := drawB _ = true) (by kernel_rfl) ?_
        | refine And.intro (a := (_ : Bool) = true) rfl ?_
        | refine And.intro (a := (_ : Bool) = true ∧ (_ : Bool) = true) ⟨rfl, rfl⟩ ?_
        | refine And.intro (a := (_ : Bool) = true ∧ (_ : List _) = []) ⟨rfl, rfl⟩ ?_
        | refine And.intro (a := IR _ _) (And.intro (by omega) (by omega)) ?_
        | refine And.intro (a := (0 : Int) ≤ _ ∧ _ < _) (And.intro (by omega) (by omega)) ?_
        | refine splT ?_
        | refine splF ?_
        | refine splNot ?_
        | (refine splIn (fun hc => ?_) (fun hc => ?_) <;> first | (exfalso; omega) | skip)
        | (refine splD (fun hc => ?_) (fun hc => ?_) <;> first | (exfalso; omega) | skip)
        | (refine splE (fun hc => ?_) (fun hc => ?_) <;> first | (exfalso; omega) | skip)
        | (refine splNE (fun hc => ?_) (fun hc => ?_) <;> first | (exfalso; omega) | skip)
    refine loopE (fun _ : Unit => [(0, .v (.slice o1 0 c1)), (1, .v (.slice o2 0 c2)), (5, .v (iv 0))]) (fun _ => []) (fun _ => True) (fun _ => 0) () trivial ⟨rfl, rfl, rfl, trivial⟩ trivial (fun _ => ⟨rfl, rfl⟩) ?_
    intro _ _
    repeat'
      conv => whnf
      first
        | refine And.intro (a := drawB _ = true) (by kernel_rfl) ?_
        | refine And.intro (a := (_ : Bool) = true) rfl ?_
        | refine And.intro (a := (_ : Bool) = true ∧ (_ : Bool) = true) ⟨rfl, rfl⟩ ?_
        | refine And.intro (a := (_ : Bool) = true ∧ (_ : List _) = []) ⟨rfl, rfl⟩ ?_
        | refine And.intro (a := IR _ _) (And.intro (by omega) (by omega)) ?_
        | refine And.intro (a := (0 : Int) ≤ _ ∧ _ < _) (And.intro (by omega) (by omega)) ?_
        | refine splT ?_
        | refine splF ?_
        | refine splNot ?_
        | (refine splIn (fun hc => ?_) (fun hc => ?_) <;> first | (exfalso; omega) | skip)
        | (refine splD (fun hc => ?_) (fun hc => ?_) <;> first | (exfalso; omega) | skip)
        | (refine splE (fun hc => ?_) (fun hc => ?_) <;> first | (exfalso; omega) | skip)
        | (refine splNE (fun hc => ?_) (fun hc => ?_) <;> first | (exfalso; omega) | skip)
    exact ⟨fun β => rfl, fun w' h => h⟩
  · obtain ⟨_, a1, rfl, hc1⟩ := hx.some (by omega)
    obtain ⟨_, a2, rfl, hc2⟩ := hy.some (by omega)
    refine calls_val env mixed Try.func27 has27 Try.ntmps27 [.slice (some a1) xs.length c1, .slice (some a2) ys.length c2] (by simp) ?_
    repeat'
      conv => whnf
      first
        | refine And.intro (a := drawB _ = true) (by kernel_rfl) ?_
        | refine And.intro (a := (_ : Bool) = true) rfl ?_
        | refine And.intro (a := (_ : Bool) = true ∧ (_ : Bool) = true) ⟨rfl, rfl⟩ ?_
        | refine And.intro (a := (_ : Bool) = true ∧ (_ : List _) = []) ⟨rfl, rfl⟩ ?_
        | refine And.intro (a := IR _ _) (And.intro (by omega) (by omega)) ?_
        | refine And.intro (a := (0 : Int) ≤ _ ∧ _ < _) (And.intro (by omega) (by omega)) ?_
        | refine splT ?_
        | refine splF ?_
        | refine splNot ?_
        | (refine splIn (fun hc => ?_) (fun hc => ?_) <;> first | (exfalso; omega) | skip)
        | (refine splD (fun hc => ?_) (fun hc => ?_) <;> first | (exfalso; omega) | skip)
        | (refine splE (fun hc => ?_) (fun hc => ?_) <;> first | (exfalso; omega) | skip)
        | (refine splNE (fun hc => ?_) (fun hc => ?_) <;> first | (exfalso; omega) | skip)
    refine loopE (fun k : Nat => [(0, .v (.slice (some a1) xs.length c1)), (1, .v (.slice (some a2) ys.length c2)), (5, .v (iv k))]) (fun _ => []) (fun k => k ≤ xs.length ∧ xs.take k = ys.take k) (fun k => xs.length - k) 0 ⟨Nat.zero_le _, rfl⟩ ⟨rfl, rfl, rfl, trivial⟩ trivial (fun _ => ⟨rfl, rfl⟩) ?_
    intro k ⟨hk, ht⟩
    rcases Nat.lt_or_ge k xs.length with hkl | hkl
    · obtain ⟨a, ha⟩ : ∃ a, xs[k]? = some a := ⟨_, List.getElem?_eq_getElem hkl⟩
      obtain ⟨b, hb⟩ : ∃ b, ys[k]? = some b := ⟨_, List.getElem?_eq_getElem (by omega)⟩
      have e1 : ∀ w', Below w.heap.size w w' → ∀ j v, [iv a][j]? = some v → w'.cell? ((a1.add (((k : Int).toNat) * 1)).add j) = some v := fun w' hw' j v hv => by
        rw [Int.toNat_natCast]; exact ext_below hw' (hc1 _ _ ha j v hv)
      have e2 : ∀ w', Below w.heap.size w w' → ∀ j v, [iv b][j]? = some v → w'.cell? ((a2.add (((k : Int).toNat) * 1)).add j) = some v := fun w' hw' j v hv => by
        rw [Int.toNat_natCast]; exact ext_below hw' (hc2 _ _ hb j v hv)
      repeat'
        conv => whnf
        first
          | refine And.intro (a := drawB _ = true) (by kernel_rfl) ?_
          | refine And.intro (a := (_ : Bool) = true) rfl ?_
          | refine And.intro (a := (_ : Bool) = true ∧ (_ : Bool) = true) ⟨rfl, rfl⟩ ?_
          | refine And.intro (a := (_ : Bool) = true ∧ (_ : List _) = []) ⟨rfl, rfl⟩ ?_
          | refine And.intro (a := IR _ _) (And.intro (by omega) (by omega)) ?_
          | refine And.intro (a := (0 : Int) ≤ _ ∧ _ < _) (And.intro (by omega) (by omega)) ?_
          | refine splT ?_
          | refine splF ?_
          | refine splNot ?_
          | (refine splIn (fun hc => ?_) (fun hc => ?_) <;> first | (exfalso; omega) | skip)
          | (refine splD (fun hc => ?_) (fun hc => ?_) <;> first | (exfalso; omega) | skip)
          | (refine splE (fun hc => ?_) (fun hc => ?_) <;> first | (exfalso; omega) | skip)
          | (refine splNE (fun hc => ?_) (fun hc => ?_) <;> first | (exfalso; omega) | skip)
          | refine Exists.intro (α := List Value) [iv a] ⟨⟨rfl, e1⟩, ?_⟩
          | refine Exists.intro (α := List Value) [iv b] ⟨⟨rfl, e2⟩, ?_⟩
      · refine ⟨k + 1, ⟨by omega, ?_⟩, by omega, Ent.weak rfl ⟨rfl, rfl, rfl, trivial⟩ trivial fun _ h => h⟩
        have hab : a = b := ‹_›
        rw [List.take_add_one, List.take_add_one, ht, ha, hb, hab]
      · have hne : xs ≠ ys := fun h => by
          rw [h, hb] at ha
          cases ha
          exact absurd rfl ‹_ ≠ _›
        exact ⟨fun β => by rw [decide_eq_false hne]; rfl, fun w' h => h⟩
    · have he : xs = ys := by
        have h1 := List.take_of_length_le hkl
        have h2 := List.take_of_length_le (i := k) (l := ys) (by omega)
        rw [← h1, ← h2, ht]
      rw [decide_eq_true he]
      repeat'
        conv => whnf
        first
          | refine And.intro (a := drawB _ = true) (by kernel_rfl) ?_
          | refine And.intro (a := (_ : Bool) = true) rfl ?_
          | refine And.intro (a := (_ : Bool) = true ∧ (_ : Bool) = true) ⟨rfl, rfl⟩ ?_
          | refine And.intro (a := (_ : Bool) = true ∧ (_ : List _) = []) ⟨rfl, rfl⟩ ?_
          | refine And.intro (a := IR _ _) (And.intro (by omega) (by omega)) ?_
          | refine And.intro (a := (0 : Int) ≤ _ ∧ _ < _) (And.intro (by omega) (by omega)) ?_
          | refine splT ?_
          | refine splF ?_
          | refine splNot ?_
          | (refine splIn (fun hc => ?_) (fun hc => ?_) <;> first | (exfalso; omega) | skip)
          | (refine splD (fun hc => ?_) (fun hc => ?_) <;> first | (exfalso; omega) | skip)
          | (refine splE (fun hc => ?_) (fun hc => ?_) <;> first | (exfalso; omega) | skip)
          | (refine splNE (fun hc => ?_) (fun hc => ?_) <;> first | (exfalso; omega) | skip)
      exact ⟨fun β => rfl, fun w' h => h⟩

def lpF : Fl := ⟨⟨⟨0, 1000⟩, ⟨500000, 500000⟩⟩, ⟨⟨3000, 3000⟩, ⟨2000, 2010⟩⟩, 60⟩
def lpB : List Bx := [⟨⟨115000, 116000⟩, ⟨501000, 503000⟩⟩]
def lpG (b : Nat) : Fg := ⟨lpF, some ⟨b, 0, none⟩, 1, 1, 6000, 10, 30000, 30, 50⟩

theorem leap_ok (w : World) :
    Calls Try.prog 57 #[] w fun e w' => ∃ b : Nat, e = .returned (lpG b).v ∧ Below w.heap.size w w' ∧ St w.heap.size (Rd 4 Bx.cs (.slice (some ⟨b, 0, none⟩) 1 1) lpB) w' := by
  refine calls_fam env mixed Try.func57 has57 Try.ntmps57 [] (by simp) ?_
  repeat'
    conv => whnf
    first
      | refine And.intro (a := drawB _ = true) (by kernel_rfl) ?_
      | refine And.intro (a := (_ : Bool) = true) rfl ?_
      | refine And.intro (a := (_ : Bool) = true ∧ (_ : Bool) = true) ⟨rfl, rfl⟩ ?_
      | refine And.intro (a := (_ : Bool) = true ∧ (_ : List _) = []) ⟨rfl, rfl⟩ ?_
      | refine And.intro (a := IR _ _) (And.intro (by omega) (by omega)) ?_
      | refine And.intro (a := (0 : Int) ≤ _ ∧ _ < _) (And.intro (by omega) (by omega)) ?_
      | refine splT ?_
      | refine splF ?_
      | refine splNot ?_
      | (refine splIn (fun hc => ?_) (fun hc => ?_) <;> first | (exfalso; omega) | skip)
      | (refine splD (fun hc => ?_) (fun hc => ?_) <;> first | (exfalso; omega) | skip)
      | (refine splE (fun hc => ?_) (fun hc => ?_) <;> first | (exfalso; omega) | skip)
      | (refine splNE (fun hc => ?_) (fun hc => ?_) <;> first | (exfalso; omega) | skip)
  refine ⟨fun w' h => h, fun β w' hB hblk => ⟨β 2, rfl, ?_⟩⟩
  exact (hblk 2 _ rfl rfl).imp fun w2 q => Rd.of_cells (sz := 4) (f := Bx.cs) (fun _ => rfl) rfl q
end Go.Proofs.Ytlehjapeomallaa
