import Derived.Test.YtlehjapeomallaaFG
/- Whether two slices of ints are the same, and the flight of the examples: what these functions return. -/
namespace Go.Proofs.Ytlehjapeomallaa
open Go Sx Go.RowKit

theorem Rd.len {α : Type} {sz : Nat} {f : α → List Value} {o : Option Addr} {n c : Nat} {bs : List α} {w : World} (h : Rd sz f (.slice o n c) bs w) : n = bs.length := by
  rcases h with ⟨h, rfl⟩ | ⟨ad, c', h, _⟩ <;> simp only [Value.slice.injEq] at h <;> simp [h.2.1]

theorem ints_ok (y z : Option Addr × Nat) (xs ys : List Int) (w : World) (hx : Rd 1 iF (sV xs.length y) xs w) (hy : Rd 1 iF (sV ys.length z) ys w) (hl : xs.length ≤ 1000000) :
    Calls Try.prog 27 #[sV xs.length y, sV ys.length z] w fun e w' => e = .returned (.bool (decide (xs = ys))) ∧ Below w.heap.size w w' := by
  obtain ⟨o1, c1⟩ := y
  obtain ⟨o2, c2⟩ := z
  by_cases hlen : xs.length = ys.length
  case neg =>
    rw [decide_eq_false (fun h => hlen (by rw [h]))]
    refine calls_val env mixed Try.func27 has27 Try.ntmps27 [.slice o1 xs.length c1, .slice o2 ys.length c2] (by simp) ?_
    repeat'
      conv => whnf
      first
        | refine And.intro (a := drawB _ = true) (by kernel_rfl) ?_
        | refine And.intro (a := (_ : Bool) = true) rfl ?_
        | refine And.intro (a := (_ : Bool) = true ∧ (_ : Bool) = true) ⟨rfl, rfl⟩ ?_
        | refine And.intro (a := (_ : Bool) = true ∧ (_ : List _) = []) ⟨rfl, rfl⟩ ?_
        | refine And.intro (a := IR _ _) (And.intro (by omega) (by omega)) ?_
        | refine And.intro (a := (0 : Int) ≤ _ ∧ _ < _) (And.intro (by omega) (by omega)) ?_
        | refine splT ?_
        | refine splF ?_
        | refine splNot ?_
        | (refine splIn (fun hc => ?_) (fun hc => ?_) <;> first | (exfalso; omega) | skip)
        | (refine splD (fun hc => ?_) (fun hc => ?_) <;> first | (exfalso; omega) | skip)
        | (refine splE (fun hc => ?_) (fun hc => ?_) <;> first | (exfalso; omega) | skip)
        | (refine splNE (fun hc => ?_) (fun hc => ?_) <;> first | (exfalso; omega) | skip)
    exact ⟨fun β => rfl, fun w' h => h⟩
  rcases Nat.eq_zero_or_pos xs.length with h0 | h0
  · have e1 : xs = [] := List.eq_nil_of_length_eq_zero h0
    have e2 : ys = [] := List.eq_nil_of_length_eq_zero (by omega)
    subst e1 e2
    refine calls_val env mixed Try.func27 has27 Try.ntmps27 [.slice o1 0 c1, .slice o2 0 c2] (by simp) ?_
    repeat'
      conv => whnf
      first
        | refine And.intro (a := drawB _ = true) (by kernel_rfl) ?_
        | refine And.intro (a := (_ : Bool) = true) rfl ?_
        | refine And.intro (a := (_ : Bool) = true ∧ (_ : Bool) = true) ⟨rfl, rfl⟩ ?_
        | refine And.intro (a := (_ : Bool) = true ∧ (_ : List _) = []) ⟨rfl, rfl⟩ ?_
        | refine And.intro (a := IR _ _) (And.intro (by omega) (by omega)) ?_
        | refine And.intro (a := (0 : Int) ≤ _ ∧ _ < _) (And.intro (by omega) (by omega)) ?_
        | refine splT ?_
        | refine splF ?_
        | refine splNot ?_
        | (refine splIn (fun hc => ?_) (fun hc => ?_) <;> first | (exfalso; omega) | skip)
        | (refine splD (fun hc => ?_) (fun hc => ?_) <;> first | (exfalso; omega) | skip)
        | (refine splE (fun hc => ?_) (fun hc => ?_) <;> first | (exfalso; omega) | skip)
        | (refine splNE (fun hc => ?_) (fun hc => ?_) <;> first | (exfalso; omega) | skip)
    refine loopE (fun _ : Unit => [(0, .v (.slice o1 0 c1)), (1, .v (.slice o2 0 c2)), (5, .v (iv 0))]) (fun _ => []) (fun _ => True) (fun _ => 0) () trivial ⟨rfl, rfl, rfl, trivial⟩ trivial (fun _ => ⟨rfl, rfl⟩) ?_
    intro _ _
    repeat'
      conv => whnf
      first
        | refine And.intro (a := drawB _ = true) (by kernel_rfl) ?_
        | refine And.intro (a := (_ : Bool) = true) rfl ?_
        | refine And.intro (a := (_ : Bool) = true ∧ (_ : Bool) = true) ⟨rfl, rfl⟩ ?_
        | refine And.intro (a := (_ : Bool) = true ∧ (_ : List _) = []) ⟨rfl, rfl⟩ ?_
        | refine And.intro (a := IR _ _) (And.intro (by omega) (by omega)) ?_
        | refine And.intro (a := (0 : Int) ≤ _ ∧ _ < _) (And.intro (by omega) (by omega)) ?_
        | refine splT ?_
        | refine splF ?_
        | refine splNot ?_
        | (refine splIn (fun hc => ?_) (fun hc => ?_) <;> first | (exfalso; omega) | skip)
        | (refine splD (fun hc => ?_) (fun hc => ?_) <;> first | (exfalso; omega) | skip)
        | (refine splE (fun hc => ?_) (fun hc => ?_) <;> first | (exfalso; omega) | skip)
        | (refine splNE (fun hc => ?_) (fun hc => ?_) <;> first | (exfalso; omega) | skip)
    exact ⟨fun β => rfl, fun w' h => h⟩
  · obtain ⟨_, a1, rfl, hc1⟩ := hx.some (by omega)
    obtain ⟨_, a2, rfl, hc2⟩ := hy.some (by omega)
    refine calls_val env mixed Try.func27 has27 Try.ntmps27 [.slice (some a1) xs.length c1, .slice (some a2) ys.length c2] (by simp) ?_
    repeat'
      conv => whnf
      first
        | refine And.intro (a := drawB _ = true) (by kernel_rfl) ?_
        | refine And.intro (a := (_ : Bool) = true) rfl ?_
        | refine And.intro (a := (_ : Bool) = true ∧ (_ : Bool) = true) ⟨rfl, rfl⟩ ?_
        | refine And.intro (a := (_ : Bool) = true ∧ (_ : List _) = []) ⟨rfl, rfl⟩ ?_
        | refine And.intro (a := IR _ _) (And.intro (by omega) (by omega)) ?_
        | refine And.intro (a := (0 : Int) ≤ _ ∧ _ < _) (And.intro (by omega) (by omega)) ?_
        | refine splT ?_
        | refine splF ?_
        | refine splNot ?_
        | (refine splIn (fun hc => ?_) (fun hc => ?_) <;> first | (exfalso; omega) | skip)
        | (refine splD (fun hc => ?_) (fun hc => ?_) <;> first | (exfalso; omega) | skip)
        | (refine splE (fun hc => ?_) (fun hc => ?_) <;> first | (exfalso; omega) | skip)
        | (refine splNE (fun hc => ?_) (fun hc => ?_) <;> first | (exfalso; omega) | skip)
    refine loopE (fun k : Nat => [(0, .v (.slice (some a1) xs.length c1)), (1, .v (.slice (some a2) ys.length c2)), (5, .v (iv k))]) (fun _ => []) (fun k => k ≤ xs.length ∧ xs.take k = ys.take k) (fun k => xs.length - k) 0 ⟨Nat.zero_le _, rfl⟩ ⟨rfl, rfl, rfl, trivial⟩ trivial (fun _ => ⟨rfl, rfl⟩) ?_
    intro k ⟨hk, ht⟩
    rcases Nat.lt_or_ge k xs.length with hkl | hkl
    · obtain ⟨a, ha⟩ : ∃ a, xs[k]? = some a := ⟨_, List.getElem?_eq_getElem hkl⟩
      obtain ⟨b, hb⟩ : ∃ b, ys[k]? = some b := ⟨_, List.getElem?_eq_getElem (by omega)⟩
      have e1 : ∀ w', Below w.heap.size w w' → ∀ j v, [iv a][j]? = some v → w'.cell? ((a1.add (((k : Int).toNat) * 1)).add j) = some v := fun w' hw' j v hv => by
        rw [Int.toNat_natCast]; exact ext_below hw' (hc1 _ _ ha j v hv)
      have e2 : ∀ w', Below w.heap.size w w' → ∀ j v, [iv b][j]? = some v → w'.cell? ((a2.add (((k : Int).toNat) * 1)).add j) = some v := fun w' hw' j v hv => by
        rw [Int.toNat_natCast]; exact ext_below hw' (hc2 _ _ hb j v hv)
      repeat'
        conv => whnf
        first
          | refine And.intro (a := drawB _ = true) (by kernel_rfl) ?_
          | refine And.intro (a := (_ : Bool) = true) rfl ?_
          | refine And.intro (a := (_ : Bool) = true ∧ (_ : Bool) = true) ⟨rfl, rfl⟩ ?_
          | refine And.intro (a := (_ : Bool) = true ∧ (_ : List _) = []) ⟨rfl, rfl⟩ ?_
          | refine And.intro (a := IR _ _) (And.intro (by omega) (by omega)) ?_
          | refine And.intro (a := (0 : Int) ≤ _ ∧ _ < _) (And.intro (by omega) (by omega)) ?_
          | refine splT ?_
          | refine splF ?_
          | refine splNot ?_
          | (refine splIn (fun hc => ?_) (fun hc => ?_) <;> first | (exfalso; omega) | skip)
          | (refine splD (fun hc => ?_) (fun hc => ?_) <;> first | (exfalso; omega) | skip)
          | (refine splE (fun hc => ?_) (fun hc => ?_) <;> first | (exfalso; omega) | skip)
          | (refine splNE (fun hc => ?_) (fun hc => ?_) <;> first | (exfalso; omega) | skip)
          | refine Exists.intro (α := List Value) [iv a] ⟨⟨rfl, e1⟩, ?_⟩
          | refine Exists.intro (α := List Value) [iv b] ⟨⟨rfl, e2⟩, ?_⟩
      · refine ⟨k + 1, ⟨by omega, ?_⟩, by omega, Ent.weak rfl ⟨rfl, rfl, rfl, trivial⟩ trivial fun _ h => h⟩
        have hab : a = b := ‹_›
        rw [List.take_add_one, List.take_add_one, ht, ha, hb, hab]
      · have hne : xs ≠ ys := fun h => by
          rw [h, hb] at ha
          cases ha
          exact absurd rfl ‹_ ≠ _›
        exact ⟨fun β => by rw [decide_eq_false hne]; rfl, fun w' h => h⟩
    · have he : xs = ys := by
        have h1 := List.take_of_length_le hkl
        have h2 := List.take_of_length_le (i := k) (l := ys) (by omega)
        rw [← h1, ← h2, ht]
      rw [decide_eq_true he]
      repeat'
        conv => whnf
        first
          | refine And.intro (a := drawB _ = true) (by kernel_rfl) ?_
          | refine And.intro (a := (_ : Bool) = true) rfl ?_
          | refine And.intro (a := (_ : Bool) = true ∧ (_ : Bool) = true) ⟨rfl, rfl⟩ ?_
          | refine And.intro (a := (_ : Bool) = true ∧ (_ : List _) = []) ⟨rfl, rfl⟩ ?_
          | refine And.intro (a := IR _ _) (And.intro (by omega) (by omega)) ?_
          | refine And.intro (a := (0 : Int) ≤ _ ∧ _ < _) (And.intro (by omega) (by omega)) ?_
          | refine splT ?_
          | refine splF ?_
          | refine splNot ?_
          | (refine splIn (fun hc => ?_) (fun hc => ?_) <;> first | (exfalso; omega) | skip)
          | (refine splD (fun hc => ?_) (fun hc => ?_) <;> first | (exfalso; omega) | skip)
          | (refine splE (fun hc => ?_) (fun hc => ?_) <;> first | (exfalso; omega) | skip)
          | (refine splNE (fun hc => ?_) (fun hc => ?_) <;> first | (exfalso; omega) | skip)
      exact ⟨fun β => rfl, fun w' h => h⟩

def lpF : Fl := ⟨⟨⟨0, 1000⟩, ⟨500000, 500000⟩⟩, ⟨⟨3000, 3000⟩, ⟨2000, 2010⟩⟩, 60⟩
def lpB : List Bx := [⟨⟨115000, 116000⟩, ⟨501000, 503000⟩⟩]
def lpG (b : Nat) : Fg := ⟨lpF, some ⟨b, 0, none⟩, 1, 1, 6000, 10, 30000, 30, 50⟩

theorem leap_ok (w : World) :
    Calls Try.prog 57 #[] w fun e w' => ∃ b : Nat, e = .returned (lpG b).v ∧ Below w.heap.size w w' ∧ St w.heap.size (Rd 4 Bx.cs (.slice (some ⟨b, 0, none⟩) 1 1) lpB) w' := by
  refine calls_fam env mixed Try.func57 has57 Try.ntmps57 [] (by simp) ?_
  repeat'
    conv => whnf
    first
      | refine And.intro (a := drawB _ = true) (by kernel_rfl) ?_
      | refine And.intro (a := (_ : Bool) = true) rfl ?_
      | refine And.intro (a := (_ : Bool) = true ∧ (_ : Bool) = true) ⟨rfl, rfl⟩ ?_
      | refine And.intro (a := (_ : Bool) = true ∧ (_ : List _) = []) ⟨rfl, rfl⟩ ?_
      | refine And.intro (a := IR _ _) (And.intro (by omega) (by omega)) ?_
      | refine And.intro (a := (0 : Int) ≤ _ ∧ _ < _) (And.intro (by omega) (by omega)) ?_
      | refine splT ?_
      | refine splF ?_
      | refine splNot ?_
      | (refine splIn (fun hc => ?_) (fun hc => ?_) <;> first | (exfalso; omega) | skip)
      | (refine splD (fun hc => ?_) (fun hc => ?_) <;> first | (exfalso; omega) | skip)
      | (refine splE (fun hc => ?_) (fun hc => ?_) <;> first | (exfalso; omega) | skip)
      | (refine splNE (fun hc => ?_) (fun hc => ?_) <;> first | (exfalso; omega) | skip)
  refine ⟨fun w' h => h, fun β w' hB hblk => ⟨β 2, rfl, ?_⟩⟩
  exact (hblk 2 _ rfl rfl).imp fun w2 q => Rd.of_cells (sz := 4) (f := Bx.cs) (fun _ => rfl) rfl q
end Go.Proofs.Ytlehjapeomallaa

/- The examples of the document hold: wakes returns true. -/
namespace Go.Proofs.Ytlehjapeomallaa
open Go Sx Go.RowKit

theorem lp_cat (b : Nat) : catR (lpG b) lpB 100 = [138, 139, 140] := by kernel_rfl
theorem lp_catE (b : Nat) : catE (lpG b) lpB 100 = 0 := by kernel_rfl
def lpN : Nt := ⟨⟨300000, 600000⟩, 0⟩
theorem lp_tk : ((lpF.ok && lpN.ok) && tk lpF lpN) = true := by kernel_rfl

theorem swing_ex (w : World) : Calls Try.prog 18 #[iv 10000, iv 20] w fun e w' => e = .returned (.tuple #[.agg #[iv 634, iv 648], iv 0]) ∧ Below w.heap.size w w' := by
  have h1 : swg (39478417600 * 10000) = 634 := (IsSw.eq ⟨by decide, by decide, by decide, by decide⟩).symm
  have h2 : swg (39478418000 * 10000) = 634 := (IsSw.eq ⟨by decide, by decide, by decide, by decide⟩).symm
  have h3 : hiT 10000 = 635 := by unfold hiT; rw [h2]; decide
  have := Swing_good 10000 20 w (by omega) (by omega)
  rw [h1, h3] at this
  exact this
theorem after_ex (w : World) : Calls Try.prog 41 #[lpF.v, iv 40] w fun e w' => e = .returned (.tuple #[(⟨⟨120000, 121000⟩, ⟨501600, 502000⟩⟩ : Bx).v, iv 0]) ∧ Below w.heap.size w w' := After_ok lpF 40 w
theorem takes_ex (w : World) : Calls Try.prog 36 #[lpF.v, lpN.v] w fun e w' => e = .returned (.tuple #[.bool true, iv 0]) ∧ Below w.heap.size w w' := by
  have := Takes_ok lpF lpN w
  rwa [lp_tk] at this
theorem catches_ex (b : Nat) (w : World) (hrd : Rd 4 Bx.cs (.slice (some ⟨b, 0, none⟩) 1 1) lpB w) :
    Calls Try.prog 24 #[(lpG b).v, iv 100] w fun e w' => ∃ y : Option Addr × Nat, e = .returned (.tuple #[sV 3 y, iv 0]) ∧ Below w.heap.size w w' ∧ St w.heap.size (Rd 1 iF (sV 3 y) [138, 139, 140]) w' := by
  have := Catches_ok (lpG b) lpB 100 w hrd (by decide)
  rwa [lp_cat, lp_catE] at this

theorem ints_ex (y z : Option Addr × Nat) (w : World) (hx : Rd 1 iF (sV 3 y) [138, 139, 140] w) (hy : Rd 1 iF (sV 3 z) [138, 139, 140] w) :
    Calls Try.prog 27 #[sV 3 y, sV 3 z] w fun e w' => e = .returned (.bool true) ∧ Below w.heap.size w w' := ints_ok y z [138, 139, 140] [138, 139, 140] w hx hy (by decide)

set_option maxRecDepth 100000 in
theorem wakes_ok (w : World) : Calls Try.prog 20 #[] w fun e w' => e = .returned (.bool true) ∧ Below w.heap.size w w' := by
  refine calls_val env mixed Try.func20 has20 Try.ntmps20 [] (by simp) ?_
  repeat
    conv => whnf
    first
      | refine And.intro (a := drawB _ = true) (by kernel_rfl) ?_
      | refine And.intro (a := (_ : Bool) = true) rfl ?_
      | refine And.intro (a := (_ : Bool) = true ∧ (_ : Bool) = true) ⟨rfl, rfl⟩ ?_
      | refine And.intro (a := (_ : Bool) = true ∧ (_ : List _) = []) ⟨rfl, rfl⟩ ?_
      | refine And.intro (a := IR _ _) (And.intro (by omega) (by omega)) ?_
      | refine And.intro (a := (0 : Int) ≤ _ ∧ _ < _) (And.intro (by omega) (by omega)) ?_
      | refine splT ?_
      | refine splF ?_
      | refine splNot ?_
      | ((with_reducible show CallEv _ _ 18 _ _ _ _ _); refine callE (k := 18) (fun β w' hbw => swing_ex _) ?_)
      | ((with_reducible show CallEv _ _ 41 _ _ _ _ _); refine callE (k := 41) (fun β w' hbw => after_ex _) ?_)
      | ((with_reducible show CallEv _ _ 36 _ _ _ _ _); refine callE (k := 36) (fun β w' hbw => takes_ex _) ?_)
      | ((with_reducible show CallEv _ _ 57 _ _ _ _ _); refine callF [] (fun b => (lpG b).v) (fun b => Rd 4 Bx.cs (.slice (some ⟨b, 0, none⟩) 1 1) lpB) (fun β w' _ _ => leap_ok w') ?_; intro b)
      | ((with_reducible show CallEv _ _ 24 _ _ _ _ _); refine callF [] (fun y => .tuple #[sV 3 y, iv 0]) (fun y => Rd 1 iF (sV 3 y) [138, 139, 140]) (fun β w' _ hbw => catches_ex b w' hbw.2) ?_; intro y)
      | refine eqlE23 (a := ⟨_, _⟩) (b := ⟨_, _⟩) ?_
      | refine eqlE47 (a := ⟨⟨_, _⟩, ⟨_, _⟩⟩) (b := ⟨⟨_, _⟩, ⟨_, _⟩⟩) ?_
      | ((with_reducible show CallEv _ _ 27 _ _ _ _ _); refine callM (k := 27) [2] (fun β w' hbk hbw => ints_ex y (some ⟨β 2, 0, none⟩, 3) w' hbw.1.2 (Rd.of_cells (sz := 1) (f := iF) (bs := [138, 139, 140]) (fun _ => rfl) rfl (hbk 2 (by simp) _ rfl))) ?_)
  exact ⟨fun β => rfl, fun w' h => h.1.1.1.1⟩
end Go.Proofs.Ytlehjapeomallaa

/- The law of the swing answers true at every length and width. -/
namespace Go.Proofs.Ytlehjapeomallaa
open Go Sx Go.RowKit

theorem sq_lt {a b : Int} (h0 : 0 ≤ a) (h1 : 0 ≤ b) (h : a * a < b * b) : a < b := by
  refine Int.not_le.1 fun hle => ?_
  have := Int.mul_le_mul hle hle h1 h0
  omega
theorem sq_small {a n : Int} (h0 : 0 ≤ a) (h : a * a * 980000000 ≤ n) (hn : n ≤ 789568360000000) : a ≤ 897 := by
  refine Int.not_lt.1 fun hlt => ?_
  have := Int.mul_le_mul (show (898 : Int) ≤ a by omega) (show (898 : Int) ≤ a by omega) (by omega) h0
  omega
theorem sq_bd2 {a : Int} (h0 : 0 ≤ a) (h1 : a ≤ 1000) : 0 ≤ a * a ∧ a * a ≤ 1000000 := by
  have := Int.mul_le_mul h1 h1 h0 (by omega)
  exact ⟨Int.mul_nonneg h0 h0, by omega⟩
theorem hiT_eq {l lo hi : Int} (hl : 1 ≤ l ∧ l ≤ 20000) (hlo : IsSw (39478417600 * l) lo) (h0 : lo ≤ hi) (h1 : hi = lo ∨ (hi - 1) * (hi - 1) * 980000000 < 39478418000 * l) (h2 : ¬ hi * hi * 980000000 < 39478418000 * l) : hi = hiT l := by
  obtain ⟨s1, s2, s3, s4⟩ := sw_some (39478418000 * l) (by omega) (by omega)
  obtain ⟨a1, a2, a3, a4⟩ := hlo
  have h1 : (hi - 1) * (hi - 1) * 980000000 < 39478418000 * l := by
    rcases h1 with h | h
    · subst h; omega
    · exact h
  have hne : 1 ≤ hi := by
    rcases Int.lt_or_le 0 hi with h | h
    · omega
    · have : hi = 0 := by omega
      subst this; omega
  have e1 : hi - 1 < swg (39478418000 * l) + 1 := sq_lt (by omega) (by omega) (by omega)
  unfold hiT
  split
  · have e2 : swg (39478418000 * l) < hi := sq_lt s1 (by omega) (by omega)
    omega
  · have e3 : hi - 1 < swg (39478418000 * l) := sq_lt (by omega) s1 (by omega)
    have e4 : ¬ hi < swg (39478418000 * l) := fun h => by
      have := Int.mul_le_mul (show hi ≤ swg (39478418000 * l) - 1 by omega) (show hi ≤ swg (39478418000 * l) - 1 by omega) (by omega) (by omega)
      have := Int.mul_lt_mul' (show hi ≤ swg (39478418000 * l) by omega) h (by omega) (by omega)
      omega
    omega

set_option maxRecDepth 100000 in
theorem Rswing_ok (l wd : Int) (w : World) (hl : 1 ≤ l ∧ l ≤ 20000) (hw : 0 ≤ wd ∧ wd ≤ 100) :
    Calls Try.prog 22 #[iv l, iv wd] w fun e w' => e = .returned (.agg #[iv (swg (39478417600 * l)), iv ((hiT l * (1000 + wd) + 999) / 1000)]) ∧ Below w.heap.size w w' := by
  refine calls_val env mixed Try.func22 has22 Try.ntmps22 [iv l, iv wd] (by simp) ?_
  repeat'
    conv => whnf
    first
      | refine And.intro (a := drawB _ = true) (by kernel_rfl) ?_
      | refine And.intro (a := (_ : Bool) = true) rfl ?_
      | refine And.intro (a := (_ : Bool) = true ∧ (_ : Bool) = true) ⟨rfl, rfl⟩ ?_
      | refine And.intro (a := (_ : Bool) = true ∧ (_ : List _) = []) ⟨rfl, rfl⟩ ?_
      | refine And.intro (a := IR _ _) (And.intro (by omega) (by omega)) ?_
      | refine And.intro (a := (0 : Int) ≤ _ ∧ _ < _) (And.intro (by omega) (by omega)) ?_
      | refine splT ?_
      | refine splF ?_
      | refine splNot ?_
      | (refine splIn (fun hc => ?_) (fun hc => ?_) <;> first | (exfalso; omega) | skip)
      | (refine splD (fun hc => ?_) (fun hc => ?_) <;> first | (exfalso; omega) | skip)
      | (refine splE (fun hc => ?_) (fun hc => ?_) <;> first | (exfalso; omega) | skip)
      | (refine splNE (fun hc => ?_) (fun hc => ?_) <;> first | (exfalso; omega) | skip)
  refine loopE (fun lo : Int => [(0, .v (iv l)), (1, .v (iv wd)), (4, .ptr 0 0), (5, .v (iv lo))]) (fun _ => [(0, .cells [.v (iv 0), .v (iv 0)] 30)]) (fun lo => 0 ≤ lo ∧ lo * lo * 980000000 ≤ 39478417600 * l) (fun lo => (1000 - lo).toNat) 0 ⟨by omega, by omega⟩ ⟨rfl, rfl, rfl, rfl, trivial⟩ ⟨rfl, trivial⟩ (fun _ => ⟨rfl, rfl⟩) ?_
  intro lo ⟨g0, g1⟩
  have g2 := sq_small g0 g1 (by omega)
  have g3 := sq_bd2 (a := lo + 1) (by omega) (by omega)
  have g3' := sq_bd2 g0 (by omega)
  repeat'
    conv => whnf
    first
      | refine And.intro (a := drawB _ = true) (by kernel_rfl) ?_
      | refine And.intro (a := (_ : Bool) = true) rfl ?_
      | refine And.intro (a := (_ : Bool) = true ∧ (_ : Bool) = true) ⟨rfl, rfl⟩ ?_
      | refine And.intro (a := (_ : Bool) = true ∧ (_ : List _) = []) ⟨rfl, rfl⟩ ?_
      | refine And.intro (a := IR _ _) (And.intro (by omega) (by omega)) ?_
      | refine And.intro (a := (0 : Int) ≤ _ ∧ _ < _) (And.intro (by omega) (by omega)) ?_
      | refine splT ?_
      | refine splF ?_
      | refine splNot ?_
      | (refine splIn (fun hc => ?_) (fun hc => ?_) <;> first | (exfalso; omega) | skip)
      | (refine splD (fun hc => ?_) (fun hc => ?_) <;> first | (exfalso; omega) | skip)
      | (refine splE (fun hc => ?_) (fun hc => ?_) <;> first | (exfalso; omega) | skip)
      | (refine splNE (fun hc => ?_) (fun hc => ?_) <;> first | (exfalso; omega) | skip)
  · exact ⟨lo + 1, ⟨by omega, ‹_›⟩, by omega, Ent.weak rfl ⟨rfl, rfl, rfl, rfl, trivial⟩ ⟨rfl, trivial⟩ fun _ h => h⟩
  · have hsw : IsSw (39478417600 * l) lo := ⟨g0, by omega, g1, by omega⟩
    refine loopE (fun hi : Int => [(0, .v (iv l)), (1, .v (iv wd)), (4, .ptr 0 0), (5, .v (iv lo)), (6, .v (iv hi))]) (fun _ => [(0, .cells [.v (iv 0), .v (iv 0)] 30)]) (fun hi => lo ≤ hi ∧ hi ≤ 900 ∧ (hi = lo ∨ (hi - 1) * (hi - 1) * 980000000 < 39478418000 * l)) (fun hi => (1000 - hi).toNat) lo ⟨by omega, by omega, .inl rfl⟩ ⟨rfl, rfl, rfl, rfl, rfl, trivial⟩ ⟨rfl, trivial⟩ (fun _ => ⟨rfl, rfl⟩) ?_
    intro hi ⟨k0, k1, k2⟩
    have k3 := sq_bd2 (a := hi) (by omega) (by omega)
    have k4 : 0 ≤ hi * (1000 + wd) ∧ hi * (1000 + wd) ≤ 1000 * 1100 := ⟨Int.mul_nonneg (by omega) (by omega), Int.mul_le_mul (by omega) (by omega) (by omega) (by omega)⟩
    have k5 : hi * hi * 980000000 < 39478418000 * l → hi ≤ 898 := fun h => by have := sq_small (by omega) (Int.le_of_lt h) (by omega); omega
    repeat'
      conv => whnf
      first
        | refine And.intro (a := drawB _ = true) (by kernel_rfl) ?_
        | refine And.intro (a := (_ : Bool) = true) rfl ?_
        | refine And.intro (a := (_ : Bool) = true ∧ (_ : Bool) = true) ⟨rfl, rfl⟩ ?_
        | refine And.intro (a := (_ : Bool) = true ∧ (_ : List _) = []) ⟨rfl, rfl⟩ ?_
        | refine And.intro (a := IR _ _) (And.intro (by omega) (by omega)) ?_
        | refine And.intro (a := (0 : Int) ≤ _ ∧ _ < _) (And.intro (by omega) (by omega)) ?_
        | refine splT ?_
        | refine splF ?_
        | refine splNot ?_
        | (refine splIn (fun hc => ?_) (fun hc => ?_) <;> first | (exfalso; omega) | skip)
        | (refine splD (fun hc => ?_) (fun hc => ?_) <;> first | (exfalso; omega) | skip)
        | (refine splE (fun hc => ?_) (fun hc => ?_) <;> first | (exfalso; omega) | skip)
        | (refine splNE (fun hc => ?_) (fun hc => ?_) <;> first | (exfalso; omega) | skip)
        | refine remE (by omega) (by omega) ?_
        | refine quoE (by omega) (by omega) (And.intro (by omega) (by omega)) ?_
    · exact ⟨hi + 1, ⟨by omega, by omega, .inr (by rw [Int.add_sub_cancel]; assumption)⟩, by omega, Ent.weak rfl ⟨rfl, rfl, rfl, rfl, rfl, trivial⟩ ⟨rfl, trivial⟩ fun _ h => h⟩
    · refine ⟨fun β => ?_, fun w' h => h⟩
      have hh := hiT_eq hl hsw k0 k2 ‹_›
      rw [← hh, ← hsw.eq, show (hi * (1000 + wd) + 999) / 1000 = hi * (1000 + wd) / 1000 from by omega]; rfl
    · refine ⟨fun β => ?_, fun w' h => h⟩
      have hh := hiT_eq hl hsw k0 k2 ‹_›
      rw [← hh, ← hsw.eq, show (hi * (1000 + wd) + 999) / 1000 = (hi * (1000 + wd) + 1000) / 1000 from by omega]; rfl

theorem Range_ok (r : Rg) (w : World) : Calls Try.prog 21 #[r.v] w fun e w' => e = .returned r.v ∧ Below w.heap.size w w' := by
  refine calls_val env mixed Try.func21 has21 Try.ntmps21 [r.v] (by simp) ?_
  repeat'
    conv => whnf
    first
      | refine And.intro (a := drawB _ = true) (by kernel_rfl) ?_
      | refine And.intro (a := (_ : Bool) = true) rfl ?_
      | refine And.intro (a := (_ : Bool) = true ∧ (_ : Bool) = true) ⟨rfl, rfl⟩ ?_
      | refine And.intro (a := (_ : Bool) = true ∧ (_ : List _) = []) ⟨rfl, rfl⟩ ?_
      | refine And.intro (a := IR _ _) (And.intro (by omega) (by omega)) ?_
      | refine And.intro (a := (0 : Int) ≤ _ ∧ _ < _) (And.intro (by omega) (by omega)) ?_
      | refine splT ?_
      | refine splF ?_
      | refine splNot ?_
      | (refine splIn (fun hc => ?_) (fun hc => ?_) <;> first | (exfalso; omega) | skip)
      | (refine splD (fun hc => ?_) (fun hc => ?_) <;> first | (exfalso; omega) | skip)
      | (refine splE (fun hc => ?_) (fun hc => ?_) <;> first | (exfalso; omega) | skip)
      | (refine splNE (fun hc => ?_) (fun hc => ?_) <;> first | (exfalso; omega) | skip)
  exact ⟨fun β => rfl, fun w' h => h⟩
theorem Range_ok2 (a b : Int) (w : World) : Calls Try.prog 21 #[.agg #[iv a, iv b]] w fun e w' => e = .returned (.agg #[iv a, iv b]) ∧ Below w.heap.size w w' := Range_ok ⟨a, b⟩ w

theorem Rg.eqB_self (r : Rg) : r.eqB r = true := by simp [Rg.eqB]
theorem FlightSwings_ok (l wd : Int) (w : World) : Calls Try.prog 3 #[iv l, iv wd] w fun e w' => e = .returned (.bool true) ∧ Below w.heap.size w w' := by
  refine calls_val env mixed Try.func3 has3 Try.ntmps3 [iv l, iv wd] (by simp) ?_
  by_cases hk : (1 ≤ l ∧ l ≤ 20000) ∧ (0 ≤ wd ∧ wd ≤ 100)
  · obtain ⟨hl, hw⟩ := hk
    repeat'
      conv => whnf
      first
        | refine And.intro (a := drawB _ = true) (by kernel_rfl) ?_
        | refine And.intro (a := (_ : Bool) = true) rfl ?_
        | refine And.intro (a := (_ : Bool) = true ∧ (_ : Bool) = true) ⟨rfl, rfl⟩ ?_
        | refine And.intro (a := (_ : Bool) = true ∧ (_ : List _) = []) ⟨rfl, rfl⟩ ?_
        | refine And.intro (a := IR _ _) (And.intro (by omega) (by omega)) ?_
        | refine And.intro (a := (0 : Int) ≤ _ ∧ _ < _) (And.intro (by omega) (by omega)) ?_
        | refine splT ?_
        | refine splF ?_
        | refine splNot ?_
        | (refine splIn (fun hc => ?_) (fun hc => ?_) <;> first | (exfalso; omega) | skip)
        | (refine splD (fun hc => ?_) (fun hc => ?_) <;> first | (exfalso; omega) | skip)
        | (refine splE (fun hc => ?_) (fun hc => ?_) <;> first | (exfalso; omega) | skip)
        | (refine splNE (fun hc => ?_) (fun hc => ?_) <;> first | (exfalso; omega) | skip)
        | ((with_reducible show CallEv _ _ 18 _ _ _ _ _); refine callE (k := 18) (fun β w' hbw => Swing_good l wd _ hl hw) ?_)
        | ((with_reducible show CallEv _ _ 19 _ _ _ _ _); refine callE (k := 19) (fun β w' hbw => In_ok _ _ _ _) ?_)
        | ((with_reducible show CallEv _ _ 22 _ _ _ _ _); refine callE (k := 22) (fun β w' hbw => Rswing_ok l wd _ hl hw) ?_)
        | ((with_reducible show CallEv _ _ 21 _ _ _ _ _); refine callE (k := 21) (fun β w' hbw => Range_ok2 _ _ _) ?_)
        | ((with_reducible show CallEv _ _ 20 _ _ _ _ _); refine callE (k := 20) (fun β w' hbw => wakes_ok _) ?_)
        | refine eqlE23 (a := ⟨_, _⟩) (b := ⟨_, _⟩) ?_
        | refine splB (fun hc => ?_) (fun hc => ?_)
    all_goals first | exact ⟨fun β => rfl, fun w' h => h⟩ | (rw [Rg.eqB_self] at *; contradiction)
  · have hk' : ¬ (1 ≤ l ∧ l ≤ 20000) ∨ ¬ (0 ≤ wd ∧ wd ≤ 100) := by omega
    repeat'
      conv => whnf
      first
        | refine And.intro (a := drawB _ = true) (by kernel_rfl) ?_
        | refine And.intro (a := (_ : Bool) = true) rfl ?_
        | refine And.intro (a := (_ : Bool) = true ∧ (_ : Bool) = true) ⟨rfl, rfl⟩ ?_
        | refine And.intro (a := (_ : Bool) = true ∧ (_ : List _) = []) ⟨rfl, rfl⟩ ?_
        | refine And.intro (a := IR _ _) (And.intro (by omega) (by omega)) ?_
        | refine And.intro (a := (0 : Int) ≤ _ ∧ _ < _) (And.intro (by omega) (by omega)) ?_
        | refine splT ?_
        | refine splF ?_
        | refine splNot ?_
        | (refine splIn (fun hc => ?_) (fun hc => ?_) <;> first | (exfalso; omega) | skip)
        | (refine splD (fun hc => ?_) (fun hc => ?_) <;> first | (exfalso; omega) | skip)
        | (refine splE (fun hc => ?_) (fun hc => ?_) <;> first | (exfalso; omega) | skip)
        | (refine splNE (fun hc => ?_) (fun hc => ?_) <;> first | (exfalso; omega) | skip)
        | ((with_reducible show CallEv _ _ 18 _ _ _ _ _); refine callE (k := 18) (fun β w' hbw => Swing_bad l wd _ hk') ?_)
        | ((with_reducible show CallEv _ _ 19 _ _ _ _ _); refine callE (k := 19) (fun β w' hbw => In_ok _ _ _ _) ?_)
        | ((with_reducible show CallEv _ _ 20 _ _ _ _ _); refine callE (k := 20) (fun β w' hbw => wakes_ok _) ?_)
        | refine eqlE23 (a := ⟨_, _⟩) (b := ⟨_, _⟩) ?_
    all_goals exact ⟨fun β => rfl, fun w' h => h⟩
end Go.Proofs.Ytlehjapeomallaa

/- The law of the pendulums answers true at all inputs. -/
namespace Go.Proofs.Ytlehjapeomallaa
open Go Sx Go.RowKit

theorem sq_next (a : Int) : (a + 1) * (a + 1) = a * a + 2 * a + 1 := by rw [Int.add_mul, Int.mul_add]; omega
theorem hiT_spec {l : Int} (hl : 1 ≤ l ∧ l ≤ 20000) : 1 ≤ hiT l ∧ hiT l ≤ 40001 ∧ 39478418000 * l ≤ hiT l * hiT l * 980000000 ∧ (hiT l - 1) * (hiT l - 1) * 980000000 < 39478418000 * l := by
  obtain ⟨s1, s2, s3, s4⟩ := sw_some (39478418000 * l) (by omega) (by omega)
  unfold hiT
  split
  · rename_i h
    rw [Int.add_sub_cancel]
    exact ⟨by omega, by omega, by omega, h⟩
  · rename_i h
    generalize swg (39478418000 * l) = s at *
    have h1 : 1 ≤ s := by
      rcases Int.lt_or_le 0 s with h' | h'
      · omega
      · have : s = 0 := by omega
        subst this; omega
    have h2 := sq_next (s - 1)
    rw [Int.sub_add_cancel] at h2
    exact ⟨h1, by omega, by omega, by omega⟩
theorem hiT_mono {a b : Int} (ha : 1 ≤ a) (hab : a ≤ b) (hb : b ≤ 20000) : hiT a ≤ hiT b := by
  obtain ⟨a1, a2, a3, a4⟩ := hiT_spec (l := a) ⟨ha, by omega⟩
  obtain ⟨b1, b2, b3, b4⟩ := hiT_spec (l := b) ⟨by omega, hb⟩
  have := sq_lt (a := hiT a - 1) (b := hiT b) (by omega) (by omega) (by omega)
  omega
theorem swg_mono {a b : Int} (ha : 1 ≤ a) (hab : a ≤ b) (hb : b ≤ 20000) : swg (39478417600 * a) ≤ swg (39478417600 * b) := by
  obtain ⟨a1, a2, a3, a4⟩ := sw_some (39478417600 * a) (by omega) (by omega)
  obtain ⟨b1, b2, b3, b4⟩ := sw_some (39478417600 * b) (by omega) (by omega)
  have := sq_lt (a := swg (39478417600 * a)) (b := swg (39478417600 * b) + 1) (by omega) (by omega) (by omega)
  omega
theorem swg_hi {a : Int} (ha : 1 ≤ a ∧ a ≤ 20000) : swg (39478417600 * a) ≤ hiT a ∧ hiT a - swg (39478417600 * a) ≤ 2 := by
  obtain ⟨a1, a2, a3, a4⟩ := sw_some (39478417600 * a) (by omega) (by omega)
  obtain ⟨b1, b2, b3, b4⟩ := hiT_spec ha
  generalize swg (39478417600 * a) = s at *
  generalize hiT a = h at *
  have e1 := sq_next h
  have e2 : s < h + 1 := sq_lt (by omega) (by omega) (by omega)
  have e3 := sq_next (s + 1)
  have e4 : h - 1 < s + 1 + 1 := sq_lt (by omega) (by omega) (by omega)
  omega

theorem under59 : Try.prog.underlying 59 = some (.int .u16) := by kernel_rfl
theorem under5 : Try.prog.underlying 5 = some (.int .u8) := by kernel_rfl
theorem conv59 (a : Int) (h : 0 ≤ a ∧ a ≤ 65535) : RunIs Try.prog (convert 59 3 (.int .u16 a)) (iv a) := fun w => by
  have e : IntKind.i64.wrap a = a := IR.wrap (k := .i64) ⟨by omega, by omega⟩
  simp [convert, run_underlying under59, run_underlying under3, Conv.intToInt, e]
theorem conv5 (a : Int) (h : 0 ≤ a ∧ a ≤ 255) : RunIs Try.prog (convert 5 3 (.int .u8 a)) (iv a) := fun w => by
  have e : IntKind.i64.wrap a = a := IR.wrap (k := .i64) ⟨by omega, by omega⟩
  simp [convert, run_underlying under5, run_underlying under3, Conv.intToInt, e]
theorem convE59 {a : Int} {K : Value → Prop} (h : 0 ≤ a ∧ a ≤ 65535) (hK : K (iv a)) : ∃ v', RunIs Try.prog (convert 59 3 (.int .u16 a)) v' ∧ K v' := ⟨_, conv59 a h, hK⟩
theorem convE5 {a : Int} {K : Value → Prop} (h : 0 ≤ a ∧ a ≤ 255) (hK : K (iv a)) : ∃ v', RunIs Try.prog (convert 5 3 (.int .u8 a)) v' ∧ K v' := ⟨_, conv5 a h, hK⟩

theorem Swing_zero (l : Int) (w : World) (hl : 1 ≤ l ∧ l ≤ 20000) :
    Calls Try.prog 18 #[iv l, iv 0] w fun e w' => e = .returned (.tuple #[.agg #[iv (swg (39478417600 * l)), iv (hiT l)], iv 0]) ∧ Below w.heap.size w w' := by
  have := Swing_good l 0 w hl (by omega)
  rwa [show (hiT l * (1000 + 0) + 999) / 1000 = hiT l from by omega] at this

set_option maxRecDepth 100000 in
theorem Pendulums_ok (x y z : Int) (w : World) (hx : 0 ≤ x ∧ x ≤ 65535) (hy : 0 ≤ y ∧ y ≤ 65535) (hz : 0 ≤ z ∧ z ≤ 255) :
    Calls Try.prog 8 #[.int .u16 x, .int .u16 y, .int .u8 z] w fun e w' => e = .returned (.bool true) ∧ Below w.heap.size w w' := by
  refine calls_val env mixed Try.func8 has8 Try.ntmps8 [.int .u16 x, .int .u16 y, .int .u8 z] (by simp) ?_
  have ha' : 1 ≤ 1 + x % 20000 ∧ 1 + x % 20000 ≤ 20000 := by omega
  have m0 := Int.emod_nonneg y (b := 20001 - (1 + x % 20000)) (by omega)
  have m1 := Int.emod_lt_of_pos y (b := 20001 - (1 + x % 20000)) (by omega)
  have f1 := swg_mono (a := 1 + x % 20000) (b := 1 + x % 20000 + y % (20001 - (1 + x % 20000))) (by omega) (by omega) (by omega)
  have f2 := hiT_mono (a := 1 + x % 20000) (b := 1 + x % 20000 + y % (20001 - (1 + x % 20000))) (by omega) (by omega) (by omega)
  have f3 := swg_hi ha'
  have f4 := hiT_spec ha'
  have f5 : hiT (1 + x % 20000) ≤ (hiT (1 + x % 20000) * (1000 + z % 101) + 999) / 1000 := by
    have := Int.mul_le_mul_of_nonneg_left (show (1000 : Int) ≤ 1000 + z % 101 by omega) (show 0 ≤ hiT (1 + x % 20000) by omega)
    omega
  have f6 := sw_some (39478417600 * (1 + x % 20000)) (by omega) (by omega)
  have f60 := f6.1
  have f61 := f6.2.1
  clear f6
  repeat'
    conv => whnf
    first
      | refine And.intro (a := drawB _ = true) (by kernel_rfl) ?_
      | refine And.intro (a := (_ : Bool) = true) rfl ?_
      | refine And.intro (a := (_ : Bool) = true ∧ (_ : Bool) = true) ⟨rfl, rfl⟩ ?_
      | refine And.intro (a := (_ : Bool) = true ∧ (_ : List _) = []) ⟨rfl, rfl⟩ ?_
      | refine And.intro (a := IR _ _) (And.intro (by omega) (by omega)) ?_
      | refine And.intro (a := (0 : Int) ≤ _ ∧ _ < _) (And.intro (by omega) (by omega)) ?_
      | refine splT ?_
      | refine splF ?_
      | refine splNot ?_
      | (refine splIn (fun hc => ?_) (fun hc => ?_) <;> first | (exfalso; omega) | skip)
      | (refine splD (fun hc => ?_) (fun hc => ?_) <;> first | (exfalso; omega) | skip)
      | (refine splE (fun hc => ?_) (fun hc => ?_) <;> first | (exfalso; omega) | skip)
      | (refine splNE (fun hc => ?_) (fun hc => ?_) <;> first | (exfalso; omega) | skip)
      | refine convE59 hx ?_
      | refine convE59 hy ?_
      | refine convE5 hz ?_
      | refine remE (by omega) (by omega) ?_
      | ((with_reducible show CallEv _ _ 18 [_, .v (.int .i64 0)] _ _ _ _); refine callE (k := 18) (fun β w' _ => Swing_zero _ _ (by omega)) ?_)
      | ((with_reducible show CallEv _ _ 18 _ _ _ _ _); refine callE (k := 18) (fun β w' hbw => Swing_good _ _ _ (by omega) (by omega)) ?_)
      | ((with_reducible show CallEv _ _ 20 _ _ _ _ _); refine callE (k := 20) (fun β w' hbw => wakes_ok _) ?_)
  exact ⟨fun β => rfl, fun w' h => h⟩
end Go.Proofs.Ytlehjapeomallaa

/- The reference's words on ranges, boxes, flyers and nets return what the program's return. -/
namespace Go.Proofs.Ytlehjapeomallaa
open Go Sx Go.RowKit

theorem Between_ok (r : Rg) (most : Int) (w : World) (h0 : 0 ≤ most) (h1 : most ≤ 10000000) :
    Calls Try.prog 68 #[r.v, iv most] w fun e w' => e = .returned (.bool (r.ok most)) ∧ Below w.heap.size w w' := by
  refine calls_val env mixed Try.func68 has68 Try.ntmps68 [r.v, iv most] (by simp) ?_
  repeat'
    conv => whnf
    first
      | refine And.intro (a := drawB _ = true) (by kernel_rfl) ?_
      | refine And.intro (a := (_ : Bool) = true) rfl ?_
      | refine And.intro (a := (_ : Bool) = true ∧ (_ : Bool) = true) ⟨rfl, rfl⟩ ?_
      | refine And.intro (a := (_ : Bool) = true ∧ (_ : List _) = []) ⟨rfl, rfl⟩ ?_
      | refine And.intro (a := IR _ _) (And.intro (by omega) (by omega)) ?_
      | refine And.intro (a := (0 : Int) ≤ _ ∧ _ < _) (And.intro (by omega) (by omega)) ?_
      | refine splT ?_
      | refine splF ?_
      | refine splNot ?_
      | (refine splIn (fun hc => ?_) (fun hc => ?_) <;> first | (exfalso; omega) | skip)
      | (refine splD (fun hc => ?_) (fun hc => ?_) <;> first | (exfalso; omega) | skip)
      | (refine splE (fun hc => ?_) (fun hc => ?_) <;> first | (exfalso; omega) | skip)
      | (refine splNE (fun hc => ?_) (fun hc => ?_) <;> first | (exfalso; omega) | skip)
  all_goals exact ⟨fun β => congrArg Value.bool (by first | (simp_all [Rg.ok]; done) | (simp [Rg.ok]; omega)), fun w' h => h⟩
theorem Boxed_ok (b : Bx) (most : Int) (w : World) (h0 : 0 ≤ most) (h1 : most ≤ 10000000) :
    Calls Try.prog 64 #[b.v, iv most] w fun e w' => e = .returned (.bool (b.ok most)) ∧ Below w.heap.size w w' := by
  refine calls_val env mixed Try.func64 has64 Try.ntmps64 [b.v, iv most] (by simp) ?_
  repeat'
    conv => whnf
    first
      | refine And.intro (a := drawB _ = true) (by kernel_rfl) ?_
      | refine And.intro (a := (_ : Bool) = true) rfl ?_
      | refine And.intro (a := (_ : Bool) = true ∧ (_ : Bool) = true) ⟨rfl, rfl⟩ ?_
      | refine And.intro (a := (_ : Bool) = true ∧ (_ : List _) = []) ⟨rfl, rfl⟩ ?_
      | refine And.intro (a := IR _ _) (And.intro (by omega) (by omega)) ?_
      | refine And.intro (a := (0 : Int) ≤ _ ∧ _ < _) (And.intro (by omega) (by omega)) ?_
      | refine splT ?_
      | refine splF ?_
      | refine splNot ?_
      | (refine splIn (fun hc => ?_) (fun hc => ?_) <;> first | (exfalso; omega) | skip)
      | (refine splD (fun hc => ?_) (fun hc => ?_) <;> first | (exfalso; omega) | skip)
      | (refine splE (fun hc => ?_) (fun hc => ?_) <;> first | (exfalso; omega) | skip)
      | (refine splNE (fun hc => ?_) (fun hc => ?_) <;> first | (exfalso; omega) | skip)
      | ((with_reducible show CallEv _ _ 68 _ _ _ _ _); refine callE (k := 68) (fun β w' hbw => Between_ok ⟨_, _⟩ _ _ h0 h1) ?_)
      | refine splB (fun hc => ?_) (fun hc => ?_)
  all_goals exact ⟨fun β => congrArg Value.bool (by simp [Bx.ok, *]), fun w' h => h⟩
theorem RightFlyer_ok (f : Fl) (w : World) :
    Calls Try.prog 37 #[f.v] w fun e w' => e = .returned (.bool f.ok) ∧ Below w.heap.size w w' := by
  refine calls_val env mixed Try.func37 has37 Try.ntmps37 [f.v] (by simp) ?_
  repeat'
    conv => whnf
    first
      | refine And.intro (a := drawB _ = true) (by kernel_rfl) ?_
      | refine And.intro (a := (_ : Bool) = true) rfl ?_
      | refine And.intro (a := (_ : Bool) = true ∧ (_ : Bool) = true) ⟨rfl, rfl⟩ ?_
      | refine And.intro (a := (_ : Bool) = true ∧ (_ : List _) = []) ⟨rfl, rfl⟩ ?_
      | refine And.intro (a := IR _ _) (And.intro (by omega) (by omega)) ?_
      | refine And.intro (a := (0 : Int) ≤ _ ∧ _ < _) (And.intro (by omega) (by omega)) ?_
      | refine splT ?_
      | refine splF ?_
      | refine splNot ?_
      | (refine splIn (fun hc => ?_) (fun hc => ?_) <;> first | (exfalso; omega) | skip)
      | (refine splD (fun hc => ?_) (fun hc => ?_) <;> first | (exfalso; omega) | skip)
      | (refine splE (fun hc => ?_) (fun hc => ?_) <;> first | (exfalso; omega) | skip)
      | (refine splNE (fun hc => ?_) (fun hc => ?_) <;> first | (exfalso; omega) | skip)
      | ((with_reducible show CallEv _ _ 64 _ _ _ _ _); refine callE (k := 64) (fun β w' hbw => Boxed_ok ⟨⟨_, _⟩, ⟨_, _⟩⟩ _ _ (by omega) (by omega)) ?_)
      | ((with_reducible show CallEv _ _ 19 _ _ _ _ _); refine callE (k := 19) (fun β w' hbw => In_ok _ _ _ _) ?_)
      | refine splB (fun hc => ?_) (fun hc => ?_)
  all_goals exact ⟨fun β => congrArg Value.bool (by simp [Fl.ok, inB, *]), fun w' h => h⟩
theorem RightNet_ok (n : Nt) (w : World) :
    Calls Try.prog 38 #[n.v] w fun e w' => e = .returned (.bool n.ok) ∧ Below w.heap.size w w' := by
  refine calls_val env mixed Try.func38 has38 Try.ntmps38 [n.v] (by simp) ?_
  repeat'
    conv => whnf
    first
      | refine And.intro (a := drawB _ = true) (by kernel_rfl) ?_
      | refine And.intro (a := (_ : Bool) = true) rfl ?_
      | refine And.intro (a := (_ : Bool) = true ∧ (_ : Bool) = true) ⟨rfl, rfl⟩ ?_
      | refine And.intro (a := (_ : Bool) = true ∧ (_ : List _) = []) ⟨rfl, rfl⟩ ?_
      | refine And.intro (a := IR _ _) (And.intro (by omega) (by omega)) ?_
      | refine And.intro (a := (0 : Int) ≤ _ ∧ _ < _) (And.intro (by omega) (by omega)) ?_
      | refine splT ?_
      | refine splF ?_
      | refine splNot ?_
      | (refine splIn (fun hc => ?_) (fun hc => ?_) <;> first | (exfalso; omega) | skip)
      | (refine splD (fun hc => ?_) (fun hc => ?_) <;> first | (exfalso; omega) | skip)
      | (refine splE (fun hc => ?_) (fun hc => ?_) <;> first | (exfalso; omega) | skip)
      | (refine splNE (fun hc => ?_) (fun hc => ?_) <;> first | (exfalso; omega) | skip)
      | ((with_reducible show CallEv _ _ 68 _ _ _ _ _); refine callE (k := 68) (fun β w' hbw => Between_ok ⟨_, _⟩ _ _ (by omega) (by omega)) ?_)
      | ((with_reducible show CallEv _ _ 19 _ _ _ _ _); refine callE (k := 19) (fun β w' hbw => In_ok _ _ _ _) ?_)
      | refine splB (fun hc => ?_) (fun hc => ?_)
  all_goals exact ⟨fun β => congrArg Value.bool (by simp [Nt.ok, inB, *]), fun w' h => h⟩

set_option maxRecDepth 100000 in
theorem Rafter_ok (f : Fl) (t : Int) (w : World) (hf : f.ok = true) (h0 : 0 ≤ t) (h1 : t ≤ 300) :
    Calls Try.prog 45 #[f.v, iv t] w fun e w' => e = .returned (f.af t).v ∧ Below w.heap.size w w' := by
  have hb := Fl.bd hf h0 h1
  have hf' := Fl.ok_iff.1 hf
  refine calls_val env mixed Try.func45 has45 Try.ntmps45 [f.v, iv t] (by simp) ?_
  repeat'
    conv => whnf
    first
      | refine And.intro (a := drawB _ = true) (by kernel_rfl) ?_
      | refine And.intro (a := (_ : Bool) = true) rfl ?_
      | refine And.intro (a := (_ : Bool) = true ∧ (_ : Bool) = true) ⟨rfl, rfl⟩ ?_
      | refine And.intro (a := (_ : Bool) = true ∧ (_ : List _) = []) ⟨rfl, rfl⟩ ?_
      | refine And.intro (a := IR _ _) (And.intro (by omega) (by omega)) ?_
      | refine And.intro (a := (0 : Int) ≤ _ ∧ _ < _) (And.intro (by omega) (by omega)) ?_
      | refine splT ?_
      | refine splF ?_
      | refine splNot ?_
      | (refine splIn (fun hc => ?_) (fun hc => ?_) <;> first | (exfalso; omega) | skip)
      | (refine splD (fun hc => ?_) (fun hc => ?_) <;> first | (exfalso; omega) | skip)
      | (refine splE (fun hc => ?_) (fun hc => ?_) <;> first | (exfalso; omega) | skip)
      | (refine splNE (fun hc => ?_) (fun hc => ?_) <;> first | (exfalso; omega) | skip)
  exact ⟨fun β => rfl, fun w' h => h⟩
theorem Size_ok (n : Int) (w : World) (h : -4000000000000 ≤ n ∧ n ≤ 4000000000000) :
    Calls Try.prog 71 #[iv n] w fun e w' => e = .returned (iv (imax n (-n))) ∧ Below w.heap.size w w' := by
  refine calls_val env mixed Try.func71 has71 Try.ntmps71 [iv n] (by simp) ?_
  repeat'
    conv => whnf
    first
      | refine And.intro (a := drawB _ = true) (by kernel_rfl) ?_
      | refine And.intro (a := (_ : Bool) = true) rfl ?_
      | refine And.intro (a := (_ : Bool) = true ∧ (_ : Bool) = true) ⟨rfl, rfl⟩ ?_
      | refine And.intro (a := (_ : Bool) = true ∧ (_ : List _) = []) ⟨rfl, rfl⟩ ?_
      | refine And.intro (a := IR _ _) (And.intro (by omega) (by omega)) ?_
      | refine And.intro (a := (0 : Int) ≤ _ ∧ _ < _) (And.intro (by omega) (by omega)) ?_
      | refine splT ?_
      | refine splF ?_
      | refine splNot ?_
      | (refine splIn (fun hc => ?_) (fun hc => ?_) <;> first | (exfalso; omega) | skip)
      | (refine splD (fun hc => ?_) (fun hc => ?_) <;> first | (exfalso; omega) | skip)
      | (refine splE (fun hc => ?_) (fun hc => ?_) <;> first | (exfalso; omega) | skip)
      | (refine splNE (fun hc => ?_) (fun hc => ?_) <;> first | (exfalso; omega) | skip)
  exact ⟨fun β => rfl, fun w' h => h⟩
end Go.Proofs.Ytlehjapeomallaa

/- The law's conversions, and the reference's landing and taking, return what is said. -/
namespace Go.Proofs.Ytlehjapeomallaa
open Go Sx Go.RowKit

theorem Box_ok (a b c d : Int) (w : World) : Calls Try.prog 44 #[.agg #[iv a, iv b, iv c, iv d]] w fun e w' => e = .returned (.agg #[iv a, iv b, iv c, iv d]) ∧ Below w.heap.size w w' := by
  refine calls_val env mixed Try.func44 has44 Try.ntmps44 [.agg #[iv a, iv b, iv c, iv d]] (by simp) ?_
  repeat'
    conv => whnf
    first
      | refine And.intro (a := drawB _ = true) (by kernel_rfl) ?_
      | refine And.intro (a := (_ : Bool) = true) rfl ?_
      | refine And.intro (a := (_ : Bool) = true ∧ (_ : Bool) = true) ⟨rfl, rfl⟩ ?_
      | refine And.intro (a := (_ : Bool) = true ∧ (_ : List _) = []) ⟨rfl, rfl⟩ ?_
      | refine And.intro (a := IR _ _) (And.intro (by omega) (by omega)) ?_
      | refine And.intro (a := (0 : Int) ≤ _ ∧ _ < _) (And.intro (by omega) (by omega)) ?_
      | refine splT ?_
      | refine splF ?_
      | refine splNot ?_
      | (refine splIn (fun hc => ?_) (fun hc => ?_) <;> first | (exfalso; omega) | skip)
      | (refine splD (fun hc => ?_) (fun hc => ?_) <;> first | (exfalso; omega) | skip)
      | (refine splE (fun hc => ?_) (fun hc => ?_) <;> first | (exfalso; omega) | skip)
      | (refine splNE (fun hc => ?_) (fun hc => ?_) <;> first | (exfalso; omega) | skip)
      | ((with_reducible show CallEv _ _ 21 _ _ _ _ _); refine callE (k := 21) (fun β w' hbw => Range_ok2 _ _ _) ?_)
  exact ⟨fun β => rfl, fun w' h => h⟩
theorem Flyer_ok (f : Fl) (w : World) : Calls Try.prog 34 #[f.v] w fun e w' => e = .returned f.v ∧ Below w.heap.size w w' := by
  refine calls_val env mixed Try.func34 has34 Try.ntmps34 [f.v] (by simp) ?_
  repeat'
    conv => whnf
    first
      | refine And.intro (a := drawB _ = true) (by kernel_rfl) ?_
      | refine And.intro (a := (_ : Bool) = true) rfl ?_
      | refine And.intro (a := (_ : Bool) = true ∧ (_ : Bool) = true) ⟨rfl, rfl⟩ ?_
      | refine And.intro (a := (_ : Bool) = true ∧ (_ : List _) = []) ⟨rfl, rfl⟩ ?_
      | refine And.intro (a := IR _ _) (And.intro (by omega) (by omega)) ?_
      | refine And.intro (a := (0 : Int) ≤ _ ∧ _ < _) (And.intro (by omega) (by omega)) ?_
      | refine splT ?_
      | refine splF ?_
      | refine splNot ?_
      | (refine splIn (fun hc => ?_) (fun hc => ?_) <;> first | (exfalso; omega) | skip)
      | (refine splD (fun hc => ?_) (fun hc => ?_) <;> first | (exfalso; omega) | skip)
      | (refine splE (fun hc => ?_) (fun hc => ?_) <;> first | (exfalso; omega) | skip)
      | (refine splNE (fun hc => ?_) (fun hc => ?_) <;> first | (exfalso; omega) | skip)
      | ((with_reducible show CallEv _ _ 44 _ _ _ _ _); refine callE (k := 44) (fun β w' hbw => Box_ok _ _ _ _ _) ?_)
  exact ⟨fun β => rfl, fun w' h => h⟩
theorem Net_ok (n : Nt) (w : World) : Calls Try.prog 35 #[n.v] w fun e w' => e = .returned n.v ∧ Below w.heap.size w w' := by
  refine calls_val env mixed Try.func35 has35 Try.ntmps35 [n.v] (by simp) ?_
  repeat'
    conv => whnf
    first
      | refine And.intro (a := drawB _ = true) (by kernel_rfl) ?_
      | refine And.intro (a := (_ : Bool) = true) rfl ?_
      | refine And.intro (a := (_ : Bool) = true ∧ (_ : Bool) = true) ⟨rfl, rfl⟩ ?_
      | refine And.intro (a := (_ : Bool) = true ∧ (_ : List _) = []) ⟨rfl, rfl⟩ ?_
      | refine And.intro (a := IR _ _) (And.intro (by omega) (by omega)) ?_
      | refine And.intro (a := (0 : Int) ≤ _ ∧ _ < _) (And.intro (by omega) (by omega)) ?_
      | refine splT ?_
      | refine splF ?_
      | refine splNot ?_
      | (refine splIn (fun hc => ?_) (fun hc => ?_) <;> first | (exfalso; omega) | skip)
      | (refine splD (fun hc => ?_) (fun hc => ?_) <;> first | (exfalso; omega) | skip)
      | (refine splE (fun hc => ?_) (fun hc => ?_) <;> first | (exfalso; omega) | skip)
      | (refine splNE (fun hc => ?_) (fun hc => ?_) <;> first | (exfalso; omega) | skip)
      | ((with_reducible show CallEv _ _ 21 _ _ _ _ _); refine callE (k := 21) (fun β w' hbw => Range_ok2 _ _ _) ?_)
  exact ⟨fun β => rfl, fun w' h => h⟩

/-- The first tick from t on of so many, seen from behind. -/
def dnB (g : Int → Int) (h : Int) (t : Int) : Int := dnF g h (301 - t).toNat t
theorem dnB_step (g : Int → Int) (h : Int) {t : Int} (h0 : 0 ≤ t) (h1 : t ≤ 300) : dnB g h t = if g t ≤ h then t else dnB g h (t + 1) := by
  unfold dnB
  rw [show (301 - t).toNat = (301 - (t + 1)).toNat + 1 from by omega, dnF]

set_option maxRecDepth 100000 in
theorem Rlanding_ok (f : Fl) (n : Nt) (w : World) (hf : f.ok = true) :
    Calls Try.prog 39 #[f.v, n.v] w fun e w' => e = .returned (.tuple #[(lnd f n).v, .bool (decide ((lnd f n).hi ≥ 0))]) ∧ Below w.heap.size w w' := by
  refine calls_val env mixed Try.func39 has39 Try.ntmps39 [f.v, n.v] (by simp) ?_
  repeat'
    conv => whnf
    first
      | refine And.intro (a := drawB _ = true) (by kernel_rfl) ?_
      | refine And.intro (a := (_ : Bool) = true) rfl ?_
      | refine And.intro (a := (_ : Bool) = true ∧ (_ : Bool) = true) ⟨rfl, rfl⟩ ?_
      | refine And.intro (a := (_ : Bool) = true ∧ (_ : List _) = []) ⟨rfl, rfl⟩ ?_
      | refine And.intro (a := IR _ _) (And.intro (by omega) (by omega)) ?_
      | refine And.intro (a := (0 : Int) ≤ _ ∧ _ < _) (And.intro (by omega) (by omega)) ?_
      | refine splT ?_
      | refine splF ?_
      | refine splNot ?_
      | (refine splIn (fun hc => ?_) (fun hc => ?_) <;> first | (exfalso; omega) | skip)
      | (refine splD (fun hc => ?_) (fun hc => ?_) <;> first | (exfalso; omega) | skip)
      | (refine splE (fun hc => ?_) (fun hc => ?_) <;> first | (exfalso; omega) | skip)
      | (refine splNE (fun hc => ?_) (fun hc => ?_) <;> first | (exfalso; omega) | skip)
  refine loopE (fun t : Int => [(2, .ptr 0 0), (3, .ptr 1 0), (4, .ptr 2 0), (6, .ptr 3 0), (7, .v (iv t))]) (fun t => [(0, .cells [.v (iv f.a.x.lo), .v (iv f.a.x.hi), .v (iv f.a.z.lo), .v (iv f.a.z.hi), .v (iv f.s.x.lo), .v (iv f.s.x.hi), .v (iv f.s.z.lo), .v (iv f.s.z.hi), .v (iv f.m)] 36), (1, .cells [.v (iv n.x.lo), .v (iv n.x.hi), .v (iv n.h)] 70), (2, .cells [.v (iv 0), .v (iv 0)] 30), (3, .cells [.v (iv (dnB (fun t => (f.af t).z.lo) n.h (t + 1))), .v (iv (dnB (fun t => (f.af t).z.hi) n.h (t + 1)))] 30)])
    (fun t => -1 ≤ t ∧ t ≤ 300) (fun t => (t + 1).toNat) 300 (by omega) ⟨rfl, rfl, rfl, rfl, rfl, trivial⟩ ⟨rfl, rfl, rfl, rfl, trivial⟩ (fun _ => ⟨rfl, rfl⟩) ?_
  rintro t ⟨g0, g1⟩
  repeat'
    conv => whnf
    first
      | refine And.intro (a := drawB _ = true) (by kernel_rfl) ?_
      | refine And.intro (a := (_ : Bool) = true) rfl ?_
      | refine And.intro (a := (_ : Bool) = true ∧ (_ : Bool) = true) ⟨rfl, rfl⟩ ?_
      | refine And.intro (a := (_ : Bool) = true ∧ (_ : List _) = []) ⟨rfl, rfl⟩ ?_
      | refine And.intro (a := IR _ _) (And.intro (by omega) (by omega)) ?_
      | refine And.intro (a := (0 : Int) ≤ _ ∧ _ < _) (And.intro (by omega) (by omega)) ?_
      | refine splT ?_
      | refine splF ?_
      | refine splNot ?_
      | (refine splIn (fun hc => ?_) (fun hc => ?_) <;> first | (exfalso; omega) | skip)
      | (refine splD (fun hc => ?_) (fun hc => ?_) <;> first | (exfalso; omega) | skip)
      | (refine splE (fun hc => ?_) (fun hc => ?_) <;> first | (exfalso; omega) | skip)
      | (refine splNE (fun hc => ?_) (fun hc => ?_) <;> first | (exfalso; omega) | skip)
      | ((with_reducible show CallEv _ _ 45 _ _ _ _ _); refine callE (k := 45) (fun β w' hbw => Rafter_ok f t _ hf (by omega) (by omega)) ?_)
  · exact ⟨t - 1, by omega, by omega, Ent.weak rfl ⟨rfl, rfl, rfl, rfl, rfl, trivial⟩ ⟨rfl, rfl, rfl, by rw [Int.sub_add_cancel, dnB_step (t := t) _ _ (by omega) (by omega), dnB_step (t := t) _ _ (by omega) (by omega), if_pos ‹_›, if_pos ‹_›]; rfl, trivial⟩ fun _ h => h⟩
  · exact ⟨t - 1, by omega, by omega, Ent.weak rfl ⟨rfl, rfl, rfl, rfl, rfl, trivial⟩ ⟨rfl, rfl, rfl, by rw [Int.sub_add_cancel, dnB_step (t := t) _ _ (by omega) (by omega), dnB_step (t := t) _ _ (by omega) (by omega), if_pos ‹_›, if_neg ‹_›]; rfl, trivial⟩ fun _ h => h⟩
  · exact ⟨t - 1, by omega, by omega, Ent.weak rfl ⟨rfl, rfl, rfl, rfl, rfl, trivial⟩ ⟨rfl, rfl, rfl, by rw [Int.sub_add_cancel, dnB_step (t := t) _ _ (by omega) (by omega), dnB_step (t := t) _ _ (by omega) (by omega), if_neg ‹_›, if_pos ‹_›]; rfl, trivial⟩ fun _ h => h⟩
  · exact ⟨t - 1, by omega, by omega, Ent.weak rfl ⟨rfl, rfl, rfl, rfl, rfl, trivial⟩ ⟨rfl, rfl, rfl, by rw [Int.sub_add_cancel, dnB_step (t := t) _ _ (by omega) (by omega), dnB_step (t := t) _ _ (by omega) (by omega), if_neg ‹_›, if_neg ‹_›]; rfl, trivial⟩ fun _ h => h⟩
  · have ht : t = -1 := by omega
    subst ht
    exact ⟨fun β => rfl, fun w' h => h⟩
end Go.Proofs.Ytlehjapeomallaa

/- The reference's taking, and the law of landing, answer as said. -/
namespace Go.Proofs.Ytlehjapeomallaa
open Go Sx Go.RowKit

theorem Rlanding_y (f : Fl) (n : Nt) (w : World) (hf : f.ok = true) (hp : (lnd f n).hi ≥ 0) :
    Calls Try.prog 39 #[f.v, n.v] w fun e w' => e = .returned (.tuple #[(lnd f n).v, .bool true]) ∧ Below w.heap.size w w' := by have := Rlanding_ok f n w hf; rwa [decide_eq_true hp] at this
theorem Rlanding_n (f : Fl) (n : Nt) (w : World) (hf : f.ok = true) (hp : ¬ (lnd f n).hi ≥ 0) :
    Calls Try.prog 39 #[f.v, n.v] w fun e w' => e = .returned (.tuple #[(lnd f n).v, .bool false]) ∧ Below w.heap.size w w' := by have := Rlanding_ok f n w hf; rwa [decide_eq_false hp] at this

set_option maxRecDepth 100000 in
theorem Rtakes_ok (f : Fl) (n : Nt) (w : World) (hf : f.ok = true) :
    Calls Try.prog 40 #[f.v, n.v] w fun e w' => e = .returned (.bool (tk f n)) ∧ Below w.heap.size w w' := by
  refine calls_val env mixed Try.func40 has40 Try.ntmps40 [f.v, n.v] (by simp) ?_
  by_cases hp : (lnd f n).hi ≥ 0
  · have hl := lnd_bd n hf hp
    repeat'
      conv => whnf
      first
        | refine And.intro (a := drawB _ = true) (by kernel_rfl) ?_
        | refine And.intro (a := (_ : Bool) = true) rfl ?_
        | refine And.intro (a := (_ : Bool) = true ∧ (_ : Bool) = true) ⟨rfl, rfl⟩ ?_
        | refine And.intro (a := (_ : Bool) = true ∧ (_ : List _) = []) ⟨rfl, rfl⟩ ?_
        | refine And.intro (a := IR _ _) (And.intro (by omega) (by omega)) ?_
        | refine And.intro (a := (0 : Int) ≤ _ ∧ _ < _) (And.intro (by omega) (by omega)) ?_
        | refine splT ?_
        | refine splF ?_
        | refine splNot ?_
        | (refine splIn (fun hc => ?_) (fun hc => ?_) <;> first | (exfalso; omega) | skip)
        | (refine splD (fun hc => ?_) (fun hc => ?_) <;> first | (exfalso; omega) | skip)
        | (refine splE (fun hc => ?_) (fun hc => ?_) <;> first | (exfalso; omega) | skip)
        | (refine splNE (fun hc => ?_) (fun hc => ?_) <;> first | (exfalso; omega) | skip)
        | ((with_reducible show CallEv _ _ 39 _ _ _ _ _); refine callE (k := 39) (fun β w' hbw => Rlanding_y f n _ hf hp) ?_)
    refine loopE (fun t : Int => [(2, .ptr 0 0), (3, .ptr 1 0), (5, .ptr 2 0), (7, .v (iv t))]) (fun _ => [(0, .cells [.v (iv f.a.x.lo), .v (iv f.a.x.hi), .v (iv f.a.z.lo), .v (iv f.a.z.hi), .v (iv f.s.x.lo), .v (iv f.s.x.hi), .v (iv f.s.z.lo), .v (iv f.s.z.hi), .v (iv f.m)] 36), (1, .cells [.v (iv n.x.lo), .v (iv n.x.hi), .v (iv n.h)] 70), (2, .cells [.v (iv (lnd f n).lo), .v (iv (lnd f n).hi)] 30)])
      (fun t => ((lnd f n).lo ≤ t ∧ t ≤ (lnd f n).hi + 1) ∧ ovF f n ((lnd f n).hi + 1 - t).toNat t = tk f n) (fun t => (301 - t).toNat) (lnd f n).lo ⟨by omega, by unfold tk; rw [decide_eq_true hp, Bool.true_and]⟩ ⟨rfl, rfl, rfl, rfl, trivial⟩ ⟨rfl, rfl, rfl, trivial⟩ (fun _ => ⟨rfl, rfl⟩) ?_
    rintro t ⟨g0, g1⟩
    repeat'
      conv => whnf
      first
        | refine And.intro (a := drawB _ = true) (by kernel_rfl) ?_
        | refine And.intro (a := (_ : Bool) = true) rfl ?_
        | refine And.intro (a := (_ : Bool) = true ∧ (_ : Bool) = true) ⟨rfl, rfl⟩ ?_
        | refine And.intro (a := (_ : Bool) = true ∧ (_ : List _) = []) ⟨rfl, rfl⟩ ?_
        | refine And.intro (a := IR _ _) (And.intro (by omega) (by omega)) ?_
        | refine And.intro (a := (0 : Int) ≤ _ ∧ _ < _) (And.intro (by omega) (by omega)) ?_
        | refine splT ?_
        | refine splF ?_
        | refine splNot ?_
        | (refine splIn (fun hc => ?_) (fun hc => ?_) <;> first | (exfalso; omega) | skip)
        | (refine splD (fun hc => ?_) (fun hc => ?_) <;> first | (exfalso; omega) | skip)
        | (refine splE (fun hc => ?_) (fun hc => ?_) <;> first | (exfalso; omega) | skip)
        | (refine splNE (fun hc => ?_) (fun hc => ?_) <;> first | (exfalso; omega) | skip)
        | ((with_reducible show CallEv _ _ 45 _ _ _ _ _); refine callE (k := 45) (fun β w' hbw => Rafter_ok f t _ hf (by omega) (by omega)) ?_)
    · rw [show ((lnd f n).hi + 1 - t).toNat = ((lnd f n).hi - t).toNat + 1 from by omega, ovF] at g1
      exact ⟨fun β => by rw [← g1, decide_eq_false (by omega : ¬ n.x.lo ≤ (f.af t).x.lo)]; rfl, fun w' h => h⟩
    · rw [show ((lnd f n).hi + 1 - t).toNat = ((lnd f n).hi - t).toNat + 1 from by omega, ovF] at g1
      exact ⟨fun β => by rw [← g1, decide_eq_false (by omega : ¬ (f.af t).x.hi ≤ n.x.hi), Bool.and_false]; rfl, fun w' h => h⟩
    · rw [show ((lnd f n).hi + 1 - t).toNat = ((lnd f n).hi + 1 - (t + 1)).toNat + 1 from by omega, ovF, decide_eq_true (by omega : n.x.lo ≤ (f.af t).x.lo), decide_eq_true (by omega : (f.af t).x.hi ≤ n.x.hi)] at g1
      exact ⟨t + 1, ⟨by omega, by simpa using g1⟩, by omega, Ent.weak rfl ⟨rfl, rfl, rfl, rfl, trivial⟩ ⟨rfl, rfl, rfl, trivial⟩ fun _ h => h⟩
    · rw [show ((lnd f n).hi + 1 - t).toNat = 0 from by omega, ovF] at g1
      exact ⟨fun β => by rw [← g1]; rfl, fun w' h => h⟩
  · rw [show tk f n = false from by unfold tk; rw [decide_eq_false hp, Bool.false_and]]
    repeat'
      conv => whnf
      first
        | refine And.intro (a := drawB _ = true) (by kernel_rfl) ?_
        | refine And.intro (a := (_ : Bool) = true) rfl ?_
        | refine And.intro (a := (_ : Bool) = true ∧ (_ : Bool) = true) ⟨rfl, rfl⟩ ?_
        | refine And.intro (a := (_ : Bool) = true ∧ (_ : List _) = []) ⟨rfl, rfl⟩ ?_
        | refine And.intro (a := IR _ _) (And.intro (by omega) (by omega)) ?_
        | refine And.intro (a := (0 : Int) ≤ _ ∧ _ < _) (And.intro (by omega) (by omega)) ?_
        | refine splT ?_
        | refine splF ?_
        | refine splNot ?_
        | (refine splIn (fun hc => ?_) (fun hc => ?_) <;> first | (exfalso; omega) | skip)
        | (refine splD (fun hc => ?_) (fun hc => ?_) <;> first | (exfalso; omega) | skip)
        | (refine splE (fun hc => ?_) (fun hc => ?_) <;> first | (exfalso; omega) | skip)
        | (refine splNE (fun hc => ?_) (fun hc => ?_) <;> first | (exfalso; omega) | skip)
        | ((with_reducible show CallEv _ _ 39 _ _ _ _ _); refine callE (k := 39) (fun β w' hbw => Rlanding_n f n _ hf hp) ?_)
    exact ⟨fun β => rfl, fun w' h => h⟩
end Go.Proofs.Ytlehjapeomallaa

/- The law of landing answers true at every flyer and net. -/
namespace Go.Proofs.Ytlehjapeomallaa
open Go Sx Go.RowKit

theorem under4 : Try.prog.underlying 4 = some .bool := by kernel_rfl
theorem eqIn4 (d : Nat) (a b : Bool) (w : World) : (Op.equalIn (d + 1) 4 (.bool a) (.bool b)).run Try.prog w = .ok (a == b) w := by
  rw [Op.equalIn]
  simp [Sem.run_bind, Go.run_underlying under4 w]
theorem neqB (a b : Bool) (x y : Operand) : RunIs Try.prog (do eqGuard .neq 4 x y (.bool a) (.bool b); binOp .neq 4 (.bool a) (.bool b)) (.bool (!(a == b))) := fun w => by
  have h := eqIn4 9999 a b w
  simp [eqGuard, binOp, Op.equal, Op.maxDepth, h]
theorem neqEB {a b : Bool} {x y : Operand} {K : Value → Prop} (h : K (.bool (!(a == b)))) : ∃ v, (∀ _ : Nat → Nat, RunIs Try.prog (do eqGuard .neq 4 x y (.bool a) (.bool b); binOp .neq 4 (.bool a) (.bool b)) v) ∧ K v := ⟨_, fun _ => neqB a b x y, h⟩

theorem Landing_a (f : Fl) (n : Nt) (w : World) (hk : ¬ (f.ok = true ∧ n.ok = true)) :
    Calls Try.prog 33 #[f.v, n.v] w fun e w' => e = .returned (.tuple #[(⟨0, 0⟩ : Rg).v, iv 1]) ∧ Below w.heap.size w w' := by have := Landing_ok f n w; rwa [if_neg (fun h => hk h.1), if_neg hk] at this
theorem Landing_b (f : Fl) (n : Nt) (w : World) (hk : f.ok = true ∧ n.ok = true) (hh : ¬ (lnd f n).hi ≥ 0) :
    Calls Try.prog 33 #[f.v, n.v] w fun e w' => e = .returned (.tuple #[(⟨0, 0⟩ : Rg).v, iv 7]) ∧ Below w.heap.size w w' := by have := Landing_ok f n w; rwa [if_neg (fun h => hh h.2), if_pos hk, if_neg hh] at this
theorem Landing_c (f : Fl) (n : Nt) (w : World) (hk : f.ok = true ∧ n.ok = true) (hh : (lnd f n).hi ≥ 0) :
    Calls Try.prog 33 #[f.v, n.v] w fun e w' => e = .returned (.tuple #[(lnd f n).v, iv 0]) ∧ Below w.heap.size w w' := by have := Landing_ok f n w; rwa [if_pos ⟨hk, hh⟩, if_pos hk, if_pos hh] at this
theorem Takes_a (f : Fl) (n : Nt) (w : World) (hk : ¬ (f.ok = true ∧ n.ok = true)) :
    Calls Try.prog 36 #[f.v, n.v] w fun e w' => e = .returned (.tuple #[.bool false, iv 1]) ∧ Below w.heap.size w w' := by have := Takes_ok f n w; rwa [if_neg hk, show (f.ok && n.ok) = false from by simpa using hk, Bool.false_and] at this
theorem Takes_b (f : Fl) (n : Nt) (w : World) (hk : f.ok = true ∧ n.ok = true) :
    Calls Try.prog 36 #[f.v, n.v] w fun e w' => e = .returned (.tuple #[.bool (tk f n), iv 0]) ∧ Below w.heap.size w w' := by have := Takes_ok f n w; rwa [if_pos hk, hk.1, hk.2, Bool.and_self, Bool.true_and] at this

set_option maxRecDepth 100000 in
theorem FlightLands_ok (f : Fl) (n : Nt) (w : World) : Calls Try.prog 9 #[f.v, n.v] w fun e w' => e = .returned (.bool true) ∧ Below w.heap.size w w' := by
  refine calls_val env mixed Try.func9 has9 Try.ntmps9 [f.v, n.v] (by simp) ?_
  by_cases hk : f.ok = true ∧ n.ok = true
  · by_cases hp : (lnd f n).hi ≥ 0
    · skip
      repeat'
        conv => whnf
        first
          | refine And.intro (a := drawB _ = true) (by kernel_rfl) ?_
          | refine And.intro (a := (_ : Bool) = true) rfl ?_
          | refine And.intro (a := (_ : Bool) = true ∧ (_ : Bool) = true) ⟨rfl, rfl⟩ ?_
          | refine And.intro (a := (_ : Bool) = true ∧ (_ : List _) = []) ⟨rfl, rfl⟩ ?_
          | refine And.intro (a := IR _ _) (And.intro (by omega) (by omega)) ?_
          | refine And.intro (a := (0 : Int) ≤ _ ∧ _ < _) (And.intro (by omega) (by omega)) ?_
          | refine splT ?_
          | refine splF ?_
          | refine splNot ?_
          | (refine splIn (fun hc => ?_) (fun hc => ?_) <;> first | (exfalso; omega) | skip)
          | (refine splD (fun hc => ?_) (fun hc => ?_) <;> first | (exfalso; omega) | skip)
          | (refine splE (fun hc => ?_) (fun hc => ?_) <;> first | (exfalso; omega) | skip)
          | (refine splNE (fun hc => ?_) (fun hc => ?_) <;> first | (exfalso; omega) | skip)
          | ((with_reducible show CallEv _ _ 34 _ _ _ _ _); refine callE (k := 34) (fun β w' hbw => Flyer_ok f _) ?_)
          | ((with_reducible show CallEv _ _ 35 _ _ _ _ _); refine callE (k := 35) (fun β w' hbw => Net_ok n _) ?_)
          | ((with_reducible show CallEv _ _ 33 _ _ _ _ _); refine callE (k := 33) (fun β w' hbw => Landing_c f n _ hk hp) ?_)
          | ((with_reducible show CallEv _ _ 36 _ _ _ _ _); refine callE (k := 36) (fun β w' hbw => Takes_b f n _ hk) ?_)
          | ((with_reducible show CallEv _ _ 37 _ _ _ _ _); refine callE (k := 37) (fun β w' hbw => (by have := RightFlyer_ok f w'; rwa [hk.1] at this)) ?_)
          | ((with_reducible show CallEv _ _ 38 _ _ _ _ _); refine callE (k := 38) (fun β w' hbw => (by have := RightNet_ok n w'; rwa [hk.2] at this)) ?_)
          | ((with_reducible show CallEv _ _ 39 _ _ _ _ _); refine callE (k := 39) (fun β w' hbw => Rlanding_y f n _ hk.1 hp) ?_)
          | ((with_reducible show CallEv _ _ 40 _ _ _ _ _); refine callE (k := 40) (fun β w' hbw => Rtakes_ok f n _ hk.1) ?_)
          | ((with_reducible show CallEv _ _ 21 _ _ _ _ _); refine callE (k := 21) (fun β w' hbw => Range_ok2 _ _ _) ?_)
          | ((with_reducible show CallEv _ _ 20 _ _ _ _ _); refine callE (k := 20) (fun β w' hbw => wakes_ok _) ?_)
          | refine eqlE23 (a := ⟨_, _⟩) (b := ⟨_, _⟩) ?_
          | refine neqEB ?_
          | refine splB (fun hc => ?_) (fun hc => ?_)
      all_goals first | exact ⟨fun β => rfl, fun w' h => h⟩ | (exfalso; rw [Rg.eqB_self] at *; contradiction) | (exfalso; simp_all; done)
    · skip
      repeat'
        conv => whnf
        first
          | refine And.intro (a := drawB _ = true) (by kernel_rfl) ?_
          | refine And.intro (a := (_ : Bool) = true) rfl ?_
          | refine And.intro (a := (_ : Bool) = true ∧ (_ : Bool) = true) ⟨rfl, rfl⟩ ?_
          | refine And.intro (a := (_ : Bool) = true ∧ (_ : List _) = []) ⟨rfl, rfl⟩ ?_
          | refine And.intro (a := IR _ _) (And.intro (by omega) (by omega)) ?_
          | refine And.intro (a := (0 : Int) ≤ _ ∧ _ < _) (And.intro (by omega) (by omega)) ?_
          | refine splT ?_
          | refine splF ?_
          | refine splNot ?_
          | (refine splIn (fun hc => ?_) (fun hc => ?_) <;> first | (exfalso; omega) | skip)
          | (refine splD (fun hc => ?_) (fun hc => ?_) <;> first | (exfalso; omega) | skip)
          | (refine splE (fun hc => ?_) (fun hc => ?_) <;> first | (exfalso; omega) | skip)
          | (refine splNE (fun hc => ?_) (fun hc => ?_) <;> first | (exfalso; omega) | skip)
          | ((with_reducible show CallEv _ _ 34 _ _ _ _ _); refine callE (k := 34) (fun β w' hbw => Flyer_ok f _) ?_)
          | ((with_reducible show CallEv _ _ 35 _ _ _ _ _); refine callE (k := 35) (fun β w' hbw => Net_ok n _) ?_)
          | ((with_reducible show CallEv _ _ 33 _ _ _ _ _); refine callE (k := 33) (fun β w' hbw => Landing_b f n _ hk hp) ?_)
          | ((with_reducible show CallEv _ _ 36 _ _ _ _ _); refine callE (k := 36) (fun β w' hbw => Takes_b f n _ hk) ?_)
          | ((with_reducible show CallEv _ _ 37 _ _ _ _ _); refine callE (k := 37) (fun β w' hbw => (by have := RightFlyer_ok f w'; rwa [hk.1] at this)) ?_)
          | ((with_reducible show CallEv _ _ 38 _ _ _ _ _); refine callE (k := 38) (fun β w' hbw => (by have := RightNet_ok n w'; rwa [hk.2] at this)) ?_)
          | ((with_reducible show CallEv _ _ 39 _ _ _ _ _); refine callE (k := 39) (fun β w' hbw => Rlanding_n f n _ hk.1 hp) ?_)
          | ((with_reducible show CallEv _ _ 40 _ _ _ _ _); refine callE (k := 40) (fun β w' hbw => Rtakes_ok f n _ hk.1) ?_)
          | ((with_reducible show CallEv _ _ 21 _ _ _ _ _); refine callE (k := 21) (fun β w' hbw => Range_ok2 _ _ _) ?_)
          | ((with_reducible show CallEv _ _ 20 _ _ _ _ _); refine callE (k := 20) (fun β w' hbw => wakes_ok _) ?_)
          | refine eqlE23 (a := ⟨_, _⟩) (b := ⟨_, _⟩) ?_
          | refine neqEB ?_
          | refine splB (fun hc => ?_) (fun hc => ?_)
      all_goals first | exact ⟨fun β => rfl, fun w' h => h⟩ | (exfalso; rw [Rg.eqB_self] at *; contradiction) | (exfalso; simp_all; done)
  · skip
    repeat'
      conv => whnf
      first
        | refine And.intro (a := drawB _ = true) (by kernel_rfl) ?_
        | refine And.intro (a := (_ : Bool) = true) rfl ?_
        | refine And.intro (a := (_ : Bool) = true ∧ (_ : Bool) = true) ⟨rfl, rfl⟩ ?_
        | refine And.intro (a := (_ : Bool) = true ∧ (_ : List _) = []) ⟨rfl, rfl⟩ ?_
        | refine And.intro (a := IR _ _) (And.intro (by omega) (by omega)) ?_
        | refine And.intro (a := (0 : Int) ≤ _ ∧ _ < _) (And.intro (by omega) (by omega)) ?_
        | refine splT ?_
        | refine splF ?_
        | refine splNot ?_
        | (refine splIn (fun hc => ?_) (fun hc => ?_) <;> first | (exfalso; omega) | skip)
        | (refine splD (fun hc => ?_) (fun hc => ?_) <;> first | (exfalso; omega) | skip)
        | (refine splE (fun hc => ?_) (fun hc => ?_) <;> first | (exfalso; omega) | skip)
        | (refine splNE (fun hc => ?_) (fun hc => ?_) <;> first | (exfalso; omega) | skip)
        | ((with_reducible show CallEv _ _ 34 _ _ _ _ _); refine callE (k := 34) (fun β w' hbw => Flyer_ok f _) ?_)
        | ((with_reducible show CallEv _ _ 35 _ _ _ _ _); refine callE (k := 35) (fun β w' hbw => Net_ok n _) ?_)
        | ((with_reducible show CallEv _ _ 33 _ _ _ _ _); refine callE (k := 33) (fun β w' hbw => Landing_a f n _ hk) ?_)
        | ((with_reducible show CallEv _ _ 36 _ _ _ _ _); refine callE (k := 36) (fun β w' hbw => Takes_a f n _ hk) ?_)
        | ((with_reducible show CallEv _ _ 37 _ _ _ _ _); refine callE (k := 37) (fun β w' hbw => RightFlyer_ok f _) ?_)
        | ((with_reducible show CallEv _ _ 38 _ _ _ _ _); refine callE (k := 38) (fun β w' hbw => RightNet_ok n _) ?_)
        | ((with_reducible show CallEv _ _ 39 _ _ _ _ _); refine callE (k := 39) (fun β w' hbw => Rlanding_ok f n _ (by simp_all)) ?_)
        | ((with_reducible show CallEv _ _ 20 _ _ _ _ _); refine callE (k := 20) (fun β w' hbw => wakes_ok _) ?_)
        | refine eqlE23 (a := ⟨_, _⟩) (b := ⟨_, _⟩) ?_
        | refine splB (fun hc => ?_) (fun hc => ?_)
    all_goals first | exact ⟨fun β => rfl, fun w' h => h⟩ | (exfalso; rw [Rg.eqB_self] at *; contradiction) | (exfalso; simp_all; done)
end Go.Proofs.Ytlehjapeomallaa

/- The reference's words on flights: few, Right, Near, Load and Sure return what the program's return. -/
namespace Go.Proofs.Ytlehjapeomallaa
open Go Sx Go.RowKit

theorem few_ok (g : Fg) (w : World) :
    Calls Try.prog 23 #[g.v] w fun e w' => e = .returned (.bool (decide ((g.n : Int) ≤ 700))) ∧ Below w.heap.size w w' := by
  refine calls_val env mixed Try.func23 has23 Try.ntmps23 [g.v] (by simp) ?_
  repeat'
    conv => whnf
    first
      | refine And.intro (a := drawB _ = true) (by kernel_rfl) ?_
      | refine And.intro (a := (_ : Bool) = true) rfl ?_
      | refine And.intro (a := (_ : Bool) = true ∧ (_ : Bool) = true) ⟨rfl, rfl⟩ ?_
      | refine And.intro (a := (_ : Bool) = true ∧ (_ : List _) = []) ⟨rfl, rfl⟩ ?_
      | refine And.intro (a := IR _ _) (And.intro (by omega) (by omega)) ?_
      | refine And.intro (a := (0 : Int) ≤ _ ∧ _ < _) (And.intro (by omega) (by omega)) ?_
      | refine splT ?_
      | refine splF ?_
      | refine splNot ?_
      | (refine splIn (fun hc => ?_) (fun hc => ?_) <;> first | (exfalso; omega) | skip)
      | (refine splD (fun hc => ?_) (fun hc => ?_) <;> first | (exfalso; omega) | skip)
      | (refine splE (fun hc => ?_) (fun hc => ?_) <;> first | (exfalso; omega) | skip)
      | (refine splNE (fun hc => ?_) (fun hc => ?_) <;> first | (exfalso; omega) | skip)
  exact ⟨fun β => rfl, fun w' h => h⟩

theorem Near_ok (a b c d reach : Int) (w : World) (h0 : -100000000 ≤ a ∧ a ≤ b) (h1 : b ≤ 100000000) (h2 : -100000000 ≤ c ∧ c ≤ d) (h3 : d ≤ 100000000) :
    Calls Try.prog 72 #[.agg #[iv a, iv b], .agg #[iv c, iv d], iv reach] w fun e w' => e = .returned (.bool (nearB ⟨a, b⟩ ⟨c, d⟩ reach)) ∧ Below w.heap.size w w' := by
  refine calls_val env mixed Try.func72 has72 Try.ntmps72 [.agg #[iv a, iv b], .agg #[iv c, iv d], iv reach] (by simp) ?_
  repeat'
    conv => whnf
    first
      | refine And.intro (a := drawB _ = true) (by kernel_rfl) ?_
      | refine And.intro (a := (_ : Bool) = true) rfl ?_
      | refine And.intro (a := (_ : Bool) = true ∧ (_ : Bool) = true) ⟨rfl, rfl⟩ ?_
      | refine And.intro (a := (_ : Bool) = true ∧ (_ : List _) = []) ⟨rfl, rfl⟩ ?_
      | refine And.intro (a := IR _ _) (And.intro (by omega) (by omega)) ?_
      | refine And.intro (a := (0 : Int) ≤ _ ∧ _ < _) (And.intro (by omega) (by omega)) ?_
      | refine splT ?_
      | refine splF ?_
      | refine splNot ?_
      | (refine splIn (fun hc => ?_) (fun hc => ?_) <;> first | (exfalso; omega) | skip)
      | (refine splD (fun hc => ?_) (fun hc => ?_) <;> first | (exfalso; omega) | skip)
      | (refine splE (fun hc => ?_) (fun hc => ?_) <;> first | (exfalso; omega) | skip)
      | (refine splNE (fun hc => ?_) (fun hc => ?_) <;> first | (exfalso; omega) | skip)
      | ((with_reducible show CallEv _ _ 71 _ _ _ _ _); refine callE (k := 71) (fun β w' hbw => Size_ok _ _ (by omega)) ?_)
  all_goals
    refine ⟨fun β => congrArg Value.bool ?_, fun w' h => h⟩
    simp only [imax_eq] at *
    unfold nearB
    rw [Bool.eq_iff_iff]
    simp only [Bool.and_eq_true, decide_eq_true_eq, Bool.false_eq_true, false_iff]
    omega

theorem divUp {n s : Int} (hs : 1 ≤ s) : (n + s - 1) / s = if n % s = 0 then n / s else n / s + 1 := by
  have h1 := Int.mul_ediv_add_emod n s
  have h2 := Int.emod_nonneg n (b := s) (by omega)
  have h3 := Int.emod_lt_of_pos n (b := s) (by omega)
  have h4 : n + s - 1 = (n % s + s - 1) + s * (n / s) := by omega
  rw [h4, Int.add_mul_ediv_left _ _ (by omega)]
  by_cases h : n % s = 0
  · rw [if_pos h, h, Int.ediv_eq_zero_of_lt (by omega) (by omega)]; omega
  · rw [if_neg h]
    have : (n % s + s - 1) / s = 1 := by
      have h5 : n % s + s - 1 = (n % s - 1) + s * 1 := by omega
      rw [h5, Int.add_mul_ediv_left _ _ (by omega), Int.ediv_eq_zero_of_lt (by omega) (by omega)]; omega
    omega

theorem gr4 (a b c d : Int) : gr [a, b, c, d] = imax (imax (imax (imax a (-a)) (imax b (-b))) (imax c (-c))) (imax d (-d)) := by
  simp only [gr, List.foldl, imax_eq]; omega

set_option maxRecDepth 100000 in
theorem Rload_ok (g : Fg) (t : Int) (w : World) (hf : g.f.ok = true) (hs : 1 ≤ g.so ∧ g.so ≤ 100) (h0 : 0 ≤ t) (h1 : t ≤ 300) :
    Calls Try.prog 46 #[g.v, iv t] w fun e w' => e = .returned (iv (ldF g.f g.so t)) ∧ Below w.heap.size w w' := by
  have hb := ld_bd hf hs h0 h1
  have hf' := Fl.ok_iff.1 hf
  have hm : IR .i64 (ldF g.f g.so t) := ⟨by omega, by omega⟩
  have hd := divUp (n := gr [g.f.s.x.lo, g.f.s.x.hi, g.f.s.z.lo - 98 * t, g.f.s.z.hi - 98 * t]) hs.1
  unfold ldF at *
  rw [gr4] at *
  refine calls_val env mixed Try.func46 has46 Try.ntmps46 [g.v, iv t] (by simp) ?_
  by_cases hc : imax (imax (imax (imax g.f.s.x.lo (-g.f.s.x.lo)) (imax g.f.s.x.hi (-g.f.s.x.hi))) (imax (g.f.s.z.lo - 98 * t) (-(g.f.s.z.lo - 98 * t)))) (imax (g.f.s.z.hi - 98 * t) (-(g.f.s.z.hi - 98 * t))) % g.so = 0
  · rw [if_pos hc] at hd
    rw [hd] at hm hb ⊢
    repeat'
      conv => whnf
      first
        | refine And.intro (a := drawB _ = true) (by kernel_rfl) ?_
        | refine And.intro (a := (_ : Bool) = true) rfl ?_
        | refine And.intro (a := (_ : Bool) = true ∧ (_ : Bool) = true) ⟨rfl, rfl⟩ ?_
        | refine And.intro (a := (_ : Bool) = true ∧ (_ : List _) = []) ⟨rfl, rfl⟩ ?_
        | refine And.intro (a := IR _ _) (And.intro (by omega) (by omega)) ?_
        | refine And.intro (a := (0 : Int) ≤ _ ∧ _ < _) (And.intro (by omega) (by omega)) ?_
        | refine splT ?_
        | refine splF ?_
        | refine splNot ?_
        | (refine splIn (fun hc => ?_) (fun hc => ?_) <;> first | (exfalso; omega) | skip)
        | (refine splD (fun hc => ?_) (fun hc => ?_) <;> first | (exfalso; omega) | skip)
        | (refine splE (fun hc => ?_) (fun hc => ?_) <;> first | (exfalso; omega) | skip)
        | (refine splNE (fun hc => ?_) (fun hc => ?_) <;> first | (exfalso; omega) | skip)
        | ((with_reducible show CallEv _ _ 71 _ _ _ _ _); refine callE (k := 71) (fun β w' hbw => Size_ok _ _ (by omega)) ?_)
        | refine quoE (by omega) (by omega) (And.intro (by omega) (by omega)) ?_
        | refine remE (by omega) (by omega) ?_
        | refine And.intro (a := IR _ _) hm ?_
    exact ⟨fun β => rfl, fun w' h => h⟩
  · rw [if_neg hc] at hd
    rw [hd] at hm hb ⊢
    repeat'
      conv => whnf
      first
        | refine And.intro (a := drawB _ = true) (by kernel_rfl) ?_
        | refine And.intro (a := (_ : Bool) = true) rfl ?_
        | refine And.intro (a := (_ : Bool) = true ∧ (_ : Bool) = true) ⟨rfl, rfl⟩ ?_
        | refine And.intro (a := (_ : Bool) = true ∧ (_ : List _) = []) ⟨rfl, rfl⟩ ?_
        | refine And.intro (a := IR _ _) (And.intro (by omega) (by omega)) ?_
        | refine And.intro (a := (0 : Int) ≤ _ ∧ _ < _) (And.intro (by omega) (by omega)) ?_
        | refine splT ?_
        | refine splF ?_
        | refine splNot ?_
        | (refine splIn (fun hc => ?_) (fun hc => ?_) <;> first | (exfalso; omega) | skip)
        | (refine splD (fun hc => ?_) (fun hc => ?_) <;> first | (exfalso; omega) | skip)
        | (refine splE (fun hc => ?_) (fun hc => ?_) <;> first | (exfalso; omega) | skip)
        | (refine splNE (fun hc => ?_) (fun hc => ?_) <;> first | (exfalso; omega) | skip)
        | ((with_reducible show CallEv _ _ 71 _ _ _ _ _); refine callE (k := 71) (fun β w' hbw => Size_ok _ _ (by omega)) ?_)
        | refine quoE (by omega) (by omega) (And.intro (by omega) (by omega)) ?_
        | refine remE (by omega) (by omega) ?_
        | refine And.intro (a := IR _ _) hm ?_
    exact ⟨fun β => rfl, fun w' h => h⟩

theorem Bx.lohi {b : Bx} (h : b.ok 10000000 = true) : (-100000000 ≤ b.x.lo ∧ b.x.lo ≤ b.x.hi) ∧ b.x.hi ≤ 100000000 ∧ (-100000000 ≤ b.z.lo ∧ b.z.lo ≤ b.z.hi) ∧ b.z.hi ≤ 100000000 := by
  have := Bx.ok_iff.1 h
  omega
theorem Fl.lohi {f : Fl} (hf : f.ok = true) {t : Int} (h0 : 0 ≤ t) (h1 : t ≤ 300) :
    (-100000000 ≤ (f.af t).x.lo ∧ (f.af t).x.lo ≤ (f.af t).x.hi) ∧ (f.af t).x.hi ≤ 100000000 ∧ (-100000000 ≤ (f.af t).z.lo ∧ (f.af t).z.lo ≤ (f.af t).z.hi) ∧ (f.af t).z.hi ≤ 100000000 := by
  have := Fl.af_bd hf h0 h1
  have hf' := Fl.ok_iff.1 hf
  have a1 := Int.mul_le_mul_of_nonneg_left hf'.2.1.1.2.1 h0
  have a2 := Fl.zle hf h0
  refine ⟨⟨this.1.1, ?_⟩, this.2.1.2, ⟨this.2.2.1.1, a2⟩, this.2.2.2.2⟩
  simp only [Fl.af]; omega

abbrev Fg.vo (g : Fg) (o : Option Addr) : Value := .agg #[iv g.f.a.x.lo, iv g.f.a.x.hi, iv g.f.a.z.lo, iv g.f.a.z.hi, iv g.f.s.x.lo, iv g.f.s.x.hi, iv g.f.s.z.lo, iv g.f.s.z.hi, iv g.f.m, .slice o g.n g.c, iv g.re, iv g.so, iv g.be, iv g.le, iv g.mo]
/-- Is a catch sure at a tick, for a release at another one? -/
def sureAt (g : Fg) (bs : List Bx) (r at' : Int) : Bool := inB (at' - r) g.le g.mo && sureB g bs r (at' - r - g.le)

set_option maxRecDepth 100000 in
theorem Rsure_ok (g : Fg) (bs : List Bx) (r at' : Int) (w : World) (hg : g.ok bs = true) (hr : Rd 4 Bx.cs (.slice g.o g.n g.c) bs w) (hr0 : 0 ≤ r ∧ r ≤ 100000) (ha : 0 ≤ at' ∧ at' ≤ 1000000) :
    Calls Try.prog 47 #[g.v, iv r, iv at'] w fun e w' => e = .returned (.bool (sureAt g bs r at')) ∧ Below w.heap.size w w' := by
  have hg' := Fg.ok_iff.1 hg
  by_cases hin : inB (at' - r) g.le g.mo = true
  · have hin' := inB_iff.1 hin
    have hsa : sureAt g bs r at' = (decide (ldF g.f g.so (at' - r) ≤ g.be) && (nearB (g.f.af (at' - r)).x (hnd g bs at').x g.re && nearB (g.f.af (at' - r)).z (hnd g bs at').z g.re)) := by
      unfold sureAt sureB
      rw [hin, Bool.true_and, show g.le + (at' - r - g.le) = at' - r from by omega, show r + g.le + (at' - r - g.le) = at' from by omega]
    rw [hsa]
    obtain ⟨hn, ad, ho, hc⟩ := hr.some (by omega)
    have hm0 := Int.emod_nonneg at' (b := (g.n : Int)) (by omega)
    have hm1 := Int.emod_lt_of_pos at' (b := (g.n : Int)) (by omega)
    obtain ⟨hb, hbe⟩ : ∃ b, bs[(at' % (g.n : Int)).toNat]? = some b := ⟨_, List.getElem?_eq_getElem (by omega)⟩
    have hh : hnd g bs at' = hb := by unfold hnd; rw [hbe]; rfl
    rw [hh]
    have hbok : hb.ok 10000000 = true := hg'.2.2.1 _ (List.mem_of_getElem? hbe)
    have hbb := Bx.lohi hbok
    have hab := Fl.lohi hg'.1 (t := at' - r) (by omega) (by omega)
    have e0 : ∀ w', Below w.heap.size w w' → ∀ j v, (Bx.cs hb)[j]? = some v → w'.cell? ((ad.add ((at' % (g.n : Int)).toNat * 4)).add j) = some v := fun w' hw' j v hv => ext_below hw' (hc _ _ hbe j v hv)
    have hafc := fun w' => Rafter_ok g.f (at' - r) w' hg'.1 (by omega) (by omega)
    have hldc : ∀ w', Calls Try.prog 46 #[g.vo (some ad), iv (at' - r)] w' fun e w'' => e = .returned (iv (ldF g.f g.so (at' - r))) ∧ Below w'.heap.size w' w'' := fun w' => by
      have := Rload_ok g (at' - r) w' hg'.1 hg'.2.2.2.2.1 (by omega) (by omega)
      rwa [show g.v = g.vo (some ad) from by rw [← ho]] at this
    generalize g.f.af (at' - r) = ab at *
    obtain ⟨⟨x0, x1⟩, ⟨z0, z1⟩⟩ := ab
    obtain ⟨⟨y0, y1⟩, ⟨v0, v1⟩⟩ := hb
    dsimp only at *
    replace hafc : ∀ w', Calls Try.prog 45 #[g.f.v, iv (at' - r)] w' fun e w'' => e = .returned (.agg #[iv x0, iv x1, iv z0, iv z1]) ∧ Below w'.heap.size w' w'' := hafc
    show Calls Try.prog 47 #[g.vo g.o, iv r, iv at'] w _
    rw [ho]
    refine calls_val env mixed Try.func47 has47 Try.ntmps47 [g.vo (some ad), iv r, iv at'] (by simp) ?_
    repeat'
      conv => whnf
      first
        | refine And.intro (a := drawB _ = true) (by kernel_rfl) ?_
        | refine And.intro (a := (_ : Bool) = true) rfl ?_
        | refine And.intro (a := (_ : Bool) = true ∧ (_ : Bool) = true) ⟨rfl, rfl⟩ ?_
        | refine And.intro (a := (_ : Bool) = true ∧ (_ : List _) = []) ⟨rfl, rfl⟩ ?_
        | refine And.intro (a := IR _ _) (And.intro (by omega) (by omega)) ?_
        | refine And.intro (a := (0 : Int) ≤ _ ∧ _ < _) (And.intro (by omega) (by omega)) ?_
        | refine splT ?_
        | refine splF ?_
        | refine splNot ?_
        | (refine splIn (fun hc => ?_) (fun hc => ?_) <;> first | (exfalso; omega) | skip)
        | (refine splD (fun hc => ?_) (fun hc => ?_) <;> first | (exfalso; omega) | skip)
        | (refine splE (fun hc => ?_) (fun hc => ?_) <;> first | (exfalso; omega) | skip)
        | (refine splNE (fun hc => ?_) (fun hc => ?_) <;> first | (exfalso; omega) | skip)
        | ((with_reducible show CallEv _ _ 19 _ _ _ _ _); refine callE (k := 19) (fun β w' hbw => In_ok _ _ _ _) ?_)
        | ((with_reducible show CallEv _ _ 45 _ _ _ _ _); refine callE (k := 45) (fun β w' hbw => hafc _) ?_)
        | refine remE (by omega) (by omega) ?_
        | refine Exists.intro (α := List Value) [iv y0, iv y1, iv v0, iv v1] ⟨⟨rfl, e0⟩, ?_⟩
        | ((with_reducible show CallEv _ _ 72 _ _ _ _ _); refine callE (k := 72) (fun β w' hbw => Near_ok _ _ _ _ _ _ (by omega) (by omega) (by omega) (by omega)) ?_)
        | ((with_reducible show CallEv _ _ 46 _ _ _ _ _); refine callE (k := 46) (fun β w' hbw => hldc _) ?_)
        | refine splB (fun hc => ?_) (fun hc => ?_)
    all_goals first
      | exact ⟨fun β => congrArg Value.bool (by simp only [*]; simp [*]), fun w' h => h⟩
      | (exfalso; simp_all; done)
      | skip
  · have hsa : sureAt g bs r at' = false := by
      unfold sureAt
      rw [Bool.eq_false_iff.2 hin, Bool.false_and]
    rw [hsa]
    refine calls_val env mixed Try.func47 has47 Try.ntmps47 [g.v, iv r, iv at'] (by simp) ?_
    rw [inB_iff] at hin
    repeat'
      conv => whnf
      first
        | refine And.intro (a := drawB _ = true) (by kernel_rfl) ?_
        | refine And.intro (a := (_ : Bool) = true) rfl ?_
        | refine And.intro (a := (_ : Bool) = true ∧ (_ : Bool) = true) ⟨rfl, rfl⟩ ?_
        | refine And.intro (a := (_ : Bool) = true ∧ (_ : List _) = []) ⟨rfl, rfl⟩ ?_
        | refine And.intro (a := IR _ _) (And.intro (by omega) (by omega)) ?_
        | refine And.intro (a := (0 : Int) ≤ _ ∧ _ < _) (And.intro (by omega) (by omega)) ?_
        | refine splT ?_
        | refine splF ?_
        | refine splNot ?_
        | (refine splIn (fun hc => ?_) (fun hc => ?_) <;> first | (exfalso; omega) | skip)
        | (refine splD (fun hc => ?_) (fun hc => ?_) <;> first | (exfalso; omega) | skip)
        | (refine splE (fun hc => ?_) (fun hc => ?_) <;> first | (exfalso; omega) | skip)
        | (refine splNE (fun hc => ?_) (fun hc => ?_) <;> first | (exfalso; omega) | skip)
        | ((with_reducible show CallEv _ _ 19 _ _ _ _ _); refine callE (k := 19) (fun β w' hbw => In_ok _ _ _ _) ?_)
    exact ⟨fun β => rfl, fun w' h => h⟩
end Go.Proofs.Ytlehjapeomallaa
