/- The law of the swing answers true at every length and width. -/
import Derived.Test.YtlehjapeomallaaFI
namespace Go.Proofs.Ytlehjapeomallaa
open Go Sx Go.RowKit

theorem sq_lt {a b : Int} (h0 : 0 ≤ a) (h1 : 0 ≤ b) (h : a * a < b * b) : a < b := by
  refine Int.not_le.1 fun hle => ?_
  have := Int.mul_le_mul hle hle h1 h0
  omega
theorem sq_small {a n : Int} (h0 : 0 ≤ a) (h : a * a * 980000000 ≤ n) (hn : n ≤ 789568360000000) : a ≤ 897 := by
  refine Int.not_lt.1 fun hlt => ?_
  have := Int.mul_le_mul (show (898 : Int) ≤ a by omega) (show (898 : Int) ≤ a by omega) (by omega) h0
  omega
theorem sq_bd2 {a : Int} (h0 : 0 ≤ a) (h1 : a ≤ 1000) : 0 ≤ a * a ∧ a * a ≤ 1000000 := by
  have := Int.mul_le_mul h1 h1 h0 (by omega)
  exact ⟨Int.mul_nonneg h0 h0, by omega⟩
theorem hiT_eq {l lo hi : Int} (hl : 1 ≤ l ∧ l ≤ 20000) (hlo : IsSw (39478417600 * l) lo) (h0 : lo ≤ hi) (h1 : hi = lo ∨ (hi - 1) * (hi - 1) * 980000000 < 39478418000 * l) (h2 : ¬ hi * hi * 980000000 < 39478418000 * l) : hi = hiT l := by
  obtain ⟨s1, s2, s3, s4⟩ := sw_some (39478418000 * l) (by omega) (by omega)
  obtain ⟨a1, a2, a3, a4⟩ := hlo
  have h1 : (hi - 1) * (hi - 1) * 980000000 < 39478418000 * l := by
    rcases h1 with h | h
    · subst h; omega
    · exact h
  have hne : 1 ≤ hi := by
    rcases Int.lt_or_le 0 hi with h | h
    · omega
    · have : hi = 0 := by omega
      subst this; omega
  have e1 : hi - 1 < swg (39478418000 * l) + 1 := sq_lt (by omega) (by omega) (by omega)
  unfold hiT
  split
  · have e2 : swg (39478418000 * l) < hi := sq_lt s1 (by omega) (by omega)
    omega
  · have e3 : hi - 1 < swg (39478418000 * l) := sq_lt (by omega) s1 (by omega)
    have e4 : ¬ hi < swg (39478418000 * l) := fun h => by
      have := Int.mul_le_mul (show hi ≤ swg (39478418000 * l) - 1 by omega) (show hi ≤ swg (39478418000 * l) - 1 by omega) (by omega) (by omega)
      have := Int.mul_lt_mul' (show hi ≤ swg (39478418000 * l) by omega) h (by omega) (by omega)
      omega
    omega

set_option maxRecDepth 100000 in
theorem Rswing_ok (l wd : Int) (w : World) (hl : 1 ≤ l ∧ l ≤ 20000) (hw : 0 ≤ wd ∧ wd ≤ 100) :
    Calls Try.prog 22 #[iv l, iv wd] w fun e w' => e = .returned (.agg #[iv (swg (39478417600 * l)), iv ((hiT l * (1000 + wd) + 999) / 1000)]) ∧ Below w.heap.size w w' := by
  refine calls_val env mixed Try.func22 has22 Try.ntmps22 [iv l, iv wd] (by simp) ?_
  repeat'
    conv => whnf
    first
      | refine And.intro (a := drawB _ = true) (by kernel_rfl) ?_
      | refine And.intro (a := (_ : Bool) = true) rfl ?_
      | refine And.intro (a := (_ : Bool) = true ∧ (_ : Bool) = true) ⟨rfl, rfl⟩ ?_
      | refine And.intro (a := (_ : Bool) = true ∧ (_ : List _) = []) ⟨rfl, rfl⟩ ?_
      | refine And.intro (a := IR _ _) (And.intro (by omega) (by omega)) ?_
      | refine And.intro (a := (0 : Int) ≤ _ ∧ _ < _) (And.intro (by omega) (by omega)) ?_
      | refine splT ?_
      | refine splF ?_
      | refine splNot ?_
      | (refine splIn (fun hc => ?_) (fun hc => ?_) <;> first | (exfalso; omega) | skip)
      | (refine splD (fun hc => ?_) (fun hc => ?_) <;> first | (exfalso; omega) | skip)
      | (refine splE (fun hc => ?_) (fun hc => ?_) <;> first | (exfalso; omega) | skip)
      | (refine splNE (fun hc => ?_) (fun hc => ?_) <;> first | (exfalso; omega) | skip)
  refine loopE (fun lo : Int => [(0, .v (iv l)), (1, .v (iv wd)), (4, .ptr 0 0), (5, .v (iv lo))]) (fun _ => [(0, .cells [.v (iv 0), .v (iv 0)] 30)]) (fun lo => 0 ≤ lo ∧ lo * lo * 980000000 ≤ 39478417600 * l) (fun lo => (1000 - lo).toNat) 0 ⟨by omega, by omega⟩ ⟨rfl, rfl, rfl, rfl, trivial⟩ ⟨rfl, trivial⟩ (fun _ => ⟨rfl, rfl⟩) ?_
  intro lo ⟨g0, g1⟩
  have g2 := sq_small g0 g1 (by omega)
  have g3 := sq_bd2 (a := lo + 1) (by omega) (by omega)
  have g3' := sq_bd2 g0 (by omega)
  repeat'
    conv => whnf
    first
      | refine And.intro (a := drawB _ = true) (by kernel_rfl) ?_
      | refine And.intro (a := (_ : Bool) = true) rfl ?_
      | refine And.intro (a := (_ : Bool) = true ∧ (_ : Bool) = true) ⟨rfl, rfl⟩ ?_
      | refine And.intro (a := (_ : Bool) = true ∧ (_ : List _) = []) ⟨rfl, rfl⟩ ?_
      | refine And.intro (a := IR _ _) (And.intro (by omega) (by omega)) ?_
      | refine And.intro (a := (0 : Int) ≤ _ ∧ _ < _) (And.intro (by omega) (by omega)) ?_
      | refine splT ?_
      | refine splF ?_
      | refine splNot ?_
      | (refine splIn (fun hc => ?_) (fun hc => ?_) <;> first | (exfalso; omega) | skip)
      | (refine splD (fun hc => ?_) (fun hc => ?_) <;> first | (exfalso; omega) | skip)
      | (refine splE (fun hc => ?_) (fun hc => ?_) <;> first | (exfalso; omega) | skip)
      | (refine splNE (fun hc => ?_) (fun hc => ?_) <;> first | (exfalso; omega) | skip)
  · exact ⟨lo + 1, ⟨by omega, ‹_›⟩, by omega, Ent.weak rfl ⟨rfl, rfl, rfl, rfl, trivial⟩ ⟨rfl, trivial⟩ fun _ h => h⟩
  · have hsw : IsSw (39478417600 * l) lo := ⟨g0, by omega, g1, by omega⟩
    refine loopE (fun hi : Int => [(0, .v (iv l)), (1, .v (iv wd)), (4, .ptr 0 0), (5, .v (iv lo)), (6, .v (iv hi))]) (fun _ => [(0, .cells [.v (iv 0), .v (iv 0)] 30)]) (fun hi => lo ≤ hi ∧ hi ≤ 900 ∧ (hi = lo ∨ (hi - 1) * (hi - 1) * 980000000 < 39478418000 * l)) (fun hi => (1000 - hi).toNat) lo ⟨by omega, by omega, .inl rfl⟩ ⟨rfl, rfl, rfl, rfl, rfl, trivial⟩ ⟨rfl, trivial⟩ (fun _ => ⟨rfl, rfl⟩) ?_
    intro hi ⟨k0, k1, k2⟩
    have k3 := sq_bd2 (a := hi) (by omega) (by omega)
    have k4 : 0 ≤ hi * (1000 + wd) ∧ hi * (1000 + wd) ≤ 1000 * 1100 := ⟨Int.mul_nonneg (by omega) (by omega), Int.mul_le_mul (by omega) (by omega) (by omega) (by omega)⟩
    have k5 : hi * hi * 980000000 < 39478418000 * l → hi ≤ 898 := fun h => by have := sq_small (by omega) (Int.le_of_lt h) (by omega); omega
    repeat'
      conv => whnf
      first
        | refine And.intro (a := drawB _ = true) (by kernel_rfl) ?_
        | refine And.intro (a := (_ : Bool) = true) rfl ?_
        | refine And.intro (a := (_ : Bool) = true ∧ (_ : Bool) = true) ⟨rfl, rfl⟩ ?_
        | refine And.intro (a := (_ : Bool) = true ∧ (_ : List _) = []) ⟨rfl, rfl⟩ ?_
        | refine And.intro (a := IR _ _) (And.intro (by omega) (by omega)) ?_
        | refine And.intro (a := (0 : Int) ≤ _ ∧ _ < _) (And.intro (by omega) (by omega)) ?_
        | refine splT ?_
        | refine splF ?_
        | refine splNot ?_
        | (refine splIn (fun hc => ?_) (fun hc => ?_) <;> first | (exfalso; omega) | skip)
        | (refine splD (fun hc => ?_) (fun hc => ?_) <;> first | (exfalso; omega) | skip)
        | (refine splE (fun hc => ?_) (fun hc => ?_) <;> first | (exfalso; omega) | skip)
        | (refine splNE (fun hc => ?_) (fun hc => ?_) <;> first | (exfalso; omega) | skip)
        | refine remE (by omega) (by omega) ?_
        | refine quoE (by omega) (by omega) (And.intro (by omega) (by omega)) ?_
    · exact ⟨hi + 1, ⟨by omega, by omega, .inr (by rw [Int.add_sub_cancel]; assumption)⟩, by omega, Ent.weak rfl ⟨rfl, rfl, rfl, rfl, rfl, trivial⟩ ⟨rfl, trivial⟩ fun _ h => h⟩
    · refine ⟨fun β => ?_, fun w' h => h⟩
      have hh := hiT_eq hl hsw k0 k2 ‹_›
      rw [← hh, ← hsw.eq, show (hi * (1000 + wd) + 999) / 1000 = hi * (1000 + wd) / 1000 from by omega]; rfl
    · refine ⟨fun β => ?_, fun w' h => h⟩
      have hh := hiT_eq hl hsw k0 k2 ‹_›
      rw [← hh, ← hsw.eq, show (hi * (1000 + wd) + 999) / 1000 = (hi * (1000 + wd) + 1000) / 1000 from by omega]; rfl

theorem Range_ok (r : Rg) (w : World) : Calls Try.prog 21 #[r.v] w fun e w' => e = .returned r.v ∧ Below w.heap.size w w' := by
  refine calls_val env mixed Try.func21 has21 Try.ntmps21 [r.v] (by simp) ?_
  repeat'
    conv => whnf
    first
      | refine And.intro (a := drawB _ = true) (by kernel_rfl) ?_
      | refine And.intro (a := (_ : Bool) = true) rfl ?_
      | refine And.intro (a := (_ : Bool) = true ∧ (_ : Bool) = true) ⟨rfl, rfl⟩ ?_
      | refine And.intro (a := (_ : Bool) = true ∧ (_ : List _) = []) ⟨rfl, rfl⟩ ?_
      | refine And.intro (a := IR _ _) (And.intro (by omega) (by omega)) ?_
      | refine And.intro (a := (0 : Int) ≤ _ ∧ _ < _) (And.intro (by omega) (by omega)) ?_
      | refine splT ?_
      | refine splF ?_
      | refine splNot ?_
      | (refine splIn (fun hc => ?_) (fun hc => ?_) <;> first | (exfalso; omega) | skip)
      | (refine splD (fun hc => ?_) (fun hc => ?_) <;> first | (exfalso; omega) | skip)
      | (refine splE (fun hc => ?_) (fun hc => ?_) <;> first | (exfalso; omega) | skip)
      | (refine splNE (fun hc => ?_) (fun hc => ?_) <;> first | (exfalso; omega) | skip)
  exact ⟨fun β => rfl, fun w' h => h⟩
theorem Range_ok2 (a b : Int) (w : World) : Calls Try.prog 21 #[.agg #[iv a, iv b]] w fun e w' => e = .returned (.agg #[iv a, iv b]) ∧ Below w.heap.size w w' := Range_ok ⟨a, b⟩ w

theorem Rg.eqB_self (r : Rg) : r.eqB r = true := by simp [Rg.eqB]
theorem FlightSwings_ok (l wd : Int) (w : World) : Calls Try.prog 3 #[iv l, iv wd] w fun e w' => e = .returned (.bool true) ∧ Below w.heap.size w w' := by
  refine calls_val env mixed Try.func3 has3 Try.ntmps3 [iv l, iv wd] (by simp) ?_
  by_cases hk : (1 ≤ l ∧ l ≤ 20000) ∧ (0 ≤ wd ∧ wd ≤ 100)
  · obtain ⟨hl, hw⟩ := hk
    repeat'
      conv => whnf
      first
        | refine And.intro (a := drawB _ = true) (by kernel_rfl) ?_
        | refine And.intro (a := (_ : Bool) = true) rfl ?_
        | refine And.intro (a := (_ : Bool) = true ∧ (_ : Bool) = true) ⟨rfl, rfl⟩ ?_
        | refine And.intro (a := (_ : Bool) = true ∧ (_ : List _) = []) ⟨rfl, rfl⟩ ?_
        | refine And.intro (a := IR _ _) (And.intro (by omega) (by omega)) ?_
        | refine And.intro (a := (0 : Int) ≤ _ ∧ _ < _) (And.intro (by omega) (by omega)) ?_
        | refine splT ?_
        | refine splF ?_
        | refine splNot ?_
        | (refine splIn (fun hc => ?_) (fun hc => ?_) <;> first | (exfalso; omega) | skip)
        | (refine splD (fun hc => ?_) (fun hc => ?_) <;> first | (exfalso; omega) | skip)
        | (refine splE (fun hc => ?_) (fun hc => ?_) <;> first | (exfalso; omega) | skip)
        | (refine splNE (fun hc => ?_) (fun hc => ?_) <;> first | (exfalso; omega) | skip)
        | ((with_reducible show CallEv _ _ 18 _ _ _ _ _); refine callE (k := 18) (fun β w' hbw => Swing_good l wd _ hl hw) ?_)
        | ((with_reducible show CallEv _ _ 19 _ _ _ _ _); refine callE (k := 19) (fun β w' hbw => In_ok _ _ _ _) ?_)
        | ((with_reducible show CallEv _ _ 22 _ _ _ _ _); refine callE (k := 22) (fun β w' hbw => Rswing_ok l wd _ hl hw) ?_)
        | ((with_reducible show CallEv _ _ 21 _ _ _ _ _); refine callE (k := 21) (fun β w' hbw => Range_ok2 _ _ _) ?_)
        | ((with_reducible show CallEv _ _ 20 _ _ _ _ _); refine callE (k := 20) (fun β w' hbw => wakes_ok _) ?_)
        | refine eqlE23 (a := ⟨_, _⟩) (b := ⟨_, _⟩) ?_
        | refine splB (fun hc => ?_) (fun hc => ?_)
    all_goals first | exact ⟨fun β => rfl, fun w' h => h⟩ | (rw [Rg.eqB_self] at *; contradiction)
  · have hk' : ¬ (1 ≤ l ∧ l ≤ 20000) ∨ ¬ (0 ≤ wd ∧ wd ≤ 100) := by omega
    repeat'
      conv => whnf
      first
        | refine And.intro (a := drawB _ = true) (by kernel_rfl) ?_
        | refine And.intro (a := (_ : Bool) = true) rfl ?_
        | refine And.intro (a := (_ : Bool) = true ∧ (_ : Bool) = true) ⟨rfl, rfl⟩ ?_
        | refine And.intro (a := (_ : Bool) = true ∧ (_ : List _) = []) ⟨rfl, rfl⟩ ?_
        | refine And.intro (a := IR _ _) (And.intro (by omega) (by omega)) ?_
        | refine And.intro (a := (0 : Int) ≤ _ ∧ _ < _) (And.intro (by omega) (by omega)) ?_
        | refine splT ?_
        | refine splF ?_
        | refine splNot ?_
        | (refine splIn (fun hc => ?_) (fun hc => ?_) <;> first | (exfalso; omega) | skip)
        | (refine splD (fun hc => ?_) (fun hc => ?_) <;> first | (exfalso; omega) | skip)
        | (refine splE (fun hc => ?_) (fun hc => ?_) <;> first | (exfalso; omega) | skip)
        | (refine splNE (fun hc => ?_) (fun hc => ?_) <;> first | (exfalso; omega) | skip)
        | ((with_reducible show CallEv _ _ 18 _ _ _ _ _); refine callE (k := 18) (fun β w' hbw => Swing_bad l wd _ hk') ?_)
        | ((with_reducible show CallEv _ _ 19 _ _ _ _ _); refine callE (k := 19) (fun β w' hbw => In_ok _ _ _ _) ?_)
        | ((with_reducible show CallEv _ _ 20 _ _ _ _ _); refine callE (k := 20) (fun β w' hbw => wakes_ok _) ?_)
        | refine eqlE23 (a := ⟨_, _⟩) (b := ⟨_, _⟩) ?_
    all_goals exact ⟨fun β => rfl, fun w' h => h⟩
end Go.Proofs.Ytlehjapeomallaa
