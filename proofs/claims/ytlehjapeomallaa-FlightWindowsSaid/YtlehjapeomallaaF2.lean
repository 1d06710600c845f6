/- Whether a number lies in a range, and the swing of a length and a width: what these functions return. -/
import Derived.Test.YtlehjapeomallaaF1
namespace Go.Proofs.Ytlehjapeomallaa
open Go Sx Go.RowKit

theorem within_ok (n lo hi : Int) (w : World) :
    Calls Try.prog 58 #[.int .i64 n, .int .i64 lo, .int .i64 hi] w fun e w' => e = .returned (.bool (inB n lo hi)) ∧ Below w.heap.size w w' := by
  refine calls_val env mixed Try.func58 has58 Try.ntmps58 [.int .i64 n, .int .i64 lo, .int .i64 hi] (by simp) ?_
  repeat'
    conv => whnf
    first
      | refine And.intro (a := drawB _ = true) (by kernel_rfl) ?_
      | refine And.intro (a := (_ : Bool) = true) rfl ?_
      | refine And.intro (a := (_ : Bool) = true ∧ (_ : Bool) = true) ⟨rfl, rfl⟩ ?_
      | refine And.intro (a := (_ : Bool) = true ∧ (_ : List _) = []) ⟨rfl, rfl⟩ ?_
      | refine And.intro (a := IR _ _) (And.intro (by omega) (by omega)) ?_
      | refine splT ?_
      | refine splF ?_
      | refine splNot ?_
      | (refine splIn (fun hc => ?_) (fun hc => ?_) <;> first | (exfalso; omega) | skip)
      | (refine splD (fun hc => ?_) (fun hc => ?_) <;> first | (exfalso; omega) | skip)
      | (refine splE (fun hc => ?_) (fun hc => ?_) <;> first | (exfalso; omega) | skip)
      | (refine splNE (fun hc => ?_) (fun hc => ?_) <;> first | (exfalso; omega) | skip)
  all_goals exact ⟨fun β => congrArg Value.bool (by simp [inB, *]), fun w' h => h⟩

theorem In_ok (n lo hi : Int) (w : World) :
    Calls Try.prog 19 #[.int .i64 n, .int .i64 lo, .int .i64 hi] w fun e w' => e = .returned (.bool (inB n lo hi)) ∧ Below w.heap.size w w' := by
  refine calls_val env mixed Try.func19 has19 Try.ntmps19 [.int .i64 n, .int .i64 lo, .int .i64 hi] (by simp) ?_
  repeat'
    conv => whnf
    first
      | refine And.intro (a := drawB _ = true) (by kernel_rfl) ?_
      | refine And.intro (a := (_ : Bool) = true) rfl ?_
      | refine And.intro (a := (_ : Bool) = true ∧ (_ : Bool) = true) ⟨rfl, rfl⟩ ?_
      | refine And.intro (a := (_ : Bool) = true ∧ (_ : List _) = []) ⟨rfl, rfl⟩ ?_
      | refine And.intro (a := IR _ _) (And.intro (by omega) (by omega)) ?_
      | refine splT ?_
      | refine splF ?_
      | refine splNot ?_
      | (refine splIn (fun hc => ?_) (fun hc => ?_) <;> first | (exfalso; omega) | skip)
      | (refine splD (fun hc => ?_) (fun hc => ?_) <;> first | (exfalso; omega) | skip)
      | (refine splE (fun hc => ?_) (fun hc => ?_) <;> first | (exfalso; omega) | skip)
      | (refine splNE (fun hc => ?_) (fun hc => ?_) <;> first | (exfalso; omega) | skip)
  all_goals exact ⟨fun β => congrArg Value.bool (by simp [inB, *]), fun w' h => h⟩

/-! ### The swing -/
/-- s is the greatest number, up to 40000, whose square times 980000000 is at most n. -/
def IsSw (n s : Int) : Prop := 0 ≤ s ∧ s ≤ 40000 ∧ s * s * 980000000 ≤ n ∧ n < (s + 1) * (s + 1) * 980000000

theorem IsSw.uniq {n s t : Int} (hs : IsSw n s) (ht : IsSw n t) : s = t := by
  obtain ⟨a1, a2, a3, a4⟩ := hs
  obtain ⟨b1, b2, b3, b4⟩ := ht
  rcases Int.lt_trichotomy s t with h | h | h
  · have : (s + 1) * (s + 1) ≤ t * t := Int.mul_le_mul (by omega) (by omega) (by omega) (by omega)
    omega
  · exact h
  · have : (t + 1) * (t + 1) ≤ s * s := Int.mul_le_mul (by omega) (by omega) (by omega) (by omega)
    omega

theorem swing_ok (n : Int) (w : World) (h0 : 0 ≤ n) (h1 : n ≤ 789568360000000) :
    Calls Try.prog 59 #[.int .i64 n] w fun e w' => ∃ v, e = .returned v ∧ (∃ s, v = .int .i64 s ∧ IsSw n s) ∧ Below w.heap.size w w' := by
  refine calls_pure env mixed Try.func59 has59 Try.ntmps59 [.int .i64 n] (by simp) (V := fun v => ∃ s, v = .int .i64 s ∧ IsSw n s) ?_
  repeat'
    conv => whnf
    first
      | refine And.intro (a := drawB _ = true) (by kernel_rfl) ?_
      | refine And.intro (a := (_ : Bool) = true) rfl ?_
      | refine And.intro (a := (_ : Bool) = true ∧ (_ : Bool) = true) ⟨rfl, rfl⟩ ?_
      | refine And.intro (a := (_ : Bool) = true ∧ (_ : List _) = []) ⟨rfl, rfl⟩ ?_
      | refine And.intro (a := IR _ _) (And.intro (by omega) (by omega)) ?_
      | refine splT ?_
      | refine splF ?_
      | refine splNot ?_
      | (refine splIn (fun hc => ?_) (fun hc => ?_) <;> first | (exfalso; omega) | skip)
      | (refine splD (fun hc => ?_) (fun hc => ?_) <;> first | (exfalso; omega) | skip)
      | (refine splE (fun hc => ?_) (fun hc => ?_) <;> first | (exfalso; omega) | skip)
      | (refine splNE (fun hc => ?_) (fun hc => ?_) <;> first | (exfalso; omega) | skip)
  refine loopE (fun x : Int × Int => [(0, .v (.int .i64 n)), (3, .v (.int .i64 x.1)), (4, .v (.int .i64 x.2))]) (fun _ => []) (fun x => 0 ≤ x.1 ∧ x.1 ≤ x.2 ∧ x.2 ≤ 40000 ∧ x.1 * x.1 * 980000000 ≤ n ∧ n < (x.2 + 1) * (x.2 + 1) * 980000000) (fun x => (x.2 - x.1).toNat) (0, 40000) (by simp; omega) ⟨rfl, rfl, rfl, trivial⟩ trivial (fun _ => ⟨rfl, rfl⟩) ?_
  rintro ⟨lo, hi⟩ ⟨g0, g1, g2, g3, g4⟩
  have sq : ∀ m : Int, 0 ≤ m → m ≤ 40000 → 0 ≤ m * m ∧ m * m ≤ 1600000000 := fun m a b => ⟨Int.mul_nonneg a a, by have := Int.mul_le_mul b b a (by omega : (0:Int) ≤ 40000); omega⟩
  dsimp only at *
  repeat'
    conv => whnf
    first
      | refine And.intro (a := drawB _ = true) (by kernel_rfl) ?_
      | refine And.intro (a := (_ : Bool) = true) rfl ?_
      | refine And.intro (a := (_ : Bool) = true ∧ (_ : Bool) = true) ⟨rfl, rfl⟩ ?_
      | refine And.intro (a := (_ : Bool) = true ∧ (_ : List _) = []) ⟨rfl, rfl⟩ ?_
      | refine And.intro (a := IR _ _) (And.intro (by omega) (by omega)) ?_
      | refine splT ?_
      | refine splF ?_
      | refine splNot ?_
      | (refine splIn (fun hc => ?_) (fun hc => ?_) <;> first | (exfalso; omega) | skip)
      | (refine splD (fun hc => ?_) (fun hc => ?_) <;> first | (exfalso; omega) | skip)
      | (refine splE (fun hc => ?_) (fun hc => ?_) <;> first | (exfalso; omega) | skip)
      | (refine splNE (fun hc => ?_) (fun hc => ?_) <;> first | (exfalso; omega) | skip)
      | refine quoE (by omega) (by omega) (And.intro (by omega) (by omega)) ?_
      | refine And.intro (a := IR _ _) (And.intro (by have := sq ((lo + hi + 1) / 2) (by omega) (by omega); omega) (by have := sq ((lo + hi + 1) / 2) (by omega) (by omega); omega)) ?_
  · exact ⟨((lo + hi + 1) / 2, hi), by simp only; omega, by simp only; omega, Ent.weak rfl ⟨rfl, rfl, rfl, trivial⟩ trivial fun _ h => h⟩
  · exact ⟨(lo, (lo + hi + 1) / 2 - 1), by simp only; rw [show (lo + hi + 1) / 2 - 1 + 1 = (lo + hi + 1) / 2 from by omega]; omega, by simp only; omega, Ent.weak rfl ⟨rfl, rfl, rfl, trivial⟩ trivial fun _ h => h⟩
  · obtain rfl : lo = hi := by omega
    exact ⟨fun β => ⟨lo, rfl, by omega, by omega, g3, g4⟩, fun w' h => h⟩

noncomputable def swg (n : Int) : Int := @Classical.epsilon Int ⟨0⟩ (IsSw n)
theorem IsSw.eq {n s : Int} (h : IsSw n s) : s = swg n := h.uniq (Classical.epsilon_spec (p := IsSw n) ⟨s, h⟩)

theorem swing_val (n : Int) (w : World) (h0 : 0 ≤ n) (h1 : n ≤ 789568360000000) :
    Calls Try.prog 59 #[.int .i64 n] w fun e w' => e = .returned (.int .i64 (swg n)) ∧ Below w.heap.size w w' :=
  (swing_ok n w h0 h1).mono fun _ _ ⟨_, he, ⟨s, hv, hs⟩, hb⟩ => ⟨by rw [he, hv, hs.eq], hb⟩

theorem sw_some (n : Int) (h0 : 0 ≤ n) (h1 : n ≤ 789568360000000) : IsSw n (swg n) := by
  refine Classical.epsilon_spec (p := IsSw n) ?_
  have key : ∀ k : Nat, (k : Int) ≤ 40000 → n < ((k : Int) + 1) * (k + 1) * 980000000 → ∃ s, IsSw n s := by
    intro k
    induction k with
    | zero => intro _ h; exact ⟨0, by omega, by omega, by omega, by simpa using h⟩
    | succ k ih =>
      intro hk h
      by_cases hc : ((k : Int) + 1) * (k + 1) * 980000000 ≤ n
      · exact ⟨k + 1, by omega, by omega, hc, by simpa using h⟩
      · exact ih (by omega) (by omega)
  exact key 40000 (by omega) (by simp; omega)

/-- The least number of ticks whose square times 980000000 is at least 39478418000 l. -/
noncomputable def hiT (l : Int) : Int := if swg (39478418000 * l) * swg (39478418000 * l) * 980000000 < 39478418000 * l then swg (39478418000 * l) + 1 else swg (39478418000 * l)

theorem Swing_bad (l wd : Int) (w : World) (h : ¬ (1 ≤ l ∧ l ≤ 20000) ∨ ¬ (0 ≤ wd ∧ wd ≤ 100)) :
    Calls Try.prog 18 #[.int .i64 l, .int .i64 wd] w fun e w' => e = .returned (.tuple #[.agg #[.int .i64 0, .int .i64 0], .int .i64 2]) ∧ Below w.heap.size w w' := by
  refine calls_val env mixed Try.func18 has18 Try.ntmps18 [.int .i64 l, .int .i64 wd] (by simp) ?_
  repeat'
    conv => whnf
    first
      | refine And.intro (a := drawB _ = true) (by kernel_rfl) ?_
      | refine And.intro (a := (_ : Bool) = true) rfl ?_
      | refine And.intro (a := (_ : Bool) = true ∧ (_ : Bool) = true) ⟨rfl, rfl⟩ ?_
      | refine And.intro (a := (_ : Bool) = true ∧ (_ : List _) = []) ⟨rfl, rfl⟩ ?_
      | refine And.intro (a := IR _ _) (And.intro (by omega) (by omega)) ?_
      | refine splT ?_
      | refine splF ?_
      | refine splNot ?_
      | (refine splIn (fun hc => ?_) (fun hc => ?_) <;> first | (exfalso; omega) | skip)
      | (refine splD (fun hc => ?_) (fun hc => ?_) <;> first | (exfalso; omega) | skip)
      | (refine splE (fun hc => ?_) (fun hc => ?_) <;> first | (exfalso; omega) | skip)
      | (refine splNE (fun hc => ?_) (fun hc => ?_) <;> first | (exfalso; omega) | skip)
      | ((with_reducible show CallEv _ _ 58 _ _ _ _ _); refine callE (k := 58) (fun β w' _ => within_ok _ _ _ _) ?_)
  all_goals exact ⟨fun β => rfl, fun w' h => h⟩

theorem Swing_good (l wd : Int) (w : World) (hl : 1 ≤ l ∧ l ≤ 20000) (hw : 0 ≤ wd ∧ wd ≤ 100) :
    Calls Try.prog 18 #[.int .i64 l, .int .i64 wd] w fun e w' => e = .returned (.tuple #[.agg #[.int .i64 (swg (39478417600 * l)), .int .i64 ((hiT l * (1000 + wd) + 999) / 1000)], .int .i64 0]) ∧ Below w.heap.size w w' := by
  have hs := sw_some (39478418000 * l) (by omega) (by omega)
  obtain ⟨s1, s2, s3, s4⟩ := hs
  have hsq : swg (39478418000 * l) * swg (39478418000 * l) ≤ 40000 * 40000 := Int.mul_le_mul s2 s2 s1 (by omega)
  have hsq0 : 0 ≤ swg (39478418000 * l) * swg (39478418000 * l) := Int.mul_nonneg s1 s1
  have b1 : 0 ≤ swg (39478418000 * l) * (1000 + wd) := Int.mul_nonneg s1 (by omega)
  have b2 : swg (39478418000 * l) * (1000 + wd) ≤ 40000 * 1100 := Int.mul_le_mul s2 (by omega) (by omega) (by omega)
  have b3 : 0 ≤ (swg (39478418000 * l) + 1) * (1000 + wd) := Int.mul_nonneg (by omega) (by omega)
  have b4 : (swg (39478418000 * l) + 1) * (1000 + wd) ≤ 40001 * 1100 := Int.mul_le_mul (by omega) (by omega) (by omega) (by omega)
  refine calls_val env mixed Try.func18 has18 Try.ntmps18 [.int .i64 l, .int .i64 wd] (by simp) ?_
  repeat'
    conv => whnf
    first
      | refine And.intro (a := drawB _ = true) (by kernel_rfl) ?_
      | refine And.intro (a := (_ : Bool) = true) rfl ?_
      | refine And.intro (a := (_ : Bool) = true ∧ (_ : Bool) = true) ⟨rfl, rfl⟩ ?_
      | refine And.intro (a := (_ : Bool) = true ∧ (_ : List _) = []) ⟨rfl, rfl⟩ ?_
      | refine And.intro (a := IR _ _) (And.intro (by omega) (by omega)) ?_
      | refine splT ?_
      | refine splF ?_
      | refine splNot ?_
      | (refine splIn (fun hc => ?_) (fun hc => ?_) <;> first | (exfalso; omega) | skip)
      | (refine splD (fun hc => ?_) (fun hc => ?_) <;> first | (exfalso; omega) | skip)
      | (refine splE (fun hc => ?_) (fun hc => ?_) <;> first | (exfalso; omega) | skip)
      | (refine splNE (fun hc => ?_) (fun hc => ?_) <;> first | (exfalso; omega) | skip)
      | ((with_reducible show CallEv _ _ 58 _ _ _ _ _); refine callE (k := 58) (fun β w' _ => within_ok _ _ _ _) ?_)
      | ((with_reducible show CallEv _ _ 59 _ _ _ _ _); refine callE (k := 59) (fun β w' _ => swing_val _ _ (by omega) (by omega)) ?_)
      | refine quoE (by omega) (by omega) (And.intro (by omega) (by omega)) ?_
  · exact ⟨fun β => by simp only [hiT, if_pos ‹_›]; rfl, fun w' h => h⟩
  · exact ⟨fun β => by simp only [hiT, if_neg ‹_›]; rfl, fun w' h => h⟩
end Go.Proofs.Ytlehjapeomallaa
