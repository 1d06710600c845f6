import Derived.Test.YtlehjapeomallaaEv
import Derived.Test.YtlehjapeomallaaSl
/- Moving and sinking ranges, and the box after some ticks: what these functions return. -/
namespace Go.Proofs.Ytlehjapeomallaa
open Go Sx Go.RowKit

theorem moved_ok (a b c d t : Int) (w : World) (ha : -20000000 ≤ a ∧ a ≤ 20000000) (hb : -20000000 ≤ b ∧ b ≤ 20000000) (h1 : -10000000 ≤ t * c ∧ t * c ≤ 10000000) (h2 : -10000000 ≤ t * d ∧ t * d ≤ 10000000) :
    Calls Try.prog 89 #[.agg #[.int .i64 a, .int .i64 b], .agg #[.int .i64 c, .int .i64 d], .int .i64 t] w fun e w' => e = .returned (.agg #[.int .i64 (a + t * c), .int .i64 (b + t * d)]) ∧ Below w.heap.size w w' := by
  refine calls_val env mixed Try.func89 has89 Try.ntmps89 [.agg #[.int .i64 a, .int .i64 b], .agg #[.int .i64 c, .int .i64 d], .int .i64 t] (by simp) ?_
  repeat
    conv => whnf
    first
      | refine And.intro (a := drawB _ = true) (by kernel_rfl) ?_
      | refine And.intro (a := (_ : Bool) = true) rfl ?_
      | refine And.intro (a := (_ : Bool) = true ∧ (_ : Bool) = true) ⟨rfl, rfl⟩ ?_
      | refine And.intro (a := (_ : Bool) = true ∧ (_ : List _) = []) ⟨rfl, rfl⟩ ?_
      | refine And.intro (a := IR _ _) (And.intro (by omega) (by omega)) ?_
  exact ⟨fun β => rfl, fun w' h => h⟩

theorem sunk_ok (a b t : Int) (w : World) (ha : -200000000 ≤ a ∧ a ≤ 200000000) (hb : -200000000 ≤ b ∧ b ≤ 200000000) (h1 : 0 ≤ t ∧ t ≤ 10000000) :
    Calls Try.prog 90 #[.agg #[.int .i64 a, .int .i64 b], .int .i64 t] w fun e w' => e = .returned (.agg #[.int .i64 (a - t), .int .i64 (b - t)]) ∧ Below w.heap.size w w' := by
  refine calls_val env mixed Try.func90 has90 Try.ntmps90 [.agg #[.int .i64 a, .int .i64 b], .int .i64 t] (by simp) ?_
  repeat
    conv => whnf
    first
      | refine And.intro (a := drawB _ = true) (by kernel_rfl) ?_
      | refine And.intro (a := (_ : Bool) = true) rfl ?_
      | refine And.intro (a := (_ : Bool) = true ∧ (_ : Bool) = true) ⟨rfl, rfl⟩ ?_
      | refine And.intro (a := (_ : Bool) = true ∧ (_ : List _) = []) ⟨rfl, rfl⟩ ?_
      | refine And.intro (a := IR _ _) (And.intro (by omega) (by omega)) ?_
  exact ⟨fun β => rfl, fun w' h => h⟩

set_option maxRecDepth 100000 in
theorem after_ok (x0 x1 z0 z1 u0 u1 v0 v1 m t : Int) (w : World)
   (hx0 : -20000000 ≤ x0 ∧ x0 ≤ 20000000) (hx1 : -20000000 ≤ x1 ∧ x1 ≤ 20000000)
   (hz0 : -20000000 ≤ z0 ∧ z0 ≤ 20000000) (hz1 : -20000000 ≤ z1 ∧ z1 ≤ 20000000)
   (hu0 : -10000000 ≤ t * u0 ∧ t * u0 ≤ 10000000) (hu1 : -10000000 ≤ t * u1 ∧ t * u1 ≤ 10000000)
   (hv0 : -10000000 ≤ t * v0 ∧ t * v0 ≤ 10000000) (hv1 : -10000000 ≤ t * v1 ∧ t * v1 ≤ 10000000)
   (ht : 0 ≤ t ∧ t ≤ 300) (htt : 0 ≤ 49 * t * t ∧ 49 * t * t ≤ 10000000):
    Calls Try.prog 67 #[.agg #[.int .i64 x0, .int .i64 x1, .int .i64 z0, .int .i64 z1, .int .i64 u0, .int .i64 u1, .int .i64 v0, .int .i64 v1, .int .i64 m], .int .i64 t] w fun e w' =>
      e = .returned (.agg #[.int .i64 (x0 + t * u0), .int .i64 (x1 + t * u1), .int .i64 (z0 + t * v0 - 49 * t * t), .int .i64 (z1 + t * v1 - 49 * t * t)]) ∧ Below w.heap.size w w' := by
  refine calls_val env mixed Try.func67 has67 Try.ntmps67 [.agg #[.int .i64 x0, .int .i64 x1, .int .i64 z0, .int .i64 z1, .int .i64 u0, .int .i64 u1, .int .i64 v0, .int .i64 v1, .int .i64 m], .int .i64 t] (by simp) ?_
  repeat
    conv => whnf
    first
      | refine And.intro (a := drawB _ = true) (by kernel_rfl) ?_
      | refine And.intro (a := (_ : Bool) = true) rfl ?_
      | refine And.intro (a := (_ : Bool) = true ∧ (_ : Bool) = true) ⟨rfl, rfl⟩ ?_
      | refine And.intro (a := (_ : Bool) = true ∧ (_ : List _) = []) ⟨rfl, rfl⟩ ?_
      | refine And.intro (a := IR _ _) (And.intro (by omega) (by omega)) ?_
      | (with_reducible show CallEv _ _ 89 _ _ _ _ _); refine callE (k := 89) (fun β w' hh => moved_ok _ _ _ _ _ _ (by omega) (by omega) (by omega) (by omega)) ?_
      | (with_reducible show CallEv _ _ 90 _ _ _ _ _); refine callE (k := 90) (fun β w' hh => sunk_ok _ _ _ _ (by omega) (by omega) (by omega)) ?_
  exact ⟨fun β => rfl, fun w' h => h⟩
end Go.Proofs.Ytlehjapeomallaa

/- Whether a number lies in a range, and the swing of a length and a width: what these functions return. -/
namespace Go.Proofs.Ytlehjapeomallaa
open Go Sx Go.RowKit

theorem within_ok (n lo hi : Int) (w : World) :
    Calls Try.prog 58 #[.int .i64 n, .int .i64 lo, .int .i64 hi] w fun e w' => e = .returned (.bool (inB n lo hi)) ∧ Below w.heap.size w w' := by
  refine calls_val env mixed Try.func58 has58 Try.ntmps58 [.int .i64 n, .int .i64 lo, .int .i64 hi] (by simp) ?_
  repeat'
    conv => whnf
    first
      | refine And.intro (a := drawB _ = true) (by kernel_rfl) ?_
      | refine And.intro (a := (_ : Bool) = true) rfl ?_
      | refine And.intro (a := (_ : Bool) = true ∧ (_ : Bool) = true) ⟨rfl, rfl⟩ ?_
      | refine And.intro (a := (_ : Bool) = true ∧ (_ : List _) = []) ⟨rfl, rfl⟩ ?_
      | refine And.intro (a := IR _ _) (And.intro (by omega) (by omega)) ?_
      | refine splT ?_
      | refine splF ?_
      | refine splNot ?_
      | (refine splIn (fun hc => ?_) (fun hc => ?_) <;> first | (exfalso; omega) | skip)
      | (refine splD (fun hc => ?_) (fun hc => ?_) <;> first | (exfalso; omega) | skip)
      | (refine splE (fun hc => ?_) (fun hc => ?_) <;> first | (exfalso; omega) | skip)
      | (refine splNE (fun hc => ?_) (fun hc => ?_) <;> first | (exfalso; omega) | skip)
  all_goals exact ⟨fun β => congrArg Value.bool (by simp [inB, *]), fun w' h => h⟩

theorem In_ok (n lo hi : Int) (w : World) :
    Calls Try.prog 19 #[.int .i64 n, .int .i64 lo, .int .i64 hi] w fun e w' => e = .returned (.bool (inB n lo hi)) ∧ Below w.heap.size w w' := by
  refine calls_val env mixed Try.func19 has19 Try.ntmps19 [.int .i64 n, .int .i64 lo, .int .i64 hi] (by simp) ?_
  repeat'
    conv => whnf
    first
      | refine And.intro (a := drawB _ = true) (by kernel_rfl) ?_
      | refine And.intro (a := (_ : Bool) = true) rfl ?_
      | refine And.intro (a := (_ : Bool) = true ∧ (_ : Bool) = true) ⟨rfl, rfl⟩ ?_
      | refine And.intro (a := (_ : Bool) = true ∧ (_ : List _) = []) ⟨rfl, rfl⟩ ?_
      | refine And.intro (a := IR _ _) (And.intro (by omega) (by omega)) ?_
      | refine splT ?_
      | refine splF ?_
      | refine splNot ?_
      | (refine splIn (fun hc => ?_) (fun hc => ?_) <;> first | (exfalso; omega) | skip)
      | (refine splD (fun hc => ?_) (fun hc => ?_) <;> first | (exfalso; omega) | skip)
      | (refine splE (fun hc => ?_) (fun hc => ?_) <;> first | (exfalso; omega) | skip)
      | (refine splNE (fun hc => ?_) (fun hc => ?_) <;> first | (exfalso; omega) | skip)
  all_goals exact ⟨fun β => congrArg Value.bool (by simp [inB, *]), fun w' h => h⟩

/-! ### The swing -/
/-- s is the greatest number, up to 40000, whose square times 980000000 is at most n. -/
def IsSw (n s : Int) : Prop := 0 ≤ s ∧ s ≤ 40000 ∧ s * s * 980000000 ≤ n ∧ n < (s + 1) * (s + 1) * 980000000

theorem IsSw.uniq {n s t : Int} (hs : IsSw n s) (ht : IsSw n t) : s = t := by
  obtain ⟨a1, a2, a3, a4⟩ := hs
  obtain ⟨b1, b2, b3, b4⟩ := ht
  rcases Int.lt_trichotomy s t with h | h | h
  · have : (s + 1) * (s + 1) ≤ t * t := Int.mul_le_mul (by omega) (by omega) (by omega) (by omega)
    omega
  · exact h
  · have : (t + 1) * (t + 1) ≤ s * s := Int.mul_le_mul (by omega) (by omega) (by omega) (by omega)
    omega

theorem swing_ok (n : Int) (w : World) (h0 : 0 ≤ n) (h1 : n ≤ 789568360000000) :
    Calls Try.prog 59 #[.int .i64 n] w fun e w' => ∃ v, e = .returned v ∧ (∃ s, v = .int .i64 s ∧ IsSw n s) ∧ Below w.heap.size w w' := by
  refine calls_pure env mixed Try.func59 has59 Try.ntmps59 [.int .i64 n] (by simp) (V := fun v => ∃ s, v = .int .i64 s ∧ IsSw n s) ?_
  repeat'
    conv => whnf
    first
      | refine And.intro (a := drawB _ = true) (by kernel_rfl) ?_
      | refine And.intro (a := (_ : Bool) = true) rfl ?_
      | refine And.intro (a := (_ : Bool) = true ∧ (_ : Bool) = true) ⟨rfl, rfl⟩ ?_
      | refine And.intro (a := (_ : Bool) = true ∧ (_ : List _) = []) ⟨rfl, rfl⟩ ?_
      | refine And.intro (a := IR _ _) (And.intro (by omega) (by omega)) ?_
      | refine splT ?_
      | refine splF ?_
      | refine splNot ?_
      | (refine splIn (fun hc => ?_) (fun hc => ?_) <;> first | (exfalso; omega) | skip)
      | (refine splD (fun hc => ?_) (fun hc => ?_) <;> first | (exfalso; omega) | skip)
      | (refine splE (fun hc => ?_) (fun hc => ?_) <;> first | (exfalso; omega) | skip)
      | (refine splNE (fun hc => ?_) (fun hc => ?_) <;> first | (exfalso; omega) | skip)
  refine loopE (fun x : Int × Int => [(0, .v (.int .i64 n)), (3, .v (.int .i64 x.1)), (4, .v (.int .i64 x.2))]) (fun _ => []) (fun x => 0 ≤ x.1 ∧ x.1 ≤ x.2 ∧ x.2 ≤ 40000 ∧ x.1 * x.1 * 980000000 ≤ n ∧ n < (x.2 + 1) * (x.2 + 1) * 980000000) (fun x => (x.2 - x.1).toNat) (0, 40000) (by simp; omega) ⟨rfl, rfl, rfl, trivial⟩ trivial (fun _ => ⟨rfl, rfl⟩) ?_
  rintro ⟨lo, hi⟩ ⟨g0, g1, g2, g3, g4⟩
  have sq : ∀ m : Int, 0 ≤ m → m ≤ 40000 → 0 ≤ m * m ∧ m * m ≤ 1600000000 := fun m a b => ⟨Int.mul_nonneg a a, by have := Int.mul_le_mul b b a (by omega : (0:Int) ≤ 40000); omega⟩
  dsimp only at *
  repeat'
    conv => whnf
    first
      | refine And.intro (a := drawB _ = true) (by kernel_rfl) ?_
      | refine And.intro (a := (_ : Bool) = true) rfl ?_
      | refine And.intro (a := (_ : Bool) = true ∧ (_ : Bool) = true) ⟨rfl, rfl⟩ ?_
      | refine And.intro (a := (_ : Bool) = true ∧ (_ : List _) = []) ⟨rfl, rfl⟩ ?_
      | refine And.intro (a := IR _ _) (And.intro (by omega) (by omega)) ?_
      | refine splT ?_
      | refine splF ?_
      | refine splNot ?_
      | (refine splIn (fun hc => ?_) (fun hc => ?_) <;> first | (exfalso; omega) | skip)
      | (refine splD (fun hc => ?_) (fun hc => ?_) <;> first | (exfalso; omega) | skip)
      | (refine splE (fun hc => ?_) (fun hc => ?_) <;> first | (exfalso; omega) | skip)
      | (refine splNE (fun hc => ?_) (fun hc => ?_) <;> first | (exfalso; omega) | skip)
      | refine quoE (by omega) (by omega) (And.intro (by omega) (by omega)) ?_
      | refine And.intro (a := IR _ _) (And.intro (by have := sq ((lo + hi + 1) / 2) (by omega) (by omega); omega) (by have := sq ((lo + hi + 1) / 2) (by omega) (by omega); omega)) ?_
  · exact ⟨((lo + hi + 1) / 2, hi), by simp only; omega, by simp only; omega, Ent.weak rfl ⟨rfl, rfl, rfl, trivial⟩ trivial fun _ h => h⟩
  · exact ⟨(lo, (lo + hi + 1) / 2 - 1), by simp only; rw [show (lo + hi + 1) / 2 - 1 + 1 = (lo + hi + 1) / 2 from by omega]; omega, by simp only; omega, Ent.weak rfl ⟨rfl, rfl, rfl, trivial⟩ trivial fun _ h => h⟩
  · obtain rfl : lo = hi := by omega
    exact ⟨fun β => ⟨lo, rfl, by omega, by omega, g3, g4⟩, fun w' h => h⟩

noncomputable def swg (n : Int) : Int := @Classical.epsilon Int ⟨0⟩ (IsSw n)
theorem IsSw.eq {n s : Int} (h : IsSw n s) : s = swg n := h.uniq (Classical.epsilon_spec (p := IsSw n) ⟨s, h⟩)

theorem swing_val (n : Int) (w : World) (h0 : 0 ≤ n) (h1 : n ≤ 789568360000000) :
    Calls Try.prog 59 #[.int .i64 n] w fun e w' => e = .returned (.int .i64 (swg n)) ∧ Below w.heap.size w w' :=
  (swing_ok n w h0 h1).mono fun _ _ ⟨_, he, ⟨s, hv, hs⟩, hb⟩ => ⟨by rw [he, hv, hs.eq], hb⟩

theorem sw_some (n : Int) (h0 : 0 ≤ n) (h1 : n ≤ 789568360000000) : IsSw n (swg n) := by
  refine Classical.epsilon_spec (p := IsSw n) ?_
  have key : ∀ k : Nat, (k : Int) ≤ 40000 → n < ((k : Int) + 1) * (k + 1) * 980000000 → ∃ s, IsSw n s := by
    intro k
    induction k with
    | zero => intro _ h; exact ⟨0, by omega, by omega, by omega, by simpa using h⟩
    | succ k ih =>
      intro hk h
      by_cases hc : ((k : Int) + 1) * (k + 1) * 980000000 ≤ n
      · exact ⟨k + 1, by omega, by omega, hc, by simpa using h⟩
      · exact ih (by omega) (by omega)
  exact key 40000 (by omega) (by simp; omega)

/-- The least number of ticks whose square times 980000000 is at least 39478418000 l. -/
noncomputable def hiT (l : Int) : Int := if swg (39478418000 * l) * swg (39478418000 * l) * 980000000 < 39478418000 * l then swg (39478418000 * l) + 1 else swg (39478418000 * l)

theorem Swing_bad (l wd : Int) (w : World) (h : ¬ (1 ≤ l ∧ l ≤ 20000) ∨ ¬ (0 ≤ wd ∧ wd ≤ 100)) :
    Calls Try.prog 18 #[.int .i64 l, .int .i64 wd] w fun e w' => e = .returned (.tuple #[.agg #[.int .i64 0, .int .i64 0], .int .i64 2]) ∧ Below w.heap.size w w' := by
  refine calls_val env mixed Try.func18 has18 Try.ntmps18 [.int .i64 l, .int .i64 wd] (by simp) ?_
  repeat'
    conv => whnf
    first
      | refine And.intro (a := drawB _ = true) (by kernel_rfl) ?_
      | refine And.intro (a := (_ : Bool) = true) rfl ?_
      | refine And.intro (a := (_ : Bool) = true ∧ (_ : Bool) = true) ⟨rfl, rfl⟩ ?_
      | refine And.intro (a := (_ : Bool) = true ∧ (_ : List _) = []) ⟨rfl, rfl⟩ ?_
      | refine And.intro (a := IR _ _) (And.intro (by omega) (by omega)) ?_
      | refine splT ?_
      | refine splF ?_
      | refine splNot ?_
      | (refine splIn (fun hc => ?_) (fun hc => ?_) <;> first | (exfalso; omega) | skip)
      | (refine splD (fun hc => ?_) (fun hc => ?_) <;> first | (exfalso; omega) | skip)
      | (refine splE (fun hc => ?_) (fun hc => ?_) <;> first | (exfalso; omega) | skip)
      | (refine splNE (fun hc => ?_) (fun hc => ?_) <;> first | (exfalso; omega) | skip)
      | ((with_reducible show CallEv _ _ 58 _ _ _ _ _); refine callE (k := 58) (fun β w' _ => within_ok _ _ _ _) ?_)
  all_goals exact ⟨fun β => rfl, fun w' h => h⟩

theorem Swing_good (l wd : Int) (w : World) (hl : 1 ≤ l ∧ l ≤ 20000) (hw : 0 ≤ wd ∧ wd ≤ 100) :
    Calls Try.prog 18 #[.int .i64 l, .int .i64 wd] w fun e w' => e = .returned (.tuple #[.agg #[.int .i64 (swg (39478417600 * l)), .int .i64 ((hiT l * (1000 + wd) + 999) / 1000)], .int .i64 0]) ∧ Below w.heap.size w w' := by
  have hs := sw_some (39478418000 * l) (by omega) (by omega)
  obtain ⟨s1, s2, s3, s4⟩ := hs
  have hsq : swg (39478418000 * l) * swg (39478418000 * l) ≤ 40000 * 40000 := Int.mul_le_mul s2 s2 s1 (by omega)
  have hsq0 : 0 ≤ swg (39478418000 * l) * swg (39478418000 * l) := Int.mul_nonneg s1 s1
  have b1 : 0 ≤ swg (39478418000 * l) * (1000 + wd) := Int.mul_nonneg s1 (by omega)
  have b2 : swg (39478418000 * l) * (1000 + wd) ≤ 40000 * 1100 := Int.mul_le_mul s2 (by omega) (by omega) (by omega)
  have b3 : 0 ≤ (swg (39478418000 * l) + 1) * (1000 + wd) := Int.mul_nonneg (by omega) (by omega)
  have b4 : (swg (39478418000 * l) + 1) * (1000 + wd) ≤ 40001 * 1100 := Int.mul_le_mul (by omega) (by omega) (by omega) (by omega)
  refine calls_val env mixed Try.func18 has18 Try.ntmps18 [.int .i64 l, .int .i64 wd] (by simp) ?_
  repeat'
    conv => whnf
    first
      | refine And.intro (a := drawB _ = true) (by kernel_rfl) ?_
      | refine And.intro (a := (_ : Bool) = true) rfl ?_
      | refine And.intro (a := (_ : Bool) = true ∧ (_ : Bool) = true) ⟨rfl, rfl⟩ ?_
      | refine And.intro (a := (_ : Bool) = true ∧ (_ : List _) = []) ⟨rfl, rfl⟩ ?_
      | refine And.intro (a := IR _ _) (And.intro (by omega) (by omega)) ?_
      | refine splT ?_
      | refine splF ?_
      | refine splNot ?_
      | (refine splIn (fun hc => ?_) (fun hc => ?_) <;> first | (exfalso; omega) | skip)
      | (refine splD (fun hc => ?_) (fun hc => ?_) <;> first | (exfalso; omega) | skip)
      | (refine splE (fun hc => ?_) (fun hc => ?_) <;> first | (exfalso; omega) | skip)
      | (refine splNE (fun hc => ?_) (fun hc => ?_) <;> first | (exfalso; omega) | skip)
      | ((with_reducible show CallEv _ _ 58 _ _ _ _ _); refine callE (k := 58) (fun β w' _ => within_ok _ _ _ _) ?_)
      | ((with_reducible show CallEv _ _ 59 _ _ _ _ _); refine callE (k := 59) (fun β w' _ => swing_val _ _ (by omega) (by omega)) ?_)
      | refine quoE (by omega) (by omega) (And.intro (by omega) (by omega)) ?_
  · exact ⟨fun β => by simp only [hiT, if_pos ‹_›]; rfl, fun w' h => h⟩
  · exact ⟨fun β => by simp only [hiT, if_neg ‹_›]; rfl, fun w' h => h⟩
end Go.Proofs.Ytlehjapeomallaa

/- Whether a range, a box, a flyer and a net are valid, and the box after any ticks: what these functions return. -/
namespace Go.Proofs.Ytlehjapeomallaa
open Go Sx Go.RowKit

structure Rg where
  lo : Int
  hi : Int
structure Bx where
  x : Rg
  z : Rg
structure Fl where
  a : Bx
  s : Bx
  m : Int
structure Nt where
  x : Rg
  h : Int

abbrev iv (n : Int) : Value := .int .i64 n
abbrev Rg.v (r : Rg) : Value := .agg #[iv r.lo, iv r.hi]
abbrev Bx.v (b : Bx) : Value := .agg #[iv b.x.lo, iv b.x.hi, iv b.z.lo, iv b.z.hi]
abbrev Fl.v (f : Fl) : Value := .agg #[iv f.a.x.lo, iv f.a.x.hi, iv f.a.z.lo, iv f.a.z.hi, iv f.s.x.lo, iv f.s.x.hi, iv f.s.z.lo, iv f.s.z.hi, iv f.m]
abbrev Nt.v (n : Nt) : Value := .agg #[iv n.x.lo, iv n.x.hi, iv n.h]

def Rg.ok (r : Rg) (most : Int) : Bool := decide (-most ≤ r.lo) && decide (r.lo ≤ r.hi) && decide (r.hi ≤ most)
def Bx.ok (b : Bx) (most : Int) : Bool := b.x.ok most && b.z.ok most
def Fl.ok (f : Fl) : Bool := f.a.ok 10000000 && f.s.ok 10000 && inB f.m 1 200
def Nt.ok (n : Nt) : Bool := n.x.ok 10000000 && inB n.h (-10000000) 10000000

theorem Rg.ok_iff {r : Rg} {m : Int} : r.ok m = true ↔ -m ≤ r.lo ∧ r.lo ≤ r.hi ∧ r.hi ≤ m := by simp [Rg.ok, and_assoc]
theorem Bx.ok_iff {b : Bx} {m : Int} : b.ok m = true ↔ (-m ≤ b.x.lo ∧ b.x.lo ≤ b.x.hi ∧ b.x.hi ≤ m) ∧ (-m ≤ b.z.lo ∧ b.z.lo ≤ b.z.hi ∧ b.z.hi ≤ m) := by simp [Bx.ok, Rg.ok_iff]
theorem Fl.ok_iff {f : Fl} : f.ok = true ↔ ((-10000000 ≤ f.a.x.lo ∧ f.a.x.lo ≤ f.a.x.hi ∧ f.a.x.hi ≤ 10000000) ∧ (-10000000 ≤ f.a.z.lo ∧ f.a.z.lo ≤ f.a.z.hi ∧ f.a.z.hi ≤ 10000000)) ∧
    ((-10000 ≤ f.s.x.lo ∧ f.s.x.lo ≤ f.s.x.hi ∧ f.s.x.hi ≤ 10000) ∧ (-10000 ≤ f.s.z.lo ∧ f.s.z.lo ≤ f.s.z.hi ∧ f.s.z.hi ≤ 10000)) ∧ 1 ≤ f.m ∧ f.m ≤ 200 := by simp [Fl.ok, Bx.ok_iff, inB_iff, and_assoc]

theorem Rin_ok (r : Rg) (most : Int) (w : World) (h0 : 0 ≤ most) (h1 : most ≤ 10000000) :
    Calls Try.prog 98 #[r.v, iv most] w fun e w' => e = .returned (.bool (r.ok most)) ∧ Below w.heap.size w w' := by
  refine calls_val env mixed Try.func98 has98 Try.ntmps98 [r.v, iv most] (by simp) ?_
  repeat'
    conv => whnf
    first
      | refine And.intro (a := drawB _ = true) (by kernel_rfl) ?_
      | refine And.intro (a := (_ : Bool) = true) rfl ?_
      | refine And.intro (a := (_ : Bool) = true ∧ (_ : Bool) = true) ⟨rfl, rfl⟩ ?_
      | refine And.intro (a := (_ : Bool) = true ∧ (_ : List _) = []) ⟨rfl, rfl⟩ ?_
      | refine And.intro (a := IR _ _) (And.intro (by omega) (by omega)) ?_
      | refine splT ?_
      | refine splF ?_
      | refine splNot ?_
      | (refine splIn (fun hc => ?_) (fun hc => ?_) <;> first | (exfalso; omega) | skip)
      | (refine splD (fun hc => ?_) (fun hc => ?_) <;> first | (exfalso; omega) | skip)
      | (refine splE (fun hc => ?_) (fun hc => ?_) <;> first | (exfalso; omega) | skip)
      | (refine splNE (fun hc => ?_) (fun hc => ?_) <;> first | (exfalso; omega) | skip)
  all_goals exact ⟨fun β => congrArg Value.bool (by simp [Rg.ok, *]), fun w' h => h⟩

theorem Bin_ok (b : Bx) (most : Int) (w : World) (h0 : 0 ≤ most) (h1 : most ≤ 10000000) :
    Calls Try.prog 82 #[b.v, iv most] w fun e w' => e = .returned (.bool (b.ok most)) ∧ Below w.heap.size w w' := by
  refine calls_val env mixed Try.func82 has82 Try.ntmps82 [b.v, iv most] (by simp) ?_
  repeat'
    conv => whnf
    first
      | refine And.intro (a := drawB _ = true) (by kernel_rfl) ?_
      | refine And.intro (a := (_ : Bool) = true) rfl ?_
      | refine And.intro (a := (_ : Bool) = true ∧ (_ : Bool) = true) ⟨rfl, rfl⟩ ?_
      | refine And.intro (a := (_ : Bool) = true ∧ (_ : List _) = []) ⟨rfl, rfl⟩ ?_
      | refine And.intro (a := IR _ _) (And.intro (by omega) (by omega)) ?_
      | refine splT ?_
      | refine splF ?_
      | refine splNot ?_
      | (refine splIn (fun hc => ?_) (fun hc => ?_) <;> first | (exfalso; omega) | skip)
      | (refine splD (fun hc => ?_) (fun hc => ?_) <;> first | (exfalso; omega) | skip)
      | (refine splE (fun hc => ?_) (fun hc => ?_) <;> first | (exfalso; omega) | skip)
      | (refine splNE (fun hc => ?_) (fun hc => ?_) <;> first | (exfalso; omega) | skip)
      | ((with_reducible show CallEv _ _ 98 _ _ _ _ _); refine callE (k := 98) (fun β w' _ => Rin_ok ⟨_, _⟩ _ _ h0 h1) ?_)
      | refine splB (fun hc => ?_) (fun hc => ?_)
  all_goals exact ⟨fun β => congrArg Value.bool (by simp [Bx.ok, *]), fun w' h => h⟩

theorem Fvalid_ok (f : Fl) (w : World) :
    Calls Try.prog 69 #[f.v] w fun e w' => e = .returned (.bool f.ok) ∧ Below w.heap.size w w' := by
  refine calls_val env mixed Try.func69 has69 Try.ntmps69 [f.v] (by simp) ?_
  repeat'
    conv => whnf
    first
      | refine And.intro (a := drawB _ = true) (by kernel_rfl) ?_
      | refine And.intro (a := (_ : Bool) = true) rfl ?_
      | refine And.intro (a := (_ : Bool) = true ∧ (_ : Bool) = true) ⟨rfl, rfl⟩ ?_
      | refine And.intro (a := (_ : Bool) = true ∧ (_ : List _) = []) ⟨rfl, rfl⟩ ?_
      | refine And.intro (a := IR _ _) (And.intro (by omega) (by omega)) ?_
      | refine splT ?_
      | refine splF ?_
      | refine splNot ?_
      | (refine splIn (fun hc => ?_) (fun hc => ?_) <;> first | (exfalso; omega) | skip)
      | (refine splD (fun hc => ?_) (fun hc => ?_) <;> first | (exfalso; omega) | skip)
      | (refine splE (fun hc => ?_) (fun hc => ?_) <;> first | (exfalso; omega) | skip)
      | (refine splNE (fun hc => ?_) (fun hc => ?_) <;> first | (exfalso; omega) | skip)
      | ((with_reducible show CallEv _ _ 82 _ _ _ _ _); refine callE (k := 82) (fun β w' _ => Bin_ok ⟨⟨_, _⟩, ⟨_, _⟩⟩ _ _ (by omega) (by omega)) ?_)
      | ((with_reducible show CallEv _ _ 58 _ _ _ _ _); refine callE (k := 58) (fun β w' _ => within_ok _ _ _ _) ?_)
      | refine splB (fun hc => ?_) (fun hc => ?_)
  all_goals exact ⟨fun β => congrArg Value.bool (by simp [Fl.ok, inB, *]), fun w' h => h⟩

theorem Nvalid_ok (n : Nt) (w : World) :
    Calls Try.prog 85 #[n.v] w fun e w' => e = .returned (.bool n.ok) ∧ Below w.heap.size w w' := by
  refine calls_val env mixed Try.func85 has85 Try.ntmps85 [n.v] (by simp) ?_
  repeat'
    conv => whnf
    first
      | refine And.intro (a := drawB _ = true) (by kernel_rfl) ?_
      | refine And.intro (a := (_ : Bool) = true) rfl ?_
      | refine And.intro (a := (_ : Bool) = true ∧ (_ : Bool) = true) ⟨rfl, rfl⟩ ?_
      | refine And.intro (a := (_ : Bool) = true ∧ (_ : List _) = []) ⟨rfl, rfl⟩ ?_
      | refine And.intro (a := IR _ _) (And.intro (by omega) (by omega)) ?_
      | refine splT ?_
      | refine splF ?_
      | refine splNot ?_
      | (refine splIn (fun hc => ?_) (fun hc => ?_) <;> first | (exfalso; omega) | skip)
      | (refine splD (fun hc => ?_) (fun hc => ?_) <;> first | (exfalso; omega) | skip)
      | (refine splE (fun hc => ?_) (fun hc => ?_) <;> first | (exfalso; omega) | skip)
      | (refine splNE (fun hc => ?_) (fun hc => ?_) <;> first | (exfalso; omega) | skip)
      | ((with_reducible show CallEv _ _ 98 _ _ _ _ _); refine callE (k := 98) (fun β w' _ => Rin_ok ⟨_, _⟩ _ _ (by omega) (by omega)) ?_)
      | ((with_reducible show CallEv _ _ 58 _ _ _ _ _); refine callE (k := 58) (fun β w' _ => within_ok _ _ _ _) ?_)
      | refine splB (fun hc => ?_) (fun hc => ?_)
  all_goals exact ⟨fun β => congrArg Value.bool (by simp [Nt.ok, inB, *]), fun w' h => h⟩

/-- The box after t ticks. -/
def Fl.af (f : Fl) (t : Int) : Bx := ⟨⟨f.a.x.lo + t * f.s.x.lo, f.a.x.hi + t * f.s.x.hi⟩, ⟨f.a.z.lo + t * f.s.z.lo - 49 * t * t, f.a.z.hi + t * f.s.z.hi - 49 * t * t⟩⟩

theorem mul_bd {t u : Int} (h0 : 0 ≤ t) (h1 : t ≤ 300) (hu : -10000 ≤ u ∧ u ≤ 10000) : -3000000 ≤ t * u ∧ t * u ≤ 3000000 := by
  have a : t * u ≤ t * 10000 := Int.mul_le_mul_of_nonneg_left hu.2 h0
  have b : t * -10000 ≤ t * u := Int.mul_le_mul_of_nonneg_left hu.1 h0
  omega
theorem sq_bd {t : Int} (h0 : 0 ≤ t) (h1 : t ≤ 300) : 0 ≤ 49 * t * t ∧ 49 * t * t ≤ 4410000 := by
  have a : 0 ≤ t * t := Int.mul_nonneg h0 h0
  have b : t * t ≤ 300 * 300 := Int.mul_le_mul h1 h1 h0 (by omega)
  have c : 49 * t * t = 49 * (t * t) := Int.mul_assoc _ _ _
  omega

/-- Whatever the numbers are, within their bounds. -/
theorem Fl.bd {f : Fl} (hf : f.ok = true) {t : Int} (h0 : 0 ≤ t) (h1 : t ≤ 300) :
    (-3000000 ≤ t * f.s.x.lo ∧ t * f.s.x.lo ≤ 3000000) ∧ (-3000000 ≤ t * f.s.x.hi ∧ t * f.s.x.hi ≤ 3000000) ∧ (-3000000 ≤ t * f.s.z.lo ∧ t * f.s.z.lo ≤ 3000000) ∧ (-3000000 ≤ t * f.s.z.hi ∧ t * f.s.z.hi ≤ 3000000) ∧ 0 ≤ 49 * t * t ∧ 49 * t * t ≤ 4410000 := by
  rw [Fl.ok_iff] at hf
  exact ⟨mul_bd h0 h1 (by omega), mul_bd h0 h1 (by omega), mul_bd h0 h1 (by omega), mul_bd h0 h1 (by omega), sq_bd h0 h1⟩

theorem after_val (f : Fl) (t : Int) (w : World) (hf : f.ok = true) (h0 : 0 ≤ t) (h1 : t ≤ 300) :
    Calls Try.prog 67 #[f.v, iv t] w fun e w' => e = .returned (f.af t).v ∧ Below w.heap.size w w' := by
  have hb := Fl.bd hf h0 h1
  have hf' := Fl.ok_iff.1 hf
  exact after_ok _ _ _ _ _ _ _ _ _ _ _ (by omega) (by omega) (by omega) (by omega) (by omega) (by omega) (by omega) (by omega) ⟨h0, h1⟩ (by omega)

theorem After_ok (f : Fl) (t : Int) (w : World) :
    Calls Try.prog 41 #[f.v, iv t] w fun e w' => e = .returned (.tuple #[(if f.ok = true ∧ (0 ≤ t ∧ t ≤ 300) then f.af t else ⟨⟨0, 0⟩, ⟨0, 0⟩⟩ : Bx).v, iv (if f.ok = true then (if 0 ≤ t ∧ t ≤ 300 then 0 else 2) else 1)]) ∧ Below w.heap.size w w' := by
  refine calls_val env mixed Try.func41 has41 Try.ntmps41 [f.v, iv t] (by simp) ?_
  repeat'
    conv => whnf
    first
      | refine And.intro (a := drawB _ = true) (by kernel_rfl) ?_
      | refine And.intro (a := (_ : Bool) = true) rfl ?_
      | refine And.intro (a := (_ : Bool) = true ∧ (_ : Bool) = true) ⟨rfl, rfl⟩ ?_
      | refine And.intro (a := (_ : Bool) = true ∧ (_ : List _) = []) ⟨rfl, rfl⟩ ?_
      | refine And.intro (a := IR _ _) (And.intro (by omega) (by omega)) ?_
      | refine splT ?_
      | refine splF ?_
      | refine splNot ?_
      | (refine splIn (fun hc => ?_) (fun hc => ?_) <;> first | (exfalso; omega) | skip)
      | (refine splD (fun hc => ?_) (fun hc => ?_) <;> first | (exfalso; omega) | skip)
      | (refine splE (fun hc => ?_) (fun hc => ?_) <;> first | (exfalso; omega) | skip)
      | (refine splNE (fun hc => ?_) (fun hc => ?_) <;> first | (exfalso; omega) | skip)
      | ((with_reducible show CallEv _ _ 69 _ _ _ _ _); refine callE (k := 69) (fun β w' _ => Fvalid_ok f _) ?_)
      | ((with_reducible show CallEv _ _ 58 _ _ _ _ _); refine callE (k := 58) (fun β w' _ => within_ok _ _ _ _) ?_)
      | ((with_reducible show CallEv _ _ 67 _ _ _ _ _); refine callE (k := 67) (fun β w' _ => after_val f t _ ‹_› (by omega) (by omega)) ?_)
      | refine splB (fun hc => ?_) (fun hc => ?_)
  · exact ⟨fun β => by simp [*]; rfl, fun w' h => h⟩
  · exact ⟨fun β => by simp [*]; rfl, fun w' h => h⟩
  · exact ⟨fun β => by simp [*]; rfl, fun w' h => h⟩
end Go.Proofs.Ytlehjapeomallaa

/- The first ticks at which the ends of a flyer are not above a height: what these functions return. -/
namespace Go.Proofs.Ytlehjapeomallaa
open Go Sx Go.RowKit

/-- The first of so many ticks from t on at which g is at most h; -1: there is none. -/
def dnF (g : Int → Int) (h : Int) : Nat → Int → Int
  | 0, _ => -1
  | k + 1, t => if g t ≤ h then t else dnF g h k (t + 1)

theorem dnF_bd (g : Int → Int) (h : Int) : ∀ (k : Nat) (t : Int), dnF g h k t = -1 ∨ (t ≤ dnF g h k t ∧ dnF g h k t < t + k ∧ g (dnF g h k t) ≤ h ∧ ∀ s, t ≤ s → s < dnF g h k t → ¬ g s ≤ h)
  | 0, t => .inl rfl
  | k + 1, t => by
    simp only [dnF]
    split
    · exact .inr ⟨by omega, by omega, ‹_›, fun s h1 h2 => by omega⟩
    · rcases dnF_bd g h k (t + 1) with e | ⟨e1, e2, e3, e4⟩
      · exact .inl e
      · refine .inr ⟨by omega, by omega, e3, fun s h1 h2 => ?_⟩
        by_cases hs : s = t
        · subst hs; assumption
        · exact e4 s (by omega) h2
theorem dnF_none (g : Int → Int) (h : Int) : ∀ (k : Nat) (t : Int), 0 ≤ t → dnF g h k t = -1 → ∀ s, t ≤ s → s < t + k → ¬ g s ≤ h
  | 0, t, _, _, s, h1, h2 => by omega
  | k + 1, t, h0, he, s, h1, h2 => by
    simp only [dnF] at he
    split at he
    · omega
    · by_cases hs : s = t
      · subst hs; assumption
      · exact dnF_none g h k (t + 1) (by omega) he s (by omega) (by omega)


theorem end87_ok (r : Rg) (w : World) : Calls Try.prog 87 #[r.v] w fun e w' => e = .returned (iv r.lo) ∧ Below w.heap.size w w' := by
  refine calls_val env mixed Try.func87 has87 Try.ntmps87 [r.v] (by simp) ?_
  repeat'
    conv => whnf
    first
      | refine And.intro (a := drawB _ = true) (by kernel_rfl) ?_
      | refine And.intro (a := (_ : Bool) = true) rfl ?_
      | refine And.intro (a := (_ : Bool) = true ∧ (_ : Bool) = true) ⟨rfl, rfl⟩ ?_
      | refine And.intro (a := (_ : Bool) = true ∧ (_ : List _) = []) ⟨rfl, rfl⟩ ?_
      | refine And.intro (a := IR _ _) (And.intro (by omega) (by omega)) ?_
      | refine splT ?_
      | refine splF ?_
      | refine splNot ?_
      | (refine splIn (fun hc => ?_) (fun hc => ?_) <;> first | (exfalso; omega) | skip)
      | (refine splD (fun hc => ?_) (fun hc => ?_) <;> first | (exfalso; omega) | skip)
      | (refine splE (fun hc => ?_) (fun hc => ?_) <;> first | (exfalso; omega) | skip)
      | (refine splNE (fun hc => ?_) (fun hc => ?_) <;> first | (exfalso; omega) | skip)
  exact ⟨fun β => rfl, fun w' h => h⟩

theorem down87_ok (f : Fl) (h : Int) (w : World) (hf : f.ok = true) :
    Calls Try.prog 86 #[f.v, iv h, .func (.func 87) #[] #[]] w fun e w' => e = .returned (iv (dnF (fun t => (f.af t).z.lo) h 301 0)) ∧ Below w.heap.size w w' := by
  refine calls_val env mixed Try.func86 has86 Try.ntmps86 [f.v, iv h, .func (.func 87) #[] #[]] (by simp) ?_
  repeat'
    conv => whnf
    first
      | refine And.intro (a := drawB _ = true) (by kernel_rfl) ?_
      | refine And.intro (a := (_ : Bool) = true) rfl ?_
      | refine And.intro (a := (_ : Bool) = true ∧ (_ : Bool) = true) ⟨rfl, rfl⟩ ?_
      | refine And.intro (a := (_ : Bool) = true ∧ (_ : List _) = []) ⟨rfl, rfl⟩ ?_
      | refine And.intro (a := IR _ _) (And.intro (by omega) (by omega)) ?_
      | refine splT ?_
      | refine splF ?_
      | refine splNot ?_
      | (refine splIn (fun hc => ?_) (fun hc => ?_) <;> first | (exfalso; omega) | skip)
      | (refine splD (fun hc => ?_) (fun hc => ?_) <;> first | (exfalso; omega) | skip)
      | (refine splE (fun hc => ?_) (fun hc => ?_) <;> first | (exfalso; omega) | skip)
      | (refine splNE (fun hc => ?_) (fun hc => ?_) <;> first | (exfalso; omega) | skip)
  refine loopE (fun t : Int => [(1, .v (iv h)), (2, .v (.func (.func 87) #[] #[])), (3, .ptr 0 0), (7, .v (iv t))]) (fun _ => [(0, .cells [.v (iv f.a.x.lo), .v (iv f.a.x.hi), .v (iv f.a.z.lo), .v (iv f.a.z.hi), .v (iv f.s.x.lo), .v (iv f.s.x.hi), .v (iv f.s.z.lo), .v (iv f.s.z.hi), .v (iv f.m)] 49)])
    (fun t => (0 ≤ t ∧ t ≤ 301) ∧ dnF (fun t => (f.af t).z.lo) h (301 - t).toNat t = dnF (fun t => (f.af t).z.lo) h 301 0) (fun t => (301 - t).toNat) 0 ⟨by omega, rfl⟩ ⟨rfl, rfl, rfl, rfl, trivial⟩ ⟨rfl, trivial⟩ (fun _ => ⟨rfl, rfl⟩) ?_
  rintro t ⟨⟨g0, g1⟩, g2⟩
  repeat'
    conv => whnf
    first
      | refine And.intro (a := drawB _ = true) (by kernel_rfl) ?_
      | refine And.intro (a := (_ : Bool) = true) rfl ?_
      | refine And.intro (a := (_ : Bool) = true ∧ (_ : Bool) = true) ⟨rfl, rfl⟩ ?_
      | refine And.intro (a := (_ : Bool) = true ∧ (_ : List _) = []) ⟨rfl, rfl⟩ ?_
      | refine And.intro (a := IR _ _) (And.intro (by omega) (by omega)) ?_
      | refine splT ?_
      | refine splF ?_
      | refine splNot ?_
      | (refine splIn (fun hc => ?_) (fun hc => ?_) <;> first | (exfalso; omega) | skip)
      | (refine splD (fun hc => ?_) (fun hc => ?_) <;> first | (exfalso; omega) | skip)
      | (refine splE (fun hc => ?_) (fun hc => ?_) <;> first | (exfalso; omega) | skip)
      | (refine splNE (fun hc => ?_) (fun hc => ?_) <;> first | (exfalso; omega) | skip)
      | ((with_reducible show CallEv _ _ 67 _ _ _ _ _); refine callE (k := 67) (fun β w' _ => after_val f t _ hf g0 (by omega)) ?_)
      | ((with_reducible show CallEv _ _ 87 _ _ _ _ _); refine callE (k := 87) (fun β w' _ => end87_ok ⟨_, _⟩ _) ?_)
  · rw [show (301 - t).toNat = (300 - t).toNat + 1 from by omega, dnF, if_pos ‹_›] at g2
    exact ⟨fun β => by rw [← g2]; rfl, fun w' h => h⟩
  · rw [show (301 - t).toNat = (301 - (t + 1)).toNat + 1 from by omega, dnF, if_neg ‹_›] at g2
    exact ⟨t + 1, ⟨by omega, g2⟩, by omega, Ent.weak rfl ⟨rfl, rfl, rfl, rfl, trivial⟩ ⟨rfl, trivial⟩ fun _ h => h⟩
  · rw [show (301 - t).toNat = 0 from by omega, dnF] at g2
    exact ⟨fun β => by rw [← g2]; rfl, fun w' h => h⟩


theorem end88_ok (r : Rg) (w : World) : Calls Try.prog 88 #[r.v] w fun e w' => e = .returned (iv r.hi) ∧ Below w.heap.size w w' := by
  refine calls_val env mixed Try.func88 has88 Try.ntmps88 [r.v] (by simp) ?_
  repeat'
    conv => whnf
    first
      | refine And.intro (a := drawB _ = true) (by kernel_rfl) ?_
      | refine And.intro (a := (_ : Bool) = true) rfl ?_
      | refine And.intro (a := (_ : Bool) = true ∧ (_ : Bool) = true) ⟨rfl, rfl⟩ ?_
      | refine And.intro (a := (_ : Bool) = true ∧ (_ : List _) = []) ⟨rfl, rfl⟩ ?_
      | refine And.intro (a := IR _ _) (And.intro (by omega) (by omega)) ?_
      | refine splT ?_
      | refine splF ?_
      | refine splNot ?_
      | (refine splIn (fun hc => ?_) (fun hc => ?_) <;> first | (exfalso; omega) | skip)
      | (refine splD (fun hc => ?_) (fun hc => ?_) <;> first | (exfalso; omega) | skip)
      | (refine splE (fun hc => ?_) (fun hc => ?_) <;> first | (exfalso; omega) | skip)
      | (refine splNE (fun hc => ?_) (fun hc => ?_) <;> first | (exfalso; omega) | skip)
  exact ⟨fun β => rfl, fun w' h => h⟩

theorem down88_ok (f : Fl) (h : Int) (w : World) (hf : f.ok = true) :
    Calls Try.prog 86 #[f.v, iv h, .func (.func 88) #[] #[]] w fun e w' => e = .returned (iv (dnF (fun t => (f.af t).z.hi) h 301 0)) ∧ Below w.heap.size w w' := by
  refine calls_val env mixed Try.func86 has86 Try.ntmps86 [f.v, iv h, .func (.func 88) #[] #[]] (by simp) ?_
  repeat'
    conv => whnf
    first
      | refine And.intro (a := drawB _ = true) (by kernel_rfl) ?_
      | refine And.intro (a := (_ : Bool) = true) rfl ?_
      | refine And.intro (a := (_ : Bool) = true ∧ (_ : Bool) = true) ⟨rfl, rfl⟩ ?_
      | refine And.intro (a := (_ : Bool) = true ∧ (_ : List _) = []) ⟨rfl, rfl⟩ ?_
      | refine And.intro (a := IR _ _) (And.intro (by omega) (by omega)) ?_
      | refine splT ?_
      | refine splF ?_
      | refine splNot ?_
      | (refine splIn (fun hc => ?_) (fun hc => ?_) <;> first | (exfalso; omega) | skip)
      | (refine splD (fun hc => ?_) (fun hc => ?_) <;> first | (exfalso; omega) | skip)
      | (refine splE (fun hc => ?_) (fun hc => ?_) <;> first | (exfalso; omega) | skip)
      | (refine splNE (fun hc => ?_) (fun hc => ?_) <;> first | (exfalso; omega) | skip)
  refine loopE (fun t : Int => [(1, .v (iv h)), (2, .v (.func (.func 88) #[] #[])), (3, .ptr 0 0), (7, .v (iv t))]) (fun _ => [(0, .cells [.v (iv f.a.x.lo), .v (iv f.a.x.hi), .v (iv f.a.z.lo), .v (iv f.a.z.hi), .v (iv f.s.x.lo), .v (iv f.s.x.hi), .v (iv f.s.z.lo), .v (iv f.s.z.hi), .v (iv f.m)] 49)])
    (fun t => (0 ≤ t ∧ t ≤ 301) ∧ dnF (fun t => (f.af t).z.hi) h (301 - t).toNat t = dnF (fun t => (f.af t).z.hi) h 301 0) (fun t => (301 - t).toNat) 0 ⟨by omega, rfl⟩ ⟨rfl, rfl, rfl, rfl, trivial⟩ ⟨rfl, trivial⟩ (fun _ => ⟨rfl, rfl⟩) ?_
  rintro t ⟨⟨g0, g1⟩, g2⟩
  repeat'
    conv => whnf
    first
      | refine And.intro (a := drawB _ = true) (by kernel_rfl) ?_
      | refine And.intro (a := (_ : Bool) = true) rfl ?_
      | refine And.intro (a := (_ : Bool) = true ∧ (_ : Bool) = true) ⟨rfl, rfl⟩ ?_
      | refine And.intro (a := (_ : Bool) = true ∧ (_ : List _) = []) ⟨rfl, rfl⟩ ?_
      | refine And.intro (a := IR _ _) (And.intro (by omega) (by omega)) ?_
      | refine splT ?_
      | refine splF ?_
      | refine splNot ?_
      | (refine splIn (fun hc => ?_) (fun hc => ?_) <;> first | (exfalso; omega) | skip)
      | (refine splD (fun hc => ?_) (fun hc => ?_) <;> first | (exfalso; omega) | skip)
      | (refine splE (fun hc => ?_) (fun hc => ?_) <;> first | (exfalso; omega) | skip)
      | (refine splNE (fun hc => ?_) (fun hc => ?_) <;> first | (exfalso; omega) | skip)
      | ((with_reducible show CallEv _ _ 67 _ _ _ _ _); refine callE (k := 67) (fun β w' _ => after_val f t _ hf g0 (by omega)) ?_)
      | ((with_reducible show CallEv _ _ 88 _ _ _ _ _); refine callE (k := 88) (fun β w' _ => end88_ok ⟨_, _⟩ _) ?_)
  · rw [show (301 - t).toNat = (300 - t).toNat + 1 from by omega, dnF, if_pos ‹_›] at g2
    exact ⟨fun β => by rw [← g2]; rfl, fun w' h => h⟩
  · rw [show (301 - t).toNat = (301 - (t + 1)).toNat + 1 from by omega, dnF, if_neg ‹_›] at g2
    exact ⟨t + 1, ⟨by omega, g2⟩, by omega, Ent.weak rfl ⟨rfl, rfl, rfl, rfl, trivial⟩ ⟨rfl, trivial⟩ fun _ h => h⟩
  · rw [show (301 - t).toNat = 0 from by omega, dnF] at g2
    exact ⟨fun β => by rw [← g2]; rfl, fun w' h => h⟩


def lnd (f : Fl) (n : Nt) : Rg := ⟨dnF (fun t => (f.af t).z.lo) n.h 301 0, dnF (fun t => (f.af t).z.hi) n.h 301 0⟩

theorem landing_ok (f : Fl) (n : Nt) (w : World) (hf : f.ok = true) :
    Calls Try.prog 66 #[f.v, n.v] w fun e w' => e = .returned (.tuple #[(lnd f n).v, .bool (decide ((lnd f n).hi ≥ 0))]) ∧ Below w.heap.size w w' := by
  refine calls_val env mixed Try.func66 has66 Try.ntmps66 [f.v, n.v] (by simp) ?_
  repeat'
    conv => whnf
    first
      | refine And.intro (a := drawB _ = true) (by kernel_rfl) ?_
      | refine And.intro (a := (_ : Bool) = true) rfl ?_
      | refine And.intro (a := (_ : Bool) = true ∧ (_ : Bool) = true) ⟨rfl, rfl⟩ ?_
      | refine And.intro (a := (_ : Bool) = true ∧ (_ : List _) = []) ⟨rfl, rfl⟩ ?_
      | refine And.intro (a := IR _ _) (And.intro (by omega) (by omega)) ?_
      | refine splT ?_
      | refine splF ?_
      | refine splNot ?_
      | (refine splIn (fun hc => ?_) (fun hc => ?_) <;> first | (exfalso; omega) | skip)
      | (refine splD (fun hc => ?_) (fun hc => ?_) <;> first | (exfalso; omega) | skip)
      | (refine splE (fun hc => ?_) (fun hc => ?_) <;> first | (exfalso; omega) | skip)
      | (refine splNE (fun hc => ?_) (fun hc => ?_) <;> first | (exfalso; omega) | skip)
      | ((with_reducible show CallEv _ _ 86 [_, _, .v (.func (.func 87) _ _)] _ _ _ _); refine callE (k := 86) (fun β w' hh => down87_ok f n.h _ hf) ?_)
      | ((with_reducible show CallEv _ _ 86 _ _ _ _ _); refine callE (k := 86) (fun β w' hh => down88_ok f n.h _ hf) ?_)
  all_goals exact ⟨fun β => rfl, fun w' h => h⟩

theorem netted_ok (f : Fl) (n : Nt) (w : World) :
    Calls Try.prog 65 #[f.v, n.v] w fun e w' => e = .returned (iv (if f.ok = true ∧ n.ok = true then 0 else 1)) ∧ Below w.heap.size w w' := by
  refine calls_val env mixed Try.func65 has65 Try.ntmps65 [f.v, n.v] (by simp) ?_
  repeat'
    conv => whnf
    first
      | refine And.intro (a := drawB _ = true) (by kernel_rfl) ?_
      | refine And.intro (a := (_ : Bool) = true) rfl ?_
      | refine And.intro (a := (_ : Bool) = true ∧ (_ : Bool) = true) ⟨rfl, rfl⟩ ?_
      | refine And.intro (a := (_ : Bool) = true ∧ (_ : List _) = []) ⟨rfl, rfl⟩ ?_
      | refine And.intro (a := IR _ _) (And.intro (by omega) (by omega)) ?_
      | refine splT ?_
      | refine splF ?_
      | refine splNot ?_
      | (refine splIn (fun hc => ?_) (fun hc => ?_) <;> first | (exfalso; omega) | skip)
      | (refine splD (fun hc => ?_) (fun hc => ?_) <;> first | (exfalso; omega) | skip)
      | (refine splE (fun hc => ?_) (fun hc => ?_) <;> first | (exfalso; omega) | skip)
      | (refine splNE (fun hc => ?_) (fun hc => ?_) <;> first | (exfalso; omega) | skip)
      | ((with_reducible show CallEv _ _ 69 _ _ _ _ _); refine callE (k := 69) (fun β w' _ => Fvalid_ok f _) ?_)
      | ((with_reducible show CallEv _ _ 85 _ _ _ _ _); refine callE (k := 85) (fun β w' _ => Nvalid_ok n _) ?_)
      | refine splB (fun hc => ?_) (fun hc => ?_)
  all_goals exact ⟨fun β => by simp [*]; rfl, fun w' h => h⟩
end Go.Proofs.Ytlehjapeomallaa

/- When a flyer comes to a net, and whether the net takes it: what these functions return. -/
namespace Go.Proofs.Ytlehjapeomallaa
open Go Sx Go.RowKit

theorem Fl.zle {f : Fl} (hf : f.ok = true) {t : Int} (h0 : 0 ≤ t) : (f.af t).z.lo ≤ (f.af t).z.hi := by
  rw [Fl.ok_iff] at hf
  have := Int.mul_le_mul_of_nonneg_left hf.2.1.2.2.1 h0
  simp only [Fl.af]; omega

theorem lnd_bd {f : Fl} (n : Nt) (hf : f.ok = true) (h : (lnd f n).hi ≥ 0) : 0 ≤ (lnd f n).lo ∧ (lnd f n).lo ≤ (lnd f n).hi ∧ (lnd f n).hi ≤ 300 := by
  rcases dnF_bd (fun t => (f.af t).z.hi) n.h 301 0 with e | ⟨e1, e2, e3, e4⟩
  · simp only [lnd] at h ⊢; omega
  · rcases dnF_bd (fun t => (f.af t).z.lo) n.h 301 0 with e' | ⟨f1, f2, f3, f4⟩
    · have := dnF_none (fun t => (f.af t).z.lo) n.h 301 0 (by omega) e' _ e1 (by omega)
      have h3 := Fl.zle hf e1
      exact absurd (Int.le_trans h3 e3) this
    · refine ⟨f1, ?_, by simp only [lnd]; omega⟩
      refine Int.not_lt.1 fun hlt => ?_
      have := f4 _ e1 hlt
      exact this (Int.le_trans (Fl.zle hf e1) e3)

theorem netted_y (f : Fl) (n : Nt) (w : World) (hk : f.ok = true ∧ n.ok = true) :
    Calls Try.prog 65 #[f.v, n.v] w fun e w' => e = .returned (iv 0) ∧ Below w.heap.size w w' := by have := netted_ok f n w; rwa [if_pos hk] at this
theorem netted_n (f : Fl) (n : Nt) (w : World) (hk : ¬ (f.ok = true ∧ n.ok = true)) :
    Calls Try.prog 65 #[f.v, n.v] w fun e w' => e = .returned (iv 1) ∧ Below w.heap.size w w' := by have := netted_ok f n w; rwa [if_neg hk] at this
theorem landing_y (f : Fl) (n : Nt) (w : World) (hf : f.ok = true) (hh : (lnd f n).hi ≥ 0) :
    Calls Try.prog 66 #[f.v, n.v] w fun e w' => e = .returned (.tuple #[(lnd f n).v, .bool true]) ∧ Below w.heap.size w w' := by have := landing_ok f n w hf; rwa [decide_eq_true hh] at this
theorem landing_n (f : Fl) (n : Nt) (w : World) (hf : f.ok = true) (hh : ¬ (lnd f n).hi ≥ 0) :
    Calls Try.prog 66 #[f.v, n.v] w fun e w' => e = .returned (.tuple #[(lnd f n).v, .bool false]) ∧ Below w.heap.size w w' := by have := landing_ok f n w hf; rwa [decide_eq_false hh] at this

theorem Landing_ok (f : Fl) (n : Nt) (w : World) :
    Calls Try.prog 33 #[f.v, n.v] w fun e w' => e = .returned (.tuple #[(if (f.ok = true ∧ n.ok = true) ∧ (lnd f n).hi ≥ 0 then lnd f n else ⟨0, 0⟩ : Rg).v, iv (if f.ok = true ∧ n.ok = true then (if (lnd f n).hi ≥ 0 then 0 else 7) else 1)]) ∧ Below w.heap.size w w' := by
  refine calls_val env mixed Try.func33 has33 Try.ntmps33 [f.v, n.v] (by simp) ?_
  by_cases hk : f.ok = true ∧ n.ok = true
  · rw [if_pos hk]
    by_cases hh : (lnd f n).hi ≥ 0
    · rw [if_pos hh, if_pos ⟨hk, hh⟩]
      repeat'
        conv => whnf
        first
          | refine And.intro (a := drawB _ = true) (by kernel_rfl) ?_
          | refine And.intro (a := (_ : Bool) = true) rfl ?_
          | refine And.intro (a := (_ : Bool) = true ∧ (_ : Bool) = true) ⟨rfl, rfl⟩ ?_
          | refine And.intro (a := (_ : Bool) = true ∧ (_ : List _) = []) ⟨rfl, rfl⟩ ?_
          | refine And.intro (a := IR _ _) (And.intro (by omega) (by omega)) ?_
          | refine splT ?_
          | refine splF ?_
          | refine splNot ?_
          | (refine splIn (fun hc => ?_) (fun hc => ?_) <;> first | (exfalso; omega) | skip)
          | (refine splD (fun hc => ?_) (fun hc => ?_) <;> first | (exfalso; omega) | skip)
          | (refine splE (fun hc => ?_) (fun hc => ?_) <;> first | (exfalso; omega) | skip)
          | (refine splNE (fun hc => ?_) (fun hc => ?_) <;> first | (exfalso; omega) | skip)
          | ((with_reducible show CallEv _ _ 65 _ _ _ _ _); refine callE (k := 65) (fun β w' _ => netted_y f n w' hk) ?_)
          | ((with_reducible show CallEv _ _ 66 _ _ _ _ _); refine callE (k := 66) (fun β w' _ => landing_y f n w' hk.1 hh) ?_)
      exact ⟨fun β => rfl, fun w' h => h⟩
    · rw [if_neg hh, if_neg (fun h => hh h.2)]
      repeat'
        conv => whnf
        first
          | refine And.intro (a := drawB _ = true) (by kernel_rfl) ?_
          | refine And.intro (a := (_ : Bool) = true) rfl ?_
          | refine And.intro (a := (_ : Bool) = true ∧ (_ : Bool) = true) ⟨rfl, rfl⟩ ?_
          | refine And.intro (a := (_ : Bool) = true ∧ (_ : List _) = []) ⟨rfl, rfl⟩ ?_
          | refine And.intro (a := IR _ _) (And.intro (by omega) (by omega)) ?_
          | refine splT ?_
          | refine splF ?_
          | refine splNot ?_
          | (refine splIn (fun hc => ?_) (fun hc => ?_) <;> first | (exfalso; omega) | skip)
          | (refine splD (fun hc => ?_) (fun hc => ?_) <;> first | (exfalso; omega) | skip)
          | (refine splE (fun hc => ?_) (fun hc => ?_) <;> first | (exfalso; omega) | skip)
          | (refine splNE (fun hc => ?_) (fun hc => ?_) <;> first | (exfalso; omega) | skip)
          | ((with_reducible show CallEv _ _ 65 _ _ _ _ _); refine callE (k := 65) (fun β w' _ => netted_y f n w' hk) ?_)
          | ((with_reducible show CallEv _ _ 66 _ _ _ _ _); refine callE (k := 66) (fun β w' _ => landing_n f n w' hk.1 hh) ?_)
      exact ⟨fun β => rfl, fun w' h => h⟩
  · rw [if_neg hk, if_neg (fun h => hk h.1)]
    repeat'
      conv => whnf
      first
        | refine And.intro (a := drawB _ = true) (by kernel_rfl) ?_
        | refine And.intro (a := (_ : Bool) = true) rfl ?_
        | refine And.intro (a := (_ : Bool) = true ∧ (_ : Bool) = true) ⟨rfl, rfl⟩ ?_
        | refine And.intro (a := (_ : Bool) = true ∧ (_ : List _) = []) ⟨rfl, rfl⟩ ?_
        | refine And.intro (a := IR _ _) (And.intro (by omega) (by omega)) ?_
        | refine splT ?_
        | refine splF ?_
        | refine splNot ?_
        | (refine splIn (fun hc => ?_) (fun hc => ?_) <;> first | (exfalso; omega) | skip)
        | (refine splD (fun hc => ?_) (fun hc => ?_) <;> first | (exfalso; omega) | skip)
        | (refine splE (fun hc => ?_) (fun hc => ?_) <;> first | (exfalso; omega) | skip)
        | (refine splNE (fun hc => ?_) (fun hc => ?_) <;> first | (exfalso; omega) | skip)
        | ((with_reducible show CallEv _ _ 65 _ _ _ _ _); refine callE (k := 65) (fun β w' _ => netted_n f n w' hk) ?_)
    exact ⟨fun β => rfl, fun w' h => h⟩

/-- Is the flyer over the net for so many ticks from t on? -/
def ovF (f : Fl) (n : Nt) : Nat → Int → Bool
  | 0, _ => true
  | k + 1, t => (decide (n.x.lo ≤ (f.af t).x.lo) && decide ((f.af t).x.hi ≤ n.x.hi)) && ovF f n k (t + 1)

theorem ovF_iff (f : Fl) (n : Nt) : ∀ k t, ovF f n k t = true ↔ ∀ s, t ≤ s → s < t + k → n.x.lo ≤ (f.af s).x.lo ∧ (f.af s).x.hi ≤ n.x.hi
  | 0, t => by simp only [ovF, true_iff]; intro s h1 h2; omega
  | k + 1, t => by
    simp only [ovF, Bool.and_eq_true, decide_eq_true_eq, ovF_iff f n k (t + 1)]
    constructor
    · rintro ⟨h, h'⟩ s h1 h2
      by_cases hs : s = t
      · subst hs; exact h
      · exact h' s (by omega) (by omega)
    · exact fun h => ⟨h t (by omega) (by omega), fun s h1 h2 => h s (by omega) (by omega)⟩

def tk (f : Fl) (n : Nt) : Bool := decide ((lnd f n).hi ≥ 0) && ovF f n ((lnd f n).hi + 1 - (lnd f n).lo).toNat (lnd f n).lo

theorem Takes_ok (f : Fl) (n : Nt) (w : World) :
    Calls Try.prog 36 #[f.v, n.v] w fun e w' => e = .returned (.tuple #[.bool ((f.ok && n.ok) && tk f n), iv (if f.ok = true ∧ n.ok = true then 0 else 1)]) ∧ Below w.heap.size w w' := by
  refine calls_val env mixed Try.func36 has36 Try.ntmps36 [f.v, n.v] (by simp) ?_
  by_cases hk : f.ok = true ∧ n.ok = true
  · rw [if_pos hk, hk.1, hk.2]
    have hl := lnd_bd n hk.1
    repeat'
      conv => whnf
      first
        | refine And.intro (a := drawB _ = true) (by kernel_rfl) ?_
        | refine And.intro (a := (_ : Bool) = true) rfl ?_
        | refine And.intro (a := (_ : Bool) = true ∧ (_ : Bool) = true) ⟨rfl, rfl⟩ ?_
        | refine And.intro (a := (_ : Bool) = true ∧ (_ : List _) = []) ⟨rfl, rfl⟩ ?_
        | refine And.intro (a := IR _ _) (And.intro (by omega) (by omega)) ?_
        | refine splT ?_
        | refine splF ?_
        | refine splNot ?_
        | (refine splIn (fun hc => ?_) (fun hc => ?_) <;> first | (exfalso; omega) | skip)
        | (refine splD (fun hc => ?_) (fun hc => ?_) <;> first | (exfalso; omega) | skip)
        | (refine splE (fun hc => ?_) (fun hc => ?_) <;> first | (exfalso; omega) | skip)
        | (refine splNE (fun hc => ?_) (fun hc => ?_) <;> first | (exfalso; omega) | skip)
        | ((with_reducible show CallEv _ _ 65 _ _ _ _ _); refine callE (k := 65) (fun β w' _ => netted_y f n w' hk) ?_)
        | ((with_reducible show CallEv _ _ 66 _ _ _ _ _); refine callE (k := 66) (fun β w' _ => landing_ok f n w' hk.1) ?_)
    refine loopE2 (fun (b : Bool) (t : Int) => [(2, .ptr 0 0), (3, .ptr 1 0), (7, .ptr 2 0), (8, .v (.bool b)), (9, .v (iv t))]) (fun _ _ => [(0, .cells [.v (iv f.a.x.lo), .v (iv f.a.x.hi), .v (iv f.a.z.lo), .v (iv f.a.z.hi), .v (iv f.s.x.lo), .v (iv f.s.x.hi), .v (iv f.s.z.lo), .v (iv f.s.z.hi), .v (iv f.m)] 49), (1, .cells [.v (iv n.x.lo), .v (iv n.x.hi), .v (iv n.h)] 74), (2, .cells [.v (iv (lnd f n).lo), .v (iv (lnd f n).hi)] 23)])
      (fun b t => (b = true → (lnd f n).hi ≥ 0 ∧ (lnd f n).lo ≤ t ∧ t ≤ (lnd f n).hi + 1) ∧ (b && ovF f n ((lnd f n).hi + 1 - t).toNat t) = tk f n) (fun b t => cond b (301 - t).toNat.succ 0) (decide ((lnd f n).hi ≥ 0)) (lnd f n).lo
      ⟨fun h => by have := hl (of_decide_eq_true h); have := of_decide_eq_true h; omega, rfl⟩ ⟨rfl, rfl, rfl, rfl, rfl, trivial⟩ ⟨rfl, rfl, rfl, trivial⟩ (fun _ _ => ⟨rfl, rfl⟩) ?_
    intro is t ⟨g0, g1⟩
    cases is
    · skip
      repeat'
        conv => whnf
        first
          | refine And.intro (a := drawB _ = true) (by kernel_rfl) ?_
          | refine And.intro (a := (_ : Bool) = true) rfl ?_
          | refine And.intro (a := (_ : Bool) = true ∧ (_ : Bool) = true) ⟨rfl, rfl⟩ ?_
          | refine And.intro (a := (_ : Bool) = true ∧ (_ : List _) = []) ⟨rfl, rfl⟩ ?_
          | refine And.intro (a := IR _ _) (And.intro (by omega) (by omega)) ?_
          | refine splT ?_
          | refine splF ?_
          | refine splNot ?_
          | (refine splIn (fun hc => ?_) (fun hc => ?_) <;> first | (exfalso; omega) | skip)
          | (refine splD (fun hc => ?_) (fun hc => ?_) <;> first | (exfalso; omega) | skip)
          | (refine splE (fun hc => ?_) (fun hc => ?_) <;> first | (exfalso; omega) | skip)
          | (refine splNE (fun hc => ?_) (fun hc => ?_) <;> first | (exfalso; omega) | skip)
      exact ⟨fun β => by rw [← g1]; rfl, fun w' h => h⟩
    · have g0 := g0 rfl
      have hl := hl g0.1
      repeat'
        conv => whnf
        first
          | refine And.intro (a := drawB _ = true) (by kernel_rfl) ?_
          | refine And.intro (a := (_ : Bool) = true) rfl ?_
          | refine And.intro (a := (_ : Bool) = true ∧ (_ : Bool) = true) ⟨rfl, rfl⟩ ?_
          | refine And.intro (a := (_ : Bool) = true ∧ (_ : List _) = []) ⟨rfl, rfl⟩ ?_
          | refine And.intro (a := IR _ _) (And.intro (by omega) (by omega)) ?_
          | refine splT ?_
          | refine splF ?_
          | refine splNot ?_
          | (refine splIn (fun hc => ?_) (fun hc => ?_) <;> first | (exfalso; omega) | skip)
          | (refine splD (fun hc => ?_) (fun hc => ?_) <;> first | (exfalso; omega) | skip)
          | (refine splE (fun hc => ?_) (fun hc => ?_) <;> first | (exfalso; omega) | skip)
          | (refine splNE (fun hc => ?_) (fun hc => ?_) <;> first | (exfalso; omega) | skip)
          | ((with_reducible show CallEv _ _ 67 _ _ _ _ _); refine callE (k := 67) (fun β w' _ => after_val f t _ hk.1 (by omega) (by omega)) ?_)
      · rw [show ((lnd f n).hi + 1 - t).toNat = ((lnd f n).hi - t).toNat + 1 from by omega, ovF] at g1
        refine ⟨decide ((f.af t).x.hi ≤ n.x.hi), t + 1, ⟨fun _ => by omega, ?_⟩, ?_, Ent.weak rfl ⟨rfl, rfl, rfl, rfl, rfl, trivial⟩ ⟨rfl, rfl, rfl, trivial⟩ fun _ h => h⟩
        · rw [← g1, show (lnd f n).hi + 1 - (t + 1) = (lnd f n).hi - t from by omega]; simp [*]
        · cases decide ((f.af t).x.hi ≤ n.x.hi) <;> simp only [cond_true, cond_false] <;> omega
      · rw [show ((lnd f n).hi + 1 - t).toNat = ((lnd f n).hi - t).toNat + 1 from by omega, ovF] at g1
        refine ⟨false, t + 1, ⟨fun h => (by cases h), ?_⟩, ?_, Ent.weak rfl ⟨rfl, rfl, rfl, rfl, rfl, trivial⟩ ⟨rfl, rfl, rfl, trivial⟩ fun _ h => h⟩
        · rw [← g1]; simp [*]
        · simp only [cond_true, cond_false]; omega
      · rw [show ((lnd f n).hi + 1 - t).toNat = 0 from by omega, ovF] at g1
        exact ⟨fun β => by rw [← g1]; rfl, fun w' h => h⟩
  · rw [if_neg hk, show (f.ok && n.ok) = false from by simpa using hk]
    repeat'
      conv => whnf
      first
        | refine And.intro (a := drawB _ = true) (by kernel_rfl) ?_
        | refine And.intro (a := (_ : Bool) = true) rfl ?_
        | refine And.intro (a := (_ : Bool) = true ∧ (_ : Bool) = true) ⟨rfl, rfl⟩ ?_
        | refine And.intro (a := (_ : Bool) = true ∧ (_ : List _) = []) ⟨rfl, rfl⟩ ?_
        | refine And.intro (a := IR _ _) (And.intro (by omega) (by omega)) ?_
        | refine splT ?_
        | refine splF ?_
        | refine splNot ?_
        | (refine splIn (fun hc => ?_) (fun hc => ?_) <;> first | (exfalso; omega) | skip)
        | (refine splD (fun hc => ?_) (fun hc => ?_) <;> first | (exfalso; omega) | skip)
        | (refine splE (fun hc => ?_) (fun hc => ?_) <;> first | (exfalso; omega) | skip)
        | (refine splNE (fun hc => ?_) (fun hc => ?_) <;> first | (exfalso; omega) | skip)
        | ((with_reducible show CallEv _ _ 65 _ _ _ _ _); refine callE (k := 65) (fun β w' _ => netted_n f n w' hk) ?_)
    exact ⟨fun β => rfl, fun w' h => h⟩
end Go.Proofs.Ytlehjapeomallaa

/- The greatest size of numbers, read out of a slice: what the function returns. -/
namespace Go.Proofs.Ytlehjapeomallaa
open Go Sx Go.RowKit

/-! ### Elements of a slice in memory -/
/-- The slice's elements are bs; each lies in sz cells, f tells them. -/
def Rd {α : Type} (sz : Nat) (f : α → List Value) (s : Value) (bs : List α) (w : World) : Prop :=
  (s = .slice none 0 0 ∧ bs = []) ∨ ∃ ad c, s = .slice (some ad) bs.length c ∧ ∀ k b, bs[k]? = some b → ∀ j v, (f b)[j]? = some v → w.cell? ((ad.add (k * sz)).add j) = some v

theorem ext_below {w w' : World} (h : Below w.heap.size w w') {a : Addr} {v : Value} (hv : w.cell? a = some v) : w'.cell? a = some v := by
  have hlt : a.block < w.heap.size := by
    unfold World.cell? at hv
    cases ho : w.heap[a.block]? with
    | none => simp [ho] at hv
    | some o => exact (Array.getElem?_eq_some_iff.1 ho).1
  exact (World.cell?_of_block (h.block _ hlt)).trans hv

theorem Rd.below {α : Type} {sz : Nat} {f : α → List Value} {s : Value} {bs : List α} {w w' : World} (h : Rd sz f s bs w) (hb : Below w.heap.size w w') : Rd sz f s bs w' := by
  rcases h with h | ⟨ad, c, h1, h2⟩
  · exact .inl h
  · exact .inr ⟨ad, c, h1, fun k b hk j v hv => ext_below hb (h2 k b hk j v hv)⟩

abbrev iF (n : Int) : List Value := [iv n]
abbrev Bx.cs (b : Bx) : List Value := [iv b.x.lo, iv b.x.hi, iv b.z.lo, iv b.z.hi]

/-- The greatest size of numbers, 0 at least. -/
def gr (xs : List Int) : Int := xs.foldl (fun n x => imax (imax n x) (-x)) 0
theorem gr_snoc (xs : List Int) (x : Int) : gr (xs ++ [x]) = imax (imax (gr xs) x) (-x) := by simp [gr]
theorem gr_take {xs : List Int} {k : Nat} {x : Int} (h : xs[k]? = some x) : gr (xs.take (k + 1)) = imax (imax (gr (xs.take k)) x) (-x) := by
  rw [List.take_add_one, h, Option.toList_some, gr_snoc]

theorem imax_bd {a b B : Int} (ha : a ≤ B) (hb : b ≤ B) : imax a b ≤ B := by unfold imax; split <;> omega
theorem imax_l (a b : Int) : a ≤ imax a b := by unfold imax; split <;> omega
theorem gr_bd (xs : List Int) (B : Int) (h0 : 0 ≤ B) (h : ∀ x ∈ xs, -B ≤ x ∧ x ≤ B) : 0 ≤ gr xs ∧ gr xs ≤ B := by
  have key : ∀ (l : List Int) (n : Int), 0 ≤ n → n ≤ B → (∀ x ∈ l, -B ≤ x ∧ x ≤ B) → 0 ≤ l.foldl (fun n x => imax (imax n x) (-x)) n ∧ l.foldl (fun n x => imax (imax n x) (-x)) n ≤ B := by
    intro l
    induction l with
    | nil => intro n h1 h2 _; exact ⟨h1, h2⟩
    | cons x r ih =>
      intro n h1 h2 h
      have hx := h x List.mem_cons_self
      rw [List.foldl_cons]
      refine ih _ ?_ (imax_bd (imax_bd h2 hx.2) (by omega)) fun y hy => h y (List.mem_cons_of_mem _ hy)
      exact Int.le_trans (Int.le_trans h1 (imax_l n x)) (imax_l _ _)
  exact key xs 0 (Int.le_refl 0) h0 h

theorem greatest_ok (ad : Addr) (c : Nat) (xs : List Int) (w : World) (hr : Rd 1 iF (.slice (some ad) xs.length c) xs w) (hl : xs.length ≤ 1000000) (hb : ∀ x ∈ xs, -1000000000000 ≤ x ∧ x ≤ 1000000000000) :
    Calls Try.prog 91 #[.slice (some ad) xs.length c] w fun e w' => e = .returned (iv (gr xs)) ∧ Below w.heap.size w w' := by
  refine calls_val env mixed Try.func91 has91 Try.ntmps91 [.slice (some ad) xs.length c] (by simp) ?_
  rcases hr with ⟨h0, _⟩ | ⟨ad', c', h0, hr⟩
  · cases h0
  cases h0
  repeat'
    conv => whnf
    first
      | refine And.intro (a := drawB _ = true) (by kernel_rfl) ?_
      | refine And.intro (a := (_ : Bool) = true) rfl ?_
      | refine And.intro (a := (_ : Bool) = true ∧ (_ : Bool) = true) ⟨rfl, rfl⟩ ?_
      | refine And.intro (a := (_ : Bool) = true ∧ (_ : List _) = []) ⟨rfl, rfl⟩ ?_
      | refine And.intro (a := IR _ _) (And.intro (by omega) (by omega)) ?_
      | refine And.intro (a := (0 : Int) ≤ _ ∧ _ < _) (And.intro (by omega) (by omega)) ?_
      | refine splT ?_
      | refine splF ?_
      | refine splNot ?_
      | (refine splIn (fun hc => ?_) (fun hc => ?_) <;> first | (exfalso; omega) | skip)
      | (refine splD (fun hc => ?_) (fun hc => ?_) <;> first | (exfalso; omega) | skip)
      | (refine splE (fun hc => ?_) (fun hc => ?_) <;> first | (exfalso; omega) | skip)
      | (refine splNE (fun hc => ?_) (fun hc => ?_) <;> first | (exfalso; omega) | skip)
  refine loopE (fun k : Nat => [(2, .v (iv (gr (xs.take k)))), (5, .v (.slice (some ad) xs.length c)), (6, .v (iv xs.length)), (7, .v (iv k))]) (fun _ => [])
    (fun k => k ≤ xs.length) (fun k => xs.length - k) 0 (Nat.zero_le _) ⟨rfl, rfl, rfl, rfl, trivial⟩ trivial (fun _ => ⟨rfl, rfl⟩) ?_
  intro k hk
  have hx : ∀ h : k < xs.length, ∀ w', Below w.heap.size w w' → ∀ j v, [iv (xs[k]'h)][j]? = some v → w'.cell? (((ad.add (((k : Int).toNat) * 1))).add j) = some v := fun h w' hw' j v hv => by
    rw [Int.toNat_natCast]
    exact ext_below hw' (hr k _ (List.getElem?_eq_getElem h) j v hv)
  have hbk : ∀ h : k < xs.length, -1000000000000 ≤ xs[k]'h ∧ xs[k]'h ≤ 1000000000000 := fun h => hb _ (List.getElem_mem h)
  repeat'
    conv => whnf
    first
      | refine And.intro (a := drawB _ = true) (by kernel_rfl) ?_
      | refine And.intro (a := (_ : Bool) = true) rfl ?_
      | refine And.intro (a := (_ : Bool) = true ∧ (_ : Bool) = true) ⟨rfl, rfl⟩ ?_
      | refine And.intro (a := (_ : Bool) = true ∧ (_ : List _) = []) ⟨rfl, rfl⟩ ?_
      | refine And.intro (a := IR _ _) (And.intro (by omega) (by omega)) ?_
      | refine And.intro (a := (0 : Int) ≤ _ ∧ _ < _) (And.intro (by omega) (by omega)) ?_
      | refine splT ?_
      | refine splF ?_
      | refine splNot ?_
      | (refine splIn (fun hc => ?_) (fun hc => ?_) <;> first | (exfalso; omega) | skip)
      | (refine splD (fun hc => ?_) (fun hc => ?_) <;> first | (exfalso; omega) | skip)
      | (refine splE (fun hc => ?_) (fun hc => ?_) <;> first | (exfalso; omega) | skip)
      | (refine splNE (fun hc => ?_) (fun hc => ?_) <;> first | (exfalso; omega) | skip)
      | refine ⟨[iv (xs[k]'(by omega))], ⟨rfl, hx (by omega)⟩, ?_⟩
      | refine And.intro (a := IR _ _) (by have := hbk (by omega); exact And.intro (by omega) (by omega)) ?_
  · exact ⟨k + 1, by omega, by omega, Ent.weak rfl ⟨by rw [gr_take (List.getElem?_eq_getElem (by omega : k < xs.length))]; rfl, rfl, rfl, rfl, trivial⟩ trivial fun _ h => h⟩
  · have hk' : k = xs.length := by omega
    subst hk'
    exact ⟨fun β => by rw [List.take_length]; rfl, fun w' h => h⟩
end Go.Proofs.Ytlehjapeomallaa

/- The load after some ticks: what the function returns. -/
namespace Go.Proofs.Ytlehjapeomallaa
open Go Sx Go.RowKit

theorem flat_get {α : Type} {sz : Nat} {f : α → List Value} (hf : ∀ x, (f x).length = sz) : ∀ (bs : List α) (k j : Nat) (b : α) (v : Value), bs[k]? = some b → (f b)[j]? = some v → (bs.flatMap f)[k * sz + j]? = some v
  | [], k, j, b, v, h, _ => by simp at h
  | x :: r, 0, j, b, v, h, hv => by
    simp only [List.getElem?_cons_zero, Option.some.injEq] at h
    subst h
    have hj : j < (f x).length := (List.getElem?_eq_some_iff.1 hv).1
    rw [List.flatMap_cons, Nat.zero_mul, Nat.zero_add, List.getElem?_append_left hj, hv]
  | x :: r, k + 1, j, b, v, h, hv => by
    have ih := flat_get hf r k j b v (by simpa using h) hv
    rw [List.flatMap_cons, List.getElem?_append_right (by rw [hf, Nat.succ_mul]; omega), hf, Nat.succ_mul]
    rw [show k * sz + sz + j - sz = k * sz + j from by omega]
    exact ih

theorem Rd.of_cells {α : Type} {sz : Nat} {f : α → List Value} (hf : ∀ x, (f x).length = sz) {bs : List α} {w : World} {b : Nat} {ty : TypeId} {c n : Nat} (hn : n = bs.length) (h : w.heap[b]? = some (.cells (bs.flatMap f).toArray ty (0, 0))) :
    Rd sz f (.slice (some ⟨b, 0, none⟩) n c) bs w := by
  subst hn
  refine .inr ⟨_, _, rfl, fun k x hk j v hv => ?_⟩
  rw [own_add, own_add, Nat.zero_add, cell_of_row w b _ _ ty (0, 0) h, List.getElem?_toArray]
  exact flat_get hf bs k j x v hk hv

theorem Rd.of_owns {α : Type} {sz : Nat} {f : α → List Value} (hf : ∀ x, (f x).length = sz) {bs : List α} {w : World} {b base : Nat} {ty : TypeId} {c n : Nat} {xs : List Value} (hx : xs = bs.flatMap f) (hn : n = bs.length)
    (h : w.ownsRow base ty sz (.slice (some ⟨b, 0, none⟩) n c) n xs) : Rd sz f (.slice (some ⟨b, 0, none⟩) n c) bs w := by
  subst hn hx
  refine .inr ⟨_, _, rfl, fun k x hk j v hv => ?_⟩
  have := h.cells (g := b) rfl _ _ (flat_get hf bs k j x v hk hv)
  rw [own_add, Nat.zero_add] at this
  rw [own_add, own_add, Nat.zero_add]
  exact this

/-- A flight; its catcher's boxes are named by their slice. -/
structure Fg where
  f : Fl
  o : Option Addr
  n : Nat
  c : Nat
  re : Int
  so : Int
  be : Int
  le : Int
  mo : Int
abbrev Fg.v (g : Fg) : Value := .agg #[iv g.f.a.x.lo, iv g.f.a.x.hi, iv g.f.a.z.lo, iv g.f.a.z.hi, iv g.f.s.x.lo, iv g.f.s.x.hi, iv g.f.s.z.lo, iv g.f.s.z.hi, iv g.f.m, .slice g.o g.n g.c, iv g.re, iv g.so, iv g.be, iv g.le, iv g.mo]

/-- What is borne after t ticks. -/
def ldF (f : Fl) (so t : Int) : Int := f.m * (98 + (gr [f.s.x.lo, f.s.x.hi, f.s.z.lo - 98 * t, f.s.z.hi - 98 * t] + so - 1) / so)

theorem ld_bd {f : Fl} (hf : f.ok = true) {so t : Int} (hs : 1 ≤ so ∧ so ≤ 100) (h0 : 0 ≤ t) (h1 : t ≤ 300) :
    (0 ≤ gr [f.s.x.lo, f.s.x.hi, f.s.z.lo - 98 * t, f.s.z.hi - 98 * t] ∧ gr [f.s.x.lo, f.s.x.hi, f.s.z.lo - 98 * t, f.s.z.hi - 98 * t] ≤ 40000) ∧
    (0 ≤ (gr [f.s.x.lo, f.s.x.hi, f.s.z.lo - 98 * t, f.s.z.hi - 98 * t] + so - 1) / so ∧ (gr [f.s.x.lo, f.s.x.hi, f.s.z.lo - 98 * t, f.s.z.hi - 98 * t] + so - 1) / so ≤ 40100) ∧ 0 ≤ ldF f so t ∧ ldF f so t ≤ 200 * 40198 := by
  have hf' := Fl.ok_iff.1 hf
  have a := gr_bd [f.s.x.lo, f.s.x.hi, f.s.z.lo - 98 * t, f.s.z.hi - 98 * t] 40000 (by omega) (fun x hx => by
    simp only [List.mem_cons, List.not_mem_nil, or_false] at hx
    rcases hx with rfl | rfl | rfl | rfl <;> omega)
  have b1 : 0 ≤ (gr [f.s.x.lo, f.s.x.hi, f.s.z.lo - 98 * t, f.s.z.hi - 98 * t] + so - 1) / so := Int.ediv_nonneg (by omega) (by omega)
  have b2 : (gr [f.s.x.lo, f.s.x.hi, f.s.z.lo - 98 * t, f.s.z.hi - 98 * t] + so - 1) / so ≤ 40100 := by
    have := Int.ediv_le_self so (show 0 ≤ gr [f.s.x.lo, f.s.x.hi, f.s.z.lo - 98 * t, f.s.z.hi - 98 * t] + so - 1 by omega)
    omega
  have c1 : 0 ≤ ldF f so t := Int.mul_nonneg (by omega) (by omega)
  have c2 : ldF f so t ≤ 200 * 40198 := Int.mul_le_mul (by omega) (by omega) (by omega) (by omega)
  exact ⟨a, ⟨b1, b2⟩, c1, c2⟩

set_option maxRecDepth 100000 in
theorem load_ok (g : Fg) (t : Int) (w : World) (hf : g.f.ok = true) (hs : 1 ≤ g.so ∧ g.so ≤ 100) (h0 : 0 ≤ t) (h1 : t ≤ 300) :
    Calls Try.prog 70 #[g.v, iv t] w fun e w' => e = .returned (iv (ldF g.f g.so t)) ∧ Below w.heap.size w w' := by
  have hb := ld_bd hf hs h0 h1
  have hf' := Fl.ok_iff.1 hf
  refine calls_val env mixed Try.func70 has70 Try.ntmps70 [g.v, iv t] (by simp) ?_
  have hm : IR .i64 (ldF g.f g.so t) := ⟨by omega, by omega⟩
  repeat'
    conv => whnf
    first
      | refine And.intro (a := drawB _ = true) (by kernel_rfl) ?_
      | refine And.intro (a := (_ : Bool) = true) rfl ?_
      | refine And.intro (a := (_ : Bool) = true ∧ (_ : Bool) = true) ⟨rfl, rfl⟩ ?_
      | refine And.intro (a := (_ : Bool) = true ∧ (_ : List _) = []) ⟨rfl, rfl⟩ ?_
      | refine And.intro (a := IR _ _) (And.intro (by omega) (by omega)) ?_
      | refine And.intro (a := (0 : Int) ≤ _ ∧ _ < _) (And.intro (by omega) (by omega)) ?_
      | refine splT ?_
      | refine splF ?_
      | refine splNot ?_
      | (refine splIn (fun hc => ?_) (fun hc => ?_) <;> first | (exfalso; omega) | skip)
      | (refine splD (fun hc => ?_) (fun hc => ?_) <;> first | (exfalso; omega) | skip)
      | (refine splE (fun hc => ?_) (fun hc => ?_) <;> first | (exfalso; omega) | skip)
      | (refine splNE (fun hc => ?_) (fun hc => ?_) <;> first | (exfalso; omega) | skip)
      | refine And.intro (a := IR _ _) hm ?_
      | refine quoE (by omega) (by omega) (And.intro (by omega) (by omega)) ?_
      | ((with_reducible show CallEv _ _ 90 _ _ _ _ _); refine callE (k := 90) (fun β w' _ => sunk_ok _ _ _ _ (by omega) (by omega) (by omega)) ?_)
      | ((with_reducible show CallEv _ _ 91 _ _ _ _ _); refine callM (k := 91) [3] (fun β w' hbk _ => greatest_ok ⟨β 3, 0, none⟩ 4 [g.f.s.x.lo, g.f.s.x.hi, g.f.s.z.lo - 98 * t, g.f.s.z.hi - 98 * t] w' (Rd.of_cells (f := iF) (bs := [g.f.s.x.lo, g.f.s.x.hi, g.f.s.z.lo - 98 * t, g.f.s.z.hi - 98 * t]) (fun _ => rfl) rfl (hbk 3 (by simp) _ rfl)) (by simp) (by intro x hx; simp only [List.mem_cons, List.not_mem_nil, or_false] at hx; rcases hx with rfl | rfl | rfl | rfl <;> omega)) ?_)
  exact ⟨fun β => rfl, fun w' h => h⟩
end Go.Proofs.Ytlehjapeomallaa

/- Whether ranges are near, whether all boxes are right, whether a flight is valid: what these functions return. -/
namespace Go.Proofs.Ytlehjapeomallaa
open Go Sx Go.RowKit

def nearB (r o : Rg) (reach : Int) : Bool := decide (r.hi - o.lo ≤ reach) && decide (o.hi - r.lo ≤ reach)
theorem near_ok (r o : Rg) (reach : Int) (w : World) (h0 : -100000000 ≤ r.lo ∧ r.lo ≤ 100000000) (h1 : -100000000 ≤ r.hi ∧ r.hi ≤ 100000000) (h2 : -100000000 ≤ o.lo ∧ o.lo ≤ 100000000) (h3 : -100000000 ≤ o.hi ∧ o.hi ≤ 100000000) :
    Calls Try.prog 92 #[r.v, o.v, iv reach] w fun e w' => e = .returned (.bool (nearB r o reach)) ∧ Below w.heap.size w w' := by
  refine calls_val env mixed Try.func92 has92 Try.ntmps92 [r.v, o.v, iv reach] (by simp) ?_
  repeat'
    conv => whnf
    first
      | refine And.intro (a := drawB _ = true) (by kernel_rfl) ?_
      | refine And.intro (a := (_ : Bool) = true) rfl ?_
      | refine And.intro (a := (_ : Bool) = true ∧ (_ : Bool) = true) ⟨rfl, rfl⟩ ?_
      | refine And.intro (a := (_ : Bool) = true ∧ (_ : List _) = []) ⟨rfl, rfl⟩ ?_
      | refine And.intro (a := IR _ _) (And.intro (by omega) (by omega)) ?_
      | refine And.intro (a := (0 : Int) ≤ _ ∧ _ < _) (And.intro (by omega) (by omega)) ?_
      | refine splT ?_
      | refine splF ?_
      | refine splNot ?_
      | (refine splIn (fun hc => ?_) (fun hc => ?_) <;> first | (exfalso; omega) | skip)
      | (refine splD (fun hc => ?_) (fun hc => ?_) <;> first | (exfalso; omega) | skip)
      | (refine splE (fun hc => ?_) (fun hc => ?_) <;> first | (exfalso; omega) | skip)
      | (refine splNE (fun hc => ?_) (fun hc => ?_) <;> first | (exfalso; omega) | skip)
  all_goals exact ⟨fun β => congrArg Value.bool (by simp [nearB, *]), fun w' h => h⟩

theorem box81_ok (b : Bx) (w : World) :
    Calls Try.prog 81 #[b.v] w fun e w' => e = .returned (.bool (b.ok 10000000)) ∧ Below w.heap.size w w' := by
  refine calls_val env mixed Try.func81 has81 Try.ntmps81 [b.v] (by simp) ?_
  repeat'
    conv => whnf
    first
      | refine And.intro (a := drawB _ = true) (by kernel_rfl) ?_
      | refine And.intro (a := (_ : Bool) = true) rfl ?_
      | refine And.intro (a := (_ : Bool) = true ∧ (_ : Bool) = true) ⟨rfl, rfl⟩ ?_
      | refine And.intro (a := (_ : Bool) = true ∧ (_ : List _) = []) ⟨rfl, rfl⟩ ?_
      | refine And.intro (a := IR _ _) (And.intro (by omega) (by omega)) ?_
      | refine And.intro (a := (0 : Int) ≤ _ ∧ _ < _) (And.intro (by omega) (by omega)) ?_
      | refine splT ?_
      | refine splF ?_
      | refine splNot ?_
      | (refine splIn (fun hc => ?_) (fun hc => ?_) <;> first | (exfalso; omega) | skip)
      | (refine splD (fun hc => ?_) (fun hc => ?_) <;> first | (exfalso; omega) | skip)
      | (refine splE (fun hc => ?_) (fun hc => ?_) <;> first | (exfalso; omega) | skip)
      | (refine splNE (fun hc => ?_) (fun hc => ?_) <;> first | (exfalso; omega) | skip)
      | ((with_reducible show CallEv _ _ 82 _ _ _ _ _); refine callE (k := 82) (fun β w' hbw => Bin_ok b _ _ (by omega) (by omega)) ?_)
  exact ⟨fun β => rfl, fun w' h => h⟩

theorem not97_ok (b : Bx) (p : Addr) (w : World) (hp : w.cell? p = some (.func (.func 81) #[] #[])) :
    Calls Try.prog 97 #[b.v, .pointer (some p)] w fun e w' => e = .returned (.bool (!(b.ok 10000000))) ∧ Below w.heap.size w w' := by
  refine calls_val env mixed Try.func97 has97 Try.ntmps97 [b.v, .pointer (some p)] (by simp) ?_
  have hx : ∀ w', Below w.heap.size w w' → ∀ j v, [Value.func (.func 81) #[] #[]][j]? = some v → w'.cell? (p.add j) = some v := fun w' hw' j v hv => by
    match j, hv with
    | 0, hv => cases hv; rw [show p.add 0 = p from by simp [Addr.add]]; exact ext_below hw' hp
  repeat'
    conv => whnf
    first
      | refine And.intro (a := drawB _ = true) (by kernel_rfl) ?_
      | refine And.intro (a := (_ : Bool) = true) rfl ?_
      | refine And.intro (a := (_ : Bool) = true ∧ (_ : Bool) = true) ⟨rfl, rfl⟩ ?_
      | refine And.intro (a := (_ : Bool) = true ∧ (_ : List _) = []) ⟨rfl, rfl⟩ ?_
      | refine And.intro (a := IR _ _) (And.intro (by omega) (by omega)) ?_
      | refine And.intro (a := (0 : Int) ≤ _ ∧ _ < _) (And.intro (by omega) (by omega)) ?_
      | refine splT ?_
      | refine splF ?_
      | refine splNot ?_
      | (refine splIn (fun hc => ?_) (fun hc => ?_) <;> first | (exfalso; omega) | skip)
      | (refine splD (fun hc => ?_) (fun hc => ?_) <;> first | (exfalso; omega) | skip)
      | (refine splE (fun hc => ?_) (fun hc => ?_) <;> first | (exfalso; omega) | skip)
      | (refine splNE (fun hc => ?_) (fun hc => ?_) <;> first | (exfalso; omega) | skip)
      | refine ⟨[.func (.func 81) #[] #[]], ⟨rfl, hx⟩, ?_⟩
      | ((with_reducible show CallEv _ _ 81 _ _ _ _ _); refine callE (k := 81) (fun β w' hbw => box81_ok b _) ?_)
  exact ⟨fun β => rfl, fun w' h => h⟩

/-- The place of the first box that is not right; -1: all are. -/
def ixF : List Bx → Nat → Int
  | [], _ => -1
  | b :: r, k => if b.ok 10000000 = true then ixF r (k + 1) else k
theorem ixF_nonneg : ∀ (bs : List Bx) (k : Nat), decide (ixF bs k ≥ 0) = !(bs.all (·.ok 10000000))
  | [], k => by simp [ixF]
  | b :: r, k => by
    cases hb : b.ok 10000000 with
    | true => simp [ixF, hb, ixF_nonneg r (k + 1)]
    | false => simp [ixF, hb]
theorem ixF_drop {bs : List Bx} {k : Nat} {b : Bx} (h : bs[k]? = some b) : ixF (bs.drop k) k = if b.ok 10000000 = true then ixF (bs.drop (k + 1)) (k + 1) else k := by
  obtain ⟨h1, h2⟩ := List.getElem?_eq_some_iff.1 h
  rw [List.drop_eq_getElem_cons h1, h2]
  rfl

theorem index_ok (s : Value) (bs : List Bx) (p : Addr) (w : World) (hp : w.cell? p = some (.func (.func 81) #[] #[])) (hr : Rd 4 Bx.cs s bs w) (hl : bs.length ≤ 1000000) :
    Calls Try.prog 100 #[s, .func (.func 97) #[] #[.pointer (some p)]] w fun e w' => e = .returned (iv (ixF bs 0)) ∧ Below w.heap.size w w' := by
  refine calls_val env mixed Try.func100 has100 Try.ntmps100 [s, .func (.func 97) #[] #[.pointer (some p)]] (by simp) ?_
  rcases hr with ⟨rfl, rfl⟩ | ⟨ad, c, rfl, hr⟩
  · skip
    repeat'
      conv => whnf
      first
        | refine And.intro (a := drawB _ = true) (by kernel_rfl) ?_
        | refine And.intro (a := (_ : Bool) = true) rfl ?_
        | refine And.intro (a := (_ : Bool) = true ∧ (_ : Bool) = true) ⟨rfl, rfl⟩ ?_
        | refine And.intro (a := (_ : Bool) = true ∧ (_ : List _) = []) ⟨rfl, rfl⟩ ?_
        | refine And.intro (a := IR _ _) (And.intro (by omega) (by omega)) ?_
        | refine And.intro (a := (0 : Int) ≤ _ ∧ _ < _) (And.intro (by omega) (by omega)) ?_
        | refine splT ?_
        | refine splF ?_
        | refine splNot ?_
        | (refine splIn (fun hc => ?_) (fun hc => ?_) <;> first | (exfalso; omega) | skip)
        | (refine splD (fun hc => ?_) (fun hc => ?_) <;> first | (exfalso; omega) | skip)
        | (refine splE (fun hc => ?_) (fun hc => ?_) <;> first | (exfalso; omega) | skip)
        | (refine splNE (fun hc => ?_) (fun hc => ?_) <;> first | (exfalso; omega) | skip)
    refine loopE (fun _ : Unit => [(7, .v (iv 0)), (8, .v (iv 0))]) (fun _ => []) (fun _ => True) (fun _ => 0) () trivial ⟨rfl, rfl, trivial⟩ trivial (fun _ => ⟨rfl, rfl⟩) ?_
    intro _ _
    repeat'
      conv => whnf
      first
        | refine And.intro (a := drawB _ = true) (by kernel_rfl) ?_
        | refine And.intro (a := (_ : Bool) = true) rfl ?_
        | refine And.intro (a := (_ : Bool) = true ∧ (_ : Bool) = true) ⟨rfl, rfl⟩ ?_
        | refine And.intro (a := (_ : Bool) = true ∧ (_ : List _) = []) ⟨rfl, rfl⟩ ?_
        | refine And.intro (a := IR _ _) (And.intro (by omega) (by omega)) ?_
        | refine And.intro (a := (0 : Int) ≤ _ ∧ _ < _) (And.intro (by omega) (by omega)) ?_
        | refine splT ?_
        | refine splF ?_
        | refine splNot ?_
        | (refine splIn (fun hc => ?_) (fun hc => ?_) <;> first | (exfalso; omega) | skip)
        | (refine splD (fun hc => ?_) (fun hc => ?_) <;> first | (exfalso; omega) | skip)
        | (refine splE (fun hc => ?_) (fun hc => ?_) <;> first | (exfalso; omega) | skip)
        | (refine splNE (fun hc => ?_) (fun hc => ?_) <;> first | (exfalso; omega) | skip)
    exact ⟨fun β => rfl, fun w' h => h⟩
  · skip
    repeat'
      conv => whnf
      first
        | refine And.intro (a := drawB _ = true) (by kernel_rfl) ?_
        | refine And.intro (a := (_ : Bool) = true) rfl ?_
        | refine And.intro (a := (_ : Bool) = true ∧ (_ : Bool) = true) ⟨rfl, rfl⟩ ?_
        | refine And.intro (a := (_ : Bool) = true ∧ (_ : List _) = []) ⟨rfl, rfl⟩ ?_
        | refine And.intro (a := IR _ _) (And.intro (by omega) (by omega)) ?_
        | refine And.intro (a := (0 : Int) ≤ _ ∧ _ < _) (And.intro (by omega) (by omega)) ?_
        | refine splT ?_
        | refine splF ?_
        | refine splNot ?_
        | (refine splIn (fun hc => ?_) (fun hc => ?_) <;> first | (exfalso; omega) | skip)
        | (refine splD (fun hc => ?_) (fun hc => ?_) <;> first | (exfalso; omega) | skip)
        | (refine splE (fun hc => ?_) (fun hc => ?_) <;> first | (exfalso; omega) | skip)
        | (refine splNE (fun hc => ?_) (fun hc => ?_) <;> first | (exfalso; omega) | skip)
    refine loopE (fun k : Nat => [(0, .v (.slice (some ad) bs.length c)), (1, .v (.func (.func 97) #[] #[.pointer (some p)])), (7, .v (iv bs.length)), (8, .v (iv k))]) (fun _ => [])
      (fun k => k ≤ bs.length ∧ ixF (bs.drop k) k = ixF bs 0) (fun k => bs.length - k) 0 ⟨Nat.zero_le _, rfl⟩ ⟨rfl, rfl, rfl, rfl, trivial⟩ trivial (fun _ => ⟨rfl, rfl⟩) ?_
    intro k ⟨hk, hix⟩
    rcases Nat.lt_or_ge k bs.length with hkl | hkl
    · obtain ⟨b, hb⟩ : ∃ b, bs[k]? = some b := ⟨_, List.getElem?_eq_getElem hkl⟩
      rw [ixF_drop hb] at hix
      have hx : ∀ w', Below w.heap.size w w' → ∀ j v, (Bx.cs b)[j]? = some v → w'.cell? ((ad.add (((k : Int).toNat) * 4)).add j) = some v := fun w' hw' j v hv => by
        rw [Int.toNat_natCast]
        exact ext_below hw' (hr k _ hb j v hv)
      repeat'
        conv => whnf
        first
          | refine And.intro (a := drawB _ = true) (by kernel_rfl) ?_
          | refine And.intro (a := (_ : Bool) = true) rfl ?_
          | refine And.intro (a := (_ : Bool) = true ∧ (_ : Bool) = true) ⟨rfl, rfl⟩ ?_
          | refine And.intro (a := (_ : Bool) = true ∧ (_ : List _) = []) ⟨rfl, rfl⟩ ?_
          | refine And.intro (a := IR _ _) (And.intro (by omega) (by omega)) ?_
          | refine And.intro (a := (0 : Int) ≤ _ ∧ _ < _) (And.intro (by omega) (by omega)) ?_
          | refine splT ?_
          | refine splF ?_
          | refine splNot ?_
          | (refine splIn (fun hc => ?_) (fun hc => ?_) <;> first | (exfalso; omega) | skip)
          | (refine splD (fun hc => ?_) (fun hc => ?_) <;> first | (exfalso; omega) | skip)
          | (refine splE (fun hc => ?_) (fun hc => ?_) <;> first | (exfalso; omega) | skip)
          | (refine splNE (fun hc => ?_) (fun hc => ?_) <;> first | (exfalso; omega) | skip)
          | refine ⟨Bx.cs b, ⟨rfl, hx⟩, ?_⟩
          | ((with_reducible show CallEv _ _ 97 _ _ _ _ _); refine callE (k := 97) (fun β w' hbw => not97_ok b p _ (ext_below hbw hp)) ?_)
          | refine splB (fun hc => ?_) (fun hc => ?_)
      · rw [if_pos (by simpa using hc)] at hix
        exact ⟨k + 1, ⟨by omega, hix⟩, by omega, Ent.weak rfl ⟨rfl, rfl, rfl, rfl, trivial⟩ trivial fun _ h => h⟩
      · rw [if_neg (by simp [hc])] at hix
        exact ⟨fun β => by rw [← hix]; rfl, fun w' h => h⟩
    · rw [List.drop_eq_nil_of_le hkl] at hix
      repeat'
        conv => whnf
        first
          | refine And.intro (a := drawB _ = true) (by kernel_rfl) ?_
          | refine And.intro (a := (_ : Bool) = true) rfl ?_
          | refine And.intro (a := (_ : Bool) = true ∧ (_ : Bool) = true) ⟨rfl, rfl⟩ ?_
          | refine And.intro (a := (_ : Bool) = true ∧ (_ : List _) = []) ⟨rfl, rfl⟩ ?_
          | refine And.intro (a := IR _ _) (And.intro (by omega) (by omega)) ?_
          | refine And.intro (a := (0 : Int) ≤ _ ∧ _ < _) (And.intro (by omega) (by omega)) ?_
          | refine splT ?_
          | refine splF ?_
          | refine splNot ?_
          | (refine splIn (fun hc => ?_) (fun hc => ?_) <;> first | (exfalso; omega) | skip)
          | (refine splD (fun hc => ?_) (fun hc => ?_) <;> first | (exfalso; omega) | skip)
          | (refine splE (fun hc => ?_) (fun hc => ?_) <;> first | (exfalso; omega) | skip)
          | (refine splNE (fun hc => ?_) (fun hc => ?_) <;> first | (exfalso; omega) | skip)
      exact ⟨fun β => by rw [← hix]; rfl, fun w' h => h⟩

theorem contains_ok (s : Value) (bs : List Bx) (p : Addr) (w : World) (hp : w.cell? p = some (.func (.func 81) #[] #[])) (hr : Rd 4 Bx.cs s bs w) (hl : bs.length ≤ 1000000) :
    Calls Try.prog 96 #[s, .func (.func 97) #[] #[.pointer (some p)]] w fun e w' => e = .returned (.bool (!(bs.all (·.ok 10000000)))) ∧ Below w.heap.size w w' := by
  refine calls_val env mixed Try.func96 has96 Try.ntmps96 [s, .func (.func 97) #[] #[.pointer (some p)]] (by simp) ?_
  repeat'
    conv => whnf
    first
      | refine And.intro (a := drawB _ = true) (by kernel_rfl) ?_
      | refine And.intro (a := (_ : Bool) = true) rfl ?_
      | refine And.intro (a := (_ : Bool) = true ∧ (_ : Bool) = true) ⟨rfl, rfl⟩ ?_
      | refine And.intro (a := (_ : Bool) = true ∧ (_ : List _) = []) ⟨rfl, rfl⟩ ?_
      | refine And.intro (a := IR _ _) (And.intro (by omega) (by omega)) ?_
      | refine And.intro (a := (0 : Int) ≤ _ ∧ _ < _) (And.intro (by omega) (by omega)) ?_
      | refine splT ?_
      | refine splF ?_
      | refine splNot ?_
      | (refine splIn (fun hc => ?_) (fun hc => ?_) <;> first | (exfalso; omega) | skip)
      | (refine splD (fun hc => ?_) (fun hc => ?_) <;> first | (exfalso; omega) | skip)
      | (refine splE (fun hc => ?_) (fun hc => ?_) <;> first | (exfalso; omega) | skip)
      | (refine splNE (fun hc => ?_) (fun hc => ?_) <;> first | (exfalso; omega) | skip)
      | ((with_reducible show CallEv _ _ 100 _ _ _ _ _); refine callE (k := 100) (fun β w' hbw => index_ok s bs p _ (ext_below hbw hp) (hr.below hbw) hl) ?_)
  all_goals exact ⟨fun β => congrArg Value.bool (by rw [← ixF_nonneg bs 0]), fun w' h => h⟩

theorem all80_ok (s : Value) (bs : List Bx) (w : World) (hr : Rd 4 Bx.cs s bs w) (hl : bs.length ≤ 1000000) :
    Calls Try.prog 80 #[s, .func (.func 81) #[] #[]] w fun e w' => e = .returned (.bool (bs.all (·.ok 10000000))) ∧ Below w.heap.size w w' := by
  refine calls_val env mixed Try.func80 has80 Try.ntmps80 [s, .func (.func 81) #[] #[]] (by simp) ?_
  repeat'
    conv => whnf
    first
      | refine And.intro (a := drawB _ = true) (by kernel_rfl) ?_
      | refine And.intro (a := (_ : Bool) = true) rfl ?_
      | refine And.intro (a := (_ : Bool) = true ∧ (_ : Bool) = true) ⟨rfl, rfl⟩ ?_
      | refine And.intro (a := (_ : Bool) = true ∧ (_ : List _) = []) ⟨rfl, rfl⟩ ?_
      | refine And.intro (a := IR _ _) (And.intro (by omega) (by omega)) ?_
      | refine And.intro (a := (0 : Int) ≤ _ ∧ _ < _) (And.intro (by omega) (by omega)) ?_
      | refine splT ?_
      | refine splF ?_
      | refine splNot ?_
      | (refine splIn (fun hc => ?_) (fun hc => ?_) <;> first | (exfalso; omega) | skip)
      | (refine splD (fun hc => ?_) (fun hc => ?_) <;> first | (exfalso; omega) | skip)
      | (refine splE (fun hc => ?_) (fun hc => ?_) <;> first | (exfalso; omega) | skip)
      | (refine splNE (fun hc => ?_) (fun hc => ?_) <;> first | (exfalso; omega) | skip)
      | ((with_reducible show CallEv _ _ 96 _ _ _ _ _); refine callM (k := 96) [0] (fun β w' hbk hbw => contains_ok s bs ⟨β 0, 0, none⟩ w' (cell_of_row w' (β 0) 0 _ _ (0, 0) (hbk 0 (by simp) _ rfl)) (hr.below hbw) hl) ?_)
  exact ⟨fun β => congrArg Value.bool (by simp), fun w' h => h⟩

def Fg.ok (g : Fg) (bs : List Bx) : Bool := g.f.ok && inB g.n 1 600 && bs.all (·.ok 10000000) && inB g.re 0 10000000 && inB g.so 1 100 && inB g.be 0 100000000 && inB g.le 0 300 && inB g.mo g.le 300

set_option maxRecDepth 100000 in
theorem Gvalid_ok (g : Fg) (bs : List Bx) (w : World) (hr : Rd 4 Bx.cs (.slice g.o g.n g.c) bs w) (hl : bs.length ≤ 1000000) :
    Calls Try.prog 60 #[g.v] w fun e w' => e = .returned (.bool (g.ok bs)) ∧ Below w.heap.size w w' := by
  refine calls_val env mixed Try.func60 has60 Try.ntmps60 [g.v] (by simp) ?_
  repeat'
    conv => whnf
    first
      | refine And.intro (a := drawB _ = true) (by kernel_rfl) ?_
      | refine And.intro (a := (_ : Bool) = true) rfl ?_
      | refine And.intro (a := (_ : Bool) = true ∧ (_ : Bool) = true) ⟨rfl, rfl⟩ ?_
      | refine And.intro (a := (_ : Bool) = true ∧ (_ : List _) = []) ⟨rfl, rfl⟩ ?_
      | refine And.intro (a := IR _ _) (And.intro (by omega) (by omega)) ?_
      | refine And.intro (a := (0 : Int) ≤ _ ∧ _ < _) (And.intro (by omega) (by omega)) ?_
      | refine splT ?_
      | refine splF ?_
      | refine splNot ?_
      | (refine splIn (fun hc => ?_) (fun hc => ?_) <;> first | (exfalso; omega) | skip)
      | (refine splD (fun hc => ?_) (fun hc => ?_) <;> first | (exfalso; omega) | skip)
      | (refine splE (fun hc => ?_) (fun hc => ?_) <;> first | (exfalso; omega) | skip)
      | (refine splNE (fun hc => ?_) (fun hc => ?_) <;> first | (exfalso; omega) | skip)
      | ((with_reducible show CallEv _ _ 69 _ _ _ _ _); refine callE (k := 69) (fun β w' hbw => Fvalid_ok g.f _) ?_)
      | ((with_reducible show CallEv _ _ 58 _ _ _ _ _); refine callE (k := 58) (fun β w' hbw => within_ok _ _ _ _) ?_)
      | ((with_reducible show CallEv _ _ 80 _ _ _ _ _); refine callE (k := 80) (fun β w' hbw => all80_ok _ bs _ (hr.below hbw) hl) ?_)
      | refine splB (fun hc => ?_) (fun hc => ?_)
  all_goals exact ⟨fun β => congrArg Value.bool (by simp [Fg.ok, inB, *]), fun w' h => h⟩
end Go.Proofs.Ytlehjapeomallaa

/- The check of a flight, and its load at any ticks: what these functions return. -/
namespace Go.Proofs.Ytlehjapeomallaa
open Go Sx Go.RowKit

theorem Fg.ok_iff {g : Fg} {bs : List Bx} : g.ok bs = true ↔ g.f.ok = true ∧ (1 ≤ (g.n : Int) ∧ (g.n : Int) ≤ 600) ∧ (∀ b ∈ bs, b.ok 10000000 = true) ∧ (0 ≤ g.re ∧ g.re ≤ 10000000) ∧ (1 ≤ g.so ∧ g.so ≤ 100) ∧ (0 ≤ g.be ∧ g.be ≤ 100000000) ∧ (0 ≤ g.le ∧ g.le ≤ 300) ∧ g.le ≤ g.mo ∧ g.mo ≤ 300 := by
  simp [Fg.ok, inB_iff, and_assoc]

theorem Check_ok (g : Fg) (bs : List Bx) (w : World) (hr : Rd 4 Bx.cs (.slice g.o g.n g.c) bs w) (hl : bs.length ≤ 1000000) :
    Calls Try.prog 43 #[g.v] w fun e w' => e = .returned (iv (if g.ok bs = true then 0 else 1)) ∧ Below w.heap.size w w' := by
  refine calls_val env mixed Try.func43 has43 Try.ntmps43 [g.v] (by simp) ?_
  repeat'
    conv => whnf
    first
      | refine And.intro (a := drawB _ = true) (by kernel_rfl) ?_
      | refine And.intro (a := (_ : Bool) = true) rfl ?_
      | refine And.intro (a := (_ : Bool) = true ∧ (_ : Bool) = true) ⟨rfl, rfl⟩ ?_
      | refine And.intro (a := (_ : Bool) = true ∧ (_ : List _) = []) ⟨rfl, rfl⟩ ?_
      | refine And.intro (a := IR _ _) (And.intro (by omega) (by omega)) ?_
      | refine And.intro (a := (0 : Int) ≤ _ ∧ _ < _) (And.intro (by omega) (by omega)) ?_
      | refine splT ?_
      | refine splF ?_
      | refine splNot ?_
      | (refine splIn (fun hc => ?_) (fun hc => ?_) <;> first | (exfalso; omega) | skip)
      | (refine splD (fun hc => ?_) (fun hc => ?_) <;> first | (exfalso; omega) | skip)
      | (refine splE (fun hc => ?_) (fun hc => ?_) <;> first | (exfalso; omega) | skip)
      | (refine splNE (fun hc => ?_) (fun hc => ?_) <;> first | (exfalso; omega) | skip)
      | ((with_reducible show CallEv _ _ 60 _ _ _ _ _); refine callE (k := 60) (fun β w' hbw => Gvalid_ok g bs _ (hr.below hbw) hl) ?_)
      | refine splB (fun hc => ?_) (fun hc => ?_)
  all_goals exact ⟨fun β => by simp [*]; rfl, fun w' h => h⟩

theorem Load_ok (g : Fg) (bs : List Bx) (t : Int) (w : World) (hr : Rd 4 Bx.cs (.slice g.o g.n g.c) bs w) (hl : bs.length ≤ 1000000) :
    Calls Try.prog 42 #[g.v, iv t] w fun e w' => e = .returned (.tuple #[iv (if g.ok bs = true ∧ (0 ≤ t ∧ t ≤ 300) then ldF g.f g.so t else 0), iv (if g.ok bs = true then (if 0 ≤ t ∧ t ≤ 300 then 0 else 2) else 1)]) ∧ Below w.heap.size w w' := by
  refine calls_val env mixed Try.func42 has42 Try.ntmps42 [g.v, iv t] (by simp) ?_
  by_cases hk : g.ok bs = true
  · have hk' := Fg.ok_iff.1 hk
    repeat'
      conv => whnf
      first
        | refine And.intro (a := drawB _ = true) (by kernel_rfl) ?_
        | refine And.intro (a := (_ : Bool) = true) rfl ?_
        | refine And.intro (a := (_ : Bool) = true ∧ (_ : Bool) = true) ⟨rfl, rfl⟩ ?_
        | refine And.intro (a := (_ : Bool) = true ∧ (_ : List _) = []) ⟨rfl, rfl⟩ ?_
        | refine And.intro (a := IR _ _) (And.intro (by omega) (by omega)) ?_
        | refine And.intro (a := (0 : Int) ≤ _ ∧ _ < _) (And.intro (by omega) (by omega)) ?_
        | refine splT ?_
        | refine splF ?_
        | refine splNot ?_
        | (refine splIn (fun hc => ?_) (fun hc => ?_) <;> first | (exfalso; omega) | skip)
        | (refine splD (fun hc => ?_) (fun hc => ?_) <;> first | (exfalso; omega) | skip)
        | (refine splE (fun hc => ?_) (fun hc => ?_) <;> first | (exfalso; omega) | skip)
        | (refine splNE (fun hc => ?_) (fun hc => ?_) <;> first | (exfalso; omega) | skip)
        | ((with_reducible show CallEv _ _ 60 _ _ _ _ _); refine callE (k := 60) (fun β w' hbw => Gvalid_ok g bs _ (hr.below hbw) hl) ?_)
        | ((with_reducible show CallEv _ _ 58 _ _ _ _ _); refine callE (k := 58) (fun β w' hbw => within_ok _ _ _ _) ?_)
        | ((with_reducible show CallEv _ _ 70 _ _ _ _ _); refine callE (k := 70) (fun β w' hbw => load_ok g t _ hk'.1 hk'.2.2.2.2.1 (by omega) (by omega)) ?_)
        | refine splB (fun hc => ?_) (fun hc => ?_)
    all_goals first | exact ⟨fun β => by simp [*]; rfl, fun w' h => h⟩ | (exfalso; simp_all)
  · skip
    repeat'
      conv => whnf
      first
        | refine And.intro (a := drawB _ = true) (by kernel_rfl) ?_
        | refine And.intro (a := (_ : Bool) = true) rfl ?_
        | refine And.intro (a := (_ : Bool) = true ∧ (_ : Bool) = true) ⟨rfl, rfl⟩ ?_
        | refine And.intro (a := (_ : Bool) = true ∧ (_ : List _) = []) ⟨rfl, rfl⟩ ?_
        | refine And.intro (a := IR _ _) (And.intro (by omega) (by omega)) ?_
        | refine And.intro (a := (0 : Int) ≤ _ ∧ _ < _) (And.intro (by omega) (by omega)) ?_
        | refine splT ?_
        | refine splF ?_
        | refine splNot ?_
        | (refine splIn (fun hc => ?_) (fun hc => ?_) <;> first | (exfalso; omega) | skip)
        | (refine splD (fun hc => ?_) (fun hc => ?_) <;> first | (exfalso; omega) | skip)
        | (refine splE (fun hc => ?_) (fun hc => ?_) <;> first | (exfalso; omega) | skip)
        | (refine splNE (fun hc => ?_) (fun hc => ?_) <;> first | (exfalso; omega) | skip)
        | ((with_reducible show CallEv _ _ 60 _ _ _ _ _); refine callE (k := 60) (fun β w' hbw => Gvalid_ok g bs _ (hr.below hbw) hl) ?_)
        | ((with_reducible show CallEv _ _ 58 _ _ _ _ _); refine callE (k := 58) (fun β w' hbw => within_ok _ _ _ _) ?_)
        | ((with_reducible show CallEv _ _ 70 _ _ _ _ _); refine callE (k := 70) (fun β w' hbw => load_ok g t _ (by simp_all) (by simp_all) (by simp_all) (by simp_all)) ?_)
        | refine splB (fun hc => ?_) (fun hc => ?_)
    all_goals first | exact ⟨fun β => by simp [*]; rfl, fun w' h => h⟩ | (exfalso; simp_all)

/-- What is seen of a flight: of n ticks the boxes, and whether the load is borne. -/
def seenB (g : Fg) : Nat → List Bx
  | 0 => []
  | k + 1 => seenB g k ++ [g.f.af (g.le + k)]
def seenL (g : Fg) : Nat → List Bool
  | 0 => []
  | k + 1 => seenL g k ++ [decide (ldF g.f g.so (g.le + k) ≤ g.be)]
abbrev bF (b : Bool) : List Value := [.bool b]

theorem seenB_len (g : Fg) : ∀ k, (seenB g k).length = k
  | 0 => rfl
  | k + 1 => by simp [seenB, seenB_len g k]
theorem seenL_len (g : Fg) : ∀ k, (seenL g k).length = k
  | 0 => rfl
  | k + 1 => by simp [seenL, seenL_len g k]
theorem seenB_get (g : Fg) : ∀ (n k : Nat), k < n → (seenB g n)[k]? = some (g.f.af (g.le + k))
  | n + 1, k, h => by
    rw [seenB, List.getElem?_append, seenB_len]
    split
    · exact seenB_get g n k ‹_›
    · have : k = n := by omega
      subst this; simp
theorem seenL_get (g : Fg) : ∀ (n k : Nat), k < n → (seenL g n)[k]? = some (decide (ldF g.f g.so (g.le + k) ≤ g.be))
  | n + 1, k, h => by
    rw [seenL, List.getElem?_append, seenL_len]
    split
    · exact seenL_get g n k ‹_›
    · have : k = n := by omega
      subst this; simp

/-- What see returns: the flight, the slices of its boxes and of what is borne. -/
structure Sn where
  g : Fg
  b : Value
  l : Value
def Fg.cs (g : Fg) : List Value := [iv g.f.a.x.lo, iv g.f.a.x.hi, iv g.f.a.z.lo, iv g.f.a.z.hi, iv g.f.s.x.lo, iv g.f.s.x.hi, iv g.f.s.z.lo, iv g.f.s.z.hi, iv g.f.m, .slice g.o g.n g.c, iv g.re, iv g.so, iv g.be, iv g.le, iv g.mo]
end Go.Proofs.Ytlehjapeomallaa
