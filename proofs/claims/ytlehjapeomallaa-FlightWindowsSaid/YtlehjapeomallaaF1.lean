/- Moving and sinking ranges, and the box after some ticks: what these functions return. -/
import Derived.Test.YtlehjapeomallaaEv
namespace Go.Proofs.Ytlehjapeomallaa
open Go Sx Go.RowKit

theorem moved_ok (a b c d t : Int) (w : World) (ha : -20000000 ≤ a ∧ a ≤ 20000000) (hb : -20000000 ≤ b ∧ b ≤ 20000000) (h1 : -10000000 ≤ t * c ∧ t * c ≤ 10000000) (h2 : -10000000 ≤ t * d ∧ t * d ≤ 10000000) :
    Calls Try.prog 89 #[.agg #[.int .i64 a, .int .i64 b], .agg #[.int .i64 c, .int .i64 d], .int .i64 t] w fun e w' => e = .returned (.agg #[.int .i64 (a + t * c), .int .i64 (b + t * d)]) ∧ Below w.heap.size w w' := by
  refine calls_val env mixed Try.func89 has89 Try.ntmps89 [.agg #[.int .i64 a, .int .i64 b], .agg #[.int .i64 c, .int .i64 d], .int .i64 t] (by simp) ?_
  repeat
    conv => whnf
    first
      | refine And.intro (a := drawB _ = true) (by kernel_rfl) ?_
      | refine And.intro (a := (_ : Bool) = true) rfl ?_
      | refine And.intro (a := (_ : Bool) = true ∧ (_ : Bool) = true) ⟨rfl, rfl⟩ ?_
      | refine And.intro (a := (_ : Bool) = true ∧ (_ : List _) = []) ⟨rfl, rfl⟩ ?_
      | refine And.intro (a := IR _ _) (And.intro (by omega) (by omega)) ?_
  exact ⟨fun β => rfl, fun w' h => h⟩

theorem sunk_ok (a b t : Int) (w : World) (ha : -200000000 ≤ a ∧ a ≤ 200000000) (hb : -200000000 ≤ b ∧ b ≤ 200000000) (h1 : 0 ≤ t ∧ t ≤ 10000000) :
    Calls Try.prog 90 #[.agg #[.int .i64 a, .int .i64 b], .int .i64 t] w fun e w' => e = .returned (.agg #[.int .i64 (a - t), .int .i64 (b - t)]) ∧ Below w.heap.size w w' := by
  refine calls_val env mixed Try.func90 has90 Try.ntmps90 [.agg #[.int .i64 a, .int .i64 b], .int .i64 t] (by simp) ?_
  repeat
    conv => whnf
    first
      | refine And.intro (a := drawB _ = true) (by kernel_rfl) ?_
      | refine And.intro (a := (_ : Bool) = true) rfl ?_
      | refine And.intro (a := (_ : Bool) = true ∧ (_ : Bool) = true) ⟨rfl, rfl⟩ ?_
      | refine And.intro (a := (_ : Bool) = true ∧ (_ : List _) = []) ⟨rfl, rfl⟩ ?_
      | refine And.intro (a := IR _ _) (And.intro (by omega) (by omega)) ?_
  exact ⟨fun β => rfl, fun w' h => h⟩

set_option maxRecDepth 100000 in
theorem after_ok (x0 x1 z0 z1 u0 u1 v0 v1 m t : Int) (w : World)
   (hx0 : -20000000 ≤ x0 ∧ x0 ≤ 20000000) (hx1 : -20000000 ≤ x1 ∧ x1 ≤ 20000000)
   (hz0 : -20000000 ≤ z0 ∧ z0 ≤ 20000000) (hz1 : -20000000 ≤ z1 ∧ z1 ≤ 20000000)
   (hu0 : -10000000 ≤ t * u0 ∧ t * u0 ≤ 10000000) (hu1 : -10000000 ≤ t * u1 ∧ t * u1 ≤ 10000000)
   (hv0 : -10000000 ≤ t * v0 ∧ t * v0 ≤ 10000000) (hv1 : -10000000 ≤ t * v1 ∧ t * v1 ≤ 10000000)
   (ht : 0 ≤ t ∧ t ≤ 300) (htt : 0 ≤ 49 * t * t ∧ 49 * t * t ≤ 10000000):
    Calls Try.prog 67 #[.agg #[.int .i64 x0, .int .i64 x1, .int .i64 z0, .int .i64 z1, .int .i64 u0, .int .i64 u1, .int .i64 v0, .int .i64 v1, .int .i64 m], .int .i64 t] w fun e w' =>
      e = .returned (.agg #[.int .i64 (x0 + t * u0), .int .i64 (x1 + t * u1), .int .i64 (z0 + t * v0 - 49 * t * t), .int .i64 (z1 + t * v1 - 49 * t * t)]) ∧ Below w.heap.size w w' := by
  refine calls_val env mixed Try.func67 has67 Try.ntmps67 [.agg #[.int .i64 x0, .int .i64 x1, .int .i64 z0, .int .i64 z1, .int .i64 u0, .int .i64 u1, .int .i64 v0, .int .i64 v1, .int .i64 m], .int .i64 t] (by simp) ?_
  repeat
    conv => whnf
    first
      | refine And.intro (a := drawB _ = true) (by kernel_rfl) ?_
      | refine And.intro (a := (_ : Bool) = true) rfl ?_
      | refine And.intro (a := (_ : Bool) = true ∧ (_ : Bool) = true) ⟨rfl, rfl⟩ ?_
      | refine And.intro (a := (_ : Bool) = true ∧ (_ : List _) = []) ⟨rfl, rfl⟩ ?_
      | refine And.intro (a := IR _ _) (And.intro (by omega) (by omega)) ?_
      | (with_reducible show CallEv _ _ 89 _ _ _ _ _); refine callE (k := 89) (fun β w' hh => moved_ok _ _ _ _ _ _ (by omega) (by omega) (by omega) (by omega)) ?_
      | (with_reducible show CallEv _ _ 90 _ _ _ _ _); refine callE (k := 90) (fun β w' hh => sunk_ok _ _ _ _ (by omega) (by omega) (by omega)) ?_
  exact ⟨fun β => rfl, fun w' h => h⟩
end Go.Proofs.Ytlehjapeomallaa
