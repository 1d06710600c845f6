/- The law of the pendulums answers true at all inputs. -/
import Derived.Test.YtlehjapeomallaaFJ
namespace Go.Proofs.Ytlehjapeomallaa
open Go Sx Go.RowKit

theorem sq_next (a : Int) : (a + 1) * (a + 1) = a * a + 2 * a + 1 := by rw [Int.add_mul, Int.mul_add]; omega
theorem hiT_spec {l : Int} (hl : 1 ≤ l ∧ l ≤ 20000) : 1 ≤ hiT l ∧ hiT l ≤ 40001 ∧ 39478418000 * l ≤ hiT l * hiT l * 980000000 ∧ (hiT l - 1) * (hiT l - 1) * 980000000 < 39478418000 * l := by
  obtain ⟨s1, s2, s3, s4⟩ := sw_some (39478418000 * l) (by omega) (by omega)
  unfold hiT
  split
  · rename_i h
    rw [Int.add_sub_cancel]
    exact ⟨by omega, by omega, by omega, h⟩
  · rename_i h
    generalize swg (39478418000 * l) = s at *
    have h1 : 1 ≤ s := by
      rcases Int.lt_or_le 0 s with h' | h'
      · omega
      · have : s = 0 := by omega
        subst this; omega
    have h2 := sq_next (s - 1)
    rw [Int.sub_add_cancel] at h2
    exact ⟨h1, by omega, by omega, by omega⟩
theorem hiT_mono {a b : Int} (ha : 1 ≤ a) (hab : a ≤ b) (hb : b ≤ 20000) : hiT a ≤ hiT b := by
  obtain ⟨a1, a2, a3, a4⟩ := hiT_spec (l := a) ⟨ha, by omega⟩
  obtain ⟨b1, b2, b3, b4⟩ := hiT_spec (l := b) ⟨by omega, hb⟩
  have := sq_lt (a := hiT a - 1) (b := hiT b) (by omega) (by omega) (by omega)
  omega
theorem swg_mono {a b : Int} (ha : 1 ≤ a) (hab : a ≤ b) (hb : b ≤ 20000) : swg (39478417600 * a) ≤ swg (39478417600 * b) := by
  obtain ⟨a1, a2, a3, a4⟩ := sw_some (39478417600 * a) (by omega) (by omega)
  obtain ⟨b1, b2, b3, b4⟩ := sw_some (39478417600 * b) (by omega) (by omega)
  have := sq_lt (a := swg (39478417600 * a)) (b := swg (39478417600 * b) + 1) (by omega) (by omega) (by omega)
  omega
theorem swg_hi {a : Int} (ha : 1 ≤ a ∧ a ≤ 20000) : swg (39478417600 * a) ≤ hiT a ∧ hiT a - swg (39478417600 * a) ≤ 2 := by
  obtain ⟨a1, a2, a3, a4⟩ := sw_some (39478417600 * a) (by omega) (by omega)
  obtain ⟨b1, b2, b3, b4⟩ := hiT_spec ha
  generalize swg (39478417600 * a) = s at *
  generalize hiT a = h at *
  have e1 := sq_next h
  have e2 : s < h + 1 := sq_lt (by omega) (by omega) (by omega)
  have e3 := sq_next (s + 1)
  have e4 : h - 1 < s + 1 + 1 := sq_lt (by omega) (by omega) (by omega)
  omega

theorem under59 : Try.prog.underlying 59 = some (.int .u16) := by kernel_rfl
theorem under5 : Try.prog.underlying 5 = some (.int .u8) := by kernel_rfl
theorem conv59 (a : Int) (h : 0 ≤ a ∧ a ≤ 65535) : RunIs Try.prog (convert 59 3 (.int .u16 a)) (iv a) := fun w => by
  have e : IntKind.i64.wrap a = a := IR.wrap (k := .i64) ⟨by omega, by omega⟩
  simp [convert, run_underlying under59, run_underlying under3, Conv.intToInt, e]
theorem conv5 (a : Int) (h : 0 ≤ a ∧ a ≤ 255) : RunIs Try.prog (convert 5 3 (.int .u8 a)) (iv a) := fun w => by
  have e : IntKind.i64.wrap a = a := IR.wrap (k := .i64) ⟨by omega, by omega⟩
  simp [convert, run_underlying under5, run_underlying under3, Conv.intToInt, e]
theorem convE59 {a : Int} {K : Value → Prop} (h : 0 ≤ a ∧ a ≤ 65535) (hK : K (iv a)) : ∃ v', RunIs Try.prog (convert 59 3 (.int .u16 a)) v' ∧ K v' := ⟨_, conv59 a h, hK⟩
theorem convE5 {a : Int} {K : Value → Prop} (h : 0 ≤ a ∧ a ≤ 255) (hK : K (iv a)) : ∃ v', RunIs Try.prog (convert 5 3 (.int .u8 a)) v' ∧ K v' := ⟨_, conv5 a h, hK⟩

theorem Swing_zero (l : Int) (w : World) (hl : 1 ≤ l ∧ l ≤ 20000) :
    Calls Try.prog 18 #[iv l, iv 0] w fun e w' => e = .returned (.tuple #[.agg #[iv (swg (39478417600 * l)), iv (hiT l)], iv 0]) ∧ Below w.heap.size w w' := by
  have := Swing_good l 0 w hl (by omega)
  rwa [show (hiT l * (1000 + 0) + 999) / 1000 = hiT l from by omega] at this

set_option maxRecDepth 100000 in
theorem Pendulums_ok (x y z : Int) (w : World) (hx : 0 ≤ x ∧ x ≤ 65535) (hy : 0 ≤ y ∧ y ≤ 65535) (hz : 0 ≤ z ∧ z ≤ 255) :
    Calls Try.prog 8 #[.int .u16 x, .int .u16 y, .int .u8 z] w fun e w' => e = .returned (.bool true) ∧ Below w.heap.size w w' := by
  refine calls_val env mixed Try.func8 has8 Try.ntmps8 [.int .u16 x, .int .u16 y, .int .u8 z] (by simp) ?_
  have ha' : 1 ≤ 1 + x % 20000 ∧ 1 + x % 20000 ≤ 20000 := by omega
  have m0 := Int.emod_nonneg y (b := 20001 - (1 + x % 20000)) (by omega)
  have m1 := Int.emod_lt_of_pos y (b := 20001 - (1 + x % 20000)) (by omega)
  have f1 := swg_mono (a := 1 + x % 20000) (b := 1 + x % 20000 + y % (20001 - (1 + x % 20000))) (by omega) (by omega) (by omega)
  have f2 := hiT_mono (a := 1 + x % 20000) (b := 1 + x % 20000 + y % (20001 - (1 + x % 20000))) (by omega) (by omega) (by omega)
  have f3 := swg_hi ha'
  have f4 := hiT_spec ha'
  have f5 : hiT (1 + x % 20000) ≤ (hiT (1 + x % 20000) * (1000 + z % 101) + 999) / 1000 := by
    have := Int.mul_le_mul_of_nonneg_left (show (1000 : Int) ≤ 1000 + z % 101 by omega) (show 0 ≤ hiT (1 + x % 20000) by omega)
    omega
  have f6 := sw_some (39478417600 * (1 + x % 20000)) (by omega) (by omega)
  have f60 := f6.1
  have f61 := f6.2.1
  clear f6
  repeat'
    conv => whnf
    first
      | refine And.intro (a := drawB _ = true) (by kernel_rfl) ?_
      | refine And.intro (a := (_ : Bool) = true) rfl ?_
      | refine And.intro (a := (_ : Bool) = true ∧ (_ : Bool) = true) ⟨rfl, rfl⟩ ?_
      | refine And.intro (a := (_ : Bool) = true ∧ (_ : List _) = []) ⟨rfl, rfl⟩ ?_
      | refine And.intro (a := IR _ _) (And.intro (by omega) (by omega)) ?_
      | refine And.intro (a := (0 : Int) ≤ _ ∧ _ < _) (And.intro (by omega) (by omega)) ?_
      | refine splT ?_
      | refine splF ?_
      | refine splNot ?_
      | (refine splIn (fun hc => ?_) (fun hc => ?_) <;> first | (exfalso; omega) | skip)
      | (refine splD (fun hc => ?_) (fun hc => ?_) <;> first | (exfalso; omega) | skip)
      | (refine splE (fun hc => ?_) (fun hc => ?_) <;> first | (exfalso; omega) | skip)
      | (refine splNE (fun hc => ?_) (fun hc => ?_) <;> first | (exfalso; omega) | skip)
      | refine convE59 hx ?_
      | refine convE59 hy ?_
      | refine convE5 hz ?_
      | refine remE (by omega) (by omega) ?_
      | ((with_reducible show CallEv _ _ 18 [_, .v (.int .i64 0)] _ _ _ _); refine callE (k := 18) (fun β w' _ => Swing_zero _ _ (by omega)) ?_)
      | ((with_reducible show CallEv _ _ 18 _ _ _ _ _); refine callE (k := 18) (fun β w' hbw => Swing_good _ _ _ (by omega) (by omega)) ?_)
      | ((with_reducible show CallEv _ _ 20 _ _ _ _ _); refine callE (k := 20) (fun β w' hbw => wakes_ok _) ?_)
  exact ⟨fun β => rfl, fun w' h => h⟩
end Go.Proofs.Ytlehjapeomallaa
