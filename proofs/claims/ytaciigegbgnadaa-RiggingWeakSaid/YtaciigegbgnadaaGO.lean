/- An engine arm that lacked: makeSlice of a known number of elements. -/
import Derived.Test.YtaciigegbgnadaaGN
namespace Go.Proofs.Ytaciigegbgnadaa.Tx
open Go Go.RowKit
set_option linter.unusedSimpArgs false
set_option linter.unusedVariables false

theorem mkS {P : Program} (T : Env P) {dst : Option Tmp} {ty : TypeId} {pos : String} {after : Array Edge} {gd : Option (Nat × Bool)} {gs : List Nat} {σ : Sg} {K : Ef → Prop} {KF : Option KT} {t e : Nat} {x : Operand} (nb m : Nat)
    {sz : Nat} {zr : List Value} {by_ : Nat} {ti : TI} (hx : gv σ x = some (.v (iv m))) (ht : T.ty t = some ⟨sz, zr, by_, .slice e⟩) (he : T.ty e = some ti)
    (h01 : 0 < ti.size) (h03 : ti.zero.length = ti.size) (hm : m ≤ 100) (hby : ti.bytes ≤ 100000)
    (hB : efB σ ⟨.sl nb 0 m m, [nb], [(nb, .cells ((List.replicate m ti.zero).flatten.map .v) e)], gs ++ os x, []⟩ = true) (hK : K ⟨.sl nb 0 m m, [nb], [(nb, .cells ((List.replicate m ti.zero).flatten.map .v) e)], gs ++ os x, []⟩) :
    OpEvS P ⟨dst, .makeSlice t x x, ty, pos, after, gd⟩ gs σ K KF := by
  refine .mk _ hB (fun k hk => by simp [hk]) rfl (fun β a w hss => ?_) hK
  have e1 := gv_eval hss hx (fun k hk => by simp [hk])
  refine ⟨_, _, EfPost.newBlk (lts_v _ _), .inl ?_⟩
  rw [cs_v]
  obtain ⟨i, z, q1, q2, q3, q4, q5⟩ := (T.tok e ti he).row
  have hu := under_slice (T.tok t _ ht) rfl
  have hzc : (Array.range (m * ti.size)).map (fun i => z.cells[i % z.cells.size]!) = (List.replicate m ti.zero).flatten.toArray := by
    have hzz : z.cells = ti.zero.toArray := by rw [← q4]
    have hzs : z.cells.size = ti.size := by rw [hzz]; simpa using h03
    have := rep_zero (z := ti.zero) (by omega) m
    rw [h03] at this
    rw [← this, hzs, hzz]
  have hw1 : IntKind.i64.wrap (m : Int) = m := IR.wrap (And.intro (by omega) (by omega))
  simp only [execOp, Instr.makeSlice, Sem.run_bind, Go.run_underlying hu w, Result.andThen_ok, e1, SV.c, asInt, asIntOf, Sem.run_pure, hw1]
  have hti : (typeInfo e).run P w = .ok i w := by simp [typeInfo, q1]
  have hb2 : (i.bytes : Int) * m ≤ 100000 * 100 := by
    rw [q5]
    exact Int.mul_le_mul (by omega) (by omega) (by omega) (by omega)
  have c1 : (decide ((m : Int) < 0) || decide ((i.bytes : Int) * m > 2 ^ 48) || decide ((m : Int) < 0) || decide ((m : Int) > m)) = false := by
    simp; omega
  rw [hti]
  simp only [Result.andThen_ok, c1, Bool.false_eq_true, if_false, Sem.run_bind, askRoom, Int.toNat_natCast]
  have hroom : ¬ (m * i.bytes > roomBytes) := by
    have h2 : m * ti.bytes ≤ 100 * 100000 := Nat.mul_le_mul hm hby
    rw [q5]
    simp only [roomBytes]
    omega
  rw [if_neg hroom]
  simp only [Sem.run_pure, Result.andThen_ok, (T.tok e ti he).run_sizeOf w]
  by_cases hm0 : m * ti.size = 0
  · have hm00 : m = 0 := by
      rcases Nat.mul_eq_zero.1 hm0 with h | h
      · exact h
      · omega
    subst hm00
    rw [if_pos hm0]
    simp [newRow, Sem.run_bind, Sem.run_pure]
    congr 2
    exact Array.eq_empty_of_size_eq_zero (by simp)
  · rw [if_neg hm0]
    have hzr : (zeroValue e).run P w = .ok z w := by simp [zeroValue, typeInfo, q1, q3]
    simp only [Sem.run_bind, hzr, Sem.run_pure, Result.andThen_ok]
    rw [hzc]
    simp [newRow, SV.c]
end Go.Proofs.Ytaciigegbgnadaa.Tx
