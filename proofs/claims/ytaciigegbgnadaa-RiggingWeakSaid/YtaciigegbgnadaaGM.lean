/- An engine arm that lacked: an element of an array that is a value. -/
import Derived.Test.YtaciigegbgnadaaGL
namespace Go.Proofs.Ytaciigegbgnadaa.Tx
open Go Go.RowKit
set_option linter.unusedSimpArgs false
set_option linter.unusedVariables false

theorem idxE {P : Program} (T : Env P) {dst : Option Tmp} {ty : TypeId} {pos : String} {after : Array Edge} {gd : Option (Nat × Bool)} {gs : List Nat} {σ : Sg} {K : Ef → Prop} {t e n : Nat} {x ix : Operand} {s0 s : SV} {k : IntKind} {z : Int}
    {sz : Nat} {zr : List Value} {by_ : Nat} {ti : TI} (hx : gv σ x = some s0) (hix : gv σ ix = some (.v (.int k z))) (ht : T.ty t = some ⟨sz, zr, by_, .arr n e⟩) (he : T.ty e = some ti) (h01 : 0 ≤ z ∧ z < n)
    (hag : s0.isAgg = true) (hlen : ((s0.cells.drop (z.toNat * ti.size)).take ti.size).length = ti.size)
    (hs : (ti.kind.agg = true ∧ s = .agg ((s0.cells.drop (z.toNat * ti.size)).take ti.size)) ∨ (ti.kind.agg = false ∧ (s0.cells.drop (z.toNat * ti.size)).take ti.size = [s]))
    (hB : efB σ ⟨s, [], [], gs ++ (os x ++ os ix), []⟩ = true) (hK : K ⟨s, [], [], gs ++ (os x ++ os ix), []⟩) : OpEv P ⟨dst, .index t x ix, ty, pos, after, gd⟩ gs σ K := by
  refine .mk _ hB (fun k hk => by simp [hk]) rfl (runOK_pure fun β a w hss => ?_) hK
  have e1 := gv_eval hss hx (fun k hk => by simp [hk])
  have e2 := gv_eval hss hix (fun k hk => by simp [hk])
  have hu := under_arr (T.tok t _ ht) rfl
  have hsz := (T.tok e ti he).run_sizeOf w
  obtain ⟨cs, hcs, hcs'⟩ : ∃ cs : List Value, s0.c β = .agg cs.toArray ∧ SV.cs β s0.cells = cs := by
    cases s0 with
    | agg l => exact ⟨_, rfl, rfl⟩
    | v v =>
      cases v with
      | agg c => exact ⟨c.toList, rfl, by simp only [SV.cells]; exact cs_v β _⟩
      | _ => cases hag
    | _ => cases hag
  have hp := run_part (P := P) (T.tok e ti he) (cs := cs) (off := z.toNat * ti.size) (w := w) (β := β) (l := (s0.cells.drop (z.toNat * ti.size)).take ti.size) (s := s)
    (by rw [← hcs', SV.cs_eq, SV.cs_eq, List.map_take, List.map_drop]) hlen hs
  simp only [execOp, Instr.index, e1, e2, hcs, SV.c, asIntOf, Sem.run_bind, Sem.run_pure, Result.andThen_ok, Go.run_underlying hu w, h01.1, h01.2, and_self, if_true, hsz, hp]
theorem idxS {P : Program} (T : Env P) {dst : Option Tmp} {ty : TypeId} {pos : String} {after : Array Edge} {gd : Option (Nat × Bool)} {gs : List Nat} {σ : Sg} {K : Ef → Prop} {KF : Option KT} {t e n : Nat} {x ix : Operand} {s0 s : SV} {k : IntKind} {z : Int}
    {sz : Nat} {zr : List Value} {by_ : Nat} {ti : TI} (hx : gv σ x = some s0) (hix : gv σ ix = some (.v (.int k z))) (ht : T.ty t = some ⟨sz, zr, by_, .arr n e⟩) (he : T.ty e = some ti) (h01 : 0 ≤ z ∧ z < n)
    (hag : s0.isAgg = true) (hlen : ((s0.cells.drop (z.toNat * ti.size)).take ti.size).length = ti.size)
    (hs : (ti.kind.agg = true ∧ s = .agg ((s0.cells.drop (z.toNat * ti.size)).take ti.size)) ∨ (ti.kind.agg = false ∧ (s0.cells.drop (z.toNat * ti.size)).take ti.size = [s]))
    (hB : efB σ ⟨s, [], [], gs ++ (os x ++ os ix), []⟩ = true) (hK : K ⟨s, [], [], gs ++ (os x ++ os ix), []⟩) : OpEvS P ⟨dst, .index t x ix, ty, pos, after, gd⟩ gs σ K KF := by
  refine .mk _ hB (fun k hk => by simp [hk]) rfl (runOK_pure fun β a w hss => ?_) hK
  have e1 := gv_eval hss hx (fun k hk => by simp [hk])
  have e2 := gv_eval hss hix (fun k hk => by simp [hk])
  have hu := under_arr (T.tok t _ ht) rfl
  have hsz := (T.tok e ti he).run_sizeOf w
  obtain ⟨cs, hcs, hcs'⟩ : ∃ cs : List Value, s0.c β = .agg cs.toArray ∧ SV.cs β s0.cells = cs := by
    cases s0 with
    | agg l => exact ⟨_, rfl, rfl⟩
    | v v =>
      cases v with
      | agg c => exact ⟨c.toList, rfl, by simp only [SV.cells]; exact cs_v β _⟩
      | _ => cases hag
    | _ => cases hag
  have hp := run_part (P := P) (T.tok e ti he) (cs := cs) (off := z.toNat * ti.size) (w := w) (β := β) (l := (s0.cells.drop (z.toNat * ti.size)).take ti.size) (s := s)
    (by rw [← hcs', SV.cs_eq, SV.cs_eq, List.map_take, List.map_drop]) hlen hs
  simp only [execOp, Instr.index, e1, e2, hcs, SV.c, asIntOf, Sem.run_bind, Sem.run_pure, Result.andThen_ok, Go.run_underlying hu w, h01.1, h01.2, and_self, if_true, hsz, hp]

/-- The whole of an array that lies in an own block, as a slice. -/
theorem slS {P : Program} (T : Env P) {dst : Option Tmp} {ty : TypeId} {pos : String} {after : Array Edge} {gd : Option (Nat × Bool)} {gs : List Nat} {σ : Sg} {K : Ef → Prop} {KF : Option KT} {t e n : Nat} {x : Operand} {i o : Nat}
    {sz : Nat} {zr : List Value} {by_ : Nat} {ti : TI} (hx : gv σ x = some (.ptr i o)) (ht : T.ty t = some ⟨sz, zr, by_, .arr n e⟩) (he : T.ty e = some ti)
    (hB : efB σ ⟨.sl i o n n, [], [], gs ++ os x, []⟩ = true) (hK : K ⟨.sl i o n n, [], [], gs ++ os x, []⟩) : OpEvS P ⟨dst, .slice t x none none none, ty, pos, after, gd⟩ gs σ K KF := by
  refine .mk _ hB (fun k hk => by simp [hk]) rfl (runOK_pure fun β a w hss => ?_) hK
  have e1 := gv_eval hss hx (fun k hk => by simp [hk])
  have hu := under_arr (T.tok t _ ht) rfl
  have hsz := (T.tok e ti he).run_sizeOf w
  simp only [execOp, Instr.sliceAt, Option.map_none, e1, SV.c, Sem.run_bind, Sem.run_pure, Result.andThen_ok, Go.run_underlying hu w, Instr.sureAddr, Instr.sliceBounds, hsz, own_add, Nat.zero_mul, Nat.add_zero, Nat.sub_zero, ite_self]
end Go.Proofs.Ytaciigegbgnadaa.Tx
