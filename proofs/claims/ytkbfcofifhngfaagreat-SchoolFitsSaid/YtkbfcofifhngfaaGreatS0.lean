/- Engine arms: elements of arrays, slices made, callees that make or change rows, cuts that give rows up. -/
import Derived.Test.YtkbfcofifhngfaaGreatE
namespace Go.Proofs.YtkbfcofifhngfaaGreat.Tx
open Go Go.RowKit
set_option linter.unusedSimpArgs false
set_option linter.unusedVariables false

theorem idxE {P : Program} (T : Env P) {dst : Option Tmp} {ty : TypeId} {pos : String} {after : Array Edge} {gd : Option (Nat × Bool)} {gs : List Nat} {σ : Sg} {K : Ef → Prop} {t e n : Nat} {x ix : Operand} {s0 s : SV} {k : IntKind} {z : Int}
    {sz : Nat} {zr : List Value} {by_ : Nat} {ti : TI} (hx : gv σ x = some s0) (hix : gv σ ix = some (.v (.int k z))) (ht : T.ty t = some ⟨sz, zr, by_, .arr n e⟩) (he : T.ty e = some ti) (h01 : 0 ≤ z ∧ z < n)
    (hag : s0.isAgg = true) (hlen : ((s0.cells.drop (z.toNat * ti.size)).take ti.size).length = ti.size)
    (hs : (ti.kind.agg = true ∧ s = .agg ((s0.cells.drop (z.toNat * ti.size)).take ti.size)) ∨ (ti.kind.agg = false ∧ (s0.cells.drop (z.toNat * ti.size)).take ti.size = [s]))
    (hB : efB σ ⟨s, [], [], gs ++ (os x ++ os ix), []⟩ = true) (hK : K ⟨s, [], [], gs ++ (os x ++ os ix), []⟩) : OpEv P ⟨dst, .index t x ix, ty, pos, after, gd⟩ gs σ K := by
  refine .mk _ hB (fun k hk => by simp [hk]) rfl (runOK_pure fun β a w hss => ?_) hK
  have e1 := gv_eval hss hx (fun k hk => by simp [hk])
  have e2 := gv_eval hss hix (fun k hk => by simp [hk])
  have hu := under_arr (T.tok t _ ht) rfl
  have hsz := (T.tok e ti he).run_sizeOf w
  obtain ⟨cs, hcs, hcs'⟩ : ∃ cs : List Value, s0.c β = .agg cs.toArray ∧ SV.cs β s0.cells = cs := by
    cases s0 with
    | agg l => exact ⟨_, rfl, rfl⟩
    | v v =>
      cases v with
      | agg c => exact ⟨c.toList, rfl, by simp only [SV.cells]; exact cs_v β _⟩
      | _ => cases hag
    | _ => cases hag
  have hp := run_part (P := P) (T.tok e ti he) (cs := cs) (off := z.toNat * ti.size) (w := w) (β := β) (l := (s0.cells.drop (z.toNat * ti.size)).take ti.size) (s := s)
    (by rw [← hcs', SV.cs_eq, SV.cs_eq, List.map_take, List.map_drop]) hlen hs
  simp only [execOp, Instr.index, e1, e2, hcs, SV.c, asIntOf, Sem.run_bind, Sem.run_pure, Result.andThen_ok, Go.run_underlying hu w, h01.1, h01.2, and_self, if_true, hsz, hp]
theorem idxS {P : Program} (T : Env P) {dst : Option Tmp} {ty : TypeId} {pos : String} {after : Array Edge} {gd : Option (Nat × Bool)} {gs : List Nat} {σ : Sg} {K : Ef → Prop} {KF : Option KT} {t e n : Nat} {x ix : Operand} {s0 s : SV} {k : IntKind} {z : Int}
    {sz : Nat} {zr : List Value} {by_ : Nat} {ti : TI} (hx : gv σ x = some s0) (hix : gv σ ix = some (.v (.int k z))) (ht : T.ty t = some ⟨sz, zr, by_, .arr n e⟩) (he : T.ty e = some ti) (h01 : 0 ≤ z ∧ z < n)
    (hag : s0.isAgg = true) (hlen : ((s0.cells.drop (z.toNat * ti.size)).take ti.size).length = ti.size)
    (hs : (ti.kind.agg = true ∧ s = .agg ((s0.cells.drop (z.toNat * ti.size)).take ti.size)) ∨ (ti.kind.agg = false ∧ (s0.cells.drop (z.toNat * ti.size)).take ti.size = [s]))
    (hB : efB σ ⟨s, [], [], gs ++ (os x ++ os ix), []⟩ = true) (hK : K ⟨s, [], [], gs ++ (os x ++ os ix), []⟩) : OpEvS P ⟨dst, .index t x ix, ty, pos, after, gd⟩ gs σ K KF := by
  refine .mk _ hB (fun k hk => by simp [hk]) rfl (runOK_pure fun β a w hss => ?_) hK
  have e1 := gv_eval hss hx (fun k hk => by simp [hk])
  have e2 := gv_eval hss hix (fun k hk => by simp [hk])
  have hu := under_arr (T.tok t _ ht) rfl
  have hsz := (T.tok e ti he).run_sizeOf w
  obtain ⟨cs, hcs, hcs'⟩ : ∃ cs : List Value, s0.c β = .agg cs.toArray ∧ SV.cs β s0.cells = cs := by
    cases s0 with
    | agg l => exact ⟨_, rfl, rfl⟩
    | v v =>
      cases v with
      | agg c => exact ⟨c.toList, rfl, by simp only [SV.cells]; exact cs_v β _⟩
      | _ => cases hag
    | _ => cases hag
  have hp := run_part (P := P) (T.tok e ti he) (cs := cs) (off := z.toNat * ti.size) (w := w) (β := β) (l := (s0.cells.drop (z.toNat * ti.size)).take ti.size) (s := s)
    (by rw [← hcs', SV.cs_eq, SV.cs_eq, List.map_take, List.map_drop]) hlen hs
  simp only [execOp, Instr.index, e1, e2, hcs, SV.c, asIntOf, Sem.run_bind, Sem.run_pure, Result.andThen_ok, Go.run_underlying hu w, h01.1, h01.2, and_self, if_true, hsz, hp]

/-- The whole of an array that lies in an own block, as a slice. -/
theorem slS {P : Program} (T : Env P) {dst : Option Tmp} {ty : TypeId} {pos : String} {after : Array Edge} {gd : Option (Nat × Bool)} {gs : List Nat} {σ : Sg} {K : Ef → Prop} {KF : Option KT} {t e n : Nat} {x : Operand} {i o : Nat}
    {sz : Nat} {zr : List Value} {by_ : Nat} {ti : TI} (hx : gv σ x = some (.ptr i o)) (ht : T.ty t = some ⟨sz, zr, by_, .arr n e⟩) (he : T.ty e = some ti)
    (hB : efB σ ⟨.sl i o n n, [], [], gs ++ os x, []⟩ = true) (hK : K ⟨.sl i o n n, [], [], gs ++ os x, []⟩) : OpEvS P ⟨dst, .slice t x none none none, ty, pos, after, gd⟩ gs σ K KF := by
  refine .mk _ hB (fun k hk => by simp [hk]) rfl (runOK_pure fun β a w hss => ?_) hK
  have e1 := gv_eval hss hx (fun k hk => by simp [hk])
  have hu := under_arr (T.tok t _ ht) rfl
  have hsz := (T.tok e ti he).run_sizeOf w
  simp only [execOp, Instr.sliceAt, Option.map_none, e1, SV.c, Sem.run_bind, Sem.run_pure, Result.andThen_ok, Go.run_underlying hu w, Instr.sureAddr, Instr.sliceBounds, hsz, own_add, Nat.zero_mul, Nat.add_zero, Nat.sub_zero, ite_self]
end Go.Proofs.YtkbfcofifhngfaaGreat.Tx
namespace Go.Proofs.YtkbfcofifhngfaaGreat.Tx
open Go Go.RowKit
set_option linter.unusedSimpArgs false
set_option linter.unusedVariables false

theorem mkS {P : Program} (T : Env P) {dst : Option Tmp} {ty : TypeId} {pos : String} {after : Array Edge} {gd : Option (Nat × Bool)} {gs : List Nat} {σ : Sg} {K : Ef → Prop} {KF : Option KT} {t e : Nat} {x : Operand} (nb m : Nat)
    {sz : Nat} {zr : List Value} {by_ : Nat} {ti : TI} (hx : gv σ x = some (.v (iv m))) (ht : T.ty t = some ⟨sz, zr, by_, .slice e⟩) (he : T.ty e = some ti)
    (h01 : 0 < ti.size) (h03 : ti.zero.length = ti.size) (hm : m ≤ 100) (hby : ti.bytes ≤ 100000)
    (hB : efB σ ⟨.sl nb 0 m m, [nb], [(nb, .cells ((List.replicate m ti.zero).flatten.map .v) e)], gs ++ os x, []⟩ = true) (hK : K ⟨.sl nb 0 m m, [nb], [(nb, .cells ((List.replicate m ti.zero).flatten.map .v) e)], gs ++ os x, []⟩) :
    OpEvS P ⟨dst, .makeSlice t x x, ty, pos, after, gd⟩ gs σ K KF := by
  refine .mk _ hB (fun k hk => by simp [hk]) rfl (fun β a w hss => ?_) hK
  have e1 := gv_eval hss hx (fun k hk => by simp [hk])
  refine ⟨_, _, EfPost.newBlk (lts_v _ _), .inl ?_⟩
  rw [cs_v]
  obtain ⟨i, z, q1, q2, q3, q4, q5⟩ := (T.tok e ti he).row
  have hu := under_slice (T.tok t _ ht) rfl
  have hzc : (Array.range (m * ti.size)).map (fun i => z.cells[i % z.cells.size]!) = (List.replicate m ti.zero).flatten.toArray := by
    have hzz : z.cells = ti.zero.toArray := by rw [← q4]
    have hzs : z.cells.size = ti.size := by rw [hzz]; simpa using h03
    have := rep_zero (z := ti.zero) (by omega) m
    rw [h03] at this
    rw [← this, hzs, hzz]
  have hw1 : IntKind.i64.wrap (m : Int) = m := IR.wrap (And.intro (by omega) (by omega))
  simp only [execOp, Instr.makeSlice, Sem.run_bind, Go.run_underlying hu w, Result.andThen_ok, e1, SV.c, asInt, asIntOf, Sem.run_pure, hw1]
  have hti : (typeInfo e).run P w = .ok i w := by simp [typeInfo, q1]
  have hb2 : (i.bytes : Int) * m ≤ 100000 * 100 := by
    rw [q5]
    exact Int.mul_le_mul (by omega) (by omega) (by omega) (by omega)
  have c1 : (decide ((m : Int) < 0) || decide ((i.bytes : Int) * m > 2 ^ 48) || decide ((m : Int) < 0) || decide ((m : Int) > m)) = false := by
    simp; omega
  rw [hti]
  simp only [Result.andThen_ok, c1, Bool.false_eq_true, if_false, Sem.run_bind, askRoom, Int.toNat_natCast]
  have hroom : ¬ (m * i.bytes > roomBytes) := by
    have h2 : m * ti.bytes ≤ 100 * 100000 := Nat.mul_le_mul hm hby
    rw [q5]
    simp only [roomBytes]
    omega
  rw [if_neg hroom]
  simp only [Sem.run_pure, Result.andThen_ok, (T.tok e ti he).run_sizeOf w]
  by_cases hm0 : m * ti.size = 0
  · have hm00 : m = 0 := by
      rcases Nat.mul_eq_zero.1 hm0 with h | h
      · exact h
      · omega
    subst hm00
    rw [if_pos hm0]
    simp [newRow, Sem.run_bind, Sem.run_pure]
    congr 2
    exact Array.eq_empty_of_size_eq_zero (by simp)
  · rw [if_neg hm0]
    have hzr : (zeroValue e).run P w = .ok z w := by simp [zeroValue, typeInfo, q1, q3]
    simp only [Sem.run_bind, hzr, Sem.run_pure, Result.andThen_ok]
    rw [hzc]
    simp [newRow, SV.c]
end Go.Proofs.YtkbfcofifhngfaaGreat.Tx
namespace Go.Proofs.YtkbfcofifhngfaaGreat.Tx
open Go Go.RowKit
set_option linter.unusedSimpArgs false
set_option linter.unusedVariables false

theorem mkO {P : Program} (T : Env P) {dst : Option Tmp} {ty : TypeId} {pos : String} {after : Array Edge} {gd : Option (Nat × Bool)} {gs : List Nat} {σ : Sg} {K : Ef → Prop} {KF : Option KT} {t e : Nat} {x : Operand} (nb m : Nat) (xs : List Value)
    {sz : Nat} {zr : List Value} {by_ : Nat} {ti : TI} (hx : gv σ x = some (.v (iv m))) (ht : T.ty t = some ⟨sz, zr, by_, .slice e⟩) (he : T.ty e = some ti)
    (h01 : 0 < ti.size) (h03 : ti.zero.length = ti.size) (hm : m ≤ 100) (hby : ti.bytes ≤ 100000) (hxs : xs = (List.replicate m ti.zero).flatten)
    (hB : efB σ ⟨.os nb (nb + 1) m, [nb, nb + 1], [(nb, .own (nb + 1) m ti.size xs e)], gs ++ os x, []⟩ = true) (hK : K ⟨.os nb (nb + 1) m, [nb, nb + 1], [(nb, .own (nb + 1) m ti.size xs e)], gs ++ os x, []⟩) :
    OpEvS P ⟨dst, .makeSlice t x x, ty, pos, after, gd⟩ gs σ K KF := by
  subst hxs
  refine .mk _ hB (fun k hk => by simp [hk]) rfl (fun β a w hss => ?_) hK
  have e1 := gv_eval hss hx (fun k hk => by simp [hk])
  have hzl : ((List.replicate m ti.zero).flatten).length = m * ti.size := by
    simp [List.length_flatten, h03]
  refine ⟨fun j => if j = nb then w.heap.size else if j = nb + 1 then m else β j, w.alloc (.cells ((List.replicate m ti.zero).flatten).toArray e), ⟨fun i hi => ?_, ⟨rfl, rfl, rfl, by show w.heap.size ≤ (w.heap.push _).size; rw [Array.size_push]; omega, fun b hb _ => ?_⟩, fun i bk hi => ?_, fun i hi hL => ?_, fun i hi j hj hL hL' hne => ?_⟩, .inl ?_⟩
  · simp only [List.mem_cons, List.not_mem_nil, or_false, not_or] at hi
    simp [hi.1, hi.2]
  · simp only [World.alloc, Array.getElem?_push]
    rw [if_neg (show ¬ b = w.heap.size by omega)]
  · simp only [List.mem_singleton, Prod.mk.injEq] at hi
    obtain ⟨rfl, rfl⟩ := hi
    have hn1 : ¬ (i + 1 = i) := by omega
    simp only [Blk.ok, if_true, if_neg hn1]
    refine ⟨hzl, .inr ⟨w.heap.size, m, _, rfl, Nat.zero_le _, ?_, Nat.le_refl _, by unfold maxLen; omega, by rw [List.size_toArray, hzl], ?_⟩⟩
    · show (w.heap.push _)[w.heap.size]? = _
      rw [Array.getElem?_push, if_pos rfl]
    · rw [← hzl, List.toList_toArray, List.take_length]
  · obtain ⟨bk, hbk, _⟩ := hL
    simp only [List.mem_singleton, Prod.mk.injEq] at hbk
    obtain ⟨rfl, _⟩ := hbk
    exact .inl (by simp)
  · obtain ⟨bk, hbk, _⟩ := hL
    obtain ⟨bk', hbk', _⟩ := hL'
    simp only [List.mem_singleton, Prod.mk.injEq] at hbk hbk'
    exact absurd (hbk.1.trans hbk'.1.symm) hne
  obtain ⟨i, z, q1, q2, q3, q4, q5⟩ := (T.tok e ti he).row
  have hu := under_slice (T.tok t _ ht) rfl
  have hzc : (Array.range (m * ti.size)).map (fun i => z.cells[i % z.cells.size]!) = (List.replicate m ti.zero).flatten.toArray := by
    have hzz : z.cells = ti.zero.toArray := by rw [← q4]
    have hzs : z.cells.size = ti.size := by rw [hzz]; simpa using h03
    have := rep_zero (z := ti.zero) (by omega) m
    rw [h03] at this
    rw [← this, hzs, hzz]
  have hw1 : IntKind.i64.wrap (m : Int) = m := IR.wrap (And.intro (by omega) (by omega))
  have hn1 : ¬ (nb + 1 = nb) := by omega
  simp only [execOp, Instr.makeSlice, Sem.run_bind, Go.run_underlying hu w, Result.andThen_ok, e1, SV.c, asInt, asIntOf, Sem.run_pure, hw1, if_true, if_neg hn1]
  have hti : (typeInfo e).run P w = .ok i w := by simp [typeInfo, q1]
  have hb2 : (i.bytes : Int) * m ≤ 100000 * 100 := by
    rw [q5]
    exact Int.mul_le_mul (by omega) (by omega) (by omega) (by omega)
  have c1 : (decide ((m : Int) < 0) || decide ((i.bytes : Int) * m > 2 ^ 48) || decide ((m : Int) < 0) || decide ((m : Int) > m)) = false := by
    simp; omega
  rw [hti]
  simp only [Result.andThen_ok, c1, Bool.false_eq_true, if_false, Sem.run_bind, askRoom, Int.toNat_natCast]
  have hroom : ¬ (m * i.bytes > roomBytes) := by
    have h2 : m * ti.bytes ≤ 100 * 100000 := Nat.mul_le_mul hm hby
    rw [q5]
    simp only [roomBytes]
    omega
  rw [if_neg hroom]
  simp only [Sem.run_pure, Result.andThen_ok, (T.tok e ti he).run_sizeOf w]
  by_cases hm0 : m * ti.size = 0
  · have hm00 : m = 0 := by
      rcases Nat.mul_eq_zero.1 hm0 with h | h
      · exact h
      · omega
    subst hm00
    rw [if_pos hm0]
    simp [newRow, Sem.run_bind, Sem.run_pure]
    congr 2
    exact Array.eq_empty_of_size_eq_zero (by simp)
  · rw [if_neg hm0]
    have hzr : (zeroValue e).run P w = .ok z w := by simp [zeroValue, typeInfo, q1, q3]
    simp only [Sem.run_bind, hzr, Sem.run_pure, Result.andThen_ok]
    rw [hzc]
    simp [newRow, SV.c]

/-- `loopN` with two things that change. -/
theorem loopN2 {V : Sg → (Exit → Sg → Prop) → Prop} {nt nb : Nat} {t0 : List (Nat × SV)} {m0 : List (Nat × Blk)} {h : World → Prop} {z : Gz} {Φ : Exit → Sg → Prop} {α β : Type} (nb' : Nat) (t : α → β → List (Nat × SV)) (m : α → β → List (Nat × Blk))
    (pre : α → β → Prop) (μ : α → β → Nat) (a0 : α) (b0 : β) (h0 : pre a0 b0) (ht : TSub t0 (t a0 b0)) (hm : MSub m0 (m a0 b0)) (hok : ∀ a b, pre a b → tB nt nb' (t a b) = true ∧ mB nb' (m a b) = true)
    (hr : ∀ a b, pre a b → V ⟨nt, t a b, m a b, nb', h, z⟩ (seqΦ (fun σ' => ∃ a' b', pre a' b' ∧ μ a' b' < μ a b ∧ Ent σ' ⟨nt, t a' b', m a' b', nb', h, z⟩) Φ)) (hz : gB nb' z.g = true := by rfl) : LoopEv V ⟨nt, t0, m0, nb, h, z⟩ Φ :=
  loopN nb' (fun x : α × β => t x.1 x.2) (fun x => m x.1 x.2) (fun x => pre x.1 x.2) (fun x => μ x.1 x.2) (a0, b0) h0 ht hm (fun x hx => hok x.1 x.2 hx) (hz := hz) fun x hx => by
    have := hr x.1 x.2 hx
    rwa [show (fun σ' => ∃ a' b', pre a' b' ∧ μ a' b' < μ x.1 x.2 ∧ Ent σ' ⟨nt, t a' b', m a' b', nb', h, z⟩) = (fun σ' => ∃ x' : α × β, pre x'.1 x'.2 ∧ μ x'.1 x'.2 < μ x.1 x.2 ∧ Ent σ' ⟨nt, t x'.1 x'.2, m x'.1 x'.2, nb', h, z⟩) from
      funext fun σ' => propext ⟨fun ⟨a, b, h⟩ => ⟨(a, b), h⟩, fun ⟨y, h⟩ => ⟨y.1, y.2, h⟩⟩] at this
end Go.Proofs.YtkbfcofifhngfaaGreat.Tx
namespace Go.Proofs.YtkbfcofifhngfaaGreat.Tx
open Go Go.RowKit
set_option linter.unusedSimpArgs false
set_option linter.unusedVariables false

theorem nilE {P : Program} {dst : Option Tmp} {ty : TypeId} {pos : String} {after : Array Edge} {gd : Option (Nat × Bool)} {gs : List Nat} {σ : Sg} {K : Ef → Prop} {KF : Option KT} {x : Operand} {i o : Nat} (hx : gv σ x = some (.ptr i o))
    (hB : efB σ ⟨.ptr i o, [], [], gs ++ os x, []⟩ = true) (hK : K ⟨.ptr i o, [], [], gs ++ os x, []⟩) : OpEvS P ⟨dst, .nilCheck x, ty, pos, after, gd⟩ gs σ K KF := by
  refine .mk _ hB (fun k hk => by simp [hk]) rfl (runOK_pure fun β a w hss => ?_) hK
  have e1 := gv_eval hss hx (fun k hk => by simp [hk])
  simp only [execOp, e1, SV.c, Sem.run_pure]
theorem nilX {P : Program} {dst : Option Tmp} {ty : TypeId} {pos : String} {after : Array Edge} {gd : Option (Nat × Bool)} {gs : List Nat} {σ : Sg} {K : Ef → Prop} {KF : Option KT} {x : Operand} {ad : Addr} (hx : gv σ x = some (.v (.pointer (some ad))))
    (hB : efB σ ⟨.v (.pointer (some ad)), [], [], gs ++ os x, []⟩ = true) (hK : K ⟨.v (.pointer (some ad)), [], [], gs ++ os x, []⟩) : OpEvS P ⟨dst, .nilCheck x, ty, pos, after, gd⟩ gs σ K KF := by
  refine .mk _ hB (fun k hk => by simp [hk]) rfl (runOK_pure fun β a w hss => ?_) hK
  have e1 := gv_eval hss hx (fun k hk => by simp [hk])
  simp only [execOp, e1, SV.c, Sem.run_pure]

mutual
theorem SV.c_lt {β β' : Nat → Nat} {n : Nat} (h : ∀ i, i < n → β' i = β i) : ∀ s : SV, s.lt n = true → s.c β' = s.c β
  | .v _, _ => rfl
  | .ptr i o, hs => by simp only [SV.lt, Nat.blt_eq] at hs; simp only [SV.c, h i hs]
  | .sl i _ _ _, hs => by simp only [SV.lt, Nat.blt_eq] at hs; simp only [SV.c, h i hs]
  | .os i j _, hs => by simp only [SV.lt, Bool.and_eq_true, Nat.blt_eq] at hs; simp only [SV.c, h i hs.1, h j hs.2]
  | .agg l, hs => by simp only [SV.lt] at hs; simp only [SV.c, SV.cs_lt h l hs]
  | .fn _ cap, hs => by simp only [SV.lt] at hs; simp only [SV.c, SV.cs_lt h cap hs]
  | .mv _ cap, hs => by simp only [SV.lt] at hs; simp only [SV.c, SV.cs_lt h cap hs]
  | .tup l, hs => by simp only [SV.lt] at hs; simp only [SV.c, SV.cs_lt h l hs]
theorem SV.cs_lt {β β' : Nat → Nat} {n : Nat} (h : ∀ i, i < n → β' i = β i) : ∀ l : List SV, SV.lts n l = true → SV.cs β' l = SV.cs β l
  | [], _ => rfl
  | x :: r, hs => by
    simp only [SV.lts, Bool.and_eq_true] at hs
    simp only [SV.cs, SV.c_lt h x hs.1, SV.cs_lt h r hs.2]
end
theorem Blk.ok_nm {β β' : Nat → Nat} {n : Nat} (h : ∀ i, i < n → β' i = β i) {w : World} {b : Nat} (k : Blk) (hk : k.lt n = true) (ho : k.ok β w b) : k.ok β' w b := by
  cases k with
  | gone => trivial
  | cells l ty => simp only [Blk.ok] at *; rw [SV.cs_lt h l hk]; exact ho
  | row xs ty => exact ho
  | own j n' sz xs ty => simp only [Blk.lt, Nat.blt_eq] at hk; simp only [Blk.ok, h j hk] at *; exact ho
  | obj n p => exact ho
  | mix j n' sz vs xs ty => simp only [Blk.lt, Bool.and_eq_true, Nat.blt_eq] at hk; simp only [Blk.ok, h j hk.1, SV.cs_lt h xs hk.2] at *; exact ho
  | grow j n' sz xs ty => simp only [Blk.lt, Bool.and_eq_true, Nat.blt_eq] at hk; simp only [Blk.ok, h j hk.1, SV.cs_lt h xs hk.2] at *; exact ho

/-- Ghosts that hold the names of the first own blocks. -/
def pinG : Nat → List (Nat × SV)
  | 0 => []
  | n + 1 => (n, .ptr n 0) :: pinG n
theorem pinG_lk : ∀ {n i : Nat}, i < n → lk (pinG n) i = some (.ptr i 0)
  | n + 1, i, h => by
    rw [pinG, lk]
    cases hb : Nat.beq i n with
    | true => rw [Nat.eq_of_beq_eq_true hb]; rfl
    | false =>
      have : i ≠ n := fun e => by subst e; simp at hb
      exact pinG_lk (by omega)
theorem pinG_all : ∀ {n k : Nat} {s : SV}, lk (pinG n) k = some s → k < n ∧ s = .ptr k 0
  | n + 1, k, s, h => by
    rw [pinG, lk] at h
    cases hb : Nat.beq k n with
    | true =>
      rw [hb, cond_true, Option.some.injEq] at h
      have := Nat.eq_of_beq_eq_true hb
      subst this
      exact ⟨by omega, h.symm⟩
    | false =>
      rw [hb, cond_false] at h
      have := pinG_all h
      exact ⟨by omega, this.2⟩

/-- **A CALLEE THAT CHANGES ROWS OF ITS CALLER**: m0 is what it finds, m1 what it leaves; it names the blocks as the caller does. -/
theorem calls_WS {P : Program} (T : Env P) (hm : P.follows .mixedOrders = true) {k : Nat} {fn : Func} {c : Code} (hfn : P.funcs[k]? = some fn) (hb : fn.body = some c) {nt : Nat} (hnt : fn.ntmps = nt) (args : List SV) (m0 m1 : List (Nat × Blk)) (nb0 : Nat) (v : Value)
    (hlen : args.length ≤ nt) (hargs : SV.lts nb0 args = true) (hm0 : mB nb0 m0 = true) (hm1 : mB nb0 m1 = true) (hlive : ∀ i b, lk m0 i = some b → b.live = true)
    {Hp : World → Prop} (hvc : ∀ h : World → Prop, (∀ w', h w' → Hp w') → vc T c ⟨nt, slotsOf 0 args, m0, nb0, h, ⟨pinG nb0, [], 0⟩⟩ (endΦ T fn fun s σ => (∀ β, s.c β = v) ∧ MSub σ.m m1 ∧ (∀ w', σ.h w' → h w') ∧ σ.z.g = pinG nb0))
    {β : Nat → Nat} {w : World} (hok : ∀ i b, lk m0 i = some b → b.ok β w (β i)) (hinj : ∀ i j bi bj, lk m0 i = some bi → lk m0 j = some bj → i ≠ j → β i ≠ β j) (hst : ∀ w', Chg (fun b => ∃ i bk, lk m0 i = some bk ∧ β i = b) w w' → Hp w') :
    Calls P k (SV.cs β args).toArray w fun e w' => e = .returned v ∧ Chg (fun b => ∃ i bk, lk m0 i = some bk ∧ β i = b) w w' ∧ ∀ i b, lk m1 i = some b → b.ok β w' (β i) := by
  have hmk := okB (nt := 0) (t := []) (m := m0) (nb := nb0) (h := fun _ => True) (z := ⟨[], [], 0⟩) rfl hm0 rfl
  have hm1k := okB (nt := 0) (t := []) (m := m1) (nb := nb0) (h := fun _ => True) (z := ⟨[], [], 0⟩) rfl hm1 rfl
  let D : Nat → Prop := fun b => b < w.heap.size ∧ ¬ ∃ i bk, lk m0 i = some bk ∧ β i = b
  let h0 : World → Prop := fun w' => Chg (fun b => ∃ i bk, lk m0 i = some bk ∧ β i = b) w w'
  let X : Cx := ⟨fun k => .pointer (some ⟨β k, 0, none⟩), [], []⟩
  have hmem : Mem ⟨nt, slotsOf 0 args, m0, nb0, h0, ⟨pinG nb0, [], 0⟩⟩ β D w :=
    ⟨hok, fun i j bi bj h1 h2 _ _ hne => hinj i j bi bj h1 h2 hne, fun i b hi _ hD => hD.2 ⟨i, b, hi, rfl⟩, fun b hD => hD.1,
     fun w' hc => ⟨hc.os, hc.tape, hc.output, hc.size, fun b hb hX => hc.same b hb (fun hD => hD ⟨hb, hX⟩)⟩⟩
  have hamb : Amb X ⟨pinG nb0, [], 0⟩ β D w :=
    ⟨fun k s hk => by rw [(pinG_all hk).2]; rfl, fun p hp => (by cases hp), fun i e hi => (by simp [lk] at hi), rfl, List.nodup_nil, fun d hd => (by cases hd)⟩
  have hg0 : ∀ k s, lk (pinG nb0) k = some s → s.lt nb0 = true := fun k s hk => by
    obtain ⟨h1, h2⟩ := pinG_all hk
    subst h2
    simp only [SV.lt, Nat.blt_eq]; exact h1
  refine (calls_vc T hm hfn hb hnt (args := args) (m0 := m0) (nb0 := nb0) (h := h0) (z0 := ⟨pinG nb0, [], 0⟩) hlen hargs hmk.wf.m hg0 (hvc h0 hst) X hamb hmem).mono fun e w' ⟨s, σ', β', D', he, ⟨h1, h2, h3, h4⟩, h5, h6, h7, h8⟩ => ?_
  have hpin : ∀ i, i < nb0 → β' i = β i := fun i hi => by
    have := h8.g i (.ptr i 0) (by rw [h4]; exact pinG_lk hi)
    simp only [X, SV.c, Value.pointer.injEq, Option.some.injEq, Addr.mk.injEq] at this
    exact this.1.symm
  refine ⟨by rw [he, h1], h3 w' (h7.h w' (Chg.refl _ _)), fun i b hi => ?_⟩
  obtain ⟨q1, q2⟩ := hm1k.wf.m i b hi
  have := h7.m i b (h2.get i b hi)
  rw [hpin i q1] at this
  exact Blk.ok_nm (fun j hj => (hpin j hj).symm) b q2 this

/-- The same, nothing said of the rest. -/
theorem calls_W {P : Program} (T : Env P) (hm : P.follows .mixedOrders = true) {k : Nat} {fn : Func} {c : Code} (hfn : P.funcs[k]? = some fn) (hb : fn.body = some c) {nt : Nat} (hnt : fn.ntmps = nt) (args : List SV) (m0 m1 : List (Nat × Blk)) (nb0 : Nat) (v : Value)
    (hlen : args.length ≤ nt) (hargs : SV.lts nb0 args = true) (hm0 : mB nb0 m0 = true) (hm1 : mB nb0 m1 = true) (hlive : ∀ i b, lk m0 i = some b → b.live = true)
    (hvc : ∀ h : World → Prop, vc T c ⟨nt, slotsOf 0 args, m0, nb0, h, ⟨pinG nb0, [], 0⟩⟩ (endΦ T fn fun s σ => (∀ β, s.c β = v) ∧ MSub σ.m m1 ∧ (∀ w', σ.h w' → h w') ∧ σ.z.g = pinG nb0))
    {β : Nat → Nat} {w : World} (hok : ∀ i b, lk m0 i = some b → b.ok β w (β i)) (hinj : ∀ i j bi bj, lk m0 i = some bi → lk m0 j = some bj → i ≠ j → β i ≠ β j) :
    Calls P k (SV.cs β args).toArray w fun e w' => e = .returned v ∧ Chg (fun b => ∃ i bk, lk m0 i = some bk ∧ β i = b) w w' ∧ ∀ i b, lk m1 i = some b → b.ok β w' (β i) :=
  calls_WS T hm hfn hb hnt args m0 m1 nb0 v hlen hargs hm0 hm1 hlive (Hp := fun _ => True) (fun h _ => hvc h) hok hinj fun _ _ => trivial

/-- The call of such a callee: what is said of the rest of the world abides when its rows change. -/
theorem callWS {P : Program} {σ : Sg} {k : Nat} {args : List SV} {rs : List Nat} {K : Ef → Prop} {KF : Option KT} (rb : List Nat) (m1 : List (Nat × Blk)) (v : Value)
    (hB : efB σ ⟨.v v, [], m1, [], rb⟩ = true) (hall : ∀ i ∈ rb, ∃ bk, (i, bk) ∈ m1)
    (h : ∀ β w, (∀ i ∈ rb, ∀ b, lk σ.m i = some b → b.ok β w (β i)) → (∀ i ∈ rb, ∀ j ∈ rb, ∀ bi bj, lk σ.m i = some bi → lk σ.m j = some bj → bi.live = true → bj.live = true → i ≠ j → β i ≠ β j) →
      (∀ w', Chg (fun b => ∃ i ∈ rb, (∃ bk, lk σ.m i = some bk ∧ bk.live = true) ∧ β i = b) w w' → σ.h w') →
      Calls P k (SV.cs β args).toArray w fun e w' => e = .returned v ∧ Chg (fun b => ∃ i ∈ rb, β i = b) w w' ∧ ∀ i b, (i, b) ∈ m1 → b.ok β w' (β i))
    (hK : K ⟨.v v, [], m1, rs, rb⟩) : CallEv P σ k args (efB σ) rs K KF :=
  .mk ⟨.v v, [], m1, [], rb⟩ hB (fun β w h1 h2 hst => (h β w h1 h2 hst).mono fun e w' ⟨he, hc, ho⟩ =>
    ⟨β, he, fun _ _ => rfl, ⟨hc.os, hc.tape, hc.output, hc.size, fun b hb hX => hc.same b hb fun ⟨i, hi, hib⟩ => hX (by obtain ⟨bk, hbk⟩ := hall i hi; exact ⟨i, bk, hbk, by simp, hib⟩)⟩, ho, fun i hi => (by cases hi), fun i hi => (by cases hi)⟩) hK
/-- The call of such a callee. -/
theorem callW {P : Program} {σ : Sg} {k : Nat} {args : List SV} {rs : List Nat} {K : Ef → Prop} {KF : Option KT} (rb : List Nat) (m1 : List (Nat × Blk)) (v : Value)
    (hB : efB σ ⟨.v v, [], m1, [], rb⟩ = true) (hall : ∀ i ∈ rb, ∃ bk, (i, bk) ∈ m1)
    (h : ∀ β w, (∀ i ∈ rb, ∀ b, lk σ.m i = some b → b.ok β w (β i)) → (∀ i ∈ rb, ∀ j ∈ rb, ∀ bi bj, lk σ.m i = some bi → lk σ.m j = some bj → bi.live = true → bj.live = true → i ≠ j → β i ≠ β j) → σ.h w →
      Calls P k (SV.cs β args).toArray w fun e w' => e = .returned v ∧ Chg (fun b => ∃ i ∈ rb, β i = b) w w' ∧ ∀ i b, (i, b) ∈ m1 → b.ok β w' (β i))
    (hK : K ⟨.v v, [], m1, rs, rb⟩) : CallEv P σ k args (efB σ) rs K KF :=
  callWS rb m1 v hB hall (fun β w h1 h2 hst => h β w h1 h2 (hst w (Chg.refl _ _))) hK

/-! ### Rows of equal parts -/
theorem fm_len {sz : Nat} {f : Nat → List Value} (hf : ∀ j, (f j).length = sz) : ∀ l : List Nat, (l.flatMap f).length = l.length * sz
  | [] => by simp
  | a :: l => by rw [List.flatMap_cons, List.length_append, hf, fm_len hf l, List.length_cons, Nat.succ_mul, Nat.add_comm]
theorem fm_split (f : Nat → List Value) {n k : Nat} (hk : k < n) : (List.range n).flatMap f = (List.range k).flatMap f ++ f k ++ ((List.range' (k + 1) (n - k - 1)).flatMap f) := by
  have : List.range n = List.range k ++ k :: List.range' (k + 1) (n - k - 1) := by
    rw [List.range_eq_range', List.range_eq_range', ← List.range'_succ, show n = k + (n - k - 1 + 1) from by omega, ← List.range'_append_1, Nat.zero_add]
    congr 2
    omega
  rw [this]
  simp [List.flatMap_append, List.flatMap_cons]
theorem fm_congr {f g : Nat → List Value} : ∀ {l : List Nat}, (∀ j ∈ l, f j = g j) → l.flatMap f = l.flatMap g
  | [], _ => rfl
  | a :: l, h => by rw [List.flatMap_cons, List.flatMap_cons, h a List.mem_cons_self, fm_congr fun j hj => h j (List.mem_cons_of_mem _ hj)]
/-- What lies at a place. -/
theorem fm_get {sz : Nat} {f : Nat → List Value} (hf : ∀ j, (f j).length = sz) {n k j : Nat} {v : Value} (hk : k < n) (hv : (f k)[j]? = some v) : ((List.range n).flatMap f)[k * sz + j]? = some v := by
  have hj : j < sz := by rw [← hf k]; exact (List.getElem?_eq_some_iff.1 hv).1
  have hl : ((List.range k).flatMap f).length = k * sz := by rw [fm_len hf, List.length_range]
  rw [fm_split f hk, List.append_assoc, List.getElem?_append_right (by omega), hl, Nat.add_sub_cancel_left, List.getElem?_append_left (by rw [hf]; exact hj), hv]
/-- One part written anew. -/
theorem fm_set {sz : Nat} {f : Nat → List Value} (hf : ∀ j, (f j).length = sz) {n k o : Nat} {v : List Value} (hk : k < n) (ho : o + v.length ≤ sz) :
    ((List.range n).flatMap f).take (k * sz + o) ++ v ++ ((List.range n).flatMap f).drop (k * sz + o + v.length) = (List.range n).flatMap (fun j => if j = k then (f k).take o ++ v ++ (f k).drop (o + v.length) else f j) := by
  have hl : ((List.range k).flatMap f).length = k * sz := by rw [fm_len hf, List.length_range]
  rw [fm_split (fun j => if j = k then (f k).take o ++ v ++ (f k).drop (o + v.length) else f j) hk, fm_split f hk, if_pos rfl]
  rw [fm_congr (f := fun j => if j = k then (f k).take o ++ v ++ (f k).drop (o + v.length) else f j) (g := f) (l := List.range k) (fun j hj => if_neg (by rw [List.mem_range] at hj; omega))]
  rw [fm_congr (f := fun j => if j = k then (f k).take o ++ v ++ (f k).drop (o + v.length) else f j) (g := f) (l := List.range' (k + 1) (n - k - 1)) (fun j hj => if_neg (by rw [List.mem_range'] at hj; omega))]
  have h1 : ((List.range k).flatMap f ++ f k ++ (List.range' (k + 1) (n - k - 1)).flatMap f).take (k * sz + o) = (List.range k).flatMap f ++ (f k).take o := by
    rw [List.append_assoc, ← hl, List.take_length_add_append, List.take_append_of_le_length (by rw [hf]; omega)]
  have h2 : ((List.range k).flatMap f ++ f k ++ (List.range' (k + 1) (n - k - 1)).flatMap f).drop (k * sz + o + v.length) = (f k).drop (o + v.length) ++ (List.range' (k + 1) (n - k - 1)).flatMap f := by
    rw [List.append_assoc, ← hl, Nat.add_assoc, List.drop_length_add_append, List.drop_append_of_le_length (by rw [hf]; omega)]
  rw [h1, h2]
  simp only [List.append_assoc]
end Go.Proofs.YtkbfcofifhngfaaGreat.Tx
namespace Go.Proofs.YtkbfcofifhngfaaGreat.Tx
open Go Go.RowKit
set_option linter.unusedSimpArgs false
set_option linter.unusedVariables false
theorem calls_fam2 {P : Program} (T : Env P) (hm : P.follows .mixedOrders = true) {k : Nat} {fn : Func} {c : Code} (hfn : P.funcs[k]? = some fn) (hb : fn.body = some c) {nt : Nat} (hnt : fn.ntmps = nt) (args : List Value)
    (hlen : args.length ≤ nt) {w : World} {R : Ending → World → Prop}
    (hvc : vc T c ⟨nt, slotsOf 0 (args.map .v), [], 0, Below w.heap.size w, z0⟩ (endΦ T fn fun s σ => (∀ w', σ.h w' → Below w.heap.size w w') ∧ ∀ β w', σ.h w' → Below w.heap.size w w' →
      (∀ i b, lk σ.m i = some b → b.live = true → w.heap.size ≤ β i ∧ b.ok β w' (β i)) → R (.returned (s.c β)) w')) :
    Calls P k args.toArray w R := by
  have h0 : Mem ⟨nt, slotsOf 0 (args.map .v), [], 0, Below w.heap.size w, z0⟩ (fun _ => 0) (fun b => b < w.heap.size) w :=
    ⟨fun i b h => (by simp [lk] at h), fun i j bi bj h => (by simp [lk] at h), fun i b h => (by simp [lk] at h), fun b h => h,
     fun w' hc => ⟨hc.os, hc.tape, hc.output, hc.size, fun b hb => hc.same b hb (fun h => h hb)⟩⟩
  have h1 := calls_vc T hm hfn hb hnt (args := args.map .v) (m0 := []) (nb0 := 0) (h := Below w.heap.size w) (by simpa using hlen) (lts_v _ _) (fun i b h => by simp [lk] at h) (fun k s h => by simp [z0, lk] at h) hvc cx0 (amb0 _ _ _) h0
  rw [cs_v] at h1
  refine h1.mono fun e w' ⟨s, σ', β', D', he, hv, _, _, hmem, _⟩ => ?_
  have hh := hmem.h w' (Chg.refl _ _)
  subst he
  exact hv.2 β' w' hh (hv.1 w' hh) fun i b hi hl => ⟨Nat.le_of_not_lt fun hlt => hmem.out i b hi hl (hmem.old hv.1 hlt), hmem.m i b hi⟩

theorem dropK_to {n : Nat} {s : SV} {r : List SV} : ∀ {l : List SV} {K : List SV → Prop}, l.drop n = s :: r → K (s :: r) → dropK n l K := by
  induction n with
  | zero => intro l K h hK; show K l; rw [List.drop_zero] at h; rw [h]; exact hK
  | succ n ih =>
    intro l K h hK
    cases l with
    | nil => simp at h
    | cons x l => exact ih (by simpa using h) hK
/-- What lies in an own row that somebody has made anew abides. -/
theorem own_st {β : Type} {sz : Nat} {f : β → List Value} (hf : ∀ x, (f x).length = sz) {bs : List β} {b c n m ty : Nat} {w : World} (hb : m ≤ b) (hn : n = bs.length) (h : w.ownsRow 0 ty sz (.slice (some ⟨b, 0, none⟩) n c) n (bs.flatMap f)) :
    St m (Rd sz f (.slice (some ⟨b, 0, none⟩) n c) bs) w := fun w2 k => by
  refine Rd.of_owns (sz := sz) (f := f) (base := 0) (ty := ty) hf rfl hn ?_
  have := Blk.keep (β := fun _ => c) (b := b) (k := .own 0 n sz (bs.flatMap f) ty) rfl h hb k
  exact this
end Go.Proofs.YtkbfcofifhngfaaGreat.Tx
namespace Go.Proofs.YtkbfcofifhngfaaGreat.Tx
open Go Go.RowKit
set_option linter.unusedSimpArgs false
set_option linter.unusedVariables false
theorem calls_fam3 {P : Program} (T : Env P) (hm : P.follows .mixedOrders = true) {k : Nat} {fn : Func} {c : Code} (hfn : P.funcs[k]? = some fn) (hb : fn.body = some c) {nt : Nat} (hnt : fn.ntmps = nt) (args : List Value)
    (hlen : args.length ≤ nt) {w : World} {R : Ending → World → Prop}
    (hvc : vc T c ⟨nt, slotsOf 0 (args.map .v), [], 0, Below w.heap.size w, z0⟩ (endΦ T fn fun s σ => (∀ w', σ.h w' → Below w.heap.size w w') ∧ ∀ β w', σ.h w' → Below w.heap.size w w' →
      (∀ i b, lk σ.m i = some b → b.live = true → w.heap.size ≤ β i ∧ b.ok β w' (β i)) → (∀ i j bi bj, lk σ.m i = some bi → lk σ.m j = some bj → bi.live = true → bj.live = true → i ≠ j → β i ≠ β j) → R (.returned (s.c β)) w')) :
    Calls P k args.toArray w R := by
  have h0 : Mem ⟨nt, slotsOf 0 (args.map .v), [], 0, Below w.heap.size w, z0⟩ (fun _ => 0) (fun b => b < w.heap.size) w :=
    ⟨fun i b h => (by simp [lk] at h), fun i j bi bj h => (by simp [lk] at h), fun i b h => (by simp [lk] at h), fun b h => h,
     fun w' hc => ⟨hc.os, hc.tape, hc.output, hc.size, fun b hb => hc.same b hb (fun h => h hb)⟩⟩
  have h1 := calls_vc T hm hfn hb hnt (args := args.map .v) (m0 := []) (nb0 := 0) (h := Below w.heap.size w) (by simpa using hlen) (lts_v _ _) (fun i b h => by simp [lk] at h) (fun k s h => by simp [z0, lk] at h) hvc cx0 (amb0 _ _ _) h0
  rw [cs_v] at h1
  refine h1.mono fun e w' ⟨s, σ', β', D', he, hv, _, _, hmem, _⟩ => ?_
  have hh := hmem.h w' (Chg.refl _ _)
  subst he
  exact hv.2 β' w' hh (hv.1 w' hh) (fun i b hi hl => ⟨Nat.le_of_not_lt fun hlt => hmem.out i b hi hl (hmem.old hv.1 hlt), hmem.m i b hi⟩) hmem.inj
/-- The call: said with the numbers' new places γ. -/
theorem callR {P : Program} {σ : Sg} {k : Nat} {args : List SV} {rs : List Nat} {K : Ef → Prop} {KF : Option KT} (fr rb : List Nat) (m1 : List (Nat × Blk)) (V : SV)
    (hB : efB σ ⟨V, fr, m1, [], rb⟩ = true) (hfr : ∀ i b, (i, b) ∈ m1 → i ∈ fr)
    (h : ∀ β w, (∀ i ∈ rb, ∀ b, lk σ.m i = some b → b.ok β w (β i)) → σ.h w → Calls P k (SV.cs β args).toArray w fun e w' => ∃ γ : Nat → Nat, e = .returned (V.c γ) ∧ (∀ i, i ∉ fr → γ i = β i) ∧ Below w.heap.size w w' ∧
      (∀ i b, (i, b) ∈ m1 → w.heap.size ≤ γ i ∧ b.ok γ w' (γ i)) ∧ ∀ i b j b', (i, b) ∈ m1 → (j, b') ∈ m1 → i ≠ j → γ i ≠ γ j)
    (hK : K ⟨V, fr, m1, rs, rb⟩) : CallEv P σ k args (efB σ) rs K KF :=
  .mk ⟨V, fr, m1, [], rb⟩ hB (fun β w h1 _ hst => (h β w h1 (hst w (Chg.refl _ _))).mono fun e w' ⟨γ, he, ha, hB, ho, hi⟩ =>
    ⟨γ, he, ha, ⟨hB.os, hB.tape, hB.output, hB.size, fun i hi _ => hB.block i hi⟩, fun i b hm => (ho i b hm).2, fun i _ ⟨b, hm, _⟩ => .inl (ho i b hm).1, fun i _ j _ ⟨b, hm, _⟩ ⟨b', hm', _⟩ hne => hi i b j b' hm hm' hne⟩) hK
end Go.Proofs.YtkbfcofifhngfaaGreat.Tx
namespace Go.Proofs.YtkbfcofifhngfaaGreat.Tx
open Go Go.RowKit
set_option linter.unusedSimpArgs false
set_option linter.unusedVariables false

/-- The slots' values are the same under these numbers. -/
def TEq (β : Nat → Nat) (t : List (Nat × SV)) : List (Nat × SV) → Prop
  | [] => True
  | (k, s) :: r => (∃ s', lk t k = some s' ∧ s'.c β = s.c β) ∧ TEq β t r
theorem TEq.get {β : Nat → Nat} {t : List (Nat × SV)} : ∀ {l : List (Nat × SV)}, TEq β t l → ∀ k s, lk l k = some s → ∃ s', lk t k = some s' ∧ s'.c β = s.c β
  | [], _, _, _, h => by simp [lk] at h
  | (j, x) :: r, ha, k, s, h => by
    simp only [lk] at h
    cases hb : Nat.beq k j with
    | true =>
      obtain rfl := Nat.eq_of_beq_eq_true hb
      rw [hb, cond_true, Option.some.injEq] at h
      subst h; exact ha.1
    | false =>
      rw [hb, cond_false] at h
      exact ha.2.get k s h
/-- The blocks' cells are the same under these numbers; none of them is of the list. -/
def MEq (L : List Nat) (β : Nat → Nat) (t : List (Nat × Blk)) : List (Nat × Blk) → Prop
  | [] => True
  | (k, b) :: r => (nin k L = true ∧ ∃ l l' ty, b = .cells l ty ∧ lk t k = some (.cells l' ty) ∧ SV.cs β l' = SV.cs β l) ∧ MEq L β t r
theorem MEq.get {L : List Nat} {β : Nat → Nat} {t : List (Nat × Blk)} : ∀ {l : List (Nat × Blk)}, MEq L β t l → ∀ k b, lk l k = some b → nin k L = true ∧ ∃ l l' ty, b = .cells l ty ∧ lk t k = some (.cells l' ty) ∧ SV.cs β l' = SV.cs β l
  | [], _, _, _, h => by simp [lk] at h
  | (j, x) :: r, ha, k, b, h => by
    simp only [lk] at h
    cases hb : Nat.beq k j with
    | true =>
      obtain rfl := Nat.eq_of_beq_eq_true hb
      rw [hb, cond_true, Option.some.injEq] at h
      subst h; exact ha.1
    | false =>
      rw [hb, cond_false] at h
      exact ha.2.get k b h
/-- From the state on one of the family holds. -/
def Dis {α : Type} (σ : Sg) (I : α → Sg) (pre : α → Prop) : Prop := ∀ (X : Cx) (a : Act) (w : World), Sat X σ a w → ∃ x, pre x ∧ Sat X (I x) a w
theorem Dis.ent {α : Type} {σ : Sg} {I : α → Sg} {pre : α → Prop} {x : α} (hx : pre x) (h : Ent σ (I x)) : Dis σ I pre := fun X a w hs => ⟨x, hx, h X a w hs⟩
theorem Blk.keep_at {β : Nat → Nat} {w w' : World} {b : Nat} {k : Blk} (hw : w'.heap[b]? = w.heap[b]?) (ho : k.ok β w b) : k.ok β w' b :=
  Blk.ok_congr (fr := []) (fun _ _ => rfl) k (Blk.av_nil k) (fun _ => hw) ho
theorem Dis.mk {α : Type} {nt nb nb' : Nat} {t : List (Nat × SV)} {m : List (Nat × Blk)} {h : World → Prop} {z : Gz} (L : List Nat) {t' : α → List (Nat × SV)} {m' : α → List (Nat × Blk)} {h' : α → World → Prop} {pre : α → Prop}
    (hL : ∀ i ∈ L, ∃ b, lk m i = some b ∧ b.live = true)
    (hx : ∀ β w, (∀ i b, lk m i = some b → b.ok β w (β i)) → h w → ∃ x, pre x ∧ TEq β t (t' x) ∧ MEq L β m (m' x) ∧ ∀ w2, h w2 → (∀ i ∈ L, ∀ b, lk m i = some b → b.ok β w2 (β i)) → h' x w2) :
    Dis ⟨nt, t, m, nb, h, z⟩ (fun x => ⟨nt, t' x, m' x, nb', h' x, z⟩) pre := by
  rintro X a w ⟨β, D, hs⟩
  obtain ⟨x, hp, ht, hm, hh⟩ := hx β w hs.m (hs.h w (Chg.refl _ _))
  have hLc : ∀ i ∈ L, ∃ o, w.heap[β i]? = some o ∧ IsMem o := fun i hi => by
    obtain ⟨b, h1, h2⟩ := hL i hi
    exact Blk.ok_cells h2 (hs.m i b h1)
  have hno : ∀ (d : Nat) (o : Obj), w.heap[d]? = some o → Other o → ¬ ∃ i ∈ L, β i = d := by
    rintro d o h1 h2 ⟨i, hi, rfl⟩
    obtain ⟨o3, h3, h4⟩ := hLc i hi
    rw [h1] at h3
    cases h3
    exact h2 h4
  refine ⟨x, hp, β, fun b => D b ∨ ∃ i ∈ L, β i = b, ?_, hs.size, ?_, ?_, ?_, ?_, ?_, ?_, ?_⟩
  · obtain ⟨l, l1, l2, l3⟩ := hs.defers
    refine ⟨l, l1, l2, fun d hd => ⟨(l3 d hd).1, ?_, (l3 d hd).2.2⟩⟩
    rintro (h1 | h1)
    · exact (l3 d hd).2.1 h1
    · exact hno d _ (l3 d hd).1 (fun h => h) h1
  · intro k s hk
    obtain ⟨s', h1, h2⟩ := ht.get k s hk
    rw [← h2]; exact hs.t k s' h1
  · intro i b hi
    obtain ⟨_, l, l', ty, rfl, h1, h2⟩ := hm.get i b hi
    have := hs.m i _ h1
    simp only [Blk.ok] at this ⊢
    rw [← h2]; exact this
  · intro i j bi bj hi hj h1 h2 hne
    obtain ⟨_, l, l', ty, rfl, hi', _⟩ := hm.get i bi hi
    obtain ⟨_, l2, l2', ty2, rfl, hj', _⟩ := hm.get j bj hj
    exact hs.inj i j _ _ hi' hj' rfl rfl hne
  · intro i b hi hl
    obtain ⟨hn, l, l', ty, rfl, hi', _⟩ := hm.get i b hi
    rintro (h1 | ⟨j, hj, h1⟩)
    · exact hs.out i _ hi' rfl h1
    · obtain ⟨bj, h2, h3⟩ := hL j hj
      refine hs.inj j i _ _ h2 hi' h3 rfl (fun e => ?_) h1
      subst e
      exact nin_iff.1 hn hj
  · rintro b (h1 | ⟨j, hj, rfl⟩)
    · exact hs.dlt b h1
    · obtain ⟨o3, h3, _⟩ := hLc j hj
      exact (Array.getElem?_eq_some_iff.1 h3).1
  · intro w2 hc
    refine hh w2 (hs.h w2 ⟨hc.os, hc.tape, hc.output, hc.size, fun b hb hd => hc.same b hb fun h1 => hd fun h2 => h1 (.inl h2)⟩) fun i hi b hb => ?_
    obtain ⟨o3, h3, _⟩ := hLc i hi
    exact Blk.keep_at (hc.same _ (Array.getElem?_eq_some_iff.1 h3).1 fun h1 => h1 (.inr ⟨i, hi, rfl⟩)) (hs.m i b hb)
  · refine ⟨hs.amb.g, fun p hp' => ⟨(hs.amb.la p hp').1, ?_⟩, hs.amb.lq, hs.amb.dep, hs.amb.nd, fun d hd => ⟨(hs.amb.pr d hd).1, ?_⟩⟩
    · rintro (h1 | h1)
      · exact (hs.amb.la p hp').2 h1
      · obtain ⟨st, pd, h2⟩ := (hs.amb.la p hp').1
        exact hno _ _ h2 (fun h => h) h1
    · rintro (h1 | h1)
      · exact (hs.amb.pr d hd).2 h1
      · exact hno _ _ (hs.amb.pr d hd).1 (fun h => h) h1
section
variable {P : Program} (T : Env P)
/-- `VC.cutH`, where rows of the state's own count as memory of others from there on. -/
theorem VC.cutD (hm : P.follows .mixedOrders = true) {nt nb0 : Nat} {t0 : List (Nat × SV)} {m0 : List (Nat × Blk)} {hi : World → Prop} {z : Gz} {α : Type} (n nb : Nat) (t : α → List (Nat × SV)) (m : α → List (Nat × Blk)) (h : α → World → Prop) (pre : α → Prop) {c : Code} {Φ : Exit → Sg → Prop}
    (hok : ∀ x, pre x → tB nt nb (t x) = true ∧ mB nb (m x) = true)
    (hv : vcTo T n c ⟨nt, t0, m0, nb0, hi, z⟩ (fun c' σ' => c' = rest n c ∧ Dis σ' (fun x => ⟨nt, t x, m x, nb, h x, z⟩) pre) Φ) (hr : ∀ x, pre x → VC P (rest n c) ⟨nt, t x, m x, nb, h x, z⟩ Φ) (hz : gB nb z.g = true := by rfl) : VC P c ⟨nt, t0, m0, nb0, hi, z⟩ Φ :=
  vcTo_VC T hm (fun c' σ' ⟨hc, hd⟩ => by
    subst hc
    intro F k X a w hF hlp _ hs
    obtain ⟨x, hx, hs'⟩ := hd X a w hs
    exact hr x hx F k X a w hF hlp (okB (hok x hx).1 (hok x hx).2 hz) hs') n c _ hv
end
end Go.Proofs.YtkbfcofifhngfaaGreat.Tx
namespace Go.Proofs.YtkbfcofifhngfaaGreat.Tx
open Go Go.RowKit
set_option linter.unusedSimpArgs false
set_option linter.unusedVariables false

/-- What is known of the blocks holds under these numbers; none of them is of the list. -/
def MEq2 (L : List Nat) (β : Nat → Nat) (t : List (Nat × Blk)) : List (Nat × Blk) → Prop
  | [] => True
  | (k, b) :: r => (nin k L = true ∧ ∃ b', lk t k = some b' ∧ (b.live = true → b'.live = true) ∧ ∀ w x, b'.ok β w x → b.ok β w x) ∧ MEq2 L β t r
theorem MEq2.get {L : List Nat} {β : Nat → Nat} {t : List (Nat × Blk)} : ∀ {l : List (Nat × Blk)}, MEq2 L β t l → ∀ k b, lk l k = some b → nin k L = true ∧ ∃ b', lk t k = some b' ∧ (b.live = true → b'.live = true) ∧ ∀ w x, b'.ok β w x → b.ok β w x
  | [], _, _, _, h => by simp [lk] at h
  | (j, x) :: r, ha, k, b, h => by
    simp only [lk] at h
    cases hb : Nat.beq k j with
    | true =>
      obtain rfl := Nat.eq_of_beq_eq_true hb
      rw [hb, cond_true, Option.some.injEq] at h
      subst h; exact ha.1
    | false =>
      rw [hb, cond_false] at h
      exact ha.2.get k b h
theorem Dis.mk2 {α : Type} {nt nb nb' : Nat} {t : List (Nat × SV)} {m : List (Nat × Blk)} {h : World → Prop} {z : Gz} (L : List Nat) {t' : α → List (Nat × SV)} {m' : α → List (Nat × Blk)} {h' : α → World → Prop} {pre : α → Prop}
    (hL : ∀ i ∈ L, ∃ b, lk m i = some b ∧ b.live = true)
    (hx : ∀ β w, (∀ i b, lk m i = some b → b.ok β w (β i)) → h w → ∃ x, pre x ∧ TEq β t (t' x) ∧ MEq2 L β m (m' x) ∧ ∀ w2, h w2 → (∀ i ∈ L, ∀ b, lk m i = some b → b.ok β w2 (β i)) → h' x w2) :
    Dis ⟨nt, t, m, nb, h, z⟩ (fun x => ⟨nt, t' x, m' x, nb', h' x, z⟩) pre := by
  rintro X a w ⟨β, D, hs⟩
  obtain ⟨x, hp, ht, hm, hh⟩ := hx β w hs.m (hs.h w (Chg.refl _ _))
  have hLc : ∀ i ∈ L, ∃ o, w.heap[β i]? = some o ∧ IsMem o := fun i hi => by
    obtain ⟨b, h1, h2⟩ := hL i hi
    exact Blk.ok_cells h2 (hs.m i b h1)
  have hno : ∀ (d : Nat) (o : Obj), w.heap[d]? = some o → Other o → ¬ ∃ i ∈ L, β i = d := by
    rintro d o h1 h2 ⟨i, hi, rfl⟩
    obtain ⟨o3, h3, h4⟩ := hLc i hi
    rw [h1] at h3
    cases h3
    exact h2 h4
  refine ⟨x, hp, β, fun b => D b ∨ ∃ i ∈ L, β i = b, ?_, hs.size, ?_, ?_, ?_, ?_, ?_, ?_, ?_⟩
  · obtain ⟨l, l1, l2, l3⟩ := hs.defers
    refine ⟨l, l1, l2, fun d hd => ⟨(l3 d hd).1, ?_, (l3 d hd).2.2⟩⟩
    rintro (h1 | h1)
    · exact (l3 d hd).2.1 h1
    · exact hno d _ (l3 d hd).1 (fun h => h) h1
  · intro k s hk
    obtain ⟨s', h1, h2⟩ := ht.get k s hk
    rw [← h2]; exact hs.t k s' h1
  · intro i b hi
    obtain ⟨_, b', h1, _, h2⟩ := hm.get i b hi
    exact h2 _ _ (hs.m i b' h1)
  · intro i j bi bj hi hj h1 h2 hne
    obtain ⟨_, b', hi', l1, _⟩ := hm.get i bi hi
    obtain ⟨_, b2', hj', l2, _⟩ := hm.get j bj hj
    exact hs.inj i j _ _ hi' hj' (l1 h1) (l2 h2) hne
  · intro i b hi hl
    obtain ⟨hn, b', hi', l1, _⟩ := hm.get i b hi
    rintro (h1 | ⟨j, hj, h1⟩)
    · exact hs.out i _ hi' (l1 hl) h1
    · obtain ⟨bj, h2, h3⟩ := hL j hj
      refine hs.inj j i _ _ h2 hi' h3 (l1 hl) (fun e => ?_) h1
      subst e
      exact nin_iff.1 hn hj
  · rintro b (h1 | ⟨j, hj, rfl⟩)
    · exact hs.dlt b h1
    · obtain ⟨o3, h3, _⟩ := hLc j hj
      exact (Array.getElem?_eq_some_iff.1 h3).1
  · intro w2 hc
    refine hh w2 (hs.h w2 ⟨hc.os, hc.tape, hc.output, hc.size, fun b hb hd => hc.same b hb fun h1 => hd fun h2 => h1 (.inl h2)⟩) fun i hi b hb => ?_
    obtain ⟨o3, h3, _⟩ := hLc i hi
    exact Blk.keep_at (hc.same _ (Array.getElem?_eq_some_iff.1 h3).1 fun h1 => h1 (.inr ⟨i, hi, rfl⟩)) (hs.m i b hb)
  · refine ⟨hs.amb.g, fun p hp' => ⟨(hs.amb.la p hp').1, ?_⟩, hs.amb.lq, hs.amb.dep, hs.amb.nd, fun d hd => ⟨(hs.amb.pr d hd).1, ?_⟩⟩
    · rintro (h1 | h1)
      · exact (hs.amb.la p hp').2 h1
      · obtain ⟨st, pd, h2⟩ := (hs.amb.la p hp').1
        exact hno _ _ h2 (fun h => h) h1
    · rintro (h1 | h1)
      · exact (hs.amb.pr d hd).2 h1
      · exact hno _ _ (hs.amb.pr d hd).1 (fun h => h) h1
/-- The slots' values are the same when the second state's numbers are read by ρ. -/
def TEqR (ρ : Nat → Nat) (β : Nat → Nat) (t : List (Nat × SV)) : List (Nat × SV) → Prop
  | [] => True
  | (k, s) :: r => (∃ s', lk t k = some s' ∧ s'.c β = s.c (fun i => β (ρ i))) ∧ TEqR ρ β t r
theorem TEqR.get {ρ : Nat → Nat} {β : Nat → Nat} {t : List (Nat × SV)} : ∀ {l : List (Nat × SV)}, TEqR ρ β t l → ∀ k s, lk l k = some s → ∃ s', lk t k = some s' ∧ s'.c β = s.c (fun i => β (ρ i))
  | [], _, _, _, h => by simp [lk] at h
  | (j, x) :: r, ha, k, s, h => by
    simp only [lk] at h
    cases hb : Nat.beq k j with
    | true =>
      obtain rfl := Nat.eq_of_beq_eq_true hb
      rw [hb, cond_true, Option.some.injEq] at h
      subst h; exact ha.1
    | false =>
      rw [hb, cond_false] at h
      exact ha.2.get k s h
def MEqR (ρ : Nat → Nat) (L : List Nat) (β : Nat → Nat) (t : List (Nat × Blk)) : List (Nat × Blk) → Prop
  | [] => True
  | (k, b) :: r => (nin (ρ k) L = true ∧ ∃ b', lk t (ρ k) = some b' ∧ (b.live = true → b'.live = true) ∧ ∀ w x, b'.ok β w x → b.ok (fun i => β (ρ i)) w x) ∧ MEqR ρ L β t r
theorem MEqR.get {ρ : Nat → Nat} {L : List Nat} {β : Nat → Nat} {t : List (Nat × Blk)} : ∀ {l : List (Nat × Blk)}, MEqR ρ L β t l → ∀ k b, lk l k = some b → nin (ρ k) L = true ∧ ∃ b', lk t (ρ k) = some b' ∧ (b.live = true → b'.live = true) ∧ ∀ w x, b'.ok β w x → b.ok (fun i => β (ρ i)) w x
  | [], _, _, _, h => by simp [lk] at h
  | (j, x) :: r, ha, k, b, h => by
    simp only [lk] at h
    cases hb : Nat.beq k j with
    | true =>
      obtain rfl := Nat.eq_of_beq_eq_true hb
      rw [hb, cond_true, Option.some.injEq] at h
      subst h; exact ha.1
    | false =>
      rw [hb, cond_false] at h
      exact ha.2.get k b h
/-- Rows of the list are given up; the numbers are read anew; it is known that all own blocks are new since w0. -/
theorem Dis.mk3 {α : Type} {nt nb nb' : Nat} {t : List (Nat × SV)} {m : List (Nat × Blk)} {h : World → Prop} {z : Gz} (ρ : Nat → Nat) (L : List Nat) {t' : α → List (Nat × SV)} {m' : α → List (Nat × Blk)} {h' : α → World → Prop} {pre : α → Prop} {w0 : World}
    (hz : z.g = []) (hL : ∀ i ∈ L, ∃ b, lk m i = some b ∧ b.live = true) (hbel : ∀ w, h w → Below w0.heap.size w0 w)
    (hx : ∀ β w, (∀ i b, lk m i = some b → b.ok β w (β i)) → h w → (∀ i b, lk m i = some b → b.live = true → w0.heap.size ≤ β i) →
      ∃ x, pre x ∧ TEqR ρ β t (t' x) ∧ MEqR ρ L β m (m' x) ∧ injR ρ (m' x) = true ∧ ∀ w2, h w2 → (∀ i ∈ L, ∀ b, lk m i = some b → b.ok β w2 (β i)) → h' x w2) :
    Dis ⟨nt, t, m, nb, h, z⟩ (fun x => ⟨nt, t' x, m' x, nb', h' x, z⟩) pre := by
  rintro X a w ⟨β, D, hs⟩
  have hmem := hs.mem
  obtain ⟨x, hp, ht, hm, hinj, hh⟩ := hx β w hs.m (hs.h w (Chg.refl _ _)) (fun i b hi hl => Nat.le_of_not_lt fun hlt => hmem.out i b hi hl (hmem.old hbel hlt))
  have hLc : ∀ i ∈ L, ∃ o, w.heap[β i]? = some o ∧ IsMem o := fun i hi => by
    obtain ⟨b, h1, h2⟩ := hL i hi
    exact Blk.ok_cells h2 (hs.m i b h1)
  have hno : ∀ (d : Nat) (o : Obj), w.heap[d]? = some o → Other o → ¬ ∃ i ∈ L, β i = d := by
    rintro d o h1 h2 ⟨i, hi, rfl⟩
    obtain ⟨o3, h3, h4⟩ := hLc i hi
    rw [h1] at h3
    cases h3
    exact h2 h4
  refine ⟨x, hp, fun i => β (ρ i), fun b => D b ∨ ∃ i ∈ L, β i = b, ?_, hs.size, ?_, ?_, ?_, ?_, ?_, ?_, ?_⟩
  · obtain ⟨l, l1, l2, l3⟩ := hs.defers
    refine ⟨l, l1, l2, fun d hd => ⟨(l3 d hd).1, ?_, (l3 d hd).2.2⟩⟩
    rintro (h1 | h1)
    · exact (l3 d hd).2.1 h1
    · exact hno d _ (l3 d hd).1 (fun h => h) h1
  · intro k s hk
    obtain ⟨s', h1, h2⟩ := ht.get k s hk
    rw [← h2]; exact hs.t k s' h1
  · intro i b hi
    obtain ⟨_, b', h1, _, h2⟩ := hm.get i b hi
    exact h2 _ _ (hs.m _ b' h1)
  · intro i j bi bj hi hj h1 h2 hne
    obtain ⟨_, b', hi', l1, _⟩ := hm.get i bi hi
    obtain ⟨_, b2', hj', l2, _⟩ := hm.get j bj hj
    exact hs.inj _ _ _ _ hi' hj' (l1 h1) (l2 h2) (injR_spec hinj i j (lk_key hi) (lk_key hj) hne)
  · intro i b hi hl
    obtain ⟨hn, b', hi', l1, _⟩ := hm.get i b hi
    rintro (h1 | ⟨j, hj, h1⟩)
    · exact hs.out _ _ hi' (l1 hl) h1
    · obtain ⟨bj, h2, h3⟩ := hL j hj
      refine hs.inj j _ _ _ h2 hi' h3 (l1 hl) (fun e => ?_) h1
      subst e
      exact nin_iff.1 hn hj
  · rintro b (h1 | ⟨j, hj, rfl⟩)
    · exact hs.dlt b h1
    · obtain ⟨o3, h3, _⟩ := hLc j hj
      exact (Array.getElem?_eq_some_iff.1 h3).1
  · intro w2 hc
    refine hh w2 (hs.h w2 ⟨hc.os, hc.tape, hc.output, hc.size, fun b hb hd => hc.same b hb fun h1 => hd fun h2 => h1 (.inl h2)⟩) fun i hi b hb => ?_
    obtain ⟨o3, h3, _⟩ := hLc i hi
    exact Blk.keep_at (hc.same _ (Array.getElem?_eq_some_iff.1 h3).1 fun h1 => h1 (.inr ⟨i, hi, rfl⟩)) (hs.m i b hb)
  · refine ⟨fun k s hk => by rw [hz] at hk; simp [lk] at hk, fun p hp' => ⟨(hs.amb.la p hp').1, ?_⟩, hs.amb.lq, hs.amb.dep, hs.amb.nd, fun d hd => ⟨(hs.amb.pr d hd).1, ?_⟩⟩
    · rintro (h1 | h1)
      · exact (hs.amb.la p hp').2 h1
      · obtain ⟨st, pd, h2⟩ := (hs.amb.la p hp').1
        exact hno _ _ h2 (fun h => h) h1
    · rintro (h1 | h1)
      · exact (hs.amb.pr d hd).2 h1
      · exact hno _ _ (hs.amb.pr d hd).1 (fun h => h) h1

/-- A loop whose rounds may give own rows up. -/
theorem loopD {V : Sg → (Exit → Sg → Prop) → Prop} {nt nb : Nat} {t0 : List (Nat × SV)} {m0 : List (Nat × Blk)} {hi : World → Prop} {z : Gz} {Φ : Exit → Sg → Prop} {α : Type} (nb' : Nat) (t : α → List (Nat × SV)) (m : α → List (Nat × Blk)) (h : α → World → Prop)
    (pre : α → Prop) (μ : α → Nat) (h0 : Dis ⟨nt, t0, m0, nb, hi, z⟩ (fun x => ⟨nt, t x, m x, nb', h x, z⟩) pre) (hok : ∀ x, pre x → tB nt nb' (t x) = true ∧ mB nb' (m x) = true)
    (hr : ∀ x, pre x → V ⟨nt, t x, m x, nb', h x, z⟩ (seqΦ (fun σ' => Dis σ' (fun x => ⟨nt, t x, m x, nb', h x, z⟩) (fun x' => pre x' ∧ μ x' < μ x)) Φ)) (hz : gB nb' z.g = true := by rfl) : LoopEv V ⟨nt, t0, m0, nb, hi, z⟩ Φ :=
  .dis α (fun x => ⟨nt, t x, m x, nb', h x, z⟩) pre μ h0 fun x hx => ⟨okB (hok x hx).1 (hok x hx).2 hz, hr x hx⟩
attribute [irreducible] Dis
end Go.Proofs.YtkbfcofifhngfaaGreat.Tx
