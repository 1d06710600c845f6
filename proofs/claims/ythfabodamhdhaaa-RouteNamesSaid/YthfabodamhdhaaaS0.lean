/- Engine arms: elements of arrays, slices made, callees that make or change rows, cuts that give rows up. -/
import Derived.Test.YthfabodamhdhaaaE
namespace Go.Proofs.Ythfabodamhdhaaa.Tx
open Go Go.RowKit
set_option linter.unusedSimpArgs false
set_option linter.unusedVariables false
theorem idxS {P : Program} (T : Env P) {dst : Option Tmp} {ty : TypeId} {pos : String} {after : Array Edge} {gd : Option (Nat × Bool)} {gs : List Nat} {σ : Sg} {K : Ef → Prop} {KF : Option KT} {t e n : Nat} {x ix : Operand} {s0 s : SV} {k : IntKind} {z : Int}
 {sz : Nat} {zr : List Value} {by_ : Nat} {ti : TI} (hx : gv σ x = some s0) (hix : gv σ ix = some (.v (.int k z))) (ht : T.ty t = some ⟨sz, zr, by_, .arr n e⟩) (he : T.ty e = some ti) (h01 : 0 ≤ z ∧ z < n)
 (hag : s0.isAgg = true) (hlen : ((s0.cells.drop (z.toNat * ti.size)).take ti.size).length = ti.size)
 (hs : (ti.kind.agg = true ∧ s = .agg ((s0.cells.drop (z.toNat * ti.size)).take ti.size)) ∨ (ti.kind.agg = false ∧ (s0.cells.drop (z.toNat * ti.size)).take ti.size = [s]))
 (hB : efB σ ⟨s, [], [], gs ++ (os x ++ os ix), []⟩ = true) (hK : K ⟨s, [], [], gs ++ (os x ++ os ix), []⟩) : OpEvS P ⟨dst, .index t x ix, ty, pos, after, gd⟩ gs σ K KF := by
 refine .mk _ hB (fun k hk => by simp [hk]) rfl (runOK_pure fun β a w hss => ?_) hK
 have e1 := gv_eval hss hx (fun k hk => by simp [hk])
 have e2 := gv_eval hss hix (fun k hk => by simp [hk])
 have hu := under_arr (T.tok t _ ht) rfl
 have hsz := (T.tok e ti he).run_sizeOf w
 obtain ⟨cs, hcs, hcs'⟩ : ∃ cs : List Value, s0.c β = .agg cs.toArray ∧ SV.cs β s0.cells = cs := by
  cases s0 with
  | agg l => exact ⟨_, rfl, rfl⟩
  | v v =>
   cases v with
   | agg c => exact ⟨c.toList, rfl, by simp only [SV.cells]; exact cs_v β _⟩
   | _ => cases hag
  | _ => cases hag
 have hp := run_part (P := P) (T.tok e ti he) (cs := cs) (off := z.toNat * ti.size) (w := w) (β := β) (l := (s0.cells.drop (z.toNat * ti.size)).take ti.size) (s := s)
  (by rw [← hcs', SV.cs_eq, SV.cs_eq, List.map_take, List.map_drop]) hlen hs
 simp only [execOp, Instr.index, e1, e2, hcs, SV.c, asIntOf, Sem.run_bind, Sem.run_pure, Result.andThen_ok, Go.run_underlying hu w, h01.1, h01.2, and_self, if_true, hsz, hp]
end Go.Proofs.Ythfabodamhdhaaa.Tx
namespace Go.Proofs.Ythfabodamhdhaaa.Tx
open Go Go.RowKit
set_option linter.unusedSimpArgs false
set_option linter.unusedVariables false
end Go.Proofs.Ythfabodamhdhaaa.Tx
namespace Go.Proofs.Ythfabodamhdhaaa.Tx
open Go Go.RowKit
set_option linter.unusedSimpArgs false
set_option linter.unusedVariables false
theorem mkO {P : Program} (T : Env P) {dst : Option Tmp} {ty : TypeId} {pos : String} {after : Array Edge} {gd : Option (Nat × Bool)} {gs : List Nat} {σ : Sg} {K : Ef → Prop} {KF : Option KT} {t e : Nat} {x : Operand} (nb m : Nat) (xs : List Value)
 {sz : Nat} {zr : List Value} {by_ : Nat} {ti : TI} (hx : gv σ x = some (.v (iv m))) (ht : T.ty t = some ⟨sz, zr, by_, .slice e⟩) (he : T.ty e = some ti)
 (h01 : 0 < ti.size) (h03 : ti.zero.length = ti.size) (hm : m ≤ 100) (hby : ti.bytes ≤ 100000) (hxs : xs = (List.replicate m ti.zero).flatten)
 (hB : efB σ ⟨.os nb (nb + 1) m, [nb, nb + 1], [(nb, .own (nb + 1) m ti.size xs e)], gs ++ os x, []⟩ = true) (hK : K ⟨.os nb (nb + 1) m, [nb, nb + 1], [(nb, .own (nb + 1) m ti.size xs e)], gs ++ os x, []⟩) :
 OpEvS P ⟨dst, .makeSlice t x x, ty, pos, after, gd⟩ gs σ K KF := by
 subst hxs
 refine .mk _ hB (fun k hk => by simp [hk]) rfl (fun β a w hss => ?_) hK
 have e1 := gv_eval hss hx (fun k hk => by simp [hk])
 have hzl : ((List.replicate m ti.zero).flatten).length = m * ti.size := by
  simp [List.length_flatten, h03]
 refine ⟨fun j => if j = nb then w.heap.size else if j = nb + 1 then m else β j, w.alloc (.cells ((List.replicate m ti.zero).flatten).toArray e), ⟨fun i hi => ?_, ⟨rfl, rfl, rfl, by show w.heap.size ≤ (w.heap.push _).size; rw [Array.size_push]; omega, fun b hb _ => ?_⟩, fun i bk hi => ?_, fun i hi hL => ?_, fun i hi j hj hL hL' hne => ?_⟩, .inl ?_⟩
 · simp only [List.mem_cons, List.not_mem_nil, or_false, not_or] at hi
   simp [hi.1, hi.2]
 · simp only [World.alloc, Array.getElem?_push]
   rw [if_neg (show ¬ b = w.heap.size by omega)]
 · simp only [List.mem_singleton, Prod.mk.injEq] at hi
   obtain ⟨rfl, rfl⟩ := hi
   have hn1 : ¬ (i + 1 = i) := by omega
   simp only [Blk.ok, if_true, if_neg hn1]
   refine ⟨hzl, .inr ⟨w.heap.size, m, _, rfl, Nat.zero_le _, ?_, Nat.le_refl _, by unfold maxLen; omega, by rw [List.size_toArray, hzl], ?_⟩⟩
   · show (w.heap.push _)[w.heap.size]? = _
     rw [Array.getElem?_push, if_pos rfl]
   · rw [← hzl, List.toList_toArray, List.take_length]
 · obtain ⟨bk, hbk, _⟩ := hL
   simp only [List.mem_singleton, Prod.mk.injEq] at hbk
   obtain ⟨rfl, _⟩ := hbk
   exact .inl (by simp)
 · obtain ⟨bk, hbk, _⟩ := hL
   obtain ⟨bk', hbk', _⟩ := hL'
   simp only [List.mem_singleton, Prod.mk.injEq] at hbk hbk'
   exact absurd (hbk.1.trans hbk'.1.symm) hne
 obtain ⟨i, z, q1, q2, q3, q4, q5⟩ := (T.tok e ti he).row
 have hu := under_slice (T.tok t _ ht) rfl
 have hzc : (Array.range (m * ti.size)).map (fun i => z.cells[i % z.cells.size]!) = (List.replicate m ti.zero).flatten.toArray := by
  have hzz : z.cells = ti.zero.toArray := by rw [← q4]
  have hzs : z.cells.size = ti.size := by rw [hzz]; simpa using h03
  have := rep_zero (z := ti.zero) (by omega) m
  rw [h03] at this
  rw [← this, hzs, hzz]
 have hw1 : IntKind.i64.wrap (m : Int) = m := IR.wrap (And.intro (by omega) (by omega))
 have hn1 : ¬ (nb + 1 = nb) := by omega
 simp only [execOp, Instr.makeSlice, Sem.run_bind, Go.run_underlying hu w, Result.andThen_ok, e1, SV.c, asInt, asIntOf, Sem.run_pure, hw1, if_true, if_neg hn1]
 have hti : (typeInfo e).run P w = .ok i w := by simp [typeInfo, q1]
 have hb2 : (i.bytes : Int) * m ≤ 100000 * 100 := by
  rw [q5]
  exact Int.mul_le_mul (by omega) (by omega) (by omega) (by omega)
 have c1 : (decide ((m : Int) < 0) || decide ((i.bytes : Int) * m > 2 ^ 48) || decide ((m : Int) < 0) || decide ((m : Int) > m)) = false := by
  simp; omega
 rw [hti]
 simp only [Result.andThen_ok, c1, Bool.false_eq_true, if_false, Sem.run_bind, askRoom, Int.toNat_natCast]
 have hroom : ¬ (m * i.bytes > roomBytes) := by
  have h2 : m * ti.bytes ≤ 100 * 100000 := Nat.mul_le_mul hm hby
  rw [q5]
  simp only [roomBytes]
  omega
 rw [if_neg hroom]
 simp only [Sem.run_pure, Result.andThen_ok, (T.tok e ti he).run_sizeOf w]
 by_cases hm0 : m * ti.size = 0
 · have hm00 : m = 0 := by
    rcases Nat.mul_eq_zero.1 hm0 with h | h
    · exact h
    · omega
   subst hm00
   rw [if_pos hm0]
   simp [newRow, Sem.run_bind, Sem.run_pure]
   congr 2
   exact Array.eq_empty_of_size_eq_zero (by simp)
 · rw [if_neg hm0]
   have hzr : (zeroValue e).run P w = .ok z w := by simp [zeroValue, typeInfo, q1, q3]
   simp only [Sem.run_bind, hzr, Sem.run_pure, Result.andThen_ok]
   rw [hzc]
   simp [newRow, SV.c]
end Go.Proofs.Ythfabodamhdhaaa.Tx
namespace Go.Proofs.Ythfabodamhdhaaa.Tx
open Go Go.RowKit
set_option linter.unusedSimpArgs false
set_option linter.unusedVariables false
theorem nilE {P : Program} {dst : Option Tmp} {ty : TypeId} {pos : String} {after : Array Edge} {gd : Option (Nat × Bool)} {gs : List Nat} {σ : Sg} {K : Ef → Prop} {KF : Option KT} {x : Operand} {i o : Nat} (hx : gv σ x = some (.ptr i o))
 (hB : efB σ ⟨.ptr i o, [], [], gs ++ os x, []⟩ = true) (hK : K ⟨.ptr i o, [], [], gs ++ os x, []⟩) : OpEvS P ⟨dst, .nilCheck x, ty, pos, after, gd⟩ gs σ K KF := by
 refine .mk _ hB (fun k hk => by simp [hk]) rfl (runOK_pure fun β a w hss => ?_) hK
 have e1 := gv_eval hss hx (fun k hk => by simp [hk])
 simp only [execOp, e1, SV.c, Sem.run_pure]
theorem nilX {P : Program} {dst : Option Tmp} {ty : TypeId} {pos : String} {after : Array Edge} {gd : Option (Nat × Bool)} {gs : List Nat} {σ : Sg} {K : Ef → Prop} {KF : Option KT} {x : Operand} {ad : Addr} (hx : gv σ x = some (.v (.pointer (some ad))))
 (hB : efB σ ⟨.v (.pointer (some ad)), [], [], gs ++ os x, []⟩ = true) (hK : K ⟨.v (.pointer (some ad)), [], [], gs ++ os x, []⟩) : OpEvS P ⟨dst, .nilCheck x, ty, pos, after, gd⟩ gs σ K KF := by
 refine .mk _ hB (fun k hk => by simp [hk]) rfl (runOK_pure fun β a w hss => ?_) hK
 have e1 := gv_eval hss hx (fun k hk => by simp [hk])
 simp only [execOp, e1, SV.c, Sem.run_pure]
mutual
theorem SV.c_lt {β β' : Nat → Nat} {n : Nat} (h : ∀ i, i < n → β' i = β i) : ∀ s : SV, s.lt n = true → s.c β' = s.c β
 | .v _, _ => rfl
 | .ptr i o, hs => by simp only [SV.lt, Nat.blt_eq] at hs; simp only [SV.c, h i hs]
 | .sl i _ _ _, hs => by simp only [SV.lt, Nat.blt_eq] at hs; simp only [SV.c, h i hs]
 | .os i j _, hs => by simp only [SV.lt, Bool.and_eq_true, Nat.blt_eq] at hs; simp only [SV.c, h i hs.1, h j hs.2]
 | .agg l, hs => by simp only [SV.lt] at hs; simp only [SV.c, SV.cs_lt h l hs]
 | .fn _ cap, hs => by simp only [SV.lt] at hs; simp only [SV.c, SV.cs_lt h cap hs]
 | .mv _ cap, hs => by simp only [SV.lt] at hs; simp only [SV.c, SV.cs_lt h cap hs]
 | .tup l, hs => by simp only [SV.lt] at hs; simp only [SV.c, SV.cs_lt h l hs]
theorem SV.cs_lt {β β' : Nat → Nat} {n : Nat} (h : ∀ i, i < n → β' i = β i) : ∀ l : List SV, SV.lts n l = true → SV.cs β' l = SV.cs β l
 | [], _ => rfl
 | x :: r, hs => by
  simp only [SV.lts, Bool.and_eq_true] at hs
  simp only [SV.cs, SV.c_lt h x hs.1, SV.cs_lt h r hs.2]
end
theorem Blk.ok_nm {β β' : Nat → Nat} {n : Nat} (h : ∀ i, i < n → β' i = β i) {w : World} {b : Nat} (k : Blk) (hk : k.lt n = true) (ho : k.ok β w b) : k.ok β' w b := by
 cases k with
 | gone => trivial
 | cells l ty => simp only [Blk.ok] at *; rw [SV.cs_lt h l hk]; exact ho
 | row xs ty => exact ho
 | own j n' sz xs ty => simp only [Blk.lt, Nat.blt_eq] at hk; simp only [Blk.ok, h j hk] at *; exact ho
 | obj n p => exact ho
 | mix j n' sz vs xs ty => simp only [Blk.lt, Bool.and_eq_true, Nat.blt_eq] at hk; simp only [Blk.ok, h j hk.1, SV.cs_lt h xs hk.2] at *; exact ho
 | grow j n' sz xs ty => simp only [Blk.lt, Bool.and_eq_true, Nat.blt_eq] at hk; simp only [Blk.ok, h j hk.1, SV.cs_lt h xs hk.2] at *; exact ho
def pinG : Nat → List (Nat × SV)
 | 0 => []
 | n + 1 => (n, .ptr n 0) :: pinG n
theorem pinG_lk : ∀ {n i : Nat}, i < n → lk (pinG n) i = some (.ptr i 0)
 | n + 1, i, h => by
  rw [pinG, lk]
  cases hb : Nat.beq i n with
  | true => rw [Nat.eq_of_beq_eq_true hb]; rfl
  | false =>
   have : i ≠ n := fun e => by subst e; simp at hb
   exact pinG_lk (by omega)
theorem pinG_all : ∀ {n k : Nat} {s : SV}, lk (pinG n) k = some s → k < n ∧ s = .ptr k 0
 | n + 1, k, s, h => by
  rw [pinG, lk] at h
  cases hb : Nat.beq k n with
  | true =>
   rw [hb, cond_true, Option.some.injEq] at h
   have := Nat.eq_of_beq_eq_true hb
   subst this
   exact ⟨by omega, h.symm⟩
  | false =>
   rw [hb, cond_false] at h
   have := pinG_all h
   exact ⟨by omega, this.2⟩
theorem calls_WS {P : Program} (T : Env P) (hm : P.follows .mixedOrders = true) {k : Nat} {fn : Func} {c : Code} (hfn : P.funcs[k]? = some fn) (hb : fn.body = some c) {nt : Nat} (hnt : fn.ntmps = nt) (args : List SV) (m0 m1 : List (Nat × Blk)) (nb0 : Nat) (v : Value)
 (hlen : args.length ≤ nt) (hargs : SV.lts nb0 args = true) (hm0 : mB nb0 m0 = true) (hm1 : mB nb0 m1 = true) (hlive : ∀ i b, lk m0 i = some b → b.live = true)
 {Hp : World → Prop} (hvc : ∀ h : World → Prop, (∀ w', h w' → Hp w') → vc T c ⟨nt, slotsOf 0 args, m0, nb0, h, ⟨pinG nb0, [], 0⟩⟩ (endΦ T fn fun s σ => (∀ β, s.c β = v) ∧ MSub σ.m m1 ∧ (∀ w', σ.h w' → h w') ∧ σ.z.g = pinG nb0))
 {β : Nat → Nat} {w : World} (hok : ∀ i b, lk m0 i = some b → b.ok β w (β i)) (hinj : ∀ i j bi bj, lk m0 i = some bi → lk m0 j = some bj → i ≠ j → β i ≠ β j) (hst : ∀ w', Chg (fun b => ∃ i bk, lk m0 i = some bk ∧ β i = b) w w' → Hp w') :
 Calls P k (SV.cs β args).toArray w fun e w' => e = .returned v ∧ Chg (fun b => ∃ i bk, lk m0 i = some bk ∧ β i = b) w w' ∧ ∀ i b, lk m1 i = some b → b.ok β w' (β i) := by
 have hmk := okB (nt := 0) (t := []) (m := m0) (nb := nb0) (h := fun _ => True) (z := ⟨[], [], 0⟩) rfl hm0 rfl
 have hm1k := okB (nt := 0) (t := []) (m := m1) (nb := nb0) (h := fun _ => True) (z := ⟨[], [], 0⟩) rfl hm1 rfl
 let D : Nat → Prop := fun b => b < w.heap.size ∧ ¬ ∃ i bk, lk m0 i = some bk ∧ β i = b
 let h0 : World → Prop := fun w' => Chg (fun b => ∃ i bk, lk m0 i = some bk ∧ β i = b) w w'
 let X : Cx := ⟨fun k => .pointer (some ⟨β k, 0, none⟩), [], []⟩
 have hmem : Mem ⟨nt, slotsOf 0 args, m0, nb0, h0, ⟨pinG nb0, [], 0⟩⟩ β D w :=
  ⟨hok, fun i j bi bj h1 h2 _ _ hne => hinj i j bi bj h1 h2 hne, fun i b hi _ hD => hD.2 ⟨i, b, hi, rfl⟩, fun b hD => hD.1,
   fun w' hc => ⟨hc.os, hc.tape, hc.output, hc.size, fun b hb hX => hc.same b hb (fun hD => hD ⟨hb, hX⟩)⟩⟩
 have hamb : Amb X ⟨pinG nb0, [], 0⟩ β D w :=
  ⟨fun k s hk => by rw [(pinG_all hk).2]; rfl, fun p hp => (by cases hp), fun i e hi => (by simp [lk] at hi), rfl, List.nodup_nil, fun d hd => (by cases hd)⟩
 have hg0 : ∀ k s, lk (pinG nb0) k = some s → s.lt nb0 = true := fun k s hk => by
  obtain ⟨h1, h2⟩ := pinG_all hk
  subst h2
  simp only [SV.lt, Nat.blt_eq]; exact h1
 refine (calls_vc T hm hfn hb hnt (args := args) (m0 := m0) (nb0 := nb0) (h := h0) (z0 := ⟨pinG nb0, [], 0⟩) hlen hargs hmk.wf.m hg0 (hvc h0 hst) X hamb hmem).mono fun e w' ⟨s, σ', β', D', he, ⟨h1, h2, h3, h4⟩, h5, h6, h7, h8⟩ => ?_
 have hpin : ∀ i, i < nb0 → β' i = β i := fun i hi => by
  have := h8.g i (.ptr i 0) (by rw [h4]; exact pinG_lk hi)
  simp only [X, SV.c, Value.pointer.injEq, Option.some.injEq, Addr.mk.injEq] at this
  exact this.1.symm
 refine ⟨by rw [he, h1], h3 w' (h7.h w' (Chg.refl _ _)), fun i b hi => ?_⟩
 obtain ⟨q1, q2⟩ := hm1k.wf.m i b hi
 have := h7.m i b (h2.get i b hi)
 rw [hpin i q1] at this
 exact Blk.ok_nm (fun j hj => (hpin j hj).symm) b q2 this
end Go.Proofs.Ythfabodamhdhaaa.Tx
namespace Go.Proofs.Ythfabodamhdhaaa.Tx
open Go Go.RowKit
set_option linter.unusedSimpArgs false
set_option linter.unusedVariables false
theorem calls_fam2 {P : Program} (T : Env P) (hm : P.follows .mixedOrders = true) {k : Nat} {fn : Func} {c : Code} (hfn : P.funcs[k]? = some fn) (hb : fn.body = some c) {nt : Nat} (hnt : fn.ntmps = nt) (args : List Value)
 (hlen : args.length ≤ nt) {w : World} {R : Ending → World → Prop}
 (hvc : vc T c ⟨nt, slotsOf 0 (args.map .v), [], 0, Below w.heap.size w, z0⟩ (endΦ T fn fun s σ => (∀ w', σ.h w' → Below w.heap.size w w') ∧ ∀ β w', σ.h w' → Below w.heap.size w w' →
  (∀ i b, lk σ.m i = some b → b.live = true → w.heap.size ≤ β i ∧ b.ok β w' (β i)) → R (.returned (s.c β)) w')) :
 Calls P k args.toArray w R := by
 have h0 : Mem ⟨nt, slotsOf 0 (args.map .v), [], 0, Below w.heap.size w, z0⟩ (fun _ => 0) (fun b => b < w.heap.size) w :=
  ⟨fun i b h => (by simp [lk] at h), fun i j bi bj h => (by simp [lk] at h), fun i b h => (by simp [lk] at h), fun b h => h,
   fun w' hc => ⟨hc.os, hc.tape, hc.output, hc.size, fun b hb => hc.same b hb (fun h => h hb)⟩⟩
 have h1 := calls_vc T hm hfn hb hnt (args := args.map .v) (m0 := []) (nb0 := 0) (h := Below w.heap.size w) (by simpa using hlen) (lts_v _ _) (fun i b h => by simp [lk] at h) (fun k s h => by simp [z0, lk] at h) hvc cx0 (amb0 _ _ _) h0
 rw [cs_v] at h1
 refine h1.mono fun e w' ⟨s, σ', β', D', he, hv, _, _, hmem, _⟩ => ?_
 have hh := hmem.h w' (Chg.refl _ _)
 subst he
 exact hv.2 β' w' hh (hv.1 w' hh) fun i b hi hl => ⟨Nat.le_of_not_lt fun hlt => hmem.out i b hi hl (hmem.old hv.1 hlt), hmem.m i b hi⟩
end Go.Proofs.Ythfabodamhdhaaa.Tx
namespace Go.Proofs.Ythfabodamhdhaaa.Tx
open Go Go.RowKit
set_option linter.unusedSimpArgs false
set_option linter.unusedVariables false
theorem calls_fam3 {P : Program} (T : Env P) (hm : P.follows .mixedOrders = true) {k : Nat} {fn : Func} {c : Code} (hfn : P.funcs[k]? = some fn) (hb : fn.body = some c) {nt : Nat} (hnt : fn.ntmps = nt) (args : List Value)
 (hlen : args.length ≤ nt) {w : World} {R : Ending → World → Prop}
 (hvc : vc T c ⟨nt, slotsOf 0 (args.map .v), [], 0, Below w.heap.size w, z0⟩ (endΦ T fn fun s σ => (∀ w', σ.h w' → Below w.heap.size w w') ∧ ∀ β w', σ.h w' → Below w.heap.size w w' →
  (∀ i b, lk σ.m i = some b → b.live = true → w.heap.size ≤ β i ∧ b.ok β w' (β i)) → (∀ i j bi bj, lk σ.m i = some bi → lk σ.m j = some bj → bi.live = true → bj.live = true → i ≠ j → β i ≠ β j) → R (.returned (s.c β)) w')) :
 Calls P k args.toArray w R := by
 have h0 : Mem ⟨nt, slotsOf 0 (args.map .v), [], 0, Below w.heap.size w, z0⟩ (fun _ => 0) (fun b => b < w.heap.size) w :=
  ⟨fun i b h => (by simp [lk] at h), fun i j bi bj h => (by simp [lk] at h), fun i b h => (by simp [lk] at h), fun b h => h,
   fun w' hc => ⟨hc.os, hc.tape, hc.output, hc.size, fun b hb => hc.same b hb (fun h => h hb)⟩⟩
 have h1 := calls_vc T hm hfn hb hnt (args := args.map .v) (m0 := []) (nb0 := 0) (h := Below w.heap.size w) (by simpa using hlen) (lts_v _ _) (fun i b h => by simp [lk] at h) (fun k s h => by simp [z0, lk] at h) hvc cx0 (amb0 _ _ _) h0
 rw [cs_v] at h1
 refine h1.mono fun e w' ⟨s, σ', β', D', he, hv, _, _, hmem, _⟩ => ?_
 have hh := hmem.h w' (Chg.refl _ _)
 subst he
 exact hv.2 β' w' hh (hv.1 w' hh) (fun i b hi hl => ⟨Nat.le_of_not_lt fun hlt => hmem.out i b hi hl (hmem.old hv.1 hlt), hmem.m i b hi⟩) hmem.inj
theorem callR {P : Program} {σ : Sg} {k : Nat} {args : List SV} {rs : List Nat} {K : Ef → Prop} {KF : Option KT} (fr rb : List Nat) (m1 : List (Nat × Blk)) (V : SV)
 (hB : efB σ ⟨V, fr, m1, [], rb⟩ = true) (hfr : ∀ i b, (i, b) ∈ m1 → i ∈ fr)
 (h : ∀ β w, (∀ i ∈ rb, ∀ b, lk σ.m i = some b → b.ok β w (β i)) → σ.h w → Calls P k (SV.cs β args).toArray w fun e w' => ∃ γ : Nat → Nat, e = .returned (V.c γ) ∧ (∀ i, i ∉ fr → γ i = β i) ∧ Below w.heap.size w w' ∧
  (∀ i b, (i, b) ∈ m1 → w.heap.size ≤ γ i ∧ b.ok γ w' (γ i)) ∧ ∀ i b j b', (i, b) ∈ m1 → (j, b') ∈ m1 → i ≠ j → γ i ≠ γ j)
 (hK : K ⟨V, fr, m1, rs, rb⟩) : CallEv P σ k args (efB σ) rs K KF :=
 .mk ⟨V, fr, m1, [], rb⟩ hB (fun β w h1 _ hst => (h β w h1 (hst w (Chg.refl _ _))).mono fun e w' ⟨γ, he, ha, hB, ho, hi⟩ =>
  ⟨γ, he, ha, ⟨hB.os, hB.tape, hB.output, hB.size, fun i hi _ => hB.block i hi⟩, fun i b hm => (ho i b hm).2, fun i _ ⟨b, hm, _⟩ => .inl (ho i b hm).1, fun i _ j _ ⟨b, hm, _⟩ ⟨b', hm', _⟩ hne => hi i b j b' hm hm' hne⟩) hK
end Go.Proofs.Ythfabodamhdhaaa.Tx
namespace Go.Proofs.Ythfabodamhdhaaa.Tx
open Go Go.RowKit
set_option linter.unusedSimpArgs false
set_option linter.unusedVariables false
def Dis {α : Type} (σ : Sg) (I : α → Sg) (pre : α → Prop) : Prop := ∀ (X : Cx) (a : Act) (w : World), Sat X σ a w → ∃ x, pre x ∧ Sat X (I x) a w
theorem Dis.ent {α : Type} {σ : Sg} {I : α → Sg} {pre : α → Prop} {x : α} (hx : pre x) (h : Ent σ (I x)) : Dis σ I pre := fun X a w hs => ⟨x, hx, h X a w hs⟩
theorem Blk.keep_at {β : Nat → Nat} {w w' : World} {b : Nat} {k : Blk} (hw : w'.heap[b]? = w.heap[b]?) (ho : k.ok β w b) : k.ok β w' b :=
 Blk.ok_congr (fr := []) (fun _ _ => rfl) k (Blk.av_nil k) (fun _ => hw) ho
section
variable {P : Program} (T : Env P)
theorem VC.cutD (hm : P.follows .mixedOrders = true) {nt nb0 : Nat} {t0 : List (Nat × SV)} {m0 : List (Nat × Blk)} {hi : World → Prop} {z : Gz} {α : Type} (n nb : Nat) (t : α → List (Nat × SV)) (m : α → List (Nat × Blk)) (h : α → World → Prop) (pre : α → Prop) {c : Code} {Φ : Exit → Sg → Prop}
 (hok : ∀ x, pre x → tB nt nb (t x) = true ∧ mB nb (m x) = true)
 (hv : vcTo T n c ⟨nt, t0, m0, nb0, hi, z⟩ (fun c' σ' => c' = rest n c ∧ Dis σ' (fun x => ⟨nt, t x, m x, nb, h x, z⟩) pre) Φ) (hr : ∀ x, pre x → VC P (rest n c) ⟨nt, t x, m x, nb, h x, z⟩ Φ) (hz : gB nb z.g = true := by rfl) : VC P c ⟨nt, t0, m0, nb0, hi, z⟩ Φ :=
 vcTo_VC T hm (fun c' σ' ⟨hc, hd⟩ => by
  subst hc
  intro F k X a w hF hlp _ hs
  obtain ⟨x, hx, hs'⟩ := hd X a w hs
  exact hr x hx F k X a w hF hlp (okB (hok x hx).1 (hok x hx).2 hz) hs') n c _ hv
end
end Go.Proofs.Ythfabodamhdhaaa.Tx
namespace Go.Proofs.Ythfabodamhdhaaa.Tx
open Go Go.RowKit
set_option linter.unusedSimpArgs false
set_option linter.unusedVariables false
def TEqR (ρ : Nat → Nat) (β : Nat → Nat) (t : List (Nat × SV)) : List (Nat × SV) → Prop
 | [] => True
 | (k, s) :: r => (∃ s', lk t k = some s' ∧ s'.c β = s.c (fun i => β (ρ i))) ∧ TEqR ρ β t r
theorem TEqR.get {ρ : Nat → Nat} {β : Nat → Nat} {t : List (Nat × SV)} : ∀ {l : List (Nat × SV)}, TEqR ρ β t l → ∀ k s, lk l k = some s → ∃ s', lk t k = some s' ∧ s'.c β = s.c (fun i => β (ρ i))
 | [], _, _, _, h => by simp [lk] at h
 | (j, x) :: r, ha, k, s, h => by
  simp only [lk] at h
  cases hb : Nat.beq k j with
  | true =>
   obtain rfl := Nat.eq_of_beq_eq_true hb
   rw [hb, cond_true, Option.some.injEq] at h
   subst h; exact ha.1
  | false =>
   rw [hb, cond_false] at h
   exact ha.2.get k s h
def MEqR (ρ : Nat → Nat) (L : List Nat) (β : Nat → Nat) (t : List (Nat × Blk)) : List (Nat × Blk) → Prop
 | [] => True
 | (k, b) :: r => (nin (ρ k) L = true ∧ ∃ b', lk t (ρ k) = some b' ∧ (b.live = true → b'.live = true) ∧ ∀ w x, b'.ok β w x → b.ok (fun i => β (ρ i)) w x) ∧ MEqR ρ L β t r
theorem MEqR.get {ρ : Nat → Nat} {L : List Nat} {β : Nat → Nat} {t : List (Nat × Blk)} : ∀ {l : List (Nat × Blk)}, MEqR ρ L β t l → ∀ k b, lk l k = some b → nin (ρ k) L = true ∧ ∃ b', lk t (ρ k) = some b' ∧ (b.live = true → b'.live = true) ∧ ∀ w x, b'.ok β w x → b.ok (fun i => β (ρ i)) w x
 | [], _, _, _, h => by simp [lk] at h
 | (j, x) :: r, ha, k, b, h => by
  simp only [lk] at h
  cases hb : Nat.beq k j with
  | true =>
   obtain rfl := Nat.eq_of_beq_eq_true hb
   rw [hb, cond_true, Option.some.injEq] at h
   subst h; exact ha.1
  | false =>
   rw [hb, cond_false] at h
   exact ha.2.get k b h
theorem Dis.mk3 {α : Type} {nt nb nb' : Nat} {t : List (Nat × SV)} {m : List (Nat × Blk)} {h : World → Prop} {z : Gz} (ρ : Nat → Nat) (L : List Nat) {t' : α → List (Nat × SV)} {m' : α → List (Nat × Blk)} {h' : α → World → Prop} {pre : α → Prop} {w0 : World}
 (hz : z.g = []) (hL : ∀ i ∈ L, ∃ b, lk m i = some b ∧ b.live = true) (hbel : ∀ w, h w → Below w0.heap.size w0 w)
 (hx : ∀ β w, (∀ i b, lk m i = some b → b.ok β w (β i)) → h w → (∀ i b, lk m i = some b → b.live = true → w0.heap.size ≤ β i) →
  ∃ x, pre x ∧ TEqR ρ β t (t' x) ∧ MEqR ρ L β m (m' x) ∧ injR ρ (m' x) = true ∧ ∀ w2, h w2 → (∀ i ∈ L, ∀ b, lk m i = some b → b.ok β w2 (β i)) → h' x w2) :
 Dis ⟨nt, t, m, nb, h, z⟩ (fun x => ⟨nt, t' x, m' x, nb', h' x, z⟩) pre := by
 rintro X a w ⟨β, D, hs⟩
 have hmem := hs.mem
 obtain ⟨x, hp, ht, hm, hinj, hh⟩ := hx β w hs.m (hs.h w (Chg.refl _ _)) (fun i b hi hl => Nat.le_of_not_lt fun hlt => hmem.out i b hi hl (hmem.old hbel hlt))
 have hLc : ∀ i ∈ L, ∃ o, w.heap[β i]? = some o ∧ IsMem o := fun i hi => by
  obtain ⟨b, h1, h2⟩ := hL i hi
  exact Blk.ok_cells h2 (hs.m i b h1)
 have hno : ∀ (d : Nat) (o : Obj), w.heap[d]? = some o → Other o → ¬ ∃ i ∈ L, β i = d := by
  rintro d o h1 h2 ⟨i, hi, rfl⟩
  obtain ⟨o3, h3, h4⟩ := hLc i hi
  rw [h1] at h3
  cases h3
  exact h2 h4
 refine ⟨x, hp, fun i => β (ρ i), fun b => D b ∨ ∃ i ∈ L, β i = b, ?_, hs.size, ?_, ?_, ?_, ?_, ?_, ?_, ?_⟩
 · obtain ⟨l, l1, l2, l3⟩ := hs.defers
   refine ⟨l, l1, l2, fun d hd => ⟨(l3 d hd).1, ?_, (l3 d hd).2.2⟩⟩
   rintro (h1 | h1)
   · exact (l3 d hd).2.1 h1
   · exact hno d _ (l3 d hd).1 (fun h => h) h1
 · intro k s hk
   obtain ⟨s', h1, h2⟩ := ht.get k s hk
   rw [← h2]; exact hs.t k s' h1
 · intro i b hi
   obtain ⟨_, b', h1, _, h2⟩ := hm.get i b hi
   exact h2 _ _ (hs.m _ b' h1)
 · intro i j bi bj hi hj h1 h2 hne
   obtain ⟨_, b', hi', l1, _⟩ := hm.get i bi hi
   obtain ⟨_, b2', hj', l2, _⟩ := hm.get j bj hj
   exact hs.inj _ _ _ _ hi' hj' (l1 h1) (l2 h2) (injR_spec hinj i j (lk_key hi) (lk_key hj) hne)
 · intro i b hi hl
   obtain ⟨hn, b', hi', l1, _⟩ := hm.get i b hi
   rintro (h1 | ⟨j, hj, h1⟩)
   · exact hs.out _ _ hi' (l1 hl) h1
   · obtain ⟨bj, h2, h3⟩ := hL j hj
     refine hs.inj j _ _ _ h2 hi' h3 (l1 hl) (fun e => ?_) h1
     subst e
     exact nin_iff.1 hn hj
 · rintro b (h1 | ⟨j, hj, rfl⟩)
   · exact hs.dlt b h1
   · obtain ⟨o3, h3, _⟩ := hLc j hj
     exact (Array.getElem?_eq_some_iff.1 h3).1
 · intro w2 hc
   refine hh w2 (hs.h w2 ⟨hc.os, hc.tape, hc.output, hc.size, fun b hb hd => hc.same b hb fun h1 => hd fun h2 => h1 (.inl h2)⟩) fun i hi b hb => ?_
   obtain ⟨o3, h3, _⟩ := hLc i hi
   exact Blk.keep_at (hc.same _ (Array.getElem?_eq_some_iff.1 h3).1 fun h1 => h1 (.inr ⟨i, hi, rfl⟩)) (hs.m i b hb)
 · refine ⟨fun k s hk => by rw [hz] at hk; simp [lk] at hk, fun p hp' => ⟨(hs.amb.la p hp').1, ?_⟩, hs.amb.lq, hs.amb.dep, hs.amb.nd, fun d hd => ⟨(hs.amb.pr d hd).1, ?_⟩⟩
   · rintro (h1 | h1)
     · exact (hs.amb.la p hp').2 h1
     · obtain ⟨st, pd, h2⟩ := (hs.amb.la p hp').1
       exact hno _ _ h2 (fun h => h) h1
   · rintro (h1 | h1)
     · exact (hs.amb.pr d hd).2 h1
     · exact hno _ _ (hs.amb.pr d hd).1 (fun h => h) h1
theorem loopD {V : Sg → (Exit → Sg → Prop) → Prop} {nt nb : Nat} {t0 : List (Nat × SV)} {m0 : List (Nat × Blk)} {hi : World → Prop} {z : Gz} {Φ : Exit → Sg → Prop} {α : Type} (nb' : Nat) (t : α → List (Nat × SV)) (m : α → List (Nat × Blk)) (h : α → World → Prop)
 (pre : α → Prop) (μ : α → Nat) (h0 : Dis ⟨nt, t0, m0, nb, hi, z⟩ (fun x => ⟨nt, t x, m x, nb', h x, z⟩) pre) (hok : ∀ x, pre x → tB nt nb' (t x) = true ∧ mB nb' (m x) = true)
 (hr : ∀ x, pre x → V ⟨nt, t x, m x, nb', h x, z⟩ (seqΦ (fun σ' => Dis σ' (fun x => ⟨nt, t x, m x, nb', h x, z⟩) (fun x' => pre x' ∧ μ x' < μ x)) Φ)) (hz : gB nb' z.g = true := by rfl) : LoopEv V ⟨nt, t0, m0, nb, hi, z⟩ Φ :=
 .dis α (fun x => ⟨nt, t x, m x, nb', h x, z⟩) pre μ h0 fun x hx => ⟨okB (hok x hx).1 (hok x hx).2 hz, hr x hx⟩
attribute [irreducible] Dis
end Go.Proofs.Ythfabodamhdhaaa.Tx
