/- Engine arms that lacked: makeSlice of any number of elements; the beams of a rig: whether they are right. -/
import Derived.Test.YtaciigegbgnadaaGO
namespace Go.Proofs.Ytaciigegbgnadaa.Tx
open Go Go.RowKit
set_option linter.unusedSimpArgs false
set_option linter.unusedVariables false

theorem mkO {P : Program} (T : Env P) {dst : Option Tmp} {ty : TypeId} {pos : String} {after : Array Edge} {gd : Option (Nat × Bool)} {gs : List Nat} {σ : Sg} {K : Ef → Prop} {KF : Option KT} {t e : Nat} {x : Operand} (nb m : Nat) (xs : List Value)
    {sz : Nat} {zr : List Value} {by_ : Nat} {ti : TI} (hx : gv σ x = some (.v (iv m))) (ht : T.ty t = some ⟨sz, zr, by_, .slice e⟩) (he : T.ty e = some ti)
    (h01 : 0 < ti.size) (h03 : ti.zero.length = ti.size) (hm : m ≤ 100) (hby : ti.bytes ≤ 100000) (hxs : xs = (List.replicate m ti.zero).flatten)
    (hB : efB σ ⟨.os nb (nb + 1) m, [nb, nb + 1], [(nb, .own (nb + 1) m ti.size xs e)], gs ++ os x, []⟩ = true) (hK : K ⟨.os nb (nb + 1) m, [nb, nb + 1], [(nb, .own (nb + 1) m ti.size xs e)], gs ++ os x, []⟩) :
    OpEvS P ⟨dst, .makeSlice t x x, ty, pos, after, gd⟩ gs σ K KF := by
  subst hxs
  refine .mk _ hB (fun k hk => by simp [hk]) rfl (fun β a w hss => ?_) hK
  have e1 := gv_eval hss hx (fun k hk => by simp [hk])
  have hzl : ((List.replicate m ti.zero).flatten).length = m * ti.size := by
    simp [List.length_flatten, h03]
  refine ⟨fun j => if j = nb then w.heap.size else if j = nb + 1 then m else β j, w.alloc (.cells ((List.replicate m ti.zero).flatten).toArray e), ⟨fun i hi => ?_, ⟨rfl, rfl, rfl, by show w.heap.size ≤ (w.heap.push _).size; rw [Array.size_push]; omega, fun b hb _ => ?_⟩, fun i bk hi => ?_, fun i hi hL => ?_, fun i hi j hj hL hL' hne => ?_⟩, .inl ?_⟩
  · simp only [List.mem_cons, List.not_mem_nil, or_false, not_or] at hi
    simp [hi.1, hi.2]
  · simp only [World.alloc, Array.getElem?_push]
    rw [if_neg (show ¬ b = w.heap.size by omega)]
  · simp only [List.mem_singleton, Prod.mk.injEq] at hi
    obtain ⟨rfl, rfl⟩ := hi
    have hn1 : ¬ (i + 1 = i) := by omega
    simp only [Blk.ok, if_true, if_neg hn1]
    refine ⟨hzl, .inr ⟨w.heap.size, m, _, rfl, Nat.zero_le _, ?_, Nat.le_refl _, by unfold maxLen; omega, by rw [List.size_toArray, hzl], ?_⟩⟩
    · show (w.heap.push _)[w.heap.size]? = _
      rw [Array.getElem?_push, if_pos rfl]
    · rw [← hzl, List.toList_toArray, List.take_length]
  · obtain ⟨bk, hbk, _⟩ := hL
    simp only [List.mem_singleton, Prod.mk.injEq] at hbk
    obtain ⟨rfl, _⟩ := hbk
    exact .inl (by simp)
  · obtain ⟨bk, hbk, _⟩ := hL
    obtain ⟨bk', hbk', _⟩ := hL'
    simp only [List.mem_singleton, Prod.mk.injEq] at hbk hbk'
    exact absurd (hbk.1.trans hbk'.1.symm) hne
  obtain ⟨i, z, q1, q2, q3, q4, q5⟩ := (T.tok e ti he).row
  have hu := under_slice (T.tok t _ ht) rfl
  have hzc : (Array.range (m * ti.size)).map (fun i => z.cells[i % z.cells.size]!) = (List.replicate m ti.zero).flatten.toArray := by
    have hzz : z.cells = ti.zero.toArray := by rw [← q4]
    have hzs : z.cells.size = ti.size := by rw [hzz]; simpa using h03
    have := rep_zero (z := ti.zero) (by omega) m
    rw [h03] at this
    rw [← this, hzs, hzz]
  have hw1 : IntKind.i64.wrap (m : Int) = m := IR.wrap (And.intro (by omega) (by omega))
  have hn1 : ¬ (nb + 1 = nb) := by omega
  simp only [execOp, Instr.makeSlice, Sem.run_bind, Go.run_underlying hu w, Result.andThen_ok, e1, SV.c, asInt, asIntOf, Sem.run_pure, hw1, if_true, if_neg hn1]
  have hti : (typeInfo e).run P w = .ok i w := by simp [typeInfo, q1]
  have hb2 : (i.bytes : Int) * m ≤ 100000 * 100 := by
    rw [q5]
    exact Int.mul_le_mul (by omega) (by omega) (by omega) (by omega)
  have c1 : (decide ((m : Int) < 0) || decide ((i.bytes : Int) * m > 2 ^ 48) || decide ((m : Int) < 0) || decide ((m : Int) > m)) = false := by
    simp; omega
  rw [hti]
  simp only [Result.andThen_ok, c1, Bool.false_eq_true, if_false, Sem.run_bind, askRoom, Int.toNat_natCast]
  have hroom : ¬ (m * i.bytes > roomBytes) := by
    have h2 : m * ti.bytes ≤ 100 * 100000 := Nat.mul_le_mul hm hby
    rw [q5]
    simp only [roomBytes]
    omega
  rw [if_neg hroom]
  simp only [Sem.run_pure, Result.andThen_ok, (T.tok e ti he).run_sizeOf w]
  by_cases hm0 : m * ti.size = 0
  · have hm00 : m = 0 := by
      rcases Nat.mul_eq_zero.1 hm0 with h | h
      · exact h
      · omega
    subst hm00
    rw [if_pos hm0]
    simp [newRow, Sem.run_bind, Sem.run_pure]
    congr 2
    exact Array.eq_empty_of_size_eq_zero (by simp)
  · rw [if_neg hm0]
    have hzr : (zeroValue e).run P w = .ok z w := by simp [zeroValue, typeInfo, q1, q3]
    simp only [Sem.run_bind, hzr, Sem.run_pure, Result.andThen_ok]
    rw [hzc]
    simp [newRow, SV.c]

/-- `loopN` with two things that change. -/
theorem loopN2 {V : Sg → (Exit → Sg → Prop) → Prop} {nt nb : Nat} {t0 : List (Nat × SV)} {m0 : List (Nat × Blk)} {h : World → Prop} {z : Gz} {Φ : Exit → Sg → Prop} {α β : Type} (nb' : Nat) (t : α → β → List (Nat × SV)) (m : α → β → List (Nat × Blk))
    (pre : α → β → Prop) (μ : α → β → Nat) (a0 : α) (b0 : β) (h0 : pre a0 b0) (ht : TSub t0 (t a0 b0)) (hm : MSub m0 (m a0 b0)) (hok : ∀ a b, pre a b → tB nt nb' (t a b) = true ∧ mB nb' (m a b) = true)
    (hr : ∀ a b, pre a b → V ⟨nt, t a b, m a b, nb', h, z⟩ (seqΦ (fun σ' => ∃ a' b', pre a' b' ∧ μ a' b' < μ a b ∧ Ent σ' ⟨nt, t a' b', m a' b', nb', h, z⟩) Φ)) (hz : gB nb' z.g = true := by rfl) : LoopEv V ⟨nt, t0, m0, nb, h, z⟩ Φ :=
  loopN nb' (fun x : α × β => t x.1 x.2) (fun x => m x.1 x.2) (fun x => pre x.1 x.2) (fun x => μ x.1 x.2) (a0, b0) h0 ht hm (fun x hx => hok x.1 x.2 hx) (hz := hz) fun x hx => by
    have := hr x.1 x.2 hx
    rwa [show (fun σ' => ∃ a' b', pre a' b' ∧ μ a' b' < μ x.1 x.2 ∧ Ent σ' ⟨nt, t a' b', m a' b', nb', h, z⟩) = (fun σ' => ∃ x' : α × β, pre x'.1 x'.2 ∧ μ x'.1 x'.2 < μ x.1 x.2 ∧ Ent σ' ⟨nt, t x'.1 x'.2, m x'.1 x'.2, nb', h, z⟩) from
      funext fun σ' => propext ⟨fun ⟨a, b, h⟩ => ⟨(a, b), h⟩, fun ⟨y, h⟩ => ⟨y.1, y.2, h⟩⟩] at this
end Go.Proofs.Ytaciigegbgnadaa.Tx
