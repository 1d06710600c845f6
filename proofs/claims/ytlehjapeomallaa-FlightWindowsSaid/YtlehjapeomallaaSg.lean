/- The engine, part 7: the evaluator of single operations is right, kind by kind. -/
import Derived.Test.YtlehjapeomallaaSf
namespace Go.Proofs.Ytlehjapeomallaa.Sx
open Go

section
variable {P : Program} (T : Env P)

def Gd (ops : Array Oper) (o : Oper) (gs : List Nat) (σ : Sg) : Prop :=
  o.guard = none ∨ ∃ j want k, o.guard = some (j, want) ∧ (ops[j]?).bind (·.dst) = some k ∧ k ∈ gs ∧ lk σ.t k = some (.v (.bool want))

def Good (F : Fence) (n : Nat) (P : Program) (ops : Array Oper) (o : Oper) (σ : Sg) (K : Ef → Prop) : Prop := ∃ E, K E ∧ EfOK σ E ∧ OpOK F n P ops o σ E

theorem Good.run {F : Fence} {n : Nat} {ops : Array Oper} {o : Oper} {gs : List Nat} {σ : Sg} {K : Ef → Prop} {E : Ef} (hF : Wd F) (hlt : ∀ k s, lk σ.t k = some s → k < σ.nt) (hg : Gd ops o gs σ)
    (hK : K E) (hE : EfOK σ E) (hgs : ∀ k ∈ gs, k ∈ E.rs) (hnd : notDefer o.op = true) (hr : RunOK P o σ E) : Good F n P ops o σ K := by
  refine ⟨E, hK, hE, hr.op hF hnd ⟨?_⟩ hlt⟩
  rcases hg with h | ⟨j, want, k, h1, h2, h3, h4⟩
  · exact .inl h
  · exact .inr ⟨j, want, k, h1, h2, hgs k h3, h4⟩

variable {F : Fence} {n : Nat} {ops : Array Oper} {dst : Option Tmp} {ty : TypeId} {pos : String} {after : Array Edge} {gd : Option (Nat × Bool)} {gs : List Nat} {σ : Sg} {K : Ef → Prop} {KF : Option (Value → (World → Prop) → Prop)}

theorem ev_pick {c a b : Operand} (hF : Wd F) (hw : σ.Wf) (hlt : ∀ k s, lk σ.t k = some s → k < σ.nt) (hg : Gd ops ⟨dst, .pick c a b, ty, pos, after, gd⟩ gs σ)
    (h : ev T ⟨dst, .pick c a b, ty, pos, after, gd⟩ gs σ K KF) : Good F n P ops ⟨dst, .pick c a b, ty, pos, after, gd⟩ σ K := by
  simp only [ev] at h
  split at h
  · rename_i hc
    cases ha : gv σ a with
    | none => rw [ha] at h; exact h.elim
    | some s =>
      rw [ha] at h
      refine Good.run hF hlt hg h (efOK_pure (hw.gv ha)) (fun k hk => by simp [hk]) rfl (runOK_pure fun β a' w hs => ?_)
      have e1 := gv_eval hs hc (fun k hk => by simp [hk])
      have e2 := gv_eval hs ha (fun k hk => by simp [hk])
      simp [execOp, e1, e2, SV.c, asBool]
  · rename_i hc
    cases hb : gv σ b with
    | none => rw [hb] at h; exact h.elim
    | some s =>
      rw [hb] at h
      refine Good.run hF hlt hg h (efOK_pure (hw.gv hb)) (fun k hk => by simp [hk]) rfl (runOK_pure fun β a' w hs => ?_)
      have e1 := gv_eval hs hc (fun k hk => by simp [hk])
      have e2 := gv_eval hs hb (fun k hk => by simp [hk])
      simp [execOp, e1, e2, SV.c, asBool]
  · exact h.elim

theorem newOK {s : SV} {l : List SV} {t : TypeId} {rs rb : List Nat} (hs : s.lt (σ.nb + 1) = true) (hl : SV.lts (σ.nb + 1) l = true) : EfOK σ ⟨s, [σ.nb], [(σ.nb, .cells l t)], rs, rb⟩ := by
  refine ⟨rfl, hs, fun i b hi => ?_, fun i b hi hlt => ?_, fun i b b' hi hi' => ?_⟩
  · simp only [List.mem_singleton, Prod.mk.injEq] at hi
    obtain ⟨rfl, rfl⟩ := hi
    exact ⟨by simp, hl⟩
  · simp only [List.mem_singleton, Prod.mk.injEq] at hi
    omega
  · simp only [List.mem_singleton, Prod.mk.injEq] at hi hi'
    rw [hi.2, hi'.2]

theorem lts_v (l : List Value) (n : Nat) : SV.lts n (l.map .v) = true := by
  rw [lts_iff]; intro s hs
  obtain ⟨x, _, rfl⟩ := List.mem_map.1 hs
  rfl
theorem cs_v (β : Nat → Nat) (l : List Value) : SV.cs β (l.map .v) = l := by
  rw [SV.cs_eq, List.map_map]
  exact (List.map_congr_left fun x _ => rfl).trans (List.map_id' l)

theorem ev_alloc {t : TypeId} (hF : Wd F) (hlt : ∀ k s, lk σ.t k = some s → k < σ.nt) (hg : Gd ops ⟨dst, .alloc t, ty, pos, after, gd⟩ gs σ)
    (h : ev T ⟨dst, .alloc t, ty, pos, after, gd⟩ gs σ K KF) : Good F n P ops ⟨dst, .alloc t, ty, pos, after, gd⟩ σ K := by
  simp only [ev] at h
  cases ht : T.ty t with
  | none => rw [ht] at h; exact h.elim
  | some ti =>
    rw [ht] at h
    have h := normK_spec (nbK_spec h)
    refine Good.run hF hlt hg h (newOK (by simp [SV.lt]) (lts_v _ _)) (fun k hk => hk) rfl fun β a w hs => ?_
    obtain ⟨z, hz, hrun⟩ := (T.tok t ti ht).run_zero
    refine ⟨_, _, EfPost.newBlk (lts_v _ _), .inl ?_⟩
    have hzc : z.cells = (SV.cs β (ti.zero.map .v)).toArray := by rw [cs_v, ← hz]
    simp [execOp, Instr.alloc, hrun, newVar, newRow, hzc, SV.c]

theorem ev_box {t : TypeId} {x : Operand} (hF : Wd F) (hw : σ.Wf) (hlt : ∀ k s, lk σ.t k = some s → k < σ.nt) (hg : Gd ops ⟨dst, .box t x, ty, pos, after, gd⟩ gs σ)
    (h : ev T ⟨dst, .box t x, ty, pos, after, gd⟩ gs σ K KF) : Good F n P ops ⟨dst, .box t x, ty, pos, after, gd⟩ σ K := by
  simp only [ev] at h
  cases hx : gv σ x with
  | none => rw [hx] at h; exact h.elim
  | some s =>
    rw [hx] at h
    have h := normK_spec (nbK_spec h)
    have hl := SV.cells_lt (hw.gv hx)
    refine Good.run hF hlt hg h (newOK (by simp [SV.lt]) (SV.lts_mono (Nat.le_succ _) _ hl)) (fun k hk => by simp [hk]) rfl fun β a w hs => ?_
    have e1 := gv_eval hs hx (fun k hk => by simp [hk])
    refine ⟨_, _, EfPost.newBlk hl, .inl ?_⟩
    have hzc : (s.c β).cells = (SV.cs β s.cells).toArray := by rw [← SV.cells_c]
    simp [execOp, Instr.box, newVar, newRow, e1, hzc, SV.c]

theorem ev_load {t : TypeId} {x : Operand} (hF : Wd F) (hw : σ.Wf) (hlt : ∀ k s, lk σ.t k = some s → k < σ.nt) (hg : Gd ops ⟨dst, .load t x, ty, pos, after, gd⟩ gs σ)
    (h : ev T ⟨dst, .load t x, ty, pos, after, gd⟩ gs σ K KF) : Good F n P ops ⟨dst, .load t x, ty, pos, after, gd⟩ σ K := by
  simp only [ev] at h
  split at h
  · rename_i i o ti hx ht
    have htok := T.tok t ti ht
    split at h
    · rename_i l ty' hm
      obtain ⟨h1, h2⟩ := dropK_spec o l _ h
      obtain ⟨h3, h4⟩ := takeK_spec _ _ _ h2
      obtain ⟨s, h5, h6⟩ := valK_spec h4
      have hl : SV.lts σ.nb l = true := (hw.m i _ hm).2
      refine Good.run hF hlt hg h5 (efOK_pure (valK_lt h6 (lts_take (lts_drop hl)))) (fun k hk => by simp [hk]) rfl (runOK_pure fun β a w hs => ?_)
      have e1 := gv_eval hs hx (fun k hk => by simp [hk])
      have e2 : w.heap[β i]? = some (.cells (SV.cs β l).toArray ty' (0, 0)) := hs.m i (by simp) _ hm
      have e3 := run_loadVar_cells (P := P) htok (β := β) (w := w) (ad := ⟨β i, o, none⟩) (l := (l.drop o).take ti.size) (s := s) (by rw [List.length_take]; omega) (fun j v hv => by
        rw [own_add, cell_of_row w (β i) (o + j) _ ty' (0, 0) e2]
        rw [cs_getElem?] at hv
        rw [List.getElem?_toArray, cs_getElem?]
        rw [List.getElem?_take] at hv
        split at hv
        · rw [List.getElem?_drop] at hv; exact hv
        · simp at hv) h6
      simp [execOp, Instr.loadAt, Instr.sureAddr, e1, SV.c, e3]
    · rename_i xs ty' hm
      obtain ⟨cs, ⟨h1, h2⟩, h3⟩ := h
      obtain ⟨s, h5, h6⟩ := valK_spec (normK_spec h3)
      refine Good.run hF hlt hg h5 (efOK_pure (valK_lt h6 (lts_v _ _))) (fun k hk => by simp [hk]) rfl (runOK_pure fun β a w hs => ?_)
      have e1 := gv_eval hs hx (fun k hk => by simp [hk])
      obtain ⟨cur, e2, e3⟩ : (Blk.row xs ty').ok β w (β i) := hs.m i (by simp) _ hm
      have e3 := run_loadVar_cells (P := P) htok (β := β) (w := w) (ad := ⟨β i, o, none⟩) (l := cs.map .v) (s := s) (by simpa using h1) (fun j v hv => by
        rw [own_add, cell_of_row w (β i) (o + j) _ ty' (0, 0) e2]
        rw [cs_v] at hv
        exact e3 _ _ (h2 j v hv)) h6
      simp [execOp, Instr.loadAt, Instr.sureAddr, e1, SV.c, e3]
    · rename_i j' n' sz' xs ty' hm
      obtain ⟨cs, ⟨h1, h2⟩, h3⟩ := h
      obtain ⟨s, h5, h6⟩ := valK_spec (normK_spec h3)
      refine Good.run hF hlt hg h5 (efOK_pure (valK_lt h6 (lts_v _ _))) (fun k hk => by simp [hk]) rfl (runOK_pure fun β a w hs => ?_)
      have e1 := gv_eval hs hx (fun k hk => by simp [hk])
      have e2 : w.ownsRow 0 ty' sz' (.slice (some ⟨β i, 0, none⟩) n' (β j')) n' xs := hs.m i (by simp) _ hm
      have e3 := run_loadVar_cells (P := P) htok (β := β) (w := w) (ad := ⟨β i, o, none⟩) (l := cs.map .v) (s := s) (by simpa using h1) (fun j v hv => by
        rw [own_add]
        rw [cs_v] at hv
        have := e2.cells (g := β i) rfl _ _ (h2 j v hv)
        rw [own_add, Nat.zero_add] at this
        exact this) h6
      simp [execOp, Instr.loadAt, Instr.sureAddr, e1, SV.c, e3]
    · exact h.elim
  · rename_i ad ti hx ht
    have htok := T.tok t ti ht
    obtain ⟨cs, ⟨h1, h2⟩, h3⟩ := h
    obtain ⟨s, h5, h6⟩ := valK_spec (normK_spec h3)
    refine Good.run hF hlt hg h5 (efOK_pure (valK_lt h6 (lts_v _ _))) (fun k hk => by simp [hk]) rfl (runOK_pure fun β a w hs => ?_)
    have e1 := gv_eval hs hx (fun k hk => by simp [hk])
    have e3 := run_loadVar_cells (P := P) htok (β := β) (w := w) (ad := ad) (l := cs.map .v) (s := s) (by simpa using h1) (fun j v hv => by
      rw [cs_v] at hv
      exact h2 w hs.h j v hv) h6
    simp [execOp, Instr.loadAt, Instr.sureAddr, e1, SV.c, e3]
  · exact h.elim

theorem valsK_spec : ∀ {l : List SV} {K : List Value → Prop}, valsK l K → ∃ vs : List Value, l = vs.map .v ∧ K vs
  | [], K, h => ⟨[], rfl, h⟩
  | s :: r, K, h => by
    cases s with
    | v x =>
      obtain ⟨vs, h1, h2⟩ := valsK_spec (l := r) h
      exact ⟨x :: vs, by rw [h1]; rfl, h2⟩
    | _ => exact h.elim

theorem ev_store {t : TypeId} {x y : Operand} (hF : Wd F) (hw : σ.Wf) (hlt : ∀ k s, lk σ.t k = some s → k < σ.nt) (hg : Gd ops ⟨dst, .store t x y, ty, pos, after, gd⟩ gs σ)
    (h : ev T ⟨dst, .store t x y, ty, pos, after, gd⟩ gs σ K KF) : Good F n P ops ⟨dst, .store t x y, ty, pos, after, gd⟩ σ K := by
  simp only [ev] at h
  split at h
  · rename_i i o s ti hx hy ht
    have htok := T.tok t ti ht
    split at h
    · rename_i l ty' hm
      obtain ⟨⟨h0, h1⟩, h2⟩ := h
      have h0 := Nat.eq_of_beq_eq_true h0
      obtain ⟨h3, h4⟩ := splK_spec o l s.cells _ h2
      have hl : SV.lts σ.nb l = true := (hw.m i _ hm).2
      have hs' : SV.lts σ.nb s.cells = true := SV.cells_lt (hw.gv hy)
      have hi : i < σ.nb := (hw.m i _ hm).1
      refine Good.run hF hlt hg h4 ⟨rfl, rfl, fun j b hj => ?_, fun j b hj _ => ?_, fun j b b' hj hj' => ?_⟩ (fun k hk => by simp [hk]) rfl fun β a w hs => ?_
      · simp only [List.mem_singleton, Prod.mk.injEq] at hj
        obtain ⟨rfl, rfl⟩ := hj
        exact ⟨by simpa using hi, by simpa [Blk.lt] using lts_append (lts_append (lts_take hl) hs') (lts_drop hl)⟩
      · simp only [List.mem_singleton, Prod.mk.injEq] at hj
        obtain ⟨rfl, rfl⟩ := hj
        exact ⟨by simp, _, hm, rfl⟩
      · simp only [List.mem_singleton, Prod.mk.injEq] at hj hj'
        rw [hj.2, hj'.2]
      · have e1 := gv_eval hs hx (fun k hk => by simp [hk])
        have e2 := gv_eval hs hy (fun k hk => by simp [hk])
        have e3 : w.heap[β i]? = some (.cells (SV.cs β l).toArray ty' (0, 0)) := hs.m i (by simp) _ hm
        refine ⟨β, _, EfPost.set e3, .inr ⟨?_, rfl⟩⟩
        have hzc : (s.c β).cells = (SV.cs β s.cells).toArray := by rw [← SV.cells_c]
        have hlen : (SV.cs β s.cells).length = s.cells.length := by rw [SV.cs_eq, List.length_map]
        have hrun := run_storeCells_at (P := P) (β i) o ty' (SV.cs β s.cells) 0 (SV.cs β l).toArray w e3 (by rw [hlen]; simp only [SV.cs_eq, List.size_toArray, List.length_map]; omega) (ones_c β h1)
        have hsz : (s.c β).cells.size = ti.size := by rw [hzc]; simp [hlen, h0]
        have harr : ((SV.cs β l).toArray.toList.take (o + 0) ++ SV.cs β s.cells ++ (SV.cs β l).toArray.toList.drop (o + 0 + (SV.cs β s.cells).length)) = SV.cs β (l.take o ++ s.cells ++ l.drop (o + s.cells.length)) := by
          simp only [SV.cs_eq, List.map_append, List.map_take, List.map_drop, List.length_map, Nat.add_zero]
        rw [harr] at hrun
        simp only [execOp, Instr.storeAt, Instr.sureAddr, e1, e2, SV.c, Sem.run_bind, Sem.run_pure, Result.andThen_ok, storeVar, htok.run_sizeOf w, hsz, ne_eq, not_true_eq_false, if_false]
        rw [hzc]
        simp only [hrun, Result.andThen_ok]
    · rename_i j' n' sz' xs ty' hm
      obtain ⟨⟨h0, h1⟩, h2⟩ := h
      have h0 := Nat.eq_of_beq_eq_true h0
      obtain ⟨vs, hvs, h3, h4⟩ := valsK_spec h2
      have hi : i < σ.nb := (hw.m i _ hm).1
      have hj : (Blk.own j' n' sz' xs ty').lt σ.nb = true := (hw.m i _ hm).2
      refine Good.run hF hlt hg h4 ⟨rfl, rfl, fun j b hj' => ?_, fun j b hj' _ => ?_, fun j b b' hj' hj'' => ?_⟩ (fun k hk => by simp [hk]) rfl fun β a w hs => ?_
      · simp only [List.mem_singleton, Prod.mk.injEq] at hj'
        obtain ⟨rfl, rfl⟩ := hj'
        exact ⟨by simpa using hi, by simpa [Blk.lt] using hj⟩
      · simp only [List.mem_singleton, Prod.mk.injEq] at hj'
        obtain ⟨rfl, rfl⟩ := hj'
        exact ⟨by simp, _, hm, rfl⟩
      · simp only [List.mem_singleton, Prod.mk.injEq] at hj' hj''
        rw [hj'.2, hj''.2]
      · have e1 := gv_eval hs hx (fun k hk => by simp [hk])
        have e2 := gv_eval hs hy (fun k hk => by simp [hk])
        have e3 : w.ownsRow 0 ty' sz' (.slice (some ⟨β i, 0, none⟩) n' (β j')) n' xs := hs.m i (by simp) _ hm
        have hlenx := e3.1
        rcases e3.2 with ⟨h', _⟩ | ⟨g, cap, cur, q0, q1, q2, q3, q4, q5, q6⟩
        · cases h'
        simp only [Value.slice.injEq, Option.some.injEq, Addr.mk.injEq, and_true, true_and] at q0
        obtain ⟨rfl, rfl⟩ := q0
        have hzc : (s.c β).cells = (SV.cs β s.cells).toArray := by rw [← SV.cells_c]
        have hcs : SV.cs β s.cells = vs := by rw [hvs, cs_v]
        have hvlen : vs.length = s.cells.length := by rw [hvs, List.length_map]
        have hxl : xs.length ≤ cur.size := by
          have := congrArg List.length q6
          rw [List.length_take, Array.length_toList] at this
          omega
        have hrun := run_storeCells_at (P := P) (β i) o ty' (SV.cs β s.cells) 0 cur w q2 (by rw [hcs]; omega) (ones_c β h1)
        have hlt' : β i < w.heap.size := (Array.getElem?_eq_some_iff.1 q2).1
        refine ⟨β, w.setRow (β i) (cur.toList.take (o + 0) ++ SV.cs β s.cells ++ cur.toList.drop (o + 0 + (SV.cs β s.cells).length)).toArray, ?_, .inr ⟨?_, rfl⟩⟩
        · refine ⟨fun _ _ => rfl, ⟨rfl, rfl, rfl, by simp [World.setRow], fun b hb hX => ?_⟩, fun j b hj' => ?_, fun j hj => (by cases hj), fun j hj => (by cases hj)⟩
          · have hne : β i ≠ b := fun e => hX ⟨i, _, List.mem_singleton.2 rfl, by simp, e⟩
            simp only [World.setRow, Array.getElem?_modify]
            rw [if_neg hne]
          · simp only [List.mem_singleton, Prod.mk.injEq] at hj'
            obtain ⟨rfl, rfl⟩ := hj'
            refine ⟨by simp only [List.length_append, List.length_take, List.length_drop]; omega, .inr ⟨_, _, _, rfl, q1, setRow_heap w _ cur _ ty' _ q2, q3, q4, ?_, ?_⟩⟩
            · rw [hcs]; simp only [List.size_toArray, List.length_append, List.length_take, List.length_drop, Array.length_toList]; omega
            · rw [hcs]
              rw [← hlenx] at q6 ⊢
              simp only [Nat.add_zero]
              apply List.ext_getElem?
              intro m
              have hget : ∀ m, m < xs.length → xs[m]? = cur.toList[m]? := fun m hm => by
                have := congrArg (fun l => l[m]?) q6
                simp only [List.getElem?_take, hm, if_true] at this
                exact this.symm
              simp only [List.getElem?_append, List.getElem?_take, List.length_append, List.length_take, List.getElem?_drop, Array.length_toList]
              by_cases hm0 : m < xs.length
              case neg =>
                have e1 : ¬ m < min o xs.length := by omega
                have e4 : ¬ m < min o xs.length + vs.length := by omega
                have e9 : xs[o + vs.length + (m - (min o xs.length + vs.length))]? = none := List.getElem?_eq_none (by omega)
                simp [e4, e9, hm0]
              rw [if_pos hm0]
              rcases Nat.lt_or_ge m o with hm1 | hm1
              · have e1 : m < min o cur.size := by omega
                have e2 : m < min o xs.length := by omega
                have e3 : m < min o cur.size + vs.length := by omega
                have e4 : m < min o xs.length + vs.length := by omega
                have e5 : m < min o xs.length + vs.length + (xs.length - (o + vs.length)) := by omega
                simp [e1, e2, e3, e4, hm1, hget m (by omega)]
              · rcases Nat.lt_or_ge m (o + vs.length) with hm2 | hm2
                · have e1 : ¬ m < min o cur.size := by omega
                  have e2 : ¬ m < min o xs.length := by omega
                  have e3 : m < min o cur.size + vs.length := by omega
                  have e4 : m < min o xs.length + vs.length := by omega
                  have e5 : m < min o xs.length + vs.length + (xs.length - (o + vs.length)) := by omega
                  have e6 : m - min o cur.size = m - min o xs.length := by omega
                  simp [e1, e2, e3, e4, e6]
                · have e1 : ¬ m < min o cur.size := by omega
                  have e2 : ¬ m < min o xs.length := by omega
                  have e3 : ¬ m < min o cur.size + vs.length := by omega
                  have e4 : ¬ m < min o xs.length + vs.length := by omega
                  have e7 : o + vs.length + (m - (min o xs.length + vs.length)) = m := by omega
                  have e8 : o + vs.length + (m - (min o cur.size + vs.length)) = m := by omega
                  by_cases hm3 : m < xs.length
                  · have e5 : m < min o xs.length + vs.length + (xs.length - (o + vs.length)) := by omega
                    simp [e3, e4, e7, e8, hget m hm3]
                  · exact absurd hm0 hm3
        · have hsz : (s.c β).cells.size = ti.size := by rw [hzc, hcs]; simp [hvlen, h0]
          simp only [execOp, Instr.storeAt, Instr.sureAddr, e1, e2, SV.c, Sem.run_bind, Sem.run_pure, Result.andThen_ok, storeVar, htok.run_sizeOf w, hsz, ne_eq, not_true_eq_false, if_false]
          rw [hzc]
          simp only [hrun, Result.andThen_ok]
    · exact h.elim
  · exact h.elim

theorem ev_move {x : Operand} (hF : Wd F) (hw : σ.Wf) (hlt : ∀ k s, lk σ.t k = some s → k < σ.nt) (hg : Gd ops ⟨dst, .move x, ty, pos, after, gd⟩ gs σ)
    (h : ev T ⟨dst, .move x, ty, pos, after, gd⟩ gs σ K KF) : Good F n P ops ⟨dst, .move x, ty, pos, after, gd⟩ σ K := by
  simp only [ev] at h
  cases hx : gv σ x with
  | none => rw [hx] at h; exact h.elim
  | some s =>
    rw [hx] at h
    refine Good.run hF hlt hg h (efOK_pure (hw.gv hx)) (fun k hk => by simp [hk]) rfl (runOK_pure fun β a w hs => ?_)
    have e1 := gv_eval hs hx (fun k hk => by simp [hk])
    simp [execOp, e1]

theorem ev_assign {x : Operand} (hF : Wd F) (hw : σ.Wf) (hlt : ∀ k s, lk σ.t k = some s → k < σ.nt) (hg : Gd ops ⟨dst, .assign x, ty, pos, after, gd⟩ gs σ)
    (h : ev T ⟨dst, .assign x, ty, pos, after, gd⟩ gs σ K KF) : Good F n P ops ⟨dst, .assign x, ty, pos, after, gd⟩ σ K := by
  simp only [ev] at h
  cases hx : gv σ x with
  | none => rw [hx] at h; exact h.elim
  | some s =>
    rw [hx] at h
    refine Good.run hF hlt hg h (efOK_pure (hw.gv hx)) (fun k hk => by simp [hk]) rfl (runOK_pure fun β a w hs => ?_)
    have e1 := gv_eval hs hx (fun k hk => by simp [hk])
    simp [execOp, e1]

theorem field_of {t : TypeId} {ti : TI} {fs : List (Nat × Nat)} (h : TOK P t ti) (hk : ti.kind = .struct fs) {f off ft : Nat} (hf : fs[f]? = some (off, ft)) :
    ∃ (fields : Array Field) (fd : Field), P.underlying t = some (.struct fields) ∧ fields[f]? = some fd ∧ fd.offset = off ∧ fd.type = ft ∧ fields.toList.map (fun f => (f.offset, f.type)) = fs := by
  obtain ⟨d, h1, h2⟩ := h.under
  rw [hk] at h2
  obtain ⟨fields, rfl, h3⟩ := kindOf_struct h2
  rw [← h3, List.getElem?_map, Array.getElem?_toList] at hf
  cases hfd : fields[f]? with
  | none => rw [hfd] at hf; simp at hf
  | some fd =>
    rw [hfd] at hf
    simp only [Option.map_some, Option.some.injEq, Prod.mk.injEq] at hf
    exact ⟨fields, fd, h1, hfd, hf.1, hf.2, h3⟩

theorem ev_fieldAddr {t : TypeId} {x : Operand} {f : Nat} (hF : Wd F) (hw : σ.Wf) (hlt : ∀ k s, lk σ.t k = some s → k < σ.nt) (hg : Gd ops ⟨dst, .fieldAddr t x f, ty, pos, after, gd⟩ gs σ)
    (h : ev T ⟨dst, .fieldAddr t x f, ty, pos, after, gd⟩ gs σ K KF) : Good F n P ops ⟨dst, .fieldAddr t x f, ty, pos, after, gd⟩ σ K := by
  simp only [ev] at h
  split at h
  · rename_i i o sz zr by_ fs hx ht
    have htok := T.tok t _ ht
    split at h
    · rename_i off ft hf
      split at h
      · rename_i ti hft
        obtain ⟨h0, h1⟩ := h
        have hpos : 0 < ti.size := by rw [Nat.blt_eq] at h0; exact h0
        have hlt' := hw.gv hx
        refine Good.run hF hlt hg h1 (efOK_pure (by simpa [SV.lt] using hlt')) (fun k hk => by simp [hk]) rfl (runOK_pure fun β a w hs => ?_)
        have e1 := gv_eval hs hx (fun k hk => by simp [hk])
        obtain ⟨fields, fd, g1, g2, g3, g4, _⟩ := field_of htok rfl hf
        have hsz := (T.tok ft ti hft).run_sizeOf w
        simp only [execOp, Instr.fieldAt, e1, SV.c, Sem.run_bind, Go.run_underlying g1 w, Result.andThen_ok, g2, Instr.sureAddr, Sem.run_pure, fieldPlace, g4, hsz]
        rw [if_neg (by omega)]
        simp only [Sem.run_pure, Result.andThen_ok, g3, own_add]
      · exact h.elim
    · exact h.elim
  · exact h.elim

theorem run_part {t : TypeId} {ti : TI} (ht : TOK P t ti) {cs : List Value} {off : Nat} {w : World} {β : Nat → Nat} {l : List SV} {s : SV} (hl : (cs.drop off).take ti.size = SV.cs β l) (hlen : l.length = ti.size)
    (hs : (ti.kind.agg = true ∧ s = .agg l) ∨ (ti.kind.agg = false ∧ l = [s])) : (part t cs.toArray off).run P w = .ok (s.c β) w := by
  unfold part
  rw [Sem.run_bind, ht.run_isAgg w, Result.andThen_ok]
  rcases hs with ⟨ha, rfl⟩ | ⟨ha, rfl⟩
  · rw [ha, if_pos rfl, Sem.run_bind, ht.run_sizeOf w, Result.andThen_ok]
    simp only [Sem.run_pure, SV.c, ← hl]
    congr 2
    apply Array.ext'
    simp only [Array.toList_extract]
    rw [List.extract_eq_take_drop]
    congr 1
    omega
  · rw [ha, if_neg (by simp)]
    have h0 : (cs.toArray)[off]? = some (s.c β) := by
      have := congrArg (fun l => l[0]?) hl
      simp only [SV.cs, List.length_singleton] at this hlen
      rw [List.getElem?_take] at this
      rw [if_pos (by omega), List.getElem?_drop] at this
      simpa using this
    rw [h0]
    rfl

theorem ev_field {t : TypeId} {x : Operand} {f : Nat} (hF : Wd F) (hw : σ.Wf) (hlt : ∀ k s, lk σ.t k = some s → k < σ.nt) (hg : Gd ops ⟨dst, .field t x f, ty, pos, after, gd⟩ gs σ)
    (h : ev T ⟨dst, .field t x f, ty, pos, after, gd⟩ gs σ K KF) : Good F n P ops ⟨dst, .field t x f, ty, pos, after, gd⟩ σ K := by
  simp only [ev] at h
  split at h
  · rename_i s0 sz zr by_ fs hx ht
    have htok := T.tok t _ ht
    split at h
    · rename_i off ft hf
      split at h
      · rename_i ti hft
        obtain ⟨h1, h2⟩ := dropK_spec off _ _ h.2
        obtain ⟨h3, h4⟩ := takeK_spec _ _ _ h2
        obtain ⟨s, h5, h6⟩ := valK_spec h4
        have hl := SV.cells_lt (hw.gv hx)
        refine Good.run hF hlt hg h5 (efOK_pure (valK_lt h6 (lts_take (lts_drop hl)))) (fun k hk => by simp [hk]) rfl (runOK_pure fun β a w hs => ?_)
        have e1 := gv_eval hs hx (fun k hk => by simp [hk])
        obtain ⟨fields, fd, g1, g2, g3, g4, _⟩ := field_of htok rfl hf
        obtain ⟨cs, hcs, hcs'⟩ : ∃ cs : List Value, s0.c β = .agg cs.toArray ∧ SV.cs β s0.cells = cs := by
          have h' := h.1
          cases s0 with
          | agg l => exact ⟨_, rfl, rfl⟩
          | v v =>
            cases v with
            | agg c => exact ⟨c.toList, rfl, by simp only [SV.cells]; exact cs_v β _⟩
            | _ => cases h'
          | _ => cases h'
        have hp := run_part (P := P) (T.tok ft ti hft) (cs := cs) (off := off) (w := w) (β := β) (l := (s0.cells.drop off).take ti.size) (s := s)
          (by rw [← hcs', SV.cs_eq, SV.cs_eq, List.map_take, List.map_drop]) (by rw [List.length_take]; omega) h6
        simp only [execOp, Instr.field, e1, hcs, Sem.run_bind, Go.run_underlying g1 w, Result.andThen_ok, g2, asAgg, Sem.run_pure, g4, g3, hp]
      · exact h.elim
    · exact h.elim
  · exact h.elim

theorem ev_extract {x : Operand} {i : Nat} (hF : Wd F) (hw : σ.Wf) (hlt : ∀ k s, lk σ.t k = some s → k < σ.nt) (hg : Gd ops ⟨dst, .extract x i, ty, pos, after, gd⟩ gs σ)
    (h : ev T ⟨dst, .extract x i, ty, pos, after, gd⟩ gs σ K KF) : Good F n P ops ⟨dst, .extract x i, ty, pos, after, gd⟩ σ K := by
  simp only [ev] at h
  split at h
  · rename_i vs hx
    split at h
    · rename_i v hv
      refine Good.run hF hlt hg h (efOK_pure rfl) (fun k hk => by simp [hk]) rfl (runOK_pure fun β a w hs => ?_)
      have e1 := gv_eval hs hx (fun k hk => by simp [hk])
      rw [Array.getElem?_toList] at hv
      simp [execOp, Instr.extract, e1, SV.c, hv]
    · exact h.elim
  · rename_i l hx
    split at h
    · rename_i s hv
      have hl : SV.lts σ.nb l = true := hw.gv hx
      rw [lts_iff] at hl
      refine Good.run hF hlt hg h (efOK_pure (hl s (List.mem_of_getElem? hv))) (fun k hk => by simp [hk]) rfl (runOK_pure fun β a w hs => ?_)
      have e1 := gv_eval hs hx (fun k hk => by simp [hk])
      have e2 : (SV.cs β l).toArray[i]? = some (s.c β) := by rw [List.getElem?_toArray, cs_getElem?, hv]; rfl
      simp only [execOp, Instr.extract, e1, SV.c, e2]
      rfl
    · exact h.elim
  · exact h.elim

theorem ev_makeFunc {f : Fn} {first cap : Array Operand} (hF : Wd F) (hw : σ.Wf) (hlt : ∀ k s, lk σ.t k = some s → k < σ.nt) (hg : Gd ops ⟨dst, .makeFunc f first cap, ty, pos, after, gd⟩ gs σ)
    (h : ev T ⟨dst, .makeFunc f first cap, ty, pos, after, gd⟩ gs σ K KF) : Good F n P ops ⟨dst, .makeFunc f first cap, ty, pos, after, gd⟩ σ K := by
  simp only [ev] at h
  split at h
  · rename_i hfirst
    obtain ⟨l, h1, h2⟩ := gvs_spec h
    refine Good.run hF hlt hg h1 (efOK_pure (by simpa [SV.lt] using gvs_lt hw h2)) (fun k hk => by simp [hk]) rfl (runOK_pure fun β a w hs => ?_)
    have e1 := gvs_eval hs h2 (fun k hk => by simp [hk])
    have e2 : first = #[] := Array.toList_eq_nil_iff.1 hfirst
    have e3 : cap.map a.eval = (SV.cs β l).toArray := by rw [← e1]; apply Array.ext'; simp
    subst e2
    simp only [execOp, Instr.makeFunc, e3, SV.c, Sem.run_bind, Sem.run_pure, Result.andThen_ok, List.map_toArray, List.map_nil]
  · exact h.elim

theorem ev_unOp {op : UnOp} {t : TypeId} {x : Operand} (hF : Wd F) (hlt : ∀ k s, lk σ.t k = some s → k < σ.nt) (hg : Gd ops ⟨dst, .unOp op t x, ty, pos, after, gd⟩ gs σ)
    (h : ev T ⟨dst, .unOp op t x, ty, pos, after, gd⟩ gs σ K KF) : Good F n P ops ⟨dst, .unOp op t x, ty, pos, after, gd⟩ σ K := by
  simp only [ev] at h
  split at h
  · rename_i b hx
    split at h
    · refine Good.run hF hlt hg h (efOK_pure rfl) (fun k hk => by simp [hk]) rfl (runOK_pure fun β a w hs => ?_)
      have e1 := gv_eval hs hx (fun k hk => by simp [hk])
      simp [execOp, Op.unary, e1, SV.c]
    · exact h.elim
  · rename_i k z hx
    split at h
    · refine Good.run hF hlt hg h.2 (efOK_pure rfl) (fun k hk => by simp [hk]) rfl (runOK_pure fun β a w hs => ?_)
      have e1 := gv_eval hs hx (fun k hk => by simp [hk])
      have e2 : k.wrap (-z) = -z := h.1.wrap
      simp [execOp, Op.unary, Op.intArith, e1, SV.c, e2]
    · exact h.elim
  · exact h.elim

theorem ev_convert {s d : TypeId} {x : Operand} (hF : Wd F) (hlt : ∀ k s, lk σ.t k = some s → k < σ.nt) (hg : Gd ops ⟨dst, .convert s d x, ty, pos, after, gd⟩ gs σ)
    (h : ev T ⟨dst, .convert s d x, ty, pos, after, gd⟩ gs σ K KF) : Good F n P ops ⟨dst, .convert s d x, ty, pos, after, gd⟩ σ K := by
  simp only [ev] at h
  split at h
  · rename_i v hx
    obtain ⟨v', h1, h2⟩ := h
    refine Good.run hF hlt hg h2 (efOK_pure rfl) (fun k hk => by simp [hk]) rfl (runOK_pure fun β a w hs => ?_)
    have e1 := gv_eval hs hx (fun k hk => by simp [hk])
    simp only [execOp, e1, SV.c, Sem.run_bind, h1 w, Result.andThen_ok, Sem.run_pure]
  · exact h.elim

theorem ev_binOp {op : BinOp} {t t' : TypeId} {x y : Operand} (hF : Wd F) (hlt : ∀ k s, lk σ.t k = some s → k < σ.nt) (hg : Gd ops ⟨dst, .binOp op t x y t', ty, pos, after, gd⟩ gs σ)
    (h : ev T ⟨dst, .binOp op t x y t', ty, pos, after, gd⟩ gs σ K KF) : Good F n P ops ⟨dst, .binOp op t x y t', ty, pos, after, gd⟩ σ K := by
  simp only [ev] at h
  split at h
  · rename_i k a k' b hx hy
    split at h
    · rename_i hk
      have hk := of_decide_eq_true hk
      subst hk
      obtain ⟨v, h1, h2⟩ := arithK_spec (P := P) t x y h
      refine Good.run hF hlt hg h1 (efOK_pure rfl) (fun k hk => by simp [hk]) rfl (runOK_pure fun β a' w hs => ?_)
      have e1 := gv_eval hs hx (fun k hk => by simp [hk])
      have e2 := gv_eval hs hy (fun k hk => by simp [hk])
      have e3 := h2 w
      simp only [execOp, e1, e2, SV.c]
      rw [Sem.run_bind, e3]
      rfl
    · exact h.elim
  · rename_i s1 s2 _ hx hy
    obtain ⟨v, h1, h2⟩ := h
    refine Good.run hF hlt hg h2 (efOK_pure rfl) (fun k hk => by simp [hk]) rfl (runOK_pure fun β a' w hs => ?_)
    have e1 := gv_eval hs hx (fun k hk => by simp [hk])
    have e2 := gv_eval hs hy (fun k hk => by simp [hk])
    have e3 := h1 β w
    simp only [execOp, e1, e2, SV.c]
    rw [Sem.run_bind, e3]
    rfl
  · exact h.elim

end
end Go.Proofs.Ytlehjapeomallaa.Sx
