/- The engine, part 8: indexed addresses, structs, calls; the evaluator of any operation is right. -/
import Derived.Test.YtlehjapeomallaaSg
namespace Go.Proofs.Ytlehjapeomallaa.Sx
open Go Go.RowKit

section
variable {P : Program} (T : Env P)
variable {F : Fence} {n : Nat} {ops : Array Oper} {dst : Option Tmp} {ty : TypeId} {pos : String} {after : Array Edge} {gd : Option (Nat × Bool)} {gs : List Nat} {σ : Sg} {K : Ef → Prop} {KF : Option (Value → (World → Prop) → Prop)}

theorem under_arr {t : TypeId} {ti : TI} (h : TOK P t ti) {n e : Nat} (hk : ti.kind = .arr n e) : P.underlying t = some (.array n e) := by
  obtain ⟨d, h1, h2⟩ := h.under
  rw [hk] at h2
  rw [h1, kindOf_arr h2]
theorem under_slice {t : TypeId} {ti : TI} (h : TOK P t ti) {e : Nat} (hk : ti.kind = .slice e) : P.underlying t = some (.slice e) := by
  obtain ⟨d, h1, h2⟩ := h.under
  rw [hk] at h2
  rw [h1, kindOf_slice h2]

theorem ev_indexAddr {t : TypeId} {x ix : Operand} (hF : Wd F) (hw : σ.Wf) (hlt : ∀ k s, lk σ.t k = some s → k < σ.nt) (hg : Gd ops ⟨dst, .indexAddr t x ix, ty, pos, after, gd⟩ gs σ)
    (h : ev T ⟨dst, .indexAddr t x ix, ty, pos, after, gd⟩ gs σ K KF) : Good F n P ops ⟨dst, .indexAddr t x ix, ty, pos, after, gd⟩ σ K := by
  simp only [ev] at h
  split at h
  · rename_i i o k z sz zr by_ m e hx hix ht
    split at h
    · rename_i ti he
      obtain ⟨⟨h0, h1⟩, h2⟩ := h
      refine Good.run hF hlt hg h2 (efOK_pure (by simpa [SV.lt] using hw.gv hx)) (fun k hk => by simp [hk]) rfl (runOK_pure fun β a w hs => ?_)
      have e1 := gv_eval hs hx (fun k hk => by simp [hk])
      have e2 := gv_eval hs hix (fun k hk => by simp [hk])
      have hu := under_arr (T.tok t _ ht) rfl
      have hsz := (T.tok e ti he).run_sizeOf w
      simp only [execOp, Instr.indexAt, e1, e2, SV.c, asIntOf, Sem.run_bind, Sem.run_pure, Result.andThen_ok, Go.run_underlying hu w, Instr.sureAddr, h0, h1, and_self, if_true, hsz, own_add]
    · exact h.elim
  · rename_i i o m c k z sz zr by_ e hx hix ht
    split at h
    · rename_i ti he
      obtain ⟨⟨h0, h1⟩, h2⟩ := h
      refine Good.run hF hlt hg h2 (efOK_pure (by simpa [SV.lt] using hw.gv hx)) (fun k hk => by simp [hk]) rfl (runOK_pure fun β a w hs => ?_)
      have e1 := gv_eval hs hx (fun k hk => by simp [hk])
      have e2 := gv_eval hs hix (fun k hk => by simp [hk])
      have hu := under_slice (T.tok t _ ht) rfl
      have hsz := (T.tok e ti he).run_sizeOf w
      simp only [execOp, Instr.indexAt, e1, e2, SV.c, asIntOf, Sem.run_bind, Sem.run_pure, Result.andThen_ok, Go.run_underlying hu w, h0, h1, and_self, if_true, hsz, own_add]
    · exact h.elim
  · rename_i i j m k z sz zr by_ e hx hix ht
    split at h
    · rename_i ti he
      obtain ⟨⟨h0, h1⟩, h2⟩ := h
      have hlt' := hw.gv hx
      simp only [SV.lt, Bool.and_eq_true] at hlt'
      refine Good.run hF hlt hg h2 (efOK_pure (by simpa [SV.lt] using hlt'.1)) (fun k hk => by simp [hk]) rfl (runOK_pure fun β a w hs => ?_)
      have e1 := gv_eval hs hx (fun k hk => by simp [hk])
      have e2 := gv_eval hs hix (fun k hk => by simp [hk])
      have hu := under_slice (T.tok t _ ht) rfl
      have hsz := (T.tok e ti he).run_sizeOf w
      simp only [execOp, Instr.indexAt, e1, e2, SV.c, asIntOf, Sem.run_bind, Sem.run_pure, Result.andThen_ok, Go.run_underlying hu w, h0, h1, and_self, if_true, hsz, own_add, Nat.zero_add]
    · exact h.elim
  · rename_i ad m c k z sz zr by_ e hx hix ht
    split at h
    · rename_i ti he
      obtain ⟨⟨h0, h1⟩, h2⟩ := h
      refine Good.run hF hlt hg h2 (efOK_pure rfl) (fun k hk => by simp [hk]) rfl (runOK_pure fun β a w hs => ?_)
      have e1 := gv_eval hs hx (fun k hk => by simp [hk])
      have e2 := gv_eval hs hix (fun k hk => by simp [hk])
      have hu := under_slice (T.tok t _ ht) rfl
      have hsz := (T.tok e ti he).run_sizeOf w
      simp only [execOp, Instr.indexAt, e1, e2, SV.c, asIntOf, Sem.run_bind, Sem.run_pure, Result.andThen_ok, Go.run_underlying hu w, h0, h1, and_self, if_true, hsz]
    · exact h.elim
  · exact h.elim

theorem placeS_get {t : TypeId} {ti : TI} (h : TOK P t ti) {fs : List (Nat × Nat)} (hk : ti.kind = .struct fs) (w : World) (hall : ∀ p ∈ fs, (T.ty p.2).isSome = true) :
    ∃ (fields : Array Field) (places : Array (Nat × Nat)), P.underlying t = some (.struct fields) ∧
      (fields.mapM fun f => do pure (f.offset, ← sizeOf f.type) : Sem (Array (Nat × Nat))).run P w = .ok places w ∧ ∀ i, places[i]? = placeS T.ty fs i := by
  obtain ⟨d, h1, h2⟩ := h.under
  rw [hk] at h2
  obtain ⟨fields, rfl, h3⟩ := kindOf_struct h2
  have key : ∀ (l : List Field), (∀ f ∈ l, (T.ty f.type).isSome = true) → (l.mapM fun f => do pure (f.offset, ← sizeOf f.type) : Sem (List (Nat × Nat))).run P w = .ok (l.map fun f => (f.offset, ((T.ty f.type).map (·.size)).getD 0)) w := by
    intro l
    induction l with
    | nil => intro _; rfl
    | cons f l ih =>
      intro hl
      have hf := hl f List.mem_cons_self
      obtain ⟨ti, hti⟩ := Option.isSome_iff_exists.1 hf
      rw [List.mapM_cons]
      simp only [Sem.run_bind, (T.tok _ _ hti).run_sizeOf w, Result.andThen_ok, Sem.run_pure, ih (fun g hg => hl g (List.mem_cons_of_mem _ hg))]
      simp [hti]
  have hall' : ∀ f ∈ fields.toList, (T.ty f.type).isSome = true := fun f hf => hall (f.offset, f.type) (by rw [← h3]; exact List.mem_map.2 ⟨f, hf, rfl⟩)
  refine ⟨fields, (fields.toList.map fun f => (f.offset, ((T.ty f.type).map (·.size)).getD 0)).toArray, h1, ?_, fun i => ?_⟩
  · rw [Array.mapM_eq_mapM_toList]
    simp only [Sem.run_map, key fields.toList hall', Result.andThen_ok]
  · rw [List.getElem?_toArray, List.getElem?_map, ← h3]
    unfold placeS
    rw [List.getElem?_map]
    cases hf : fields.toList[i]? with
    | none => simp
    | some f =>
      have := hall' f (List.mem_of_getElem? hf)
      obtain ⟨ti, hti⟩ := Option.isSome_iff_exists.1 this
      simp [hti]

theorem parts_zip {a : Act} {β : Nat → Nat} {parts : Array (Nat × Operand)} {l : List SV} (e1 : (parts.toList.map (·.2)).map a.eval = SV.cs β l) :
    (Array.map (fun x => match x with | (i, x) => (i, a.eval x)) parts).toList = ((parts.toList.map (·.1)).zip l).map fun p => (p.1, p.2.c β) := by
  rw [Array.toList_map]
  have : ∀ (ps : List (Nat × Operand)) (l : List SV), (ps.map (·.2)).map a.eval = SV.cs β l → ps.map (fun p => (p.1, a.eval p.2)) = ((ps.map (·.1)).zip l).map fun p => (p.1, p.2.c β) := by
    intro ps
    induction ps with
    | nil => intro l _; simp
    | cons p ps ih =>
      intro l hl
      cases l with
      | nil => simp [SV.cs] at hl
      | cons s l =>
        simp only [List.map_cons, SV.cs, List.cons.injEq] at hl
        simp only [List.map_cons, List.zip_cons_cons, List.cons.injEq]
        exact ⟨by rw [hl.1], ih l hl.2⟩
  exact this _ _ e1

theorem ev_build {t : TypeId} {parts : Array (Nat × Operand)} (hF : Wd F) (hw : σ.Wf) (hlt : ∀ k s, lk σ.t k = some s → k < σ.nt) (hg : Gd ops ⟨dst, .build t parts, ty, pos, after, gd⟩ gs σ)
    (h : ev T ⟨dst, .build t parts, ty, pos, after, gd⟩ gs σ K KF) : Good F n P ops ⟨dst, .build t parts, ty, pos, after, gd⟩ σ K := by
  simp only [ev] at h
  split at h
  · rename_i sz zero by_ fs ht
    obtain ⟨hall, h⟩ := h
    obtain ⟨l, h1, h2⟩ := gvs_spec h
    obtain ⟨htok⟩ : Nonempty (TOK P t ⟨sz, zero, by_, .struct fs⟩) := ⟨T.tok t _ ht⟩
    have hlen : l.length = parts.toList.length := by
      have := congrArg List.length h2
      simpa using this.symm
    have hgl := gvs_lt hw h2
    have hzl : ∀ p ∈ (parts.toList.map (·.1)).zip l, p.2.lt σ.nb = true := fun p hp => by
      rw [lts_iff] at hgl
      exact hgl p.2 (List.of_mem_zip hp).2
    obtain ⟨l', h5, h6, h7⟩ := fill_spec _ _ _ h1
    refine Good.run (E := ⟨.agg l', [], [], gs ++ oss (parts.toList.map (·.2)), []⟩) hF hlt hg h5 (efOK_pure (h7 _ (lts_v _ _) hzl)) (fun k hk => by simp [hk]) rfl (runOK_pure fun β a w hs => ?_)
    have e1 := gvs_eval hs h2 (fun k hk => by simp [hk])
    obtain ⟨z, hz, hrun⟩ := htok.run_zero
    have hz' : z.cells = (SV.cs β (zero.map .v)).toArray := by
      have hz'' : z.cells.toList = zero := hz
      rw [cs_v, ← hz'']
    obtain ⟨fields, places, g1, g2, g3⟩ := placeS_get T htok rfl w (fun p hp => by rw [List.all_eq_true] at hall; exact hall p hp)
    have hplace : (fun i => places[i]?) = placeS T.ty fs := funext g3
    have hfill := h6 β
    simp only [execOp, Instr.build, Sem.run_bind, hrun, Result.andThen_ok, Go.run_underlying g1 w, Sem.run_pure]
    rw [g2]
    simp only [Result.andThen_ok]
    rw [hplace, hz']
    have hp2 : (Array.map (fun x => match x with | (i, x) => (i, a.eval x)) parts).toList = ((parts.toList.map (·.1)).zip l).map fun p => (p.1, p.2.c β) := parts_zip e1
    rw [hp2, hfill]
    rfl
  · rename_i sz zero by_ m e ht
    split at h
    · rename_i ti he
      obtain ⟨l, h1, h2⟩ := gvs_spec h
      obtain ⟨htok⟩ : Nonempty (TOK P t ⟨sz, zero, by_, .arr m e⟩) := ⟨T.tok t _ ht⟩
      have hgl := gvs_lt hw h2
      have hzl : ∀ p ∈ (parts.toList.map (·.1)).zip l, p.2.lt σ.nb = true := fun p hp => by
        rw [lts_iff] at hgl
        exact hgl p.2 (List.of_mem_zip hp).2
      obtain ⟨l', h5, h6, h7⟩ := fill_spec _ _ _ h1
      refine Good.run (E := ⟨.agg l', [], [], gs ++ oss (parts.toList.map (·.2)), []⟩) hF hlt hg h5 (efOK_pure (h7 _ (lts_v _ _) hzl)) (fun k hk => by simp [hk]) rfl (runOK_pure fun β a w hs => ?_)
      have e1 := gvs_eval hs h2 (fun k hk => by simp [hk])
      obtain ⟨z, hz, hrun⟩ := htok.run_zero
      have hz' : z.cells = (SV.cs β (zero.map .v)).toArray := by
        have hz'' : z.cells.toList = zero := hz
        rw [cs_v, ← hz'']
      have hu := under_arr htok rfl
      have hsz := (T.tok e ti he).run_sizeOf w
      have hfill := h6 β
      simp only [execOp, Instr.build, Sem.run_bind, hrun, Result.andThen_ok, Go.run_underlying hu w, Sem.run_pure, hsz]
      rw [hz', parts_zip e1, hfill]
      rfl
    · exact h.elim
  · exact h.elim

theorem repK_spec : ∀ {n : Nat} {z : List SV} {K : List SV → Prop}, repK n z K → K (List.replicate n z).flatten
  | 0, _, _, h => by simpa [repK] using h
  | n + 1, z, K, h => by
    have happ : ∀ (z l : List SV) (K : List SV → Prop), repK.appK' z l K → K (z ++ l) := by
      intro z
      induction z with
      | nil => intro l K h; exact h
      | cons x r ih => intro l K h; exact ih l _ h
    have := happ _ _ _ (repK_spec (n := n) h)
    rw [List.replicate_succ, List.flatten_cons]
    exact this

theorem rep_zero {z : List Value} (hz : 0 < z.length) (n : Nat) : ((Array.range (n * z.length)).map (fun i => z.toArray[i % z.length]!)).toList = (List.replicate n z).flatten := by
  apply List.ext_getElem?
  intro m
  have key : ∀ n m, ((List.replicate n z).flatten)[m]? = if m < n * z.length then z[m % z.length]? else none := by
    intro n
    induction n with
    | zero => intro m; simp
    | succ n ih =>
      intro m
      rw [List.replicate_succ, List.flatten_cons, List.getElem?_append]
      rw [Nat.succ_mul]
      split
      · rename_i hm
        rw [if_pos (by omega), Nat.mod_eq_of_lt hm]
      · rename_i hm
        rw [ih]
        by_cases h2 : m - z.length < n * z.length
        · rw [if_pos h2, if_pos (by omega), Nat.mod_eq_sub_mod (a := m) (by omega)]
        · rw [if_neg h2, if_neg (by omega)]
  rw [key]
  simp only [Array.toList_map, List.getElem?_map, Array.toList_range]
  by_cases hm : m < n * z.length
  · rw [if_pos hm]
    have hlt : m % z.length < z.length := Nat.mod_lt _ hz
    simp [hm, hlt]
  · rw [if_neg hm]
    simp [hm]

theorem ev_buildSlice {t : TypeId} {m : Nat} {parts : Array (Nat × Operand)} (hF : Wd F) (hw : σ.Wf) (hlt : ∀ k s, lk σ.t k = some s → k < σ.nt) (hg : Gd ops ⟨dst, .buildSlice t m parts, ty, pos, after, gd⟩ gs σ)
    (h : ev T ⟨dst, .buildSlice t m parts, ty, pos, after, gd⟩ gs σ K KF) : Good F n P ops ⟨dst, .buildSlice t m parts, ty, pos, after, gd⟩ σ K := by
  simp only [ev] at h
  split at h
  · rename_i sz zero by_ e ht
    split at h
    · rename_i ti he
      obtain ⟨h0, h⟩ := h
      simp only [Bool.and_eq_true, Nat.ble_eq, Nat.blt_eq] at h0
      obtain ⟨⟨h01, h02⟩, h03⟩ := h0
      have h03 := Nat.eq_of_beq_eq_true h03
      obtain ⟨l, h1, h2⟩ := gvs_spec (nbK_spec h)
      have h1 := repK_spec h1
      have hgl := gvs_lt hw h2
      have hzl : ∀ p ∈ (parts.toList.map (·.1)).zip l, p.2.lt σ.nb = true := fun p hp => by
        rw [lts_iff] at hgl
        exact hgl p.2 (List.of_mem_zip hp).2
      have hrv : (List.replicate m (ti.zero.map SV.v)).flatten = ((List.replicate m ti.zero).flatten).map SV.v := by
        rw [List.map_flatten, List.map_replicate]
      rw [hrv] at h1
      obtain ⟨l', h5, h6, h7⟩ := fill_spec _ _ _ h1
      have hl' := h7 _ (lts_v _ _) hzl
      refine Good.run hF hlt hg h5 (newOK (by simp [SV.lt]) (SV.lts_mono (Nat.le_succ _) _ hl')) (fun k hk => by simp [hk]) rfl fun β a w hs => ?_
      have e1 := gvs_eval hs h2 (fun k hk => by simp [hk])
      refine ⟨_, _, EfPost.newBlk hl', .inl ?_⟩
      have hfill := h6 β
      rw [cs_v] at hfill
      obtain ⟨i, z, q1, q2, q3, q4, q5⟩ := (T.tok e ti he).row
      have hu := under_slice (T.tok t _ ht) rfl
      have hzc : (Array.range (m * ti.size)).map (fun i => z.cells[i % z.cells.size]!) = (List.replicate m ti.zero).flatten.toArray := by
        have hzz : z.cells = ti.zero.toArray := by rw [← q4]
        have hzs : z.cells.size = ti.size := by rw [hzz]; simpa using h03
        have := rep_zero (z := ti.zero) (by omega) m
        rw [h03] at this
        rw [← this, hzs, hzz]
      have hsm : ¬ (m * i.size > 2 ^ 24) := by rw [q2]; omega
      have hz0 : m * i.size = 0 → (List.replicate m ti.zero).flatten = [] := by
        intro h0
        rw [q2] at h0
        have : m = 0 := by
          rcases Nat.mul_eq_zero.1 h0 with h | h
          · exact h
          · omega
        subst this; rfl
      simp only [execOp, Instr.buildSlice, Sem.run_bind, Go.run_underlying hu w, Result.andThen_ok, (T.tok e ti he).run_sizeOf w]
      rw [q2] at hsm hz0
      rw [if_neg hsm]
      simp only [Sem.run_pure]
      by_cases hm0 : m * ti.size = 0
      · rw [if_pos hm0]
        simp only [Sem.run_bind, Sem.run_pure, Result.andThen_ok]
        rw [parts_zip e1]
        rw [hz0 hm0] at hfill
        have e0 : (Array.range (m * ti.size)).map (fun i => (#[] : Array Value)[i % (#[] : Array Value).size]!) = ([] : List Value).toArray := by rw [hm0]; simp
        rw [e0, hfill]
        simp [newRow, SV.c]
      · rw [if_neg hm0]
        have hzr : (zeroValue e).run P w = .ok z w := by simp [zeroValue, typeInfo, q1, q3]
        simp only [Sem.run_bind, hzr, Sem.run_pure, Result.andThen_ok]
        rw [parts_zip e1, hzc, hfill]
        simp [newRow, SV.c]
    · exact h.elim
  · exact h.elim

theorem ev_slice {t : TypeId} {x : Operand} {lo hi mx : Option Operand} (hF : Wd F) (hw : σ.Wf) (hlt : ∀ k s, lk σ.t k = some s → k < σ.nt) (hg : Gd ops ⟨dst, .slice t x lo hi mx, ty, pos, after, gd⟩ gs σ)
    (h : ev T ⟨dst, .slice t x lo hi mx, ty, pos, after, gd⟩ gs σ K KF) : Good F n P ops ⟨dst, .slice t x lo hi mx, ty, pos, after, gd⟩ σ K := by
  cases lo <;> cases hi <;> cases mx <;> simp only [ev] at h
  split at h
  · rename_i i o sz zr by_ m e hx ht
    split at h
    · rename_i ti he
      refine Good.run hF hlt hg h (efOK_pure (by simpa [SV.lt] using hw.gv hx)) (fun k hk => by simp [hk]) rfl (runOK_pure fun β a w hs => ?_)
      have e1 := gv_eval hs hx (fun k hk => by simp [hk])
      have hu := under_arr (T.tok t _ ht) rfl
      have hsz := (T.tok e ti he).run_sizeOf w
      simp only [execOp, Instr.sliceAt, Instr.sliceBounds, Instr.sureAddr, e1, SV.c, Option.map_none, Sem.run_bind, Sem.run_pure, Result.andThen_ok, Go.run_underlying hu w, hsz, Nat.zero_mul, own_add, Nat.add_zero, ite_self, Nat.sub_zero]
    · exact h.elim
  · exact h.elim

theorem map_toArray {xs : Array Operand} {f : Operand → Value} {l : List Value} (h : xs.toList.map f = l) : xs.map f = l.toArray := by
  rw [← h]; apply Array.ext'; simp

theorem ev_len {args : Array Operand} {ts : Array TypeId} (hF : Wd F) (hlt : ∀ k s, lk σ.t k = some s → k < σ.nt) (hg : Gd ops ⟨dst, .call ⟨.builtin .len, args, ts⟩, ty, pos, after, gd⟩ gs σ)
    (h : ev T ⟨dst, .call ⟨.builtin .len, args, ts⟩, ty, pos, after, gd⟩ gs σ K KF) : Good F n P ops ⟨dst, .call ⟨.builtin .len, args, ts⟩, ty, pos, after, gd⟩ σ K := by
  simp only [ev] at h
  split at h
  · rename_i x t _ hargs hts
    have hx0 : ∀ f : Operand → Value, args.map f = #[f x] := fun f => by rw [map_toArray (l := [f x]) (by rw [hargs]; rfl)]
    have ht0 : ts[0]? = some t := by rw [← Array.getElem?_toList, hts]; rfl
    split at h
    · rename_i i o m c sz zr by_ e hx ht
      refine Good.run hF hlt hg h (efOK_pure rfl) (fun k hk => by simp [hk]) rfl (runOK_pure fun β a w hs => ?_)
      have e1 := gv_eval hs hx (fun k hk => by simp [hargs, oss, hk])
      have hu := under_slice (T.tok t _ ht) rfl
      simp [execOp, resolve, invoke, builtin, Builtin.len_, hx0, e1, ht0, SV.c, Go.run_underlying hu w, goInt]
    · rename_i i j m sz zr by_ e hx ht
      refine Good.run hF hlt hg h (efOK_pure rfl) (fun k hk => by simp [hk]) rfl (runOK_pure fun β a w hs => ?_)
      have e1 := gv_eval hs hx (fun k hk => by simp [hargs, oss, hk])
      have hu := under_slice (T.tok t _ ht) rfl
      simp [execOp, resolve, invoke, builtin, Builtin.len_, hx0, e1, ht0, SV.c, Go.run_underlying hu w, goInt]
    · rename_i ad m c sz zr by_ e hx ht
      refine Good.run hF hlt hg h (efOK_pure rfl) (fun k hk => by simp [hk]) rfl (runOK_pure fun β a w hs => ?_)
      have e1 := gv_eval hs hx (fun k hk => by simp [hargs, oss, hk])
      have hu := under_slice (T.tok t _ ht) rfl
      simp [execOp, resolve, invoke, builtin, Builtin.len_, hx0, e1, ht0, SV.c, Go.run_underlying hu w, goInt]
    · exact h.elim
  · exact h.elim

theorem ev_max {args : Array Operand} {ts : Array TypeId} (hF : Wd F) (hlt : ∀ k s, lk σ.t k = some s → k < σ.nt) (hg : Gd ops ⟨dst, .call ⟨.builtin .max, args, ts⟩, ty, pos, after, gd⟩ gs σ)
    (h : ev T ⟨dst, .call ⟨.builtin .max, args, ts⟩, ty, pos, after, gd⟩ gs σ K KF) : Good F n P ops ⟨dst, .call ⟨.builtin .max, args, ts⟩, ty, pos, after, gd⟩ σ K := by
  simp only [ev] at h
  obtain ⟨l, h1, h2⟩ := gvs_spec h
  split at h1
  · rename_i l' k x r
    obtain ⟨z, h3, h4⟩ := foldI_spec (P := P) (step := Builtin.max2) (fun x y w => by simp [Builtin.max2, imax]) r x _ h1
    refine Good.run hF hlt hg h3 (efOK_pure rfl) (fun k hk => by simp [hk]) rfl (runOK_pure fun β a w hs => ?_)
    have e1 := gvs_eval hs h2 (fun k hk => by simp [hk])
    have e2 := map_toArray e1
    have e3 := h4 β w
    simp only [execOp, resolve, invoke, builtin, Builtin.max_, Sem.run_bind, Sem.run_pure, Result.andThen_ok, e2, SV.cs, SV.c, e3]
  · exact h1.elim

theorem ev_min {args : Array Operand} {ts : Array TypeId} (hF : Wd F) (hlt : ∀ k s, lk σ.t k = some s → k < σ.nt) (hg : Gd ops ⟨dst, .call ⟨.builtin .min, args, ts⟩, ty, pos, after, gd⟩ gs σ)
    (h : ev T ⟨dst, .call ⟨.builtin .min, args, ts⟩, ty, pos, after, gd⟩ gs σ K KF) : Good F n P ops ⟨dst, .call ⟨.builtin .min, args, ts⟩, ty, pos, after, gd⟩ σ K := by
  simp only [ev] at h
  obtain ⟨l, h1, h2⟩ := gvs_spec h
  split at h1
  · rename_i l' k x r
    obtain ⟨z, h3, h4⟩ := foldI_spec (P := P) (step := Builtin.min2) (fun x y w => by simp [Builtin.min2, imin]) r x _ h1
    refine Good.run hF hlt hg h3 (efOK_pure rfl) (fun k hk => by simp [hk]) rfl (runOK_pure fun β a w hs => ?_)
    have e1 := gvs_eval hs h2 (fun k hk => by simp [hk])
    have e2 := map_toArray e1
    have e3 := h4 β w
    simp only [execOp, resolve, invoke, builtin, Builtin.min_, Sem.run_bind, Sem.run_pure, Result.andThen_ok, e2, SV.cs, SV.c, e3]
  · exact h1.elim

theorem cs_append (β : Nat → Nat) (l r : List SV) : SV.cs β (l ++ r) = SV.cs β l ++ SV.cs β r := by simp only [SV.cs_eq, List.map_append]

/-- A call, the callee and what it has captured known. -/
theorem call_op {f : Operand} {args : Array Operand} {ts : Array TypeId} {k : Nat} {l caps : List SV} {E : Ef} {sf : SV} (hF : Wd F) (hlt : ∀ k s, lk σ.t k = some s → k < σ.nt)
    (hg : Gd ops ⟨dst, .call ⟨.value f, args, ts⟩, ty, pos, after, gd⟩ gs σ) (hf : gv σ f = some sf) (hsf : ∀ β, sf.c β = .func (.func k) #[] (SV.cs β caps).toArray)
    (hk : T.fn k = true) (hl : args.toList.map (gv σ) = l.map some) (hgs : ∀ k ∈ gs, k ∈ E.rs) (hrs : ∀ k ∈ os f ++ oss args.toList, k ∈ E.rs)
    (hc : CallOK P σ k (l ++ caps) E) : OpOK F n P ops ⟨dst, .call ⟨.value f, args, ts⟩, ty, pos, after, gd⟩ σ E := by
  intro Q β a w K' hs hK'
  have hgd : GuardOn ops ⟨dst, .call ⟨.value f, args, ts⟩, ty, pos, after, gd⟩ σ E := ⟨by
    rcases hg with h | ⟨j, want, k, h1, h2, h3, h4⟩
    · exact .inl h
    · exact .inr ⟨j, want, k, h1, h2, hgs k h3, h4⟩⟩
  unfold StepB
  rw [hgd.wanted hs hlt, if_pos rfl]
  refine ⟨fun f _ => hF.fn f, ?_⟩
  have hsem : Oper.semAt F.round a.eval ⟨dst, .call ⟨.value f, args, ts⟩, ty, pos, after, gd⟩ = execOp a.eval ⟨dst, .call ⟨.value f, args, ts⟩, ty, pos, after, gd⟩ := Oper.semAt_eq _ _ _ (fun c hc => by cases hc)
  rw [hsem]
  have e1 := gv_eval hs hf (fun k hk => hrs k (List.mem_append_left _ hk))
  have e2 := map_toArray (gvs_eval hs hl (fun k hk => hrs k (List.mem_append_right _ hk)))
  have hrun : (execOp a.eval ⟨dst, .call ⟨.value f, args, ts⟩, ty, pos, after, gd⟩).run P w = .ok (.enter k (SV.cs β (l ++ caps)).toArray) w := by
    simp only [execOp, resolve, e1, hsf, e2, Deferred.ofValue, invoke, Sem.run_bind, Sem.run_pure, Result.andThen_ok, T.fok k hk]
    rw [cs_append]
    simp
  rw [hrun, Oper.uponIn_enter]
  refine ⟨fun hd => (by rw [hF.depth] at hd; cases hd), ?_⟩
  refine hF.calls ((hc β w hs.m hs.inj hs.h).mono fun e w' ⟨β', he, hp⟩ => ?_)
  subst he
  exact hK' β' w' hp

theorem CallOK.rs {k : Nat} {l : List SV} {E : Ef} (h : CallOK P σ k l E) (rs : List Nat) : CallOK P σ k l ⟨E.val, E.fr, E.mods, rs, E.rb⟩ :=
  fun β w h1 h2 h3 => (h β w h1 h2 h3).mono fun _ _ ⟨β', he, hp⟩ => ⟨β', he, ⟨hp.agree, hp.chg, hp.ok, hp.new, hp.inj⟩⟩

theorem efOK_rs {σ : Sg} {E : Ef} (h : efB σ E = true) : EfOK σ E := efB_spec h

mutual
theorem _root_.Go.Proofs.Ytlehjapeomallaa.Sx.SV.av_nil : ∀ s : SV, s.av [] = true
  | .v _ => rfl
  | .ptr _ _ => rfl
  | .sl _ _ _ _ => rfl
  | .os _ _ _ => rfl
  | .agg l => SV.avs_nil l
  | .fn _ l => SV.avs_nil l
  | .tup l => SV.avs_nil l
theorem _root_.Go.Proofs.Ytlehjapeomallaa.Sx.SV.avs_nil : ∀ l : List SV, SV.avs [] l = true
  | [] => rfl
  | x :: r => by simp only [SV.avs, SV.av_nil x, SV.avs_nil r, Bool.and_self]
end
theorem _root_.Go.Proofs.Ytlehjapeomallaa.Sx.Blk.av_nil (b : Blk) : b.av [] = true := by
  cases b with
  | cells l ty => exact SV.avs_nil l
  | _ => rfl

/-- What is known of a state when a call has brought new memory of which something is said. -/
def _root_.Go.Proofs.Ytlehjapeomallaa.Sx.Sg.ext (σ : Sg) (dst : Option Tmp) (v : Value) (hx : World → Prop) : Sg :=
  { σ with t := (match dst with | some d => (d, .v v) :: σ.t | none => σ.t), h := fun w => σ.h w ∧ hx w }

theorem sat_ext {σ : Sg} {β : Nat → Nat} {D : Nat → Prop} {a : Act} {w w' : World} {dst : Option Tmp} {v : Value} {hx : World → Prop} (hs : Sat' σ β D a w)
    (hd : ∀ d, dst = some d → d < σ.nt) (hb : Below w.heap.size w w') (hst : St w.heap.size hx w') : Sat (σ.ext dst v hx) (a.put dst v) w' := by
  refine ⟨β, fun b => D b ∨ (w.heap.size ≤ b ∧ b < w'.heap.size), ?_⟩
  have hblk : ∀ i b, lk σ.m i = some b → b.live = true → β i < w.heap.size := fun i b h1 h2 => Blk.ok_lt h2 (hs.m i b h1)
  constructor
  · cases dst <;> exact hs.defers
  · cases dst with
    | none => exact hs.size
    | some d => simp only [Act.put, Array.size_setIfInBounds]; exact hs.size
  · intro k s hk
    cases dst with
    | none => exact hs.t k s hk
    | some d =>
      have hk : lk ((d, .v v) :: σ.t) k = some s := hk
      simp only [lk] at hk
      show (a.tmps.setIfInBounds d v).getD k undef = _
      cases hb : Nat.beq k d with
      | true =>
        obtain rfl := Nat.eq_of_beq_eq_true hb
        simp only [hb, cond_true, Option.some.injEq] at hk
        subst hk
        have := hd k rfl
        rw [← hs.size] at this
        simp [this, SV.c]
      | false =>
        simp only [hb, cond_false] at hk
        have hne : d ≠ k := fun e => by subst e; simp at hb
        rw [← hs.t k s hk]
        simp only [Array.getD_eq_getD_getElem?]
        rw [Array.getElem?_setIfInBounds_ne hne]
  · intro i b hi
    have hi : lk σ.m i = some b := hi
    exact Blk.ok_congr (fr := []) (fun _ _ => rfl) b (Blk.av_nil b) (fun hl => hb.block _ (hblk i b hi hl)) (hs.m i b hi)
  · exact hs.inj
  · rintro i b hi hl (h | ⟨h, _⟩)
    · exact hs.out i b hi hl h
    · have := hblk i b hi hl
      omega
  · rintro b (h | ⟨_, h⟩)
    · exact Nat.lt_of_lt_of_le (hs.dlt b h) hb.size
    · exact h
  · intro w2 hc
    refine ⟨hs.h w2 ⟨hc.os.trans hb.os, hc.tape.trans hb.tape, hc.output.trans hb.output, Nat.le_trans hb.size hc.size, fun b hlt hn => ?_⟩, ?_⟩
    · have hD : D b := Classical.byContradiction hn
      rw [hc.same b (Nat.lt_of_lt_of_le hlt hb.size) (fun h => h (.inl hD))]
      exact hb.block b hlt
    · exact hst w2 ⟨hc.size, fun b h1 h2 => hc.same b h2 (fun h => h (.inr ⟨h1, h2⟩))⟩

def FamGood (F : Fence) (n : Nat) (P : Program) (ops : Array Oper) (o : Oper) (σ : Sg) (KF : Option (Value → (World → Prop) → Prop)) : Prop :=
  ∃ kf, KF = some kf ∧ ∀ (Q : Exit → Act → World → Prop) (a : Act) (w : World), (∀ d, o.dst = some d → d < σ.nt) → Sat σ a w →
    StepB F n P ops Q o (fun a' w' => ∃ v hx, kf v hx ∧ Sat (σ.ext o.dst v hx) a' w') a w

theorem call_fam {f : Operand} {args : Array Operand} {ts : Array TypeId} {k : Nat} {l caps : List SV} {sf : SV} (hF : Wd F) (hlt : ∀ k s, lk σ.t k = some s → k < σ.nt)
    (hg : Gd ops ⟨dst, .call ⟨.value f, args, ts⟩, ty, pos, after, gd⟩ gs σ) (hf : gv σ f = some sf) (hsf : ∀ β, sf.c β = .func (.func k) #[] (SV.cs β caps).toArray)
    (hk : T.fn k = true) (hl : args.toList.map (gv σ) = l.map some) {kf : Value → (World → Prop) → Prop} (hkf : KF = some kf) {rb : List Nat} {α : Type} {V : α → Value} {hx : α → World → Prop}
    (hc : FamOK P σ k (l ++ caps) rb V hx) (h3 : ∀ x, kf (V x) (hx x)) : FamGood F n P ops ⟨dst, .call ⟨.value f, args, ts⟩, ty, pos, after, gd⟩ σ KF := by
  refine ⟨kf, hkf, fun Q a w hd hsat => ?_⟩
  obtain ⟨β, D, hs'⟩ := hsat
  have hs := hs'.sees ⟨.v undef, [], [], gs ++ (os f ++ oss args.toList), []⟩
  have hgd : GuardOn ops ⟨dst, .call ⟨.value f, args, ts⟩, ty, pos, after, gd⟩ σ ⟨.v undef, [], [], gs ++ (os f ++ oss args.toList), []⟩ := ⟨by
    rcases hg with h | ⟨j, want, k, h1, h2, h3, h4⟩
    · exact .inl h
    · exact .inr ⟨j, want, k, h1, h2, by simp [h3], h4⟩⟩
  unfold StepB
  rw [hgd.wanted hs hlt, if_pos rfl]
  refine ⟨fun f _ => hF.fn f, ?_⟩
  have hsem : Oper.semAt F.round a.eval ⟨dst, .call ⟨.value f, args, ts⟩, ty, pos, after, gd⟩ = execOp a.eval ⟨dst, .call ⟨.value f, args, ts⟩, ty, pos, after, gd⟩ := Oper.semAt_eq _ _ _ (fun c hc => by cases hc)
  rw [hsem]
  have e1 := gv_eval hs hf (fun k hk => by simp [hk])
  have e2 := map_toArray (gvs_eval hs hl (fun k hk => by simp [hk]))
  have hrun : (execOp a.eval ⟨dst, .call ⟨.value f, args, ts⟩, ty, pos, after, gd⟩).run P w = .ok (.enter k (SV.cs β (l ++ caps)).toArray) w := by
    simp only [execOp, resolve, e1, hsf, e2, Deferred.ofValue, invoke, Sem.run_bind, Sem.run_pure, Result.andThen_ok, T.fok k hk]
    rw [cs_append]
    simp
  rw [hrun, Oper.uponIn_enter]
  refine ⟨fun hd => (by rw [hF.depth] at hd; cases hd), ?_⟩
  refine hF.calls ((hc β w (fun i _ b hb => hs'.m i b hb) hs.h).mono fun e w' ⟨x, he, hb, hst⟩ => ?_)
  subst he
  exact ⟨V x, hx x, h3 x, sat_ext hs' hd hb hst⟩

theorem ev_callv {f : Operand} {args : Array Operand} {ts : Array TypeId} (hF : Wd F) (hlt : ∀ k s, lk σ.t k = some s → k < σ.nt) (hg : Gd ops ⟨dst, .call ⟨.value f, args, ts⟩, ty, pos, after, gd⟩ gs σ)
    (h : ev T ⟨dst, .call ⟨.value f, args, ts⟩, ty, pos, after, gd⟩ gs σ K KF) : Good F n P ops ⟨dst, .call ⟨.value f, args, ts⟩, ty, pos, after, gd⟩ σ K ∨ FamGood F n P ops ⟨dst, .call ⟨.value f, args, ts⟩, ty, pos, after, gd⟩ σ KF := by
  simp only [ev] at h
  split at h
  · rename_i k first cap hf
    obtain ⟨⟨hk, hfirst⟩, h⟩ := h
    obtain ⟨l, h1, h2⟩ := gvs_spec h
    have hf0 : first = #[] := Array.toList_eq_nil_iff.1 hfirst
    subst hf0
    rcases normK_spec h1 with ⟨E, hE, hc, hK⟩ | ⟨kf, hkf, rb, α, V, hx, hc, h3⟩
    case fam => exact .inr (call_fam T (caps := cap.toList.map .v) hF hlt hg hf (fun β => by simp only [SV.c, cs_v, Array.toArray_toList]) hk h2 hkf hc h3)
    refine .inl ?_
    exact ⟨_, hK, efOK_rs hE, call_op T (caps := cap.toList.map .v) (E := ⟨E.val, E.fr, E.mods, gs ++ (os f ++ oss args.toList), E.rb⟩) hF hlt hg hf (fun β => by simp only [SV.c, cs_v, Array.toArray_toList]) hk h2 (fun k hk => by simp [hk]) (fun k hk => by simp at hk ⊢; exact .inr hk) (hc.rs _)⟩
  · rename_i k cap hf
    obtain ⟨hk, h⟩ := h
    obtain ⟨l, h1, h2⟩ := gvs_spec h
    rcases normK_spec h1 with ⟨E, hE, hc, hK⟩ | ⟨kf, hkf, rb, α, V, hx, hc, h3⟩
    case fam => exact .inr (call_fam T hF hlt hg hf (fun β => rfl) hk h2 hkf hc h3)
    refine .inl ?_
    exact ⟨_, hK, efOK_rs hE, call_op T (E := ⟨E.val, E.fr, E.mods, gs ++ (os f ++ oss args.toList), E.rb⟩) hF hlt hg hf (fun β => rfl) hk h2 (fun k hk => by simp [hk]) (fun k hk => by simp at hk ⊢; exact .inr hk) (hc.rs _)⟩
  · exact h.elim

theorem oneV_iff : ∀ {l : List Value}, oneV l = true → ∀ v ∈ l, v.oneCell' = true
  | [], _, v, h => by cases h
  | x :: r, h, v, hv => by
    simp only [oneV, Bool.and_eq_true] at h
    rcases List.mem_cons.1 hv with rfl | hv
    · exact h.1
    · exact oneV_iff h.2 v hv

theorem srcK_spec {σ : Sg} {size : Nat} {s : SV} {K : Nat → List Value → List Nat → Prop} (h : srcK σ size s K) :
    ∃ m news rb, K m news rb ∧ news.length = m * size ∧ (∀ u ∈ news, u.oneCell' = true) ∧ ∀ (β : Nat → Nat) (w : World), (∀ i ∈ rb, ∀ b, lk σ.m i = some b → b.ok β w (β i)) → σ.h w →
      ∃ ad c, s.c β = .slice (some ad) m c ∧ ∀ j u, news[j]? = some u → w.cell? (ad.add j) = some u := by
  unfold srcK at h
  split at h
  · rename_i i o m c
    split at h
    · rename_i l ty' hm
      obtain ⟨h1, h2⟩ := dropK_spec o l _ h
      obtain ⟨h3, h4⟩ := takeK_spec _ _ _ h2
      obtain ⟨vs, hvs, h5, h6⟩ := valsK_spec h4
      refine ⟨m, vs, [i], h6, ?_, oneV_iff h5, fun β w hb _ => ⟨_, _, rfl, fun j u hu => ?_⟩⟩
      · have := congrArg List.length hvs
        rw [List.length_map, List.length_take] at this
        omega
      · have e2 : w.heap[β i]? = some (.cells (SV.cs β l).toArray ty' (0, 0)) := hb i (by simp) _ hm
        rw [own_add, cell_of_row w (β i) (o + j) _ ty' (0, 0) e2, List.getElem?_toArray, cs_getElem?]
        have := congrArg (fun l => l[j]?) hvs
        simp only [List.getElem?_take, List.getElem?_drop, List.getElem?_map, hu, Option.map_some] at this
        split at this
        · rw [this]; rfl
        · cases this
    · rename_i j' n' sz' xs ty' hm
      obtain ⟨news, ⟨h1, h2, h3⟩, h4⟩ := h
      refine ⟨m, news, [i], h4, h1, h3, fun β w hb _ => ⟨_, _, rfl, fun j u hu => ?_⟩⟩
      have e2 : w.ownsRow 0 ty' sz' (.slice (some ⟨β i, 0, none⟩) n' (β j')) n' xs := hb i (by simp) _ hm
      have := e2.cells (g := β i) rfl _ _ (h2 j u hu)
      rw [own_add, Nat.zero_add] at this
      rw [own_add]
      exact this
    · exact h.elim
  · rename_i i j0 m
    split at h
    · rename_i j' n' sz' xs ty' hm
      obtain ⟨⟨h1, h2, h3⟩, h4⟩ := h
      refine ⟨m, xs, [i], h4, h2, h3, fun β w hb _ => ⟨_, _, rfl, fun j u hu => ?_⟩⟩
      have e2 : w.ownsRow 0 ty' sz' (.slice (some ⟨β i, 0, none⟩) n' (β j')) n' xs := hb i (by simp) _ hm
      exact e2.cells (g := β i) rfl _ _ hu
    · exact h.elim
  · rename_i ad m c
    obtain ⟨news, ⟨h1, h2, h3⟩, h4⟩ := h
    exact ⟨m, news, [], h4, h1, h3, fun β w _ hh => ⟨_, _, rfl, fun j u hu => h2 w hh j u hu⟩⟩
  · exact h.elim

theorem baseK_spec {σ : Sg} {size e : Nat} {s : SV} {K : Nat → List Value → Bool → List Nat → Prop} (h : baseK σ size e s K) :
    K 0 [] true [] ∧ s = .v (.slice none 0 0) ∨ ∃ n xs i, K n xs false [i] ∧ (∃ b, lk σ.m i = some b ∧ b.live = true) ∧ ∀ (β : Nat → Nat) (w : World), (∀ b, lk σ.m i = some b → b.ok β w (β i)) →
      ∃ cap, s.c β = .slice (some ⟨β i, 0, none⟩) n cap ∧ w.ownsRow 0 e size (.slice (some ⟨β i, 0, none⟩) n cap) n xs := by
  unfold baseK at h
  split at h
  · exact .inl ⟨h, rfl⟩
  · rename_i i j n
    split at h
    · rename_i j' n' sz xs e' hm
      obtain ⟨h1, h2⟩ := h
      simp only [Bool.and_eq_true] at h1
      obtain ⟨⟨⟨q1, q2⟩, q3⟩, q4⟩ := h1
      obtain rfl := Nat.eq_of_beq_eq_true q1
      obtain rfl := Nat.eq_of_beq_eq_true q2
      obtain rfl := Nat.eq_of_beq_eq_true q3
      obtain rfl := Nat.eq_of_beq_eq_true q4
      exact .inr ⟨_, _, _, h2, ⟨_, hm, rfl⟩, fun β w hb => ⟨_, rfl, hb _ hm⟩⟩
    · exact h.elim
  · rename_i i n c
    split at h
    · rename_i l e' hm
      obtain ⟨h1, h2⟩ := h
      simp only [Bool.and_eq_true, Nat.ble_eq] at h1
      obtain ⟨⟨⟨q1, q2⟩, q3⟩, q4⟩ := h1
      have q1 := Nat.eq_of_beq_eq_true q1
      obtain rfl := Nat.eq_of_beq_eq_true q3
      obtain ⟨h3, h4⟩ := takeK_spec _ _ _ h2
      obtain ⟨vs, hvs, h5⟩ := valsK_spec h4
      have hvl : vs.length = n * size := by
        have := congrArg List.length hvs
        rw [List.length_map, List.length_take] at this
        omega
      refine .inr ⟨_, _, _, h5, ⟨_, hm, rfl⟩, fun β w hb => ⟨_, rfl, ⟨hvl, .inr ⟨_, _, _, rfl, Nat.zero_le _, hb _ hm, q2, by simp only [maxLen]; omega, ?_, ?_⟩⟩⟩⟩
      · simp only [List.size_toArray, SV.cs_eq, List.length_map]; exact q1
      · show List.take (n * size) (SV.cs β l) = vs
        rw [SV.cs_eq, ← List.map_take, hvs, List.map_map]
        exact (List.map_congr_left fun x _ => rfl).trans (List.map_id' vs)
    · exact h.elim
  · exact h.elim

theorem goneK_spec : ∀ {l : List Nat} {K : List (Nat × Blk) → Prop}, goneK l K → K (l.map fun i => (i, .gone))
  | [], _, h => h
  | _ :: r, _, h => goneK_spec (l := r) h
theorem catN_spec : ∀ {l m : List Nat} {K : List Nat → Prop}, catN l m K → K (l ++ m)
  | [], _, _, h => h
  | _ :: r, _, _, h => catN_spec (l := r) h

theorem ev_append {args : Array Operand} {ts : Array TypeId} (hF : Wd F) (hw : σ.Wf) (hlt : ∀ k s, lk σ.t k = some s → k < σ.nt) (hg : Gd ops ⟨dst, .call ⟨.builtin .append, args, ts⟩, ty, pos, after, gd⟩ gs σ)
    (h : ev T ⟨dst, .call ⟨.builtin .append, args, ts⟩, ty, pos, after, gd⟩ gs σ K KF) : Good F n P ops ⟨dst, .call ⟨.builtin .append, args, ts⟩, ty, pos, after, gd⟩ σ K := by
  simp only [ev] at h
  split at h
  · rename_i x y t t' hargs hts
    have hx0 : ∀ f : Operand → Value, args.map f = #[f x, f y] := fun f => by rw [map_toArray (l := [f x, f y]) (by rw [hargs]; rfl)]
    have ht0 : ts = #[t, t'] := by apply Array.ext'; exact hts
    split at h
    · rename_i sx sy sz zr by_ e hx hy ht
      split at h
      · rename_i size zero bytes kd he
        obtain ⟨h0, h⟩ := h
        simp only [Bool.and_eq_true, Nat.blt_eq] at h0
        obtain ⟨⟨h01, h02⟩, h03⟩ := h0
        obtain rfl := Nat.eq_of_beq_eq_true h01
        have h03 := Nat.eq_of_beq_eq_true h03
        have h := nbK_spec h
        have hu := under_slice (T.tok t _ ht) rfl
        obtain ⟨i0, z, q1, q2, q3, q4, q5⟩ := (T.tok e _ he).row
        have q2 : i0.size = size := q2
        have q5 : i0.bytes = bytes := q5
        have hzs : z.cells.size = size := by rw [← h03]; exact congrArg List.length q4
        have main : ∀ (n1 : Nat) (xs : List Value) (nil : Bool) (rb : List Nat), (∀ i ∈ rb, ∃ b, lk σ.m i = some b ∧ b.live = true) →
            (∀ (β : Nat → Nat) (w : World), (∀ i ∈ rb, ∀ b, lk σ.m i = some b → b.ok β w (β i)) → (nil = true ∧ rb = [] ∧ n1 = 0 ∧ xs = [] ∧ sx.c β = .slice none 0 0) ∨
              ∃ i cap, nil = false ∧ rb = [i] ∧ sx.c β = .slice (some ⟨β i, 0, none⟩) n1 cap ∧ w.ownsRow 0 e size (.slice (some ⟨β i, 0, none⟩) n1 cap) n1 xs) →
            (srcK σ size sy fun m news rb' =>
              ((nil = true → 1 ≤ m) ∧ n1 + m ≤ 9223372036854775807 ∧ (n1 + m) * bytes ≤ 140737488355328) ∧ goneK rb fun gn => catN rb rb' fun rb2 =>
              K ⟨.os σ.nb (σ.nb + 1) (n1 + m), [σ.nb, σ.nb + 1], (σ.nb, .own (σ.nb + 1) (n1 + m) size (xs ++ news) e) :: gn, gs ++ (os x ++ os y), rb2⟩) →
            Good F n P ops ⟨dst, .call ⟨.builtin .append, args, ts⟩, ty, pos, after, gd⟩ σ K := by
          intro n1 xs nil rb hlive hbase h
          obtain ⟨m, news, rb', ⟨⟨c1, c2, c3⟩, h4⟩, hnl, hn1, hsrc⟩ := srcK_spec h
          have h4 := catN_spec (goneK_spec h4)
          have hmem : ∀ i b, (i, b) ∈ ((σ.nb, Blk.own (σ.nb + 1) (n1 + m) size (xs ++ news) e) :: rb.map fun i => (i, Blk.gone)) → (i = σ.nb ∧ b = Blk.own (σ.nb + 1) (n1 + m) size (xs ++ news) e) ∨ (i ∈ rb ∧ b = .gone) := by
            intro i b hb
            rcases List.mem_cons.1 hb with hb | hb
            · simp only [Prod.mk.injEq] at hb; exact .inl hb
            · obtain ⟨i', hi', he'⟩ := List.mem_map.1 hb
              simp only [Prod.mk.injEq] at he'
              obtain ⟨rfl, rfl⟩ := he'
              exact .inr ⟨hi', rfl⟩
          have hrblt : ∀ i ∈ rb, i < σ.nb := fun i hi => by
            obtain ⟨b, hb, _⟩ := hlive i hi
            exact (hw.m i b hb).1
          refine Good.run hF hlt hg h4 ⟨rfl, ?_, fun i b hb => ?_, fun i b hb hi => ?_, fun i b b' hb hb' => ?_⟩ (fun k hk => by simp [hk]) rfl fun β a w hs => ?_
          · simp only [SV.lt, Bool.and_eq_true, Nat.blt_eq, List.length_cons, List.length_nil]; omega
          · rcases hmem i b hb with ⟨rfl, rfl⟩ | ⟨hi, rfl⟩
            · refine ⟨by simp, ?_⟩
              simp only [Blk.lt, Nat.blt_eq, List.length_cons, List.length_nil]; omega
            · exact ⟨Nat.lt_of_lt_of_le (hrblt i hi) (Nat.le_add_right _ _), rfl⟩
          · rcases hmem i b hb with ⟨rfl, rfl⟩ | ⟨hi', rfl⟩
            · omega
            · exact ⟨List.mem_append_left _ hi', hlive i hi'⟩
          · rcases hmem i b hb with ⟨rfl, rfl⟩ | ⟨hi, rfl⟩ <;> rcases hmem _ b' hb' with ⟨h1, rfl⟩ | ⟨hi', rfl⟩
            · rfl
            · have := hrblt _ hi'; omega
            · have := hrblt _ hi; omega
            · rfl
          · have e1 := gv_eval hs hx (fun k hk => by simp [hk])
            have e2 := gv_eval hs hy (fun k hk => by simp [hk])
            obtain ⟨ad, c, hsy, hcells⟩ := hsrc β w (fun i hi b hb => hs.m i (List.mem_append_right _ hi) b hb) hs.h
            have hb0 := hbase β w (fun i hi b hb => hs.m i (List.mem_append_left _ hi) b hb)
            have hown : ∃ bs, w.ownsRow bs e size (sx.c β) n1 xs ∧ bs ≤ w.heap.size := by
              rcases hb0 with ⟨_, _, rfl, rfl, hsx⟩ | ⟨i, cap, _, _, hsx, hown⟩
              · rw [hsx]; exact ⟨w.heap.size, World.ownsRow_nil w _ e size, Nat.le_refl _⟩
              · rw [hsx]; exact ⟨0, hown, Nat.zero_le _⟩
            obtain ⟨bs, hown, hbs⟩ := hown
            obtain ⟨v', w', hr, ho, hgr, hnil⟩ := run_append_own (P := P) w bs t ty e i0 z size bytes hu q1 q3 q2 q5 hzs h02 (sx.c β) n1 xs hown ad m c news hnl hcells hn1 (by simp only [maxLen]; omega) c3 hbs
            -- where the new row lies
            have hv' : ∃ g cap', v' = .slice (some ⟨g, 0, none⟩) (n1 + m) cap' ∧ (w.heap.size ≤ g ∨ ∃ i, rb = [i] ∧ g = β i) := by
              rcases hb0 with ⟨hn, _, rfl, rfl, hsx⟩ | ⟨i, cap, _, hrb, hsx, hown'⟩
              · have hm1 := c1 hn
                have hr2 := run_append_nil (P := P) w t ty e i0 z hu q1 q3 ad m c news (by rw [q2]; exact hnl) hcells (by omega) (by omega) (by rw [q5]; have := c3; simp only [Nat.zero_add] at this; omega)
                rw [hsx] at hr
                rw [hr2] at hr
                simp only [Result.ok.injEq] at hr
                obtain ⟨rfl, _⟩ := hr
                exact ⟨_, _, by rw [Nat.zero_add], .inl (Nat.le_refl _)⟩
              · rw [hsx] at hr
                rcases hown'.2 with ⟨h', _⟩ | ⟨g, cap0, cur, g0, g1, g2, g3, g4, g5, g6⟩
                · cases h'
                simp only [Value.slice.injEq, Option.some.injEq, Addr.mk.injEq, and_true, true_and] at g0
                obtain ⟨rfl, rfl⟩ := g0
                by_cases hroom : n1 + m ≤ cap
                · have hr2 := run_append_room (P := P) w t ty e i0 hu q1 (β i) n1 cap cur g2 ad m c news (by rw [q2]; exact hnl) hcells hn1 hroom (by rw [q2, hnl, g5, ← Nat.add_mul]; exact Nat.mul_le_mul_right _ hroom)
                  rw [hr2] at hr
                  simp only [Result.ok.injEq] at hr
                  obtain ⟨rfl, _⟩ := hr
                  exact ⟨_, _, rfl, .inr ⟨i, hrb, rfl⟩⟩
                · have hr2 := run_append_grow (P := P) w t ty e i0 z hu q1 q3 ⟨β i, 0, none⟩ n1 cap xs (by rw [q2]; exact hown'.1) (hown'.cells (g := β i) rfl) ad m c news (by rw [q2]; exact hnl) hcells (by omega) (by omega) (by rw [q5]; exact growslice_fits (by omega) c3)
                  rw [hr2] at hr
                  simp only [Result.ok.injEq] at hr
                  obtain ⟨rfl, _⟩ := hr
                  exact ⟨_, _, rfl, .inl (Nat.le_refl _)⟩
            obtain ⟨g, cap', rfl, hplace⟩ := hv'
            have hob : (sx.c β).ownBlock = none ∨ ∃ i, rb = [i] ∧ (sx.c β).ownBlock = some (β i) := by
              rcases hb0 with ⟨_, _, _, _, hsx⟩ | ⟨i, cap, _, hrb, hsx, _⟩
              · rw [hsx]; exact .inl rfl
              · rw [hsx]; exact .inr ⟨i, hrb, rfl⟩
            have hne1 : ∀ i, i < σ.nb → i ≠ σ.nb ∧ i ≠ σ.nb + 1 := fun i h => by omega
            have hag : ∀ i, i ∉ ([σ.nb, σ.nb + 1] : List Nat) → (fun i => if i = σ.nb then g else if i = σ.nb + 1 then cap' else β i) i = β i := fun i hi => by
              simp only [List.mem_cons, List.not_mem_nil, or_false, not_or] at hi
              simp [hi.1, hi.2]
            refine ⟨fun i => if i = σ.nb then g else if i = σ.nb + 1 then cap' else β i, w', ⟨hag, ⟨hgr.os, hgr.tape, hgr.output, hgr.size, fun b hb hX => ?_⟩, fun i b hb => ?_, fun i hi hL => ?_, fun i hi j hj hLi hLj hne => ?_⟩, .inl ?_⟩
            · refine hgr.block b hb ?_
              rcases hob with h | ⟨i, hrb, h⟩
              · rw [h]; simp
              · rw [h]
                intro e'
                simp only [Option.some.injEq] at e'
                have hi := hrblt i (by rw [hrb]; simp)
                exact hX ⟨i, .gone, by rw [hrb]; simp, by simp; omega, e'.symm⟩
            · rcases hmem i b hb with ⟨rfl, rfl⟩ | ⟨_, rfl⟩
              · simp only [Blk.ok, if_true]
                have : ¬ σ.nb + 1 = σ.nb := by omega
                simp only [this, if_false]
                refine ⟨ho.1, ?_⟩
                rcases ho.2 with ⟨h', _⟩ | ⟨g', c', cur, g0, g1, g2⟩
                · cases h'
                · exact .inr ⟨g', c', cur, g0, Nat.zero_le _, g2⟩
              · trivial
            · have hi0 : i = σ.nb := by
                obtain ⟨b, hb, hl⟩ := hL
                rcases hmem i b hb with ⟨h, _⟩ | ⟨_, rfl⟩
                · exact h
                · cases hl
              subst hi0
              simp only [if_true]
              rcases hplace with h | ⟨i, hrb, h⟩
              · exact .inl h
              · have hi := hrblt i (by rw [hrb]; simp)
                exact .inr ⟨i, by rw [hrb]; simp, by simp; omega, h⟩
            · have one : ∀ i, Ef.Liv ⟨.os σ.nb (σ.nb + 1) (n1 + m), [σ.nb, σ.nb + 1], (σ.nb, .own (σ.nb + 1) (n1 + m) size (xs ++ news) e) :: rb.map fun i => (i, Blk.gone), gs ++ (os x ++ os y), rb ++ rb'⟩ i → i = σ.nb := fun i hL => by
                obtain ⟨b, hb, hl⟩ := hL
                rcases hmem i b hb with ⟨h, _⟩ | ⟨_, rfl⟩
                · exact h
                · cases hl
              exact absurd ((one i hLi).trans (one j hLj).symm) hne
            · have : ¬ σ.nb + 1 = σ.nb := by omega
              simp only [execOp, resolve, invoke, builtin, hx0, ht0, e1, e2, hsy] at hr ⊢
              simp only [Sem.run_bind, Sem.run_pure, Result.andThen_ok, hr, SV.c, if_true, this, if_false]
        rcases baseK_spec h with ⟨h', hsx⟩ | ⟨n1, xs, i, h', hl, hb⟩
        · exact main 0 [] true [] (fun i hi => by cases hi) (fun β w _ => .inl ⟨rfl, rfl, rfl, rfl, by rw [hsx]; rfl⟩) h'
        · refine main n1 xs false [i] (fun j hj => by simp only [List.mem_singleton] at hj; subst hj; exact hl) (fun β w hb' => ?_) h'
          obtain ⟨cap, g1, g2⟩ := hb β w (fun b hb => hb' i (by simp) b hb)
          exact .inr ⟨i, cap, rfl, rfl, g1, g2⟩
      · exact h.elim
    · exact h.elim
  · exact h.elim

/-- THE EVALUATOR OF OPERATIONS IS RIGHT. -/
theorem ev_sound {o : Oper} (hF : Wd F) (hw : σ.Wf) (hlt : ∀ k s, lk σ.t k = some s → k < σ.nt) (hg : Gd ops o gs σ) (h : ev T o gs σ K KF) : Good F n P ops o σ K ∨ FamGood F n P ops o σ KF := by
  obtain ⟨dst, op, ty, pos, after, gd⟩ := o
  cases op with
  | move x => exact .inl (ev_move T hF hw hlt hg h)
  | assign x => exact .inl (ev_assign T hF hw hlt hg h)
  | pick c a b => exact .inl (ev_pick T hF hw hlt hg h)
  | alloc t => exact .inl (ev_alloc T hF hlt hg h)
  | box t x => exact .inl (ev_box T hF hw hlt hg h)
  | load t x => exact .inl (ev_load T hF hw hlt hg h)
  | store t x y => exact .inl (ev_store T hF hw hlt hg h)
  | fieldAddr t x f => exact .inl (ev_fieldAddr T hF hw hlt hg h)
  | field t x f => exact .inl (ev_field T hF hw hlt hg h)
  | indexAddr t x i => exact .inl (ev_indexAddr T hF hw hlt hg h)
  | build t ps => exact .inl (ev_build T hF hw hlt hg h)
  | binOp op t x y t' => exact .inl (ev_binOp T hF hlt hg h)
  | unOp op t x => exact .inl (ev_unOp T hF hlt hg h)
  | convert s d x => exact .inl (ev_convert T hF hlt hg h)
  | extract x i => exact .inl (ev_extract T hF hw hlt hg h)
  | makeFunc f a b => exact .inl (ev_makeFunc T hF hw hlt hg h)
  | call c =>
    obtain ⟨callee, args, ts⟩ := c
    cases callee with
    | value f => exact ev_callv T hF hlt hg h
    | invoke r m => exact h.elim
    | builtin b =>
      cases b with
      | len => exact .inl (ev_len T hF hlt hg h)
      | max => exact .inl (ev_max T hF hlt hg h)
      | min => exact .inl (ev_min T hF hlt hg h)
      | append => exact .inl (ev_append T hF hw hlt hg h)
      | _ => exact h.elim
  | buildSlice t m ps => exact .inl (ev_buildSlice T hF hw hlt hg h)
  | slice t x lo hi mx => exact .inl (ev_slice T hF hw hlt hg h)
  | _ => exact h.elim

end
end Go.Proofs.Ytlehjapeomallaa.Sx
