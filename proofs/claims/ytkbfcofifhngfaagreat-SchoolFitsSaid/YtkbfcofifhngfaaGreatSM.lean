/- Engine: rows that mix what is known, rows that are given up at the end of a round (out of the texts RP, TA, RR, TG of the route seat). -/
import Derived.Test.YtkbfcofifhngfaaGreatSX
namespace Go.Proofs.YtkbfcofifhngfaaGreat.Tx
open Go Go.RowKit
set_option linter.unusedSimpArgs false
set_option linter.unusedVariables false

theorem lts_set {n : Nat} {s : SV} (hs : s.lt n = true) : ∀ {l : List SV} {i : Nat}, SV.lts n l = true → SV.lts n (l.set i s) = true
  | [], _, h => h
  | a :: r, 0, h => by
    simp only [SV.lts, Bool.and_eq_true, List.set_cons_zero] at h ⊢
    exact ⟨hs, h.2⟩
  | a :: r, i + 1, h => by
    simp only [SV.lts, Bool.and_eq_true, List.set_cons_succ] at h ⊢
    exact ⟨h.1, lts_set hs h.2⟩
theorem lts_at {n : Nat} : ∀ {l : List SV} {i : Nat} {s : SV}, SV.lts n l = true → l[i]? = some s → s.lt n = true
  | a :: r, 0, s, h, hi => by
    simp only [SV.lts, Bool.and_eq_true] at h
    simp only [List.getElem?_cons_zero, Option.some.injEq] at hi
    rw [← hi]; exact h.1
  | a :: r, i + 1, s, h, hi => by
    simp only [SV.lts, Bool.and_eq_true] at h
    exact lts_at h.2 (by simpa using hi)
theorem cs_set (β : Nat → Nat) (s : SV) : ∀ (l : List SV) (i : Nat), SV.cs β (l.set i s) = (SV.cs β l).set i (s.c β) := fun l i => by
  rw [SV.cs_eq, SV.cs_eq, List.map_set]
/-- An element of a row is read. -/
theorem ldM {P : Program} (T : Env P) {dst : Option Tmp} {ty : TypeId} {pos : String} {after : Array Edge} {gd : Option (Nat × Bool)} {gs : List Nat} {σ : Sg} {K : Ef → Prop} {t i o j n e : Nat} {x : Operand} {xs : List SV} {ti : TI} (s : SV)
    (hx : gv σ x = some (.ptr i o)) (hm : lk σ.m i = some (.mix j n 1 [] xs e)) (ht : T.ty t = some ti) (hsz : ti.size = 1) (hag : ti.kind.agg = false) (hs : xs[o]? = some s) (hlt : SV.lt σ.nb s = true)
    (hK : K ⟨s, [], [], gs ++ os x, [i]⟩) : OpEv P ⟨dst, .load t x, ty, pos, after, gd⟩ gs σ K := by
  refine .mk ⟨s, [], [], gs ++ os x, [i]⟩ (by simp [efB, eqs, modsLt, oldB, keysB, nodupB, hlt]) (fun k hk => by simp [hk]) rfl (runOK_pure fun β a w hss => ?_) hK
  have htok := T.tok t ti ht
  have e1 := gv_eval hss hx (fun k hk => by simp [hk])
  have e2 : w.ownsRow 0 e 1 (.slice (some ⟨β i, 0, none⟩) n (β j)) n (SV.cs β xs) := by
    have := hss.m i (by simp) _ hm
    simpa [Blk.ok] using this
  have e3 := run_loadVar_cells (P := P) htok (β := β) (w := w) (ad := ⟨β i, o, none⟩) (l := [s]) (s := s) (by rw [hsz]; rfl) (fun q v hv => by
    rw [own_add]
    have hv' : (SV.cs β xs)[o + q]? = some v := by
      match q, hv with
      | 0, hv =>
        rw [cs_getElem?, Nat.add_zero, hs]
        simpa [SV.cs] using hv
    have := e2.cells (g := β i) rfl _ _ hv'
    rw [own_add, Nat.zero_add] at this
    exact this) (.inr ⟨hag, rfl⟩)
  simp [execOp, Instr.loadAt, Instr.sureAddr, e1, SV.c, e3]
/-- An element of a row is written. -/
theorem stM {P : Program} (T : Env P) {dst : Option Tmp} {ty : TypeId} {pos : String} {after : Array Edge} {gd : Option (Nat × Bool)} {gs : List Nat} {σ : Sg} {K : Ef → Prop} {t i o j n e : Nat} {x y : Operand} {xs : List SV} {ti : TI} (s : SV)
    (hx : gv σ x = some (.ptr i o)) (hy : gv σ y = some s) (hm : lk σ.m i = some (.mix j n 1 [] xs e)) (ht : T.ty t = some ti) (hsz : ti.size = 1) (hcl : s.cells = [s]) (ho1 : ones s.cells = true) (ho : o < xs.length)
    (hi : Nat.blt i σ.nb = true) (hj : Nat.blt j σ.nb = true) (hls : SV.lts σ.nb xs = true) (hlt : SV.lt σ.nb s = true)
    (hK : K ⟨.v undef, [], [(i, .mix j n 1 [] (xs.set o s) e)], gs ++ (os x ++ os y), [i]⟩) : OpEv P ⟨dst, .store t x y, ty, pos, after, gd⟩ gs σ K := by
  refine .mk ⟨.v undef, [], [(i, .mix j n 1 [] (xs.set o s) e)], gs ++ (os x ++ os y), [i]⟩ (by simp [efB, eqs, modsLt, oldB, keysB, nodupB, hi, hj, Blk.lt, lts_set hlt hls, hm, Blk.live, SV.lt, nin]) (fun k hk => by simp [hk]) rfl (fun β a w hs => ?_) hK
  have htok := T.tok t ti ht
  have e1 := gv_eval hs hx (fun k hk => by simp [hk])
  have e2 := gv_eval hs hy (fun k hk => by simp [hk])
  have e3 : w.ownsRow 0 e 1 (.slice (some ⟨β i, 0, none⟩) n (β j)) n (SV.cs β xs) := by
    have := hs.m i (by simp) _ hm
    simpa [Blk.ok] using this
  have hlenx := e3.1
  rcases e3.2 with ⟨h', _⟩ | ⟨g, cap, cur, q0, q1, q2, q3, q4, q5, q6⟩
  · cases h'
  simp only [Value.slice.injEq, Option.some.injEq, Addr.mk.injEq, and_true, true_and] at q0
  obtain ⟨rfl, rfl⟩ := q0
  have hzc : (s.c β).cells = (SV.cs β s.cells).toArray := by rw [← SV.cells_c]
  have hcs : SV.cs β s.cells = [s.c β] := by rw [hcl]; rfl
  have hxl : (SV.cs β xs).length ≤ cur.size := by
    have := congrArg List.length q6
    rw [List.length_take, Array.length_toList] at this
    omega
  have hcl' : (SV.cs β xs).length = xs.length := by rw [SV.cs_eq, List.length_map]
  have hrun := run_storeCells_at (P := P) (β i) o e (SV.cs β s.cells) 0 cur w q2 (by rw [hcs]; simp only [List.length_singleton]; omega) (ones_c β ho1)
  have hszc : (s.c β).cells.size = ti.size := by rw [hzc, hcs, hsz]; rfl
  refine ⟨β, w.setRow (β i) (cur.toList.take (o + 0) ++ SV.cs β s.cells ++ cur.toList.drop (o + 0 + (SV.cs β s.cells).length)).toArray, ?_, .inr ⟨?_, rfl⟩⟩
  · refine ⟨fun _ _ => rfl, ⟨rfl, rfl, rfl, by simp [World.setRow], fun b hb hX => ?_⟩, fun q b hq => ?_, fun q hq => (by cases hq), fun q hq => (by cases hq)⟩
    · have hne : β i ≠ b := fun e => hX ⟨i, _, List.mem_singleton.2 rfl, by simp, e⟩
      simp only [World.setRow, Array.getElem?_modify]
      rw [if_neg hne]
    · simp only [List.mem_singleton, Prod.mk.injEq] at hq
      obtain ⟨rfl, rfl⟩ := hq
      have hoc : o < cur.toList.length := by rw [Array.length_toList]; omega
      have hc' : cur.toList.take (o + 0) ++ SV.cs β s.cells ++ cur.toList.drop (o + 0 + (SV.cs β s.cells).length) = cur.toList.set o (s.c β) := by
        rw [hcs, List.set_eq_take_append_cons_drop, if_pos hoc]
        simp
      rw [hc']
      show World.ownsRow _ 0 e 1 (.slice (some ⟨β q, 0, none⟩) n (β j)) n ([] ++ SV.cs β (xs.set o s))
      rw [List.nil_append, cs_set]
      refine ⟨by rw [List.length_set]; exact hlenx, .inr ⟨_, _, _, rfl, q1, setRow_heap w _ cur _ e _ q2, q3, q4, ?_, ?_⟩⟩
      · rw [List.size_toArray, List.length_set, Array.length_toList]; exact q5
      · rw [← q6, List.take_set]
  · simp only [execOp, Instr.storeAt, Instr.sureAddr, e1, e2, SV.c, Sem.run_bind, Sem.run_pure, Result.andThen_ok, storeVar, htok.run_sizeOf w, hszc, ne_eq, not_true_eq_false, if_false]
    rw [hzc]
    simp only [hrun, Result.andThen_ok]

def GEqR (ρ : Nat → Nat) : List (Nat × SV) → Prop
  | [] => True
  | (_, s) :: r => (∀ β : Nat → Nat, s.c (fun i => β (ρ i)) = s.c β) ∧ GEqR ρ r
theorem GEqR.get {ρ : Nat → Nat} : ∀ {l : List (Nat × SV)}, GEqR ρ l → ∀ k s, lk l k = some s → ∀ β : Nat → Nat, s.c (fun i => β (ρ i)) = s.c β
  | (j, x) :: r, ha, k, s, h => by
    simp only [lk] at h
    cases hb : Nat.beq k j with
    | true => rw [hb, cond_true, Option.some.injEq] at h; subst h; exact ha.1
    | false => rw [hb, cond_false] at h; exact ha.2.get k s h
/-- Rows of the list are given up while others wait; the numbers are read anew. -/
theorem Dis.mk4 {α : Type} {nt nb nb' : Nat} {t : List (Nat × SV)} {m : List (Nat × Blk)} {h : World → Prop} {z : Gz} (ρ : Nat → Nat) (L : List Nat) {t' : α → List (Nat × SV)} {m' : α → List (Nat × Blk)} {h' : α → World → Prop} {pre : α → Prop} {w0 : World}
    (hz : GEqR ρ z.g) (hL : ∀ i ∈ L, ∃ b, lk m i = some b ∧ b.live = true) (hbel : ∀ w, h w → Below w0.heap.size w0 w)
    (hx : ∀ β w, (∀ i b, lk m i = some b → b.ok β w (β i)) → h w → (∀ i b, lk m i = some b → b.live = true → w0.heap.size ≤ β i) →
      ∃ x, pre x ∧ TEqR ρ β t (t' x) ∧ MEqR ρ L β m (m' x) ∧ injR ρ (m' x) = true ∧ ∀ w2, h w2 → (∀ i ∈ L, ∀ b, lk m i = some b → b.ok β w2 (β i)) → h' x w2) :
    Dis ⟨nt, t, m, nb, h, z⟩ (fun x => ⟨nt, t' x, m' x, nb', h' x, z⟩) pre := by
  unfold Dis
  rintro X a w ⟨β, D, hs⟩
  have hmem := hs.mem
  obtain ⟨x, hp, ht, hm, hinj, hh⟩ := hx β w hs.m (hs.h w (Chg.refl _ _)) (fun i b hi hl => Nat.le_of_not_lt fun hlt => hmem.out i b hi hl (hmem.old hbel hlt))
  have hLc : ∀ i ∈ L, ∃ o, w.heap[β i]? = some o ∧ IsMem o := fun i hi => by
    obtain ⟨b, h1, h2⟩ := hL i hi
    exact Blk.ok_cells h2 (hs.m i b h1)
  have hno : ∀ (d : Nat) (o : Obj), w.heap[d]? = some o → Other o → ¬ ∃ i ∈ L, β i = d := by
    rintro d o h1 h2 ⟨i, hi, rfl⟩
    obtain ⟨o3, h3, h4⟩ := hLc i hi
    rw [h1] at h3
    cases h3
    exact h2 h4
  refine ⟨x, hp, fun i => β (ρ i), fun b => D b ∨ ∃ i ∈ L, β i = b, ?_, hs.size, ?_, ?_, ?_, ?_, ?_, ?_, ?_⟩
  · obtain ⟨l, l1, l2, l3⟩ := hs.defers
    refine ⟨l, l1, l2, fun d hd => ⟨(l3 d hd).1, ?_, (l3 d hd).2.2⟩⟩
    rintro (h1 | h1)
    · exact (l3 d hd).2.1 h1
    · exact hno d _ (l3 d hd).1 (fun h => h) h1
  · intro k s hk
    obtain ⟨s', h1, h2⟩ := ht.get k s hk
    rw [← h2]; exact hs.t k s' h1
  · intro i b hi
    obtain ⟨_, b', h1, _, h2⟩ := hm.get i b hi
    exact h2 _ _ (hs.m _ b' h1)
  · intro i j bi bj hi hj h1 h2 hne
    obtain ⟨_, b', hi', l1, _⟩ := hm.get i bi hi
    obtain ⟨_, b2', hj', l2, _⟩ := hm.get j bj hj
    exact hs.inj _ _ _ _ hi' hj' (l1 h1) (l2 h2) (injR_spec hinj i j (lk_key hi) (lk_key hj) hne)
  · intro i b hi hl
    obtain ⟨hn, b', hi', l1, _⟩ := hm.get i b hi
    rintro (h1 | ⟨j, hj, h1⟩)
    · exact hs.out _ _ hi' (l1 hl) h1
    · obtain ⟨bj, h2, h3⟩ := hL j hj
      refine hs.inj j _ _ _ h2 hi' h3 (l1 hl) (fun e => ?_) h1
      subst e
      exact nin_iff.1 hn hj
  · rintro b (h1 | ⟨j, hj, rfl⟩)
    · exact hs.dlt b h1
    · obtain ⟨o3, h3, _⟩ := hLc j hj
      exact (Array.getElem?_eq_some_iff.1 h3).1
  · intro w2 hc
    refine hh w2 (hs.h w2 ⟨hc.os, hc.tape, hc.output, hc.size, fun b hb hd => hc.same b hb fun h1 => hd fun h2 => h1 (.inl h2)⟩) fun i hi b hb => ?_
    obtain ⟨o3, h3, _⟩ := hLc i hi
    exact Blk.keep_at (hc.same _ (Array.getElem?_eq_some_iff.1 h3).1 fun h1 => h1 (.inr ⟨i, hi, rfl⟩)) (hs.m i b hb)
  · refine ⟨fun k s hk => (hs.amb.g k s hk).trans (hz.get k s hk β).symm, fun p hp' => ⟨(hs.amb.la p hp').1, ?_⟩, hs.amb.lq, hs.amb.dep, hs.amb.nd, fun d hd => ⟨(hs.amb.pr d hd).1, ?_⟩⟩
    · rintro (h1 | h1)
      · exact (hs.amb.la p hp').2 h1
      · obtain ⟨st, pd, h2⟩ := (hs.amb.la p hp').1
        exact hno _ _ h2 (fun h => h) h1
    · rintro (h1 | h1)
      · exact (hs.amb.pr d hd).2 h1
      · exact hno _ _ (hs.amb.pr d hd).1 (fun h => h) h1

theorem lk_app2 {α : Type} {i : Nat} {x : α} : ∀ {l l' : List (Nat × α)}, lk (l ++ l') i = some x → lk l i = some x ∨ (lk l i = none ∧ lk l' i = some x)
  | [], l', h => .inr ⟨rfl, h⟩
  | (j, a) :: r, l', h => by
    simp only [List.cons_append, lk] at h ⊢
    cases hb : Nat.beq i j with
    | true => rw [hb] at h; exact .inl h
    | false => rw [hb] at h; exact lk_app2 (l := r) h
/-- A callee that makes several blocks, the caller's own from here on, and more, of which something is said that abides. -/
theorem callFR {P : Program} {nt nb : Nat} {t : List (Nat × SV)} {m : List (Nat × Blk)} {h0 : World → Prop} {z : Gz} {k : Nat} {args : List SV} {B : Ef → Bool} {rs : List Nat} {K : Ef → Prop} {ks : KT} (rb : List Nat) {α : Type} (r : Nat) (V : SV) (m1 : α → List (Nat × Blk)) (hx : α → World → Prop)
    (hm1 : ∀ x i b, lk (m1 x) i = some b → nb ≤ i ∧ i < nb + r ∧ b.lt (nb + r) = true ∧ b.live = true) (hV : V.lt (nb + r) = true)
    (h : ∀ β w, (∀ i ∈ rb, ∀ b, lk m i = some b → b.ok β w (β i)) → h0 w → Calls P k (SV.cs β args).toArray w fun e w' => ∃ (x : α) (γ : Nat → Nat), e = .returned (V.c γ) ∧ (∀ i, i < nb → γ i = β i) ∧ Below w.heap.size w w' ∧
      (∀ i b, lk (m1 x) i = some b → w.heap.size ≤ γ i ∧ b.ok γ w' (γ i)) ∧ (∀ i j bi bj, lk (m1 x) i = some bi → lk (m1 x) j = some bj → i ≠ j → γ i ≠ γ j) ∧
      ∀ w2, w'.heap.size ≤ w2.heap.size → (∀ c, w.heap.size ≤ c → c < w'.heap.size → (∀ i b, lk (m1 x) i = some b → γ i ≠ c) → w2.heap[c]? = w'.heap[c]?) → hx x w2)
    (hK : ∀ x, ks V ⟨nt, t, m1 x ++ m, nb + r, fun w => h0 w ∧ hx x w, z⟩) : CallEv P ⟨nt, t, m, nb, h0, z⟩ k args B rs K (some ks) :=
  .st ks rfl fun X β D a w hok hs => (h β w (fun i _ b hb => hs.m i b hb) (hs.h w (Chg.refl _ _))).mono fun e w' ⟨x, γ, he, hlow, hB, hown, hinj, hst⟩ => by
    have hold : ∀ i bk, lk m i = some bk → bk.live = true → β i < w.heap.size := fun i bk hi hl => Blk.ok_lt hl (hs.m i bk hi)
    have hnl : ∀ i bk, lk (m1 x) i = some bk → γ i < w'.heap.size := fun i bk hi => Blk.ok_lt (hm1 x i bk hi).2.2.2 (hown i bk hi).2
    have hlk : ∀ i bk, lk (m1 x ++ m) i = some bk → lk (m1 x) i = some bk ∨ (i < nb ∧ lk m i = some bk) := fun i bk hi => by
      rcases lk_app2 hi with h1 | ⟨_, h2⟩
      · exact .inl h1
      · exact .inr ⟨(hok.wf.m i bk h2).1, h2⟩
    refine ⟨V, _, γ, fun c => D c ∨ (w.heap.size ≤ c ∧ c < w'.heap.size ∧ ∀ i b, lk (m1 x) i = some b → γ i ≠ c), ?_, hK x, hV, ⟨⟨fun k s hk => ?_, fun k s hk => ?_, fun i bk hi => ?_⟩, hok.lt⟩, rfl, ?_⟩
    · exact he
    · exact SV.lt_mono (Nat.le_add_right nb r) s (hok.wf.t k s hk)
    · exact SV.lt_mono (Nat.le_add_right nb r) s (hok.wf.g k s hk)
    · rcases hlk i bk hi with h1 | ⟨_, h2⟩
      · exact ⟨(hm1 x i bk h1).2.1, (hm1 x i bk h1).2.2.1⟩
      · exact ⟨Nat.lt_of_lt_of_le (hok.wf.m i bk h2).1 (Nat.le_add_right nb r), Blk.lt_mono (Nat.le_add_right nb r) bk (hok.wf.m i bk h2).2⟩
    · refine ⟨?_, hs.size, fun k s hk => (hs.t k s hk).trans (SV.c_lt hlow s (hok.wf.t k s hk)).symm, fun i bk hi => ?_, fun i j bi bj hi hj li lj hne => ?_, fun i bk hi hl hD => ?_, fun c hc => ?_, fun w2 hc => ?_, ?_⟩
      · obtain ⟨l, l1, l2, l3⟩ := hs.defers
        exact ⟨l, l1, l2, fun d hd => ⟨(hB.block _ (Array.getElem?_eq_some_iff.1 (l3 d hd).1).1).trans (l3 d hd).1, fun hD => by
          rcases hD with hD | hD
          · exact (l3 d hd).2.1 hD
          · have := (Array.getElem?_eq_some_iff.1 (l3 d hd).1).1; omega, (l3 d hd).2.2⟩⟩
      · rcases hlk i bk hi with h1 | ⟨hlt, h2⟩
        · exact (hown i bk h1).2
        · rw [hlow i hlt]
          exact Blk.ok_nm hlow bk (hok.wf.m i bk h2).2 (Blk.ok_congr (fr := []) (fun _ _ => rfl) bk (Blk.av_nil bk) (fun hl => hB.block _ (hold i bk h2 hl)) (hs.m i bk h2))
      · rcases hlk i bi hi with h1 | ⟨hlt, h2⟩ <;> rcases hlk j bj hj with h1' | ⟨hlt', h2'⟩
        · exact hinj i j bi bj h1 h1' hne
        · rw [hlow j hlt']; have := hold j bj h2' lj; have := (hown i bi h1).1; omega
        · rw [hlow i hlt]; have := hold i bi h2 li; have := (hown j bj h1').1; omega
        · rw [hlow i hlt, hlow j hlt']; exact hs.inj i j bi bj h2 h2' li lj hne
      · rcases hlk i bk hi with h1 | ⟨hlt, h2⟩
        · rcases hD with hD | hD
          · have := hs.dlt _ hD; have := (hown i bk h1).1; omega
          · exact hD.2.2 i bk h1 rfl
        · rw [hlow i hlt] at hD
          rcases hD with hD | hD
          · exact hs.out i bk h2 hl hD
          · have := hold i bk h2 hl; omega
      · rcases hc with hc | hc
        · exact Nat.lt_of_lt_of_le (hs.dlt c hc) hB.size
        · exact hc.2.1
      · refine ⟨hs.h w2 ⟨hc.os.trans hB.os, hc.tape.trans hB.tape, hc.output.trans hB.output, Nat.le_trans hB.size hc.size, fun c hcl hn => ?_⟩, hst w2 hc.size fun c h1 h3 h2 => hc.same c h3 fun hn => hn (.inr ⟨h1, h3, h2⟩)⟩
        rw [hc.same c (Nat.lt_of_lt_of_le hcl hB.size) (fun hn2 => hn2 (.inl (Classical.byContradiction fun hD => hn hD)))]
        exact hB.block c hcl
      · refine hs.amb.keep (fun k s hk => SV.c_lt hlow s (hok.wf.g k s hk)) (fun c o hco _ => (hB.block c (Array.getElem?_eq_some_iff.1 hco).1).trans hco) (fun c hcl hD => ?_)
        rcases hD with hD | hD
        · exact hD
        · omega
end Go.Proofs.YtkbfcofifhngfaaGreat.Tx
namespace Go.Proofs.YtkbfcofifhngfaaGreat.Tx
open Go Go.RowKit
set_option linter.unusedSimpArgs false
set_option linter.unusedVariables false
/-- Rows of the list are given up; they lie apart from all memory of others that is known. -/
theorem Dis.mk5 {α : Type} {nt nb nb' : Nat} {t : List (Nat × SV)} {m : List (Nat × Blk)} {h : World → Prop} {z : Gz} (ρ : Nat → Nat) (L : List Nat) {t' : α → List (Nat × SV)} {m' : α → List (Nat × Blk)} {h' : α → World → Prop} {pre : α → Prop} {w0 : World}
    (hz : GEqR ρ z.g) (hL : ∀ i ∈ L, ∃ b, lk m i = some b ∧ b.live = true) (hbel : ∀ w, h w → Below w0.heap.size w0 w)
    (hx : ∀ β w, (∀ i b, lk m i = some b → b.ok β w (β i)) → h w → (∀ i b, lk m i = some b → b.live = true → w0.heap.size ≤ β i) → (∀ i b c, lk m i = some b → b.live = true → (∀ w, h w → ∃ cs ty fr, w.heap[c]? = some (.cells cs ty fr)) → β i ≠ c) → (∀ i j bi bj, lk m i = some bi → lk m j = some bj → bi.live = true → bj.live = true → i ≠ j → β i ≠ β j) →
      ∃ x, pre x ∧ TEqR ρ β t (t' x) ∧ MEqR ρ L β m (m' x) ∧ injR ρ (m' x) = true ∧ ∀ w2, h w2 → (∀ i ∈ L, ∀ b, lk m i = some b → b.ok β w2 (β i)) → h' x w2) :
    Dis ⟨nt, t, m, nb, h, z⟩ (fun x => ⟨nt, t' x, m' x, nb', h' x, z⟩) pre := by
  unfold Dis
  rintro X a w ⟨β, D, hs⟩
  have hmem := hs.mem
  obtain ⟨x, hp, ht, hm, hinj, hh⟩ := hx β w hs.m (hs.h w (Chg.refl _ _)) (fun i b hi hl => Nat.le_of_not_lt fun hlt => hmem.out i b hi hl (hmem.old hbel hlt)) (fun i b c hi hl hc e => hs.out i b hi hl (by rw [e]; exact hs.dof hc)) (fun i j bi bj hi hj l1 l2 hne => hs.inj i j bi bj hi hj l1 l2 hne)
  have hLc : ∀ i ∈ L, ∃ o, w.heap[β i]? = some o ∧ IsMem o := fun i hi => by
    obtain ⟨b, h1, h2⟩ := hL i hi
    exact Blk.ok_cells h2 (hs.m i b h1)
  have hno : ∀ (d : Nat) (o : Obj), w.heap[d]? = some o → Other o → ¬ ∃ i ∈ L, β i = d := by
    rintro d o h1 h2 ⟨i, hi, rfl⟩
    obtain ⟨o3, h3, h4⟩ := hLc i hi
    rw [h1] at h3
    cases h3
    exact h2 h4
  refine ⟨x, hp, fun i => β (ρ i), fun b => D b ∨ ∃ i ∈ L, β i = b, ?_, hs.size, ?_, ?_, ?_, ?_, ?_, ?_, ?_⟩
  · obtain ⟨l, l1, l2, l3⟩ := hs.defers
    refine ⟨l, l1, l2, fun d hd => ⟨(l3 d hd).1, ?_, (l3 d hd).2.2⟩⟩
    rintro (h1 | h1)
    · exact (l3 d hd).2.1 h1
    · exact hno d _ (l3 d hd).1 (fun h => h) h1
  · intro k s hk
    obtain ⟨s', h1, h2⟩ := ht.get k s hk
    rw [← h2]; exact hs.t k s' h1
  · intro i b hi
    obtain ⟨_, b', h1, _, h2⟩ := hm.get i b hi
    exact h2 _ _ (hs.m _ b' h1)
  · intro i j bi bj hi hj h1 h2 hne
    obtain ⟨_, b', hi', l1, _⟩ := hm.get i bi hi
    obtain ⟨_, b2', hj', l2, _⟩ := hm.get j bj hj
    exact hs.inj _ _ _ _ hi' hj' (l1 h1) (l2 h2) (injR_spec hinj i j (lk_key hi) (lk_key hj) hne)
  · intro i b hi hl
    obtain ⟨hn, b', hi', l1, _⟩ := hm.get i b hi
    rintro (h1 | ⟨j, hj, h1⟩)
    · exact hs.out _ _ hi' (l1 hl) h1
    · obtain ⟨bj, h2, h3⟩ := hL j hj
      refine hs.inj j _ _ _ h2 hi' h3 (l1 hl) (fun e => ?_) h1
      subst e
      exact nin_iff.1 hn hj
  · rintro b (h1 | ⟨j, hj, rfl⟩)
    · exact hs.dlt b h1
    · obtain ⟨o3, h3, _⟩ := hLc j hj
      exact (Array.getElem?_eq_some_iff.1 h3).1
  · intro w2 hc
    refine hh w2 (hs.h w2 ⟨hc.os, hc.tape, hc.output, hc.size, fun b hb hd => hc.same b hb fun h1 => hd fun h2 => h1 (.inl h2)⟩) fun i hi b hb => ?_
    obtain ⟨o3, h3, _⟩ := hLc i hi
    exact Blk.keep_at (hc.same _ (Array.getElem?_eq_some_iff.1 h3).1 fun h1 => h1 (.inr ⟨i, hi, rfl⟩)) (hs.m i b hb)
  · refine ⟨fun k s hk => (hs.amb.g k s hk).trans (hz.get k s hk β).symm, fun p hp' => ⟨(hs.amb.la p hp').1, ?_⟩, hs.amb.lq, hs.amb.dep, hs.amb.nd, fun d hd => ⟨(hs.amb.pr d hd).1, ?_⟩⟩
    · rintro (h1 | h1)
      · exact (hs.amb.la p hp').2 h1
      · obtain ⟨st, pd, h2⟩ := (hs.amb.la p hp').1
        exact hno _ _ h2 (fun h => h) h1
    · rintro (h1 | h1)
      · exact (hs.amb.pr d hd).2 h1
      · exact hno _ _ (hs.amb.pr d hd).1 (fun h => h) h1

/-- A store into memory of others that ends a region that draws its order. -/
theorem stL {P : Program} {o : Oper} {gs : List Nat} {σ : Sg} {K : Ef → Prop} {b : Bool} {k : KT} (hs : OpEvS P o gs σ K (some k)) (h : b = true := by kernel_rfl) : OpEvS P o gs σ K (ifK b k) := by subst h; exact hs
end Go.Proofs.YtkbfcofifhngfaaGreat.Tx
namespace Go.Proofs.YtkbfcofifhngfaaGreat
open Go Tx Go.RowKit
set_option linter.unusedVariables false
theorem own_heap {w : World} {b n c sz ty : Nat} {xs : List Value} (h : w.ownsRow 0 ty sz (.slice (some ⟨b, 0, none⟩) n c) n xs) : ∃ cur, w.heap[b]? = some (.cells cur ty (0, 0)) := by
  rcases h.2 with ⟨h', _⟩ | ⟨g, cap, cur, q0, q1, q2, _⟩
  · cases h'
  · simp only [Value.slice.injEq, Option.some.injEq, Addr.mk.injEq, and_true, true_and] at q0
    obtain ⟨rfl, rfl⟩ := q0
    exact ⟨cur, q2⟩
theorem own_keep {w w2 : World} {b n c sz ty : Nat} {xs : List Value} (h : w.ownsRow 0 ty sz (.slice (some ⟨b, 0, none⟩) n c) n xs) (e : w2.heap[b]? = w.heap[b]?) : w2.ownsRow 0 ty sz (.slice (some ⟨b, 0, none⟩) n c) n xs := by
  have := Blk.keep_at (β := fun _ => c) (b := b) (k := .own 0 n sz xs ty) e h
  exact this
/-- Own rows that are given up abide. -/
theorem rows_st {α : Type} {sz : Nat} {f : α → List Value} (hf : ∀ x, (f x).length = sz) {bs : List α} {w : World} {m b n ty c : Nat} {xs : List Value} (hn : n = bs.length) (hx : xs = bs.flatMap f) (hb : m ≤ b) (h : w.ownsRow 0 ty sz (.slice (some ⟨b, 0, none⟩) n c) n xs) :
    St m (Rd sz f (.slice (some ⟨b, 0, none⟩) n c) bs) w := fun w2 k => by
  obtain ⟨cur, hc⟩ := own_heap h
  exact Rd.of_owns (sz := sz) (f := f) hf hx hn (own_keep h (k.same b hb (Array.getElem?_eq_some_iff.1 hc).1))
theorem own_cap {w : World} {b n c sz ty : Nat} {xs : List Value} (h : w.ownsRow 0 ty sz (.slice (some ⟨b, 0, none⟩) n c) n xs) : n ≤ c := by
  rcases h.2 with ⟨h', _⟩ | ⟨g, cap, cur, q0, q1, q2, q3, _⟩
  · cases h'
  · simp only [Value.slice.injEq] at q0
    obtain ⟨_, _, rfl⟩ := q0
    exact q3
end Go.Proofs.YtkbfcofifhngfaaGreat
