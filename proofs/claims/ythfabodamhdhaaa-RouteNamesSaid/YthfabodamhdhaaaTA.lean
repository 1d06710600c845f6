/- Bound: what it returns. -/
import Derived.Test.YthfabodamhdhaaaRZ
namespace Go.Proofs.Ythfabodamhdhaaa.Tx
open Go Go.RowKit
set_option linter.unusedSimpArgs false
set_option linter.unusedVariables false
theorem Dis.mk5 {α : Type} {nt nb nb' : Nat} {t : List (Nat × SV)} {m : List (Nat × Blk)} {h : World → Prop} {z : Gz} (ρ : Nat → Nat) (L : List Nat) {t' : α → List (Nat × SV)} {m' : α → List (Nat × Blk)} {h' : α → World → Prop} {pre : α → Prop} {w0 : World}
 (hz : GEqR ρ z.g) (hL : ∀ i ∈ L, ∃ b, lk m i = some b ∧ b.live = true) (hbel : ∀ w, h w → Below w0.heap.size w0 w)
 (hx : ∀ β w, (∀ i b, lk m i = some b → b.ok β w (β i)) → h w → (∀ i b, lk m i = some b → b.live = true → w0.heap.size ≤ β i) → (∀ i b c, lk m i = some b → b.live = true → (∀ w, h w → ∃ cs ty fr, w.heap[c]? = some (.cells cs ty fr)) → β i ≠ c) → (∀ i j bi bj, lk m i = some bi → lk m j = some bj → bi.live = true → bj.live = true → i ≠ j → β i ≠ β j) →
  ∃ x, pre x ∧ TEqR ρ β t (t' x) ∧ MEqR ρ L β m (m' x) ∧ injR ρ (m' x) = true ∧ ∀ w2, h w2 → (∀ i ∈ L, ∀ b, lk m i = some b → b.ok β w2 (β i)) → h' x w2) :
 Dis ⟨nt, t, m, nb, h, z⟩ (fun x => ⟨nt, t' x, m' x, nb', h' x, z⟩) pre := by
 unfold Dis
 rintro X a w ⟨β, D, hs⟩
 have hmem := hs.mem
 obtain ⟨x, hp, ht, hm, hinj, hh⟩ := hx β w hs.m (hs.h w (Chg.refl _ _)) (fun i b hi hl => Nat.le_of_not_lt fun hlt => hmem.out i b hi hl (hmem.old hbel hlt)) (fun i b c hi hl hc e => hs.out i b hi hl (by rw [e]; exact hs.dof hc)) (fun i j bi bj hi hj l1 l2 hne => hs.inj i j bi bj hi hj l1 l2 hne)
 have hLc : ∀ i ∈ L, ∃ o, w.heap[β i]? = some o ∧ IsMem o := fun i hi => by
  obtain ⟨b, h1, h2⟩ := hL i hi
  exact Blk.ok_cells h2 (hs.m i b h1)
 have hno : ∀ (d : Nat) (o : Obj), w.heap[d]? = some o → Other o → ¬ ∃ i ∈ L, β i = d := by
  rintro d o h1 h2 ⟨i, hi, rfl⟩
  obtain ⟨o3, h3, h4⟩ := hLc i hi
  rw [h1] at h3
  cases h3
  exact h2 h4
 refine ⟨x, hp, fun i => β (ρ i), fun b => D b ∨ ∃ i ∈ L, β i = b, ?_, hs.size, ?_, ?_, ?_, ?_, ?_, ?_, ?_⟩
 · obtain ⟨l, l1, l2, l3⟩ := hs.defers
   refine ⟨l, l1, l2, fun d hd => ⟨(l3 d hd).1, ?_, (l3 d hd).2.2⟩⟩
   rintro (h1 | h1)
   · exact (l3 d hd).2.1 h1
   · exact hno d _ (l3 d hd).1 (fun h => h) h1
 · intro k s hk
   obtain ⟨s', h1, h2⟩ := ht.get k s hk
   rw [← h2]; exact hs.t k s' h1
 · intro i b hi
   obtain ⟨_, b', h1, _, h2⟩ := hm.get i b hi
   exact h2 _ _ (hs.m _ b' h1)
 · intro i j bi bj hi hj h1 h2 hne
   obtain ⟨_, b', hi', l1, _⟩ := hm.get i bi hi
   obtain ⟨_, b2', hj', l2, _⟩ := hm.get j bj hj
   exact hs.inj _ _ _ _ hi' hj' (l1 h1) (l2 h2) (injR_spec hinj i j (lk_key hi) (lk_key hj) hne)
 · intro i b hi hl
   obtain ⟨hn, b', hi', l1, _⟩ := hm.get i b hi
   rintro (h1 | ⟨j, hj, h1⟩)
   · exact hs.out _ _ hi' (l1 hl) h1
   · obtain ⟨bj, h2, h3⟩ := hL j hj
     refine hs.inj j _ _ _ h2 hi' h3 (l1 hl) (fun e => ?_) h1
     subst e
     exact nin_iff.1 hn hj
 · rintro b (h1 | ⟨j, hj, rfl⟩)
   · exact hs.dlt b h1
   · obtain ⟨o3, h3, _⟩ := hLc j hj
     exact (Array.getElem?_eq_some_iff.1 h3).1
 · intro w2 hc
   refine hh w2 (hs.h w2 ⟨hc.os, hc.tape, hc.output, hc.size, fun b hb hd => hc.same b hb fun h1 => hd fun h2 => h1 (.inl h2)⟩) fun i hi b hb => ?_
   obtain ⟨o3, h3, _⟩ := hLc i hi
   exact Blk.keep_at (hc.same _ (Array.getElem?_eq_some_iff.1 h3).1 fun h1 => h1 (.inr ⟨i, hi, rfl⟩)) (hs.m i b hb)
 · refine ⟨fun k s hk => (hs.amb.g k s hk).trans (hz.get k s hk β).symm, fun p hp' => ⟨(hs.amb.la p hp').1, ?_⟩, hs.amb.lq, hs.amb.dep, hs.amb.nd, fun d hd => ⟨(hs.amb.pr d hd).1, ?_⟩⟩
   · rintro (h1 | h1)
     · exact (hs.amb.la p hp').2 h1
     · obtain ⟨st, pd, h2⟩ := (hs.amb.la p hp').1
       exact hno _ _ h2 (fun h => h) h1
   · rintro (h1 | h1)
     · exact (hs.amb.pr d hd).2 h1
     · exact hno _ _ (hs.amb.pr d hd).1 (fun h => h) h1
theorem stL {P : Program} {o : Oper} {gs : List Nat} {σ : Sg} {K : Ef → Prop} {b : Bool} {k : KT} (hs : OpEvS P o gs σ K (some k)) (h : b = true := by kernel_rfl) : OpEvS P o gs σ K (ifK b k) := by subst h; exact hs
end Go.Proofs.Ythfabodamhdhaaa.Tx
namespace Go.Proofs.Ythfabodamhdhaaa
open Go Tx Go.RowKit
set_option linter.unusedSimpArgs false
set_option linter.unusedVariables false
theorem fm_one {α : Type} (g : α → Value) (D : List α) : D.flatMap (fun p => [g p]) = D.map g := by
 induction D with
 | nil => rfl
 | cons a D ih => rw [List.flatMap_cons, ih]; rfl
theorem zr_flat (n : Nat) : (List.replicate n (0 : Int)).flatMap iF = (List.replicate n [iv 0]).flatten := by
 induction n with
 | zero => rfl
 | succ n ih => rw [List.replicate_succ, List.replicate_succ, List.flatMap_cons, List.flatten_cons, ih]
theorem feB_n {n : Nat} {F : List Int} (h : feB n F = true) : F.length = n ∧ FeB F := by
 simp only [feB, Bool.and_eq_true, decide_eq_true_eq, List.all_eq_true, inB] at h
 exact ⟨h.1, fun f hf => h.2.2 f hf⟩
set_option maxHeartbeats 1000000 in
set_option maxRecDepth 100000 in
theorem Bound_no (x : Tr) (fo : Option Addr) (fc : Nat) (F : List Int) (w : World) (h : TrIn x w) (hF : Rd 1 iF (.slice fo F.length fc) F w) (hl : F.length ≤ 1000000) (hb : (toB x.d && feB x.T.length F) = false) :
 Calls Try.prog 28 #[x.v, .slice fo F.length fc] w fun e w' => e = .returned (.tuple #[iv 0, .slice none 0 0, iv 1]) ∧ Below w.heap.size w w' := by
 have hv := fun w' hb => valid_ok x w' (h.below hb)
 have hf := fun w' (hb : Below w.heap.size w w') h1 => fees_ok x fo fc F w' (hF.below hb) hl h1
 refine calls_val env mixed Try.func28 has28 Try.ntmps28 [.agg #[iv x.days, iv x.shift, iv x.size, .slice x.to x.T.length x.tc, .slice x.lo x.L.length x.lc], .slice fo F.length fc] (by simp) ?_
 cases hb1 : toB x.d with
 | false =>
  rw [hb1] at hv
  clear h hb hb1
  obtain ⟨days, shift, size, to, tc, T, lo, lc, L⟩ := x
  repeat'
   conv => whnf
   first
    | refine zA ?_ | refine zB ?_ | refine zC ?_ | refine zD ?_ | refine zE ?_ | refine zF ?_ | refine zG ?_ | refine zH ?_ | refine zJ ?_ | refine zI ?_ | refine splT ?_ | refine splF ?_ | refine splNot ?_
    | ((first | refine splIn ?_ ?_ | refine splD ?_ ?_ | refine splE ?_ ?_ | refine splNE ?_ ?_) <;> intro hc <;> first | (exfalso; omega) | (exfalso; dsimp only at hc; omega) | skip)
    | ((with_reducible show CallEv _ _ 56 _ _ _ _ _); refine callE (k := 56) (fun β w' hbw => hv w' hbw) ?_)
  all_goals first | (exfalso; omega) | exact ⟨fun β => rfl, fun w' h => h⟩
 | true =>
  rw [hb1] at hv
  have hn := toB_n hb1
  have hn9 := hn.n
  rw [hb1, Bool.true_and] at hb
  rw [hb] at hf
  obtain ⟨days, shift, size, to, tc, T, lo, lc, L⟩ := x
  simp only [Tr.d, List.length_map] at hn9
  have hf2 := fun w' hb => hf w' hb (show 1 ≤ T.length by omega)
  repeat'
   conv => whnf
   first
    | refine zA ?_ | refine zB ?_ | refine zC ?_ | refine zD ?_ | refine zE ?_ | refine zF ?_ | refine zG ?_ | refine zH ?_ | refine zJ ?_ | refine zI ?_ | refine splT ?_ | refine splF ?_ | refine splNot ?_
    | ((first | refine splIn ?_ ?_ | refine splD ?_ ?_ | refine splE ?_ ?_ | refine splNE ?_ ?_) <;> intro hc <;> first | (exfalso; omega) | (exfalso; dsimp only at hc; omega) | skip)
    | ((with_reducible show CallEv _ _ 56 _ _ _ _ _); refine callE (k := 56) (fun β w' hbw => hv w' hbw) ?_)
    | ((with_reducible show CallEv _ _ 65 _ _ _ _ _); refine callE (k := 65) (fun β w' hbw => hf2 w' hbw) ?_)
  all_goals first | (exfalso; omega) | exact ⟨fun β => rfl, fun w' h => h⟩
set_option maxHeartbeats 8000000 in
set_option maxRecDepth 100000 in
theorem Bound_yes (x : Tr) (fo : Option Addr) (fc : Nat) (F : List Int) (w : World) (h : TrIn x w) (hF : Rd 1 iF (.slice fo F.length fc) F w) (hb1 : toB x.d = true) (hb2 : feB x.T.length F = true) :
 Calls Try.prog 28 #[x.v, .slice fo F.length fc] w fun e w' => ∃ y : TbG, e = .returned (.tuple #[iv (bdO F (tabO x.d F)), y.v, iv 0]) ∧ Below w.heap.size w w' ∧ St w.heap.size (TbIn w.heap.size (x.days.toNat + 1) y (tabO x.d F)) w' := by
 have hv := fun w' hb => valid_ok x w' (h.below hb)
 rw [hb1] at hv
 obtain ⟨hFl, hFb⟩ := feB_n hb2
 have hn := toB_n hb1
 have hday := hn.d
 have hnT := hn.n
 have hf := fun w' (hb : Below w.heap.size w w') h1 h2 => fees_ok x fo fc F w' (hF.below hb) h1 h2
 rw [hb2] at hf
 have hTS := fun k => tabK_s hn hFb k
 obtain ⟨days, shift, size, to, tc, T, lo, lc, L⟩ := x
 dsimp only [Tr.d] at hday hnT
 dsimp only at hFl
 simp only [List.length_map] at hnT
 have hnd : ∃ nd : Nat, days = nd := ⟨days.toNat, by omega⟩
 obtain ⟨nd, rfl⟩ := hnd
 have hmS : (Tr.d ⟨(nd : Int), shift, size, to, tc, T, lo, lc, L⟩).T.length = T.length := List.length_map ..
 have hf2 := fun w' hb => hf w' hb (by omega) (show 1 ≤ T.length by omega)
 obtain ⟨_, fa, rfl, _⟩ := hF.ptr (by omega)
 obtain ⟨_, ta, rfl, _⟩ := h.t.ptr (by show 1 ≤ T.length; omega)
 dsimp only
 rw [Int.toNat_natCast]
 refine calls_fam2V env mixed Try.func28 has28 Try.ntmps28 [.agg #[iv nd, iv shift, iv size, .slice (some ta) T.length tc, .slice lo L.length lc], .slice (some fa) F.length fc] (by simp) ?_
 have hz0 : ∀ xs, xs ∈ (tabK (Tr.d ⟨(nd : Int), shift, size, some ta, tc, T, lo, lc, L⟩) F 0) → xs = List.replicate (nd + 1) (0 : Int) := fun xs hxs => by
  rw [tabK] at hxs
  exact List.eq_of_mem_replicate hxs
 have hC0l : ((tabK (Tr.d ⟨(nd : Int), shift, size, some ta, tc, T, lo, lc, L⟩) F 0)).length = T.length := by rw [tabK, List.length_replicate]; exact hmS
 refine VC.cutD env mixed 3 1 (fun y : TbG => [(1, .v (.slice (some fa) F.length fc)), (2, .ptr 0 0), (5, .v y.v)]) (fun _ => [(0, .cells [.v (iv nd), .v (iv shift), .v (iv size), .v (.slice (some ta) T.length tc), .v (.slice lo L.length lc)] 35)]) (fun y w2 => Below w.heap.size w w2 ∧ TbIn w.heap.size (nd + 1) y (tabK (Tr.d ⟨(nd : Int), shift, size, some ta, tc, T, lo, lc, L⟩) F 0) w2) (fun y => y.D.length = T.length) (fun _ _ => ⟨rfl, rfl⟩) ?_ ?_
 · skip
   repeat'
    conv => whnf
    first
     | refine zA ?_ | refine zB ?_ | refine zC ?_ | refine zD ?_ | refine zE ?_ | refine zF ?_ | refine zG ?_ | refine zH ?_ | refine zJ ?_ | refine zI ?_ | refine splT ?_ | refine splF ?_ | refine splNot ?_
     | ((first | refine splIn ?_ ?_ | refine splD ?_ ?_ | refine splE ?_ ?_ | refine splNE ?_ ?_) <;> intro hc <;> first | (exfalso; omega) | (exfalso; dsimp only at hc; omega) | skip)
     | ((with_reducible show CallEv _ _ 56 _ _ _ _ _); refine callE (k := 56) (fun β w' hbw => hv w' hbw) ?_)
     | ((with_reducible show CallEv _ _ 65 _ _ _ _ _); refine callE (k := 65) (fun β w' hbw => hf2 w' hbw) ?_)
   all_goals first | (exfalso; omega) | skip
   refine loopD 3 (fun D : List (Nat × Nat) => [(1, .v (.slice (some fa) F.length fc)), (2, .ptr 0 0), (5, oSV 1 2 D), (20, .v (iv T.length)), (21, .v (iv D.length))]) (fun D => (0, .cells [.v (iv nd), .v (iv shift), .v (iv size), .v (.slice (some ta) T.length tc), .v (.slice lo L.length lc)] 35) :: oM 1 2 1 (fun p : Nat × Nat => [Value.slice (some ⟨p.1, 0, none⟩) (nd + 1) p.2]) 43 D) (fun (D : List (Nat × Nat)) w' => Below w.heap.size w w' ∧ ∀ p ∈ D, w.heap.size ≤ p.1 ∧ w'.ownsRow 0 3 1 (.slice (some ⟨p.1, 0, none⟩) (nd + 1) p.2) (nd + 1) ((List.replicate (nd + 1) (0 : Int)).flatMap iF)) (fun D => D.length ≤ T.length ∧ (D.map Prod.fst).Nodup) (fun D => T.length - D.length)
    (Dis.ent (x := []) ⟨Nat.zero_le _, List.nodup_nil⟩ (Ent.weak rfl ⟨rfl, rfl, rfl, rfl, rfl, trivial⟩ ⟨rfl, trivial⟩ (fun w' h => ⟨h, fun p hp => by cases hp⟩))) (fun D _ => by cases D <;> exact ⟨rfl, rfl⟩) ?_
   intro D ⟨hk, hnd⟩
   rcases Nat.lt_or_ge D.length T.length with hkl | hkl
   · have hcell : ∀ q ∈ D, ∀ w', (fun (D : List (Nat × Nat)) w' => Below w.heap.size w w' ∧ ∀ p ∈ D, w.heap.size ≤ p.1 ∧ w'.ownsRow 0 3 1 (.slice (some ⟨p.1, 0, none⟩) (nd + 1) p.2) (nd + 1) ((List.replicate (nd + 1) (0 : Int)).flatMap iF)) D w' → ∃ cs ty fr, w'.heap[q.1]? = some (.cells cs ty fr) := fun q hq w' hw' => by
      obtain ⟨cur, hc⟩ := own_heap (hw'.2 q hq).2
      exact ⟨cur, _, _, hc⟩
     have hnew : ∀ p : Nat × Nat, (∀ q ∈ D, p.1 ≠ q.1) → ((D ++ [p]).map Prod.fst).Nodup := fun p hp => by
      rw [List.map_append, List.nodup_append]
      refine ⟨hnd, by simp, fun a ha b hb e => ?_⟩
      obtain ⟨r, hr, rfl⟩ := List.mem_map.1 ha
      simp only [List.map_cons, List.map_nil, List.mem_singleton] at hb
      exact hp r hr (e.trans hb).symm
     have hh : ∀ (p : Nat × Nat) w', w.heap.size ≤ p.1 → (fun (D : List (Nat × Nat)) w' => Below w.heap.size w w' ∧ ∀ p ∈ D, w.heap.size ≤ p.1 ∧ w'.ownsRow 0 3 1 (.slice (some ⟨p.1, 0, none⟩) (nd + 1) p.2) (nd + 1) ((List.replicate (nd + 1) (0 : Int)).flatMap iF)) D w' → w'.ownsRow 0 3 1 (.slice (some ⟨p.1, 0, none⟩) (nd + 1) p.2) (nd + 1) ((List.replicate (nd + 1) (0 : Int)).flatMap iF) → (fun (D : List (Nat × Nat)) w' => Below w.heap.size w w' ∧ ∀ p ∈ D, w.heap.size ≤ p.1 ∧ w'.ownsRow 0 3 1 (.slice (some ⟨p.1, 0, none⟩) (nd + 1) p.2) (nd + 1) ((List.replicate (nd + 1) (0 : Int)).flatMap iF)) (D ++ [p]) w' := fun p w' hge hw' ho => ⟨hw'.1, fun r hr => by
      rcases List.mem_append.1 hr with hr | hr
      · exact hw'.2 r hr
      · rw [List.mem_singleton] at hr; subst hr; exact ⟨hge, ho⟩⟩
     have hl2 : ∀ p : Nat × Nat, (D ++ [p]).length = D.length + 1 := fun p => by simp
     generalize hDn : D.length = n at *
     cases D with
     | nil =>
      repeat'
       conv => whnf
       first
        | refine zA ?_ | refine zB ?_ | refine zC ?_ | refine zD ?_ | refine zE ?_ | refine zF ?_ | refine zG ?_ | refine zH ?_ | refine zJ ?_ | refine zI ?_ | refine splT ?_ | refine splF ?_ | refine splNot ?_
        | ((first | refine splIn ?_ ?_ | refine splD ?_ ?_ | refine splE ?_ ?_ | refine splNE ?_ ?_) <;> intro hc <;> first | (exfalso; omega) | (exfalso; dsimp only at hc; omega) | skip)
        | refine mkO env 3 (nd + 1) ((List.replicate (nd + 1) (0 : Int)).flatMap iF) rfl rfl rfl (by decide) rfl (by omega) (by decide) (zr_flat _) rfl ?_
        | refine appG env 5 1 1 [.os 3 4 (nd + 1)] 43 0 [] [] rfl rfl rfl rfl rfl (by decide) rfl rfl rfl (fun _ => Nat.le_refl _) (by omega) (by decide) rfl (.inl ⟨rfl, rfl, rfl, rfl⟩) rfl ?_
      all_goals first | (exfalso; omega) | skip
      refine Dis.mk5 (w0 := w) (rho [(1, 6), (2, 7)]) [3] (by exact trivial) (fun i hi => by rw [List.mem_singleton] at hi; subst hi; exact ⟨_, rfl, rfl⟩) (fun w' h => h.1) (fun β w1 hok hw1 hge hne hij => ⟨[(β 3, β 4)], ⟨⟨by have := hl2 (0, 0); simp only [List.nil_append, List.length_singleton] at this ⊢; omega, by simp⟩, by have := hl2 (0, 0); simp only [List.nil_append, List.length_singleton] at this ⊢; omega⟩, ⟨⟨_, rfl, rfl⟩, ⟨_, rfl, rfl⟩, ⟨_, rfl, rfl⟩, ⟨_, rfl, rfl⟩, ⟨_, rfl, by rw [← hDn]; rfl⟩, trivial⟩,
       ⟨⟨rfl, _, rfl, fun _ => rfl, fun w2 y hy => hy⟩, ⟨rfl, _, rfl, fun _ => rfl, fun w2 y hy => hy⟩, trivial⟩, rfl, fun w2 hw2 hLo => hh (β 3, β 4) w2 (hge 3 _ rfl rfl) hw2 (hLo 3 (by simp) _ rfl)⟩)
     | cons a D =>
      simp only [List.length_cons] at hDn
      repeat'
       conv => whnf
       first
        | refine zA ?_ | refine zB ?_ | refine zC ?_ | refine zD ?_ | refine zE ?_ | refine zF ?_ | refine zG ?_ | refine zH ?_ | refine zJ ?_ | refine zI ?_ | refine splT ?_ | refine splF ?_ | refine splNot ?_
        | ((first | refine splIn ?_ ?_ | refine splD ?_ ?_ | refine splE ?_ ?_ | refine splNE ?_ ?_) <;> intro hc <;> first | (exfalso; omega) | (exfalso; dsimp only at hc; omega) | skip)
        | refine mkO env 3 (nd + 1) ((List.replicate (nd + 1) (0 : Int)).flatMap iF) rfl rfl rfl (by decide) rfl (by omega) (by decide) (zr_flat _) rfl ?_
        | refine appG env 5 1 1 [.os 3 4 (nd + 1)] 43 (D.length + 1) ((a :: D).flatMap (fun p : Nat × Nat => [Value.slice (some ⟨p.1, 0, none⟩) (nd + 1) p.2])) [1] rfl rfl rfl rfl rfl (by decide) rfl rfl rfl (fun h => by cases h) (by omega) (by show (D.length + 1 + 1) * 24 ≤ 140737488355328; omega) rfl (.inr ⟨1, 2, rfl, rfl, rfl, (by show 1 < 6; decide)⟩) rfl ?_
      all_goals first | (exfalso; omega) | skip
      have hl3 : ∀ p : Nat × Nat, (a :: D ++ [p]).length = D.length + 1 + 1 := fun y => by rw [hl2]; omega
      refine Dis.mk5 (w0 := w) (rho [(1, 6), (2, 7)]) [3] (by exact trivial) (fun i hi => by rw [List.mem_singleton] at hi; subst hi; exact ⟨_, rfl, rfl⟩) (fun w' h => h.1) (fun β w1 hok hw1 hge hne hij => ⟨a :: D ++ [(β 3, β 4)], ⟨⟨by have := hl3 (β 3, β 4); omega, hnew (β 3, β 4) fun q hq => hne 3 _ q.1 rfl rfl (fun w' hw' => hcell q hq w' hw')⟩, by have := hl3 (β 3, β 4); omega⟩, ⟨⟨_, rfl, rfl⟩, ⟨_, rfl, rfl⟩, ⟨_, rfl, by simp [oSV]; rfl⟩, ⟨_, rfl, rfl⟩, ⟨_, rfl, by rw [hl3 (β 3, β 4), ← hDn]; rfl⟩, trivial⟩,
       ⟨⟨rfl, _, rfl, fun _ => rfl, fun w2 y hy => hy⟩, by simp [oM]; exact ⟨⟨rfl, _, rfl, fun _ => rfl, fun w2 y hy => by simp [Blk.ok] at hy ⊢; exact hy⟩, trivial⟩⟩, rfl, fun w2 hw2 hLo => hh (β 3, β 4) w2 (hge 3 _ rfl rfl) hw2 (hLo 3 (by simp) _ rfl)⟩)
   · have hDn : D.length = T.length := by omega
     cases D with
     | nil => simp at hDn; omega
     | cons a D =>
      repeat'
       conv => whnf
       first
        | refine zA ?_ | refine zB ?_ | refine zC ?_ | refine zD ?_ | refine zE ?_ | refine zF ?_ | refine zG ?_ | refine zH ?_ | refine zJ ?_ | refine zI ?_ | refine splT ?_ | refine splF ?_ | refine splNot ?_
        | ((first | refine splIn ?_ ?_ | refine splD ?_ ?_ | refine splE ?_ ?_ | refine splNE ?_ ?_) <;> intro hc <;> first | (exfalso; omega) | (exfalso; dsimp only at hc; omega) | skip)
      all_goals first | (exfalso; omega) | skip
      refine ⟨rfl, Dis.mk5 (w0 := w) id [1] (by exact trivial) (fun i hi => by rw [List.mem_singleton] at hi; subst hi; exact ⟨_, rfl, rfl⟩) (fun w' h => h.1) (fun β w1 hok hw1 hge hne hij => ⟨⟨β 1, β 2, a :: D⟩, hDn, ⟨⟨_, rfl, rfl⟩, ⟨_, rfl, rfl⟩, ⟨_, rfl, rfl⟩, trivial⟩, ⟨⟨rfl, _, rfl, fun _ => rfl, fun w2 y hy => hy⟩, trivial⟩, rfl, fun w2 hw2 hLo => ⟨hw2.1, ?_⟩⟩)⟩
      have ho := hLo 1 (by simp) _ rfl
      simp only [Blk.ok, fm_one] at ho
      refine ⟨by rw [hC0l]; exact hDn.symm, fun r hr => by rw [hz0 r hr, List.length_replicate], ho, fun i p xs h1 h2 => ?_, hnd, fun p hp => ⟨(hw2.2 p hp).1, fun e => hne 1 _ p.1 rfl rfl (fun w' hw' => ?_) e.symm⟩, hge 1 _ rfl rfl⟩
      · rw [hz0 xs (List.mem_of_getElem? h2)]
        exact (hw2.2 p (List.mem_of_getElem? h1)).2
      · obtain ⟨cur, hc⟩ := own_heap (hw'.2 p hp).2
        exact ⟨cur, _, _, hc⟩
 · intro y hyl
   refine VC.of env mixed ?_
   repeat'
    conv => whnf
    first
     | refine zA ?_ | refine zB ?_ | refine zC ?_ | refine zD ?_ | refine zE ?_ | refine zF ?_ | refine zG ?_ | refine zH ?_ | refine zJ ?_ | refine zI ?_ | refine splT ?_ | refine splF ?_ | refine splNot ?_
     | ((first | refine splIn ?_ ?_ | refine splD ?_ ?_ | refine splE ?_ ?_ | refine splNE ?_ ?_) <;> intro hc <;> first | (exfalso; omega) | (exfalso; dsimp only at hc; omega) | skip)
   all_goals first | (exfalso; omega) | skip
   refine loopH 1 (fun k : Nat => [(1, .v (.slice (some fa) F.length fc)), (2, .ptr 0 0), (5, .v y.v), (7, .v (iv ((nd : Int) - (k : Nat))))]) (fun _ => [(0, .cells [.v (iv nd), .v (iv shift), .v (iv size), .v (.slice (some ta) T.length tc), .v (.slice lo L.length lc)] 35)]) (fun (k : Nat) w2 => Below w.heap.size w w2 ∧ TbIn w.heap.size (nd + 1) y (tabK (Tr.d ⟨(nd : Int), shift, size, some ta, tc, T, lo, lc, L⟩) F k) w2) (fun k => k ≤ nd + 1) (fun k => nd + 1 - k) 0 (Nat.zero_le _) ⟨rfl, rfl, rfl, by rw [Int.natCast_zero, Int.sub_zero]; rfl, trivial⟩ ⟨rfl, trivial⟩ (fun w2 h => h) (fun _ _ => ⟨rfl, rfl⟩) ?_
   intro k hk
   have hKs := hTS k
   rw [hmS] at hKs
   rcases Nat.lt_or_ge k (nd + 1) with hkl | hkl
   · obtain ⟨d, hd⟩ : ∃ d : Nat, (nd : Int) - (k : Nat) = d := ⟨nd - k, by omega⟩
     have hK1 : tabK (Tr.d ⟨(nd : Int), shift, size, some ta, tc, T, lo, lc, L⟩) F (k + 1) = tabA (Tr.d ⟨(nd : Int), shift, size, some ta, tc, T, lo, lc, L⟩) F d T.length (tabK (Tr.d ⟨(nd : Int), shift, size, some ta, tc, T, lo, lc, L⟩) F k) := by
      show tabA (Tr.d ⟨(nd : Int), shift, size, some ta, tc, T, lo, lc, L⟩) F ((nd : Int).toNat - k) (Tr.d ⟨(nd : Int), shift, size, some ta, tc, T, lo, lc, L⟩).T.length (tabK (Tr.d ⟨(nd : Int), shift, size, some ta, tc, T, lo, lc, L⟩) F k) = _
      rw [hmS, Int.toNat_natCast, show nd - k = d from by omega]
     have hA := fun a (ha : a ≤ T.length) => tabA_s hn hFb (d := d) (M := 90000000 * (k : Int)) (by omega) (hTS k) a (by rw [hmS]; exact ha)
     rw [hd]
     repeat'
      conv => whnf
      first
       | refine zA ?_ | refine zB ?_ | refine zC ?_ | refine zD ?_ | refine zE ?_ | refine zF ?_ | refine zG ?_ | refine zH ?_ | refine zJ ?_ | refine zI ?_ | refine splT ?_ | refine splF ?_ | refine splNot ?_
       | ((first | refine splIn ?_ ?_ | refine splD ?_ ?_ | refine splE ?_ ?_ | refine splNE ?_ ?_) <;> intro hc <;> first | (exfalso; omega) | (exfalso; dsimp only at hc; omega) | skip)
     all_goals first | (exfalso; omega) | skip
     refine loopH 1 (fun a : Nat => [(1, .v (.slice (some fa) F.length fc)), (2, .ptr 0 0), (5, .v y.v), (7, .v (iv d)), (39, .v (iv T.length)), (40, .v (iv a))]) (fun _ => [(0, .cells [.v (iv nd), .v (iv shift), .v (iv size), .v (.slice (some ta) T.length tc), .v (.slice lo L.length lc)] 35)]) (fun (a : Nat) w2 => Below w.heap.size w w2 ∧ TbIn w.heap.size (nd + 1) y (tabA (Tr.d ⟨(nd : Int), shift, size, some ta, tc, T, lo, lc, L⟩) F d a (tabK (Tr.d ⟨(nd : Int), shift, size, some ta, tc, T, lo, lc, L⟩) F k)) w2) (fun a => a ≤ T.length) (fun a => T.length - a) 0 (Nat.zero_le _) ⟨rfl, rfl, rfl, rfl, rfl, rfl, trivial⟩ ⟨rfl, trivial⟩ (fun w2 h => h) (fun _ _ => ⟨rfl, rfl⟩) ?_
     intro a ha
     rcases Nat.lt_or_ge a T.length with hal | hal
     · have hAs := hA a ha
       rw [hmS] at hAs
       have hA1 : tabA (Tr.d ⟨(nd : Int), shift, size, some ta, tc, T, lo, lc, L⟩) F d (a + 1) (tabK (Tr.d ⟨(nd : Int), shift, size, some ta, tc, T, lo, lc, L⟩) F k) = setT (tabA (Tr.d ⟨(nd : Int), shift, size, some ta, tc, T, lo, lc, L⟩) F d a (tabK (Tr.d ⟨(nd : Int), shift, size, some ta, tc, T, lo, lc, L⟩) F k)) a d (asO (Tr.d ⟨(nd : Int), shift, size, some ta, tc, T, lo, lc, L⟩) F (tabA (Tr.d ⟨(nd : Int), shift, size, some ta, tc, T, lo, lc, L⟩) F d a (tabK (Tr.d ⟨(nd : Int), shift, size, some ta, tc, T, lo, lc, L⟩) F k)) a d) := rfl
       obtain ⟨CC, hCC⟩ : ∃ CC, tabA (Tr.d ⟨(nd : Int), shift, size, some ta, tc, T, lo, lc, L⟩) F d a (tabK (Tr.d ⟨(nd : Int), shift, size, some ta, tc, T, lo, lc, L⟩) F k) = CC := ⟨_, rfl⟩
       rw [hCC] at hAs hA1
       obtain ⟨p, hp⟩ : ∃ p, y.D[a]? = some p := ⟨_, List.getElem?_eq_getElem (by omega)⟩
       obtain ⟨xs, hxs⟩ : ∃ xs, CC[a]? = some xs := ⟨_, List.getElem?_eq_getElem (by rw [hAs.l]; exact hal)⟩
       have h66 := fun w' (hw' : Below w.heap.size w w' ∧ TbIn w.heap.size (nd + 1) y CC w') => by
        have := asked_ok ⟨(nd : Int), shift, size, some ta, tc, T, lo, lc, L⟩ (some fa) fc F (some ⟨y.o, 0, none⟩) y.c (y.rw CC) (90000000 * (k : Int) + 10000000 * (a : Int)) a d w' (h.below hw'.1) hn (hF.below hw'.1) hFb hFl (by rw [TbG.rw_len hw'.2.l]; exact hw'.2.out) hw'.2.row (by rw [TbG.rw_len hw'.2.l]; exact hyl) (fun r hr => by obtain ⟨i, q, zs, h1, h2, rfl⟩ := TbG.rw_mem hr; exact hw'.2.n zs (List.mem_of_getElem? h2)) (by rw [TbG.rw_xs hw'.2.l]; exact hAs.b) (by omega) hal (by show d ≤ (nd : Int).toNat; rw [Int.toNat_natCast]; omega)
        rw [TbG.rw_len hw'.2.l, TbG.rw_xs hw'.2.l] at this
        exact this
       obtain ⟨v, hv⟩ : ∃ v, asO (Tr.d ⟨(nd : Int), shift, size, some ta, tc, T, lo, lc, L⟩) F CC a d = v := ⟨_, rfl⟩
       rw [hv] at h66 hA1
       have hA2 : setT CC a d v = CC.set a (xs.set d v) := by unfold setT; rw [hxs]; rfl
       rw [hA2] at hA1
       have er : ∀ w2, Below w.heap.size w w2 ∧ TbIn w.heap.size (nd + 1) y CC w2 → ∀ q z, [Value.slice (some ⟨p.1, 0, none⟩) (nd + 1) p.2][q]? = some z → w2.cell? (((⟨y.o, 0, none⟩ : Addr).add ((a : Int).toNat * 1)).add q) = some z := fun w2 hw2 => by
        have := rd_ati hw2.2.out (TbG.rw_at hp hxs)
        rw [show Iw.cs ⟨some ⟨p.1, 0, none⟩, p.2, xs⟩ = [Value.slice (some ⟨p.1, 0, none⟩) (nd + 1) p.2] from by show [Value.slice _ xs.length _] = _; rw [hw2.2.n xs (List.mem_of_getElem? hxs)]] at this
        exact this
       have hspt : ∀ q, ((⟨p.1, 0, none⟩ : Addr).add q).spot = none := fun q => by rw [own_add]
       have hax : (⟨p.1, 0, none⟩ : Addr).add ((d : Int).toNat * 1) = ⟨p.1, d, none⟩ := by rw [own_add, Int.toNat_natCast, Nat.mul_one, Nat.zero_add]
       have hset : ∀ w2, Below w.heap.size w w2 ∧ TbIn w.heap.size (nd + 1) y CC w2 → Below w.heap.size w (w2.setCell ((⟨p.1, 0, none⟩ : Addr).add ((d : Int).toNat * 1)) (iv v)) ∧ TbIn w.heap.size (nd + 1) y (CC.set a (xs.set d v)) (w2.setCell ((⟨p.1, 0, none⟩ : Addr).add ((d : Int).toNat * 1)) (iv v)) := fun w2 hw2 => by
        rw [hax]
        exact ⟨below_set hw2.1 (hw2.2.a p (List.mem_of_getElem? hp)).1, hw2.2.set hp hxs (by omega)⟩
       have hat : ∀ w2, Below w.heap.size w w2 ∧ TbIn w.heap.size (nd + 1) y CC w2 → (∃ cs ty fr, w2.heap[((⟨p.1, 0, none⟩ : Addr).add ((d : Int).toNat * 1)).block]? = some (.cells cs ty fr) ∧ ((⟨p.1, 0, none⟩ : Addr).add ((d : Int).toNat * 1)).off < cs.size) ∧ w2.frozen? ((⟨p.1, 0, none⟩ : Addr).add ((d : Int).toNat * 1)) = false := fun w2 hw2 => by
        rw [hax]
        exact hw2.2.at hp hxs (show d < nd + 1 by omega)
       rw [hCC]
       repeat'
        conv => whnf
        first
         | refine zA ?_ | refine zB ?_ | refine zC ?_ | refine zD ?_ | refine zE ?_ | refine zF ?_ | refine zG ?_ | refine zH ?_ | refine zJ ?_ | refine zI ?_ | refine splT ?_ | refine splF ?_ | refine splNot ?_
         | ((first | refine splIn ?_ ?_ | refine splD ?_ ?_ | refine splE ?_ ?_ | refine splNE ?_ ?_) <;> intro hc <;> first | (exfalso; omega) | (exfalso; dsimp only at hc; omega) | skip)
         | refine Exists.intro (α := List Value) [.slice (some ⟨p.1, 0, none⟩) (nd + 1) p.2] ⟨⟨rfl, fun w' hw' => er w' hw'⟩, ?_⟩
         | ((with_reducible show CallEv _ _ 66 _ _ _ _ _); refine callE (k := 66) (fun β w' hbw => h66 w' hbw) ?_)
         | refine stL (stF env rfl rfl rfl rfl rfl rfl (hspt _) (fun w2 => Below w.heap.size w w2 ∧ TbIn w.heap.size (nd + 1) y (CC.set a (xs.set d v)) w2) (fun w' hw' => hat w' hw') (fun w' hw' => hset w' hw') ?_)
       all_goals first | (exfalso; omega) | exact ⟨a + 1, by omega, by omega, Ent.weak rfl ⟨rfl, rfl, rfl, rfl, rfl, rfl, trivial⟩ ⟨rfl, trivial⟩ fun w2 h => ⟨h.1, by rw [hA1]; exact h.2⟩⟩
     · obtain rfl : a = T.length := by omega
       rw [← hK1]
       repeat'
        conv => whnf
        first
         | refine zA ?_ | refine zB ?_ | refine zC ?_ | refine zD ?_ | refine zE ?_ | refine zF ?_ | refine zG ?_ | refine zH ?_ | refine zJ ?_ | refine zI ?_ | refine splT ?_ | refine splF ?_ | refine splNot ?_
         | ((first | refine splIn ?_ ?_ | refine splD ?_ ?_ | refine splE ?_ ?_ | refine splNE ?_ ?_) <;> intro hc <;> first | (exfalso; omega) | (exfalso; dsimp only at hc; omega) | skip)
       all_goals first | (exfalso; omega) | exact ⟨k + 1, by omega, by omega, Ent.weak rfl ⟨rfl, rfl, rfl, by rw [show (nd : Int) - ((k + 1 : Nat) : Int) = (d : Int) - 1 from by omega]; rfl, trivial⟩ ⟨rfl, trivial⟩ fun w2 h => h⟩
   · obtain rfl : k = nd + 1 := by omega
     have hT : tabO (Tr.d ⟨(nd : Int), shift, size, some ta, tc, T, lo, lc, L⟩) F = tabK (Tr.d ⟨(nd : Int), shift, size, some ta, tc, T, lo, lc, L⟩) F (nd + 1) := rfl
     rw [hT]
     obtain ⟨CC, hCC⟩ : ∃ CC, tabK (Tr.d ⟨(nd : Int), shift, size, some ta, tc, T, lo, lc, L⟩) F (nd + 1) = CC := ⟨_, rfl⟩
     rw [hCC] at hKs
     rw [hCC]
     obtain ⟨p, hp⟩ : ∃ p, y.D[0]? = some p := ⟨_, List.getElem?_eq_getElem (by omega)⟩
     obtain ⟨xs, hxs⟩ : ∃ xs, CC[0]? = some xs := ⟨_, List.getElem?_eq_getElem (by rw [hKs.l]; omega)⟩
     have hxn := hKs.n xs (List.mem_of_getElem? hxs)
     obtain ⟨z, hz⟩ : ∃ z, xs[0]? = some z := ⟨_, List.getElem?_eq_getElem (by rw [hxn]; omega)⟩
     have hzb := hKs.b xs (List.mem_of_getElem? hxs) z (List.mem_of_getElem? hz)
     have hbd : bdO F CC = smO F z := by unfold bdO tbO; rw [hxs, Option.getD_some, hz]; rfl
     rw [hbd]
     have h67 := fun w' (hw' : Below w.heap.size w w' ∧ TbIn w.heap.size (nd + 1) y CC w') => by
      have := bounded_ok (some fa) fc F (some ⟨y.o, 0, none⟩) y.c (y.rw CC) ⟨some ⟨p.1, 0, none⟩, p.2, xs⟩ z w' (hF.below hw'.1) (by omega) hFb (by rw [TbG.rw_len hw'.2.l]; exact hw'.2.out) (TbG.rw_at hp hxs) (hw'.2.row _ (List.mem_of_getElem? (TbG.rw_at hp hxs))) hz (by omega) (by rw [TbG.rw_len hw'.2.l]; omega) (by (show xs.length ≤ 1000000); rw [hxn]; show (nd : Int).toNat + 1 ≤ 1000000; omega)
      rw [TbG.rw_len hw'.2.l] at this
      exact this
     repeat'
      conv => whnf
      first
       | refine zA ?_ | refine zB ?_ | refine zC ?_ | refine zD ?_ | refine zE ?_ | refine zF ?_ | refine zG ?_ | refine zH ?_ | refine zJ ?_ | refine zI ?_ | refine splT ?_ | refine splF ?_ | refine splNot ?_
       | ((first | refine splIn ?_ ?_ | refine splD ?_ ?_ | refine splE ?_ ?_ | refine splNE ?_ ?_) <;> intro hc <;> first | (exfalso; omega) | (exfalso; dsimp only at hc; omega) | skip)
       | ((with_reducible show CallEv _ _ 67 _ _ _ _ _); refine callE (k := 67) (fun β w' hbw => h67 w' hbw) ?_)
     all_goals first | (exfalso; omega) | exact ⟨fun w' h => h.1, fun β w' hB hB2 hblk => ⟨y, rfl, hB2, hB.2.st⟩⟩
end Go.Proofs.Ythfabodamhdhaaa
