/- Part 6 of the proof: texts merged. -/
import Derived.Test.YtkbfcofifhngfaaGreatXEe
set_option maxHeartbeats 8000000
set_option maxRecDepth 100000
set_option linter.unusedSectionVars false
set_option linter.unusedSimpArgs false
set_option linter.unusedVariables false
namespace Go.Proofs.YtkbfcofifhngfaaGreat
open Go Tx Go.RowKit
theorem T7 (w : World) (z : Nat) (sl ro su : Int) (gs ts : Value) (ad : Addr) (n lc : Nat) (L : List Ln) (p0 : Pn) (hn : L.length = n) (hn2 : n ≤ 10000) (hsl : sl = z) (hz1 : 1 ≤ z) (hz : z ≤ 40) (hro : 1 ≤ ro ∧ ro ≤ 6) (hx : ∀ x ∈ L, 0 ≤ x.g ∧ x.g ≤ 7 ∧ 0 ≤ x.t ∧ x.t ≤ 7) (hnr : (n : Int) ≤ ro * z)
 (hC0 : Cons L z p0) (hS0 : ∀ i, i < n → ∃ s : Nat, s < z ∧ p0.S i = s) {Φ : Exit → Sg → Prop}
 (hr : ∀ p : Pn, Cons L z p → (∀ i, i < n → ∃ s : Nat, s < z ∧ p.S i = s) → (∀ s, s < z → cntS p.S n s ≤ ro) → VC Tryz.prog (rest 8 body13) ⟨139, [(1, .ptr 3 0), (6, .ptr 0 0)], [(0, .cells (.v (iv sl) :: .v (iv ro) :: .v (iv su) :: .v gs :: .v ts :: .v (.slice (some ad) n lc) :: .os 1 2 n :: (tbS 320 (p).A ++ tbS 320 (p).B)) 93), (1, .own 2 n 1 (tbV n (p).S) 3), (3, .cells [.v (iv sl), .v (iv ro), .v (iv su), .v gs, .v ts] 34)], 4, fun w' => Below w.heap.size w w' ∧ Rd 3 Ln.cs (.slice (some ad) n lc) L w', z0⟩ Φ) :
 VC Tryz.prog (rest 7 body13) ⟨139, [(1, .ptr 3 0), (6, .ptr 0 0)], [(0, .cells (.v (iv sl) :: .v (iv ro) :: .v (iv su) :: .v gs :: .v ts :: .v (.slice (some ad) n lc) :: .os 1 2 n :: (tbS 320 (p0).A ++ tbS 320 (p0).B)) 93), (1, .own 2 n 1 (tbV n (p0).S) 3), (3, .cells [.v (iv sl), .v (iv ro), .v (iv su), .v gs, .v ts] 34)], 4, fun w' => Below w.heap.size w w' ∧ Rd 3 Ln.cs (.slice (some ad) n lc) L w', z0⟩ Φ := by
 have hh : PhOK ⟨sl, ro, su, gs, ts, some ad, n, lc, L⟩ := ⟨hn, hn2, hx⟩
 have hv8 : ∀ i, i < L.length → ∀ te, vx L i te < 8 := fun i hi te => by
  have := hx _ (List.mem_of_getElem? (lnAt_get hi))
  unfold vx
  split <;> omega
 have hmB : ∀ (k : Nat) (p : Pn), 4 ≤ k → mB k [(0, .cells (.v (iv sl) :: .v (iv ro) :: .v (iv su) :: .v gs :: .v ts :: .v (.slice (some ad) n lc) :: .os 1 2 n :: (tbS 320 (p).A ++ tbS 320 (p).B)) 93), (1, .own 2 n 1 (tbV n (p).S) 3), (3, .cells [.v (iv sl), .v (iv ro), .v (iv su), .v gs, .v ts] 34)] = true := fun k p hk => by
  have h1 := mB_up (mPl ⟨sl, ro, su, gs, ts, some ad, n, lc, L⟩ p) (show 3 ≤ k by omega)
  have h2 : mB k [(3, Blk.cells [.v (iv sl), .v (iv ro), .v (iv su), .v gs, .v ts] 34)] = true := by
   simp only [mB, Blk.lt, SV.lts, SV.lt, Bool.and_true, Nat.blt_eq]; omega
  exact mB_app h1 h2
 have hcN := fun (σ : Sg) (rs : List Nat) (K : Ef → Prop) (KF : Option KT) (p : Pn) (hS : ∀ i, i < n → 0 ≤ p.S i ∧ p.S i < z) => callCounts (σ := σ) (rs := rs) (K := K) (KF := KF) 4 ⟨sl, ro, su, gs, ts, some ad, n, lc, L⟩ p z hh hsl hz hS
 have hcE := fun (σ : Sg) (rs : List Nat) (K : Ef → Prop) (KF : Option KT) (p p' : Pn) (f t : Int) (hC : PlTo 43 [.ptr 0 0, .v (iv f), .v (iv t)] ⟨sl, ro, su, gs, ts, some ad, n, lc, L⟩ p p') => callPl (σ := σ) (rs := rs) (K := K) (KF := KF) ⟨sl, ro, su, gs, ts, some ad, n, lc, L⟩ p p' hC
 dsimp only [plM, plC] at hcN hcE
 refine VC.cutE env mixed 1 4 (fun p : Pn => [(1, .ptr 3 0), (6, .ptr 0 0)]) (fun p => [(0, .cells (.v (iv sl) :: .v (iv ro) :: .v (iv su) :: .v gs :: .v ts :: .v (.slice (some ad) n lc) :: .os 1 2 n :: (tbS 320 (p).A ++ tbS 320 (p).B)) 93), (1, .own 2 n 1 (tbV n (p).S) 3), (3, .cells [.v (iv sl), .v (iv ro), .v (iv su), .v gs, .v ts] 34)]) (fun p => Cons L z p ∧ (∀ i, i < n → ∃ s : Nat, s < z ∧ p.S i = s) ∧ ∀ s, s < z → cntS p.S n s ≤ ro) (fun p _ => ⟨rfl, hmB 4 p (Nat.le_refl _)⟩) ?_ (fun p hp => hr p hp.1 hp.2.1 hp.2.2)
 skip
 refine loopN 4 (fun p : Pn => [(1, .ptr 3 0), (6, .ptr 0 0)]) (fun p => [(0, .cells (.v (iv sl) :: .v (iv ro) :: .v (iv su) :: .v gs :: .v ts :: .v (.slice (some ad) n lc) :: .os 1 2 n :: (tbS 320 (p).A ++ tbS 320 (p).B)) 93), (1, .own 2 n 1 (tbV n (p).S) 3), (3, .cells [.v (iv sl), .v (iv ro), .v (iv su), .v gs, .v ts] 34)]) (fun p => Cons L z p ∧ (∀ i, i < n → ∃ s : Nat, s < z ∧ p.S i = s)) (fun p => (excF ro z fun s => cntS p.S n s).toNat) p0 ⟨hC0, hS0⟩ ⟨rfl, rfl, trivial⟩ ⟨rfl, rfl, rfl, trivial⟩ (fun p _ => ⟨rfl, hmB 4 p (Nat.le_refl _)⟩) ?_
 intro p ⟨hC, hS⟩
 have hSb : ∀ i, i < n → 0 ≤ p.S i ∧ p.S i < z := fun i hi => by obtain ⟨s, h1, h2⟩ := hS i hi; omega
 obtain ⟨x0, tl, hcl⟩ : ∃ x0 tl, (List.range z).map (fun t => cntS p.S n t) = x0 :: tl := by
  cases h : (List.range z).map (fun t => cntS p.S n t) with
  | nil => have := congrArg List.length h; simp at this; omega
  | cons a l => exact ⟨a, l, rfl⟩
 have hlen : (x0 :: tl).length = z := by rw [← hcl]; simp
 have hrow : tbV z (fun t => cntS p.S n t) = (x0 :: tl).flatMap iF := by
  rw [← hcl, fIv, List.map_map]; rfl
 have hget : ∀ s, s < z → (x0 :: tl).getD s 0 = cntS p.S n s := fun s hs => by
  rw [← hcl, List.getD_eq_getElem?_getD, List.getElem?_map, List.getElem?_range hs]; rfl
 have hmem : ∀ s, s < z → cntS p.S n s ∈ x0 :: tl := fun s hs => by
  rw [← hcl]; exact List.mem_map_of_mem (List.mem_range.2 hs)
 obtain ⟨M1, M2⟩ := maxF_spec tl x0
 obtain ⟨m1, m2⟩ := minF_spec tl x0
 obtain ⟨f, hfl, hfi, hfv⟩ := ix_ex M1
 obtain ⟨t, htl, hti, htv⟩ := ix_ex m1
 have hfz : f < z := by omega
 have htz : t < z := by omega
 rw [hget f hfz] at hfv
 rw [hget t htz] at htv
 have hrd := fun (b d : Nat) (w' : World) (ho : w'.ownsRow 0 3 1 (.slice (some ⟨b, 0, none⟩) z d) z (tbV z fun t => cntS p.S n t)) => (by
  rw [hrow] at ho
  have := Rd.of_owns (sz := 1) (f := iF) (bs := x0 :: tl) (fun _ => rfl) rfl hlen.symm ho
  exact this : Rd 1 iF (.slice (some ⟨b, 0, none⟩) z d) (x0 :: tl) w')
 have h42 := fun (b d : Nat) (w' : World) (ho : w'.ownsRow 0 3 1 (.slice (some ⟨b, 0, none⟩) z d) z (tbV z fun t => cntS p.S n t)) => Max_ok x0 tl (some ⟨b, 0, none⟩) d w' (by rw [hlen]; exact hrd b d w' ho) (by simp at hlen; omega)
 have h45 := fun (b d : Nat) (w' : World) (ho : w'.ownsRow 0 3 1 (.slice (some ⟨b, 0, none⟩) z d) z (tbV z fun t => cntS p.S n t)) => Min_ok x0 tl (some ⟨b, 0, none⟩) d w' (by rw [hlen]; exact hrd b d w' ho) (by simp at hlen; omega)
 have h44 := fun (x : Int) (b d : Nat) (w' : World) (ho : w'.ownsRow 0 3 1 (.slice (some ⟨b, 0, none⟩) z d) z (tbV z fun t => cntS p.S n t)) => Index_ok (x0 :: tl) (some ⟨b, 0, none⟩) d x w' (by rw [hlen]; exact hrd b d w' ho) (by rw [hlen]; omega)
 have h44f := h44 (maxF x0 tl)
 have h44t := h44 (minF x0 tl)
 rw [hfi] at h44f
 rw [hti] at h44t
 rw [hlen] at h42 h45 h44f h44t
 generalize hMM : maxF x0 tl = M at *
 generalize hmm : minF x0 tl = m at *
 by_cases hle : M ≤ ro
 · have hfin : ∀ s, s < z → cntS p.S n s ≤ ro := fun s hs => Int.le_trans (M2 _ (hmem s hs)) hle
   repeat'
    conv => whnf
    first
     |refine zB ?_|refine zD ?_
     |(refine splD ?_ ?_ <;> intro hc <;> first|(exfalso; omega)|skip)
     |(with_reducible show CallEv _ _ 41 ..); refine hcN _ _ _ _ p hSb rfl rfl rfl (by decide) (fun w' hw' => hw'.2) ?_
     |((with_reducible show CallEv _ _ 42 ..); refine callM [4] (fun β w' hbk hbw => h42 (β 4) (β 5) w' (hbk 4 (by simp) _ rfl)) ?_)
   all_goals exact ⟨rfl, p, ⟨hC, hS, hfin⟩, Ent.weak rfl ⟨rfl, rfl, trivial⟩ ⟨rfl, rfl, rfl, trivial⟩ fun _ h => h⟩
 · have htot := cnt_total n hS
   have hlow : m < ro := min_low (c := fun s => cntS p.S n s) hfz (by show ro < cntS p.S n f; omega) (fun s hs => m2 _ (hmem s hs)) (by rw [htot]; exact hnr)
   have hlt : cntS p.S L.length t < cntS p.S L.length f := by rw [hn]; omega
   obtain ⟨chl, i0, te0, k1, k2, k3, k4, k5, k6, k7, k8⟩ := even_cons (f := f) (t := t) hC hz hv8 (by rw [hn]; exact hS) hfz htz hlt
   have hev := even_ok ⟨sl, ro, su, gs, ts, some ad, n, lc, L⟩ p (f : Int) (t : Int) chl i0 te0 hh (by omega) (by omega) (fun i hi => by have := hSb i hi; omega) (fun i hi hS te => by
    obtain ⟨a1, a2, a3, a4⟩ := k1 i hi hS te
    exact ⟨a1, by dsimp only; omega, a3, a4⟩) (by dsimp only; omega) k3 k4 k5
   dsimp only at hev
   generalize hp' : turnF L ((f : Int) + t) (i0 :: chl i0 te0) p = p' at *
   rw [hn] at k7 k8
   have hexc := exc_dec (ro := ro) (z := z) (f := f) (t := t) (c := fun s => cntS p.S n s) (c' := fun s => cntS p'.S n s) hfz (by show ro < cntS p.S n f; omega) (by show cntS p.S n t < ro; omega) k8
   have hnn := excF_nn ro z (fun s => cntS p'.S n s)
   repeat'
    conv => whnf
    first
     |refine zB ?_|refine zD ?_
     |(refine splD ?_ ?_ <;> intro hc <;> first|(exfalso; omega)|skip)
     |(with_reducible show CallEv _ _ 41 ..); refine hcN _ _ _ _ p hSb rfl rfl rfl (by decide) (fun w' hw' => hw'.2) ?_
     |((with_reducible show CallEv _ _ 42 ..); refine callM [4] (fun β w' hbk hbw => h42 (β 4) (β 5) w' (hbk 4 (by simp) _ rfl)) ?_)
     |((with_reducible show CallEv _ _ 45 ..); refine callM [4] (fun β w' hbk hbw => h45 (β 4) (β 5) w' (hbk 4 (by simp) _ rfl)) ?_)
     |((with_reducible show CallEv _ _ 44 [_, .v (iv M)] _ _ _ _); refine callM (k := 44) [4] (fun β w' hbk hbw => h44f (β 4) (β 5) w' (hbk 4 (by simp) _ rfl)) ?_)
     |((with_reducible show CallEv _ _ 44 [_, .v (iv m)] _ _ _ _); refine callM (k := 44) [4] (fun β w' hbk hbw => h44t (β 4) (β 5) w' (hbk 4 (by simp) _ rfl)) ?_)
     |(with_reducible show CallEv _ _ 43 ..); refine hcE _ _ _ _ p p' f t hev rfl rfl (by show 3 ≤ 6; decide) (fun w' hw' => hw'.2) ?_
   all_goals exact ⟨p', ⟨k6, k7⟩, by omega, Ent.weak rfl ⟨rfl, rfl, trivial⟩ ⟨rfl, rfl, rfl, trivial⟩ fun _ h => h⟩
theorem c13_8 : rest 8 body13 = .seq (qL (rest 8 body13)) (rest 9 body13) := by kernel_rfl
theorem outV_nil (z : Nat) : outV z F00 = (List.replicate z [Value.slice none 0 0]).flatten := by
 unfold outV
 induction z with
 | zero => rfl
 | succ z ih => rw [List.range_succ, List.map_append, ih, List.replicate_succ', List.flatten_append]; rfl
theorem T8 (w : World) (z : Nat) (sl ro su : Int) (gs ts : Value) (ad : Addr) (n lc : Nat) (L : List Ln) (p : Pn) (hsl : sl = z) (hz : z ≤ 40) {Φ : Exit → Sg → Prop}
 (hr : VC Tryz.prog (rest 9 body13) ⟨139, [(6, .ptr 0 0), (12, .os 4 5 z)], [(0, .cells (.v (iv sl) :: .v (iv ro) :: .v (iv su) :: .v gs :: .v ts :: .v (.slice (some ad) n lc) :: .os 1 2 n :: (tbS 320 p.A ++ tbS 320 p.B)) 93), (1, .own 2 n 1 (tbV n p.S) 3), (4, .mix 5 z 1 [] ((outV z F00).map .v) 44)], 6, fun w' => Below w.heap.size w w' ∧ Rd 3 Ln.cs (.slice (some ad) n lc) L w' ∧ OutOK w.heap.size z F00 w', z0⟩ Φ) :
 VC Tryz.prog (rest 8 body13) ⟨139, [(1, .ptr 3 0), (6, .ptr 0 0)], [(0, .cells (.v (iv sl) :: .v (iv ro) :: .v (iv su) :: .v gs :: .v ts :: .v (.slice (some ad) n lc) :: .os 1 2 n :: (tbS 320 p.A ++ tbS 320 p.B)) 93), (1, .own 2 n 1 (tbV n p.S) 3), (3, .cells [.v (iv sl), .v (iv ro), .v (iv su), .v gs, .v ts] 34)], 4, fun w' => Below w.heap.size w w' ∧ Rd 3 Ln.cs (.slice (some ad) n lc) L w', z0⟩ Φ := by
 subst hsl
 have hmB : mB 6 [(0, .cells (.v (iv (z : Int)) :: .v (iv ro) :: .v (iv su) :: .v gs :: .v ts :: .v (.slice (some ad) n lc) :: .os 1 2 n :: (tbS 320 p.A ++ tbS 320 p.B)) 93), (1, .own 2 n 1 (tbV n p.S) 3), (4, .mix 5 z 1 [] ((outV z F00).map .v) 44)] = true := by
  have h1 := mB_up (mPl ⟨(z : Int), ro, su, gs, ts, some ad, n, lc, L⟩ p) (show 3 ≤ 6 by omega)
  have h2 : mB 6 [(4, Blk.mix 5 z 1 [] ((outV z F00).map .v) 44)] = true := by
   simp only [mB, Blk.lt, lts_v, SV.lts]; rfl
  exact mB_app h1 h2
 refine VC.eq c13_8 (VC.sq (VC.of env mixed ?_))
 repeat'
  conv => whnf
  first
   |refine zB ?_
   |refine mkO env 4 z (outV z F00) rfl rfl rfl (by decide) rfl (by omega) (by decide) (outV_nil _) rfl ?_
 conv => whnf
 exact VC.dis (α := Unit) (I := fun _ => ⟨139, [(6, .ptr 0 0), (12, .os 4 5 z)], [(0, .cells (.v (iv (z : Int)) :: .v (iv ro) :: .v (iv su) :: .v gs :: .v ts :: .v (.slice (some ad) n lc) :: .os 1 2 n :: (tbS 320 p.A ++ tbS 320 p.B)) 93), (1, .own 2 n 1 (tbV n p.S) 3), (4, .mix 5 z 1 [] ((outV z F00).map .v) 44)], 6, fun w' => Below w.heap.size w w' ∧ Rd 3 Ln.cs (.slice (some ad) n lc) L w' ∧ OutOK w.heap.size z F00 w', z0⟩) (pre := fun _ => True)
  (Dis.mk3 (w0 := w) id [] rfl (fun i hi => by cases hi) (fun w' h => h.1) (fun β w1 hok hw1 hge => ⟨(), trivial, ⟨⟨_, rfl, rfl⟩, ⟨_, rfl, rfl⟩, trivial⟩, ⟨⟨rfl, _, rfl, fun _ => rfl, fun w2 y hy => hy⟩, ⟨rfl, _, rfl, fun _ => rfl, fun w2 y hy => hy⟩, ⟨rfl, _, rfl, fun _ => rfl, fun w2 y hy => by simp only [Blk.ok, cs_v] at hy ⊢; exact hy⟩, trivial⟩, rfl, fun w2 hw2 _ => ⟨hw2.1, hw2.2, fun s hs => ⟨fun _ => rfl, fun q hq => by cases hq⟩⟩⟩))
  (fun _ _ => okB rfl hmB rfl) (fun _ _ => hr)
theorem T6 (w : World) (z : Nat) (sl ro su : Int) (gs ts : Value) (ad : Addr) (n lc : Nat) (L : List Ln) (p0 : Pn) (hn : L.length = n) (hn2 : n ≤ 10000) (hsl : sl = z) (hz : z ≤ 40) (hx : ∀ x ∈ L, 0 ≤ x.g ∧ x.g ≤ 7 ∧ 0 ≤ x.t ∧ x.t ≤ 7)
 (hC0 : Cons L z p0) (hS0 : ∀ i, i < n → p0.S i = -1) (hc : ∀ i, i < L.length → ∀ te, (memV L te (vx L i te)).length ≤ z) {Φ : Exit → Sg → Prop}
 (hr : ∀ p : Pn, Cons L z p → (∀ i, i < n → ∃ s : Nat, s < z ∧ p.S i = s) → VC Tryz.prog (rest 7 body13) ⟨139, [(1, .ptr 3 0), (6, .ptr 0 0)], [(0, .cells (.v (iv sl) :: .v (iv ro) :: .v (iv su) :: .v gs :: .v ts :: .v (.slice (some ad) n lc) :: .os 1 2 n :: (tbS 320 (p).A ++ tbS 320 (p).B)) 93), (1, .own 2 n 1 (tbV n (p).S) 3), (3, .cells [.v (iv sl), .v (iv ro), .v (iv su), .v gs, .v ts] 34)], 4, fun w' => Below w.heap.size w w' ∧ Rd 3 Ln.cs (.slice (some ad) n lc) L w', z0⟩ Φ) :
 VC Tryz.prog (rest 6 body13) ⟨139, [(1, .ptr 3 0), (6, .ptr 0 0)], [(0, .cells (.v (iv sl) :: .v (iv ro) :: .v (iv su) :: .v gs :: .v ts :: .v (.slice (some ad) n lc) :: .os 1 2 n :: (tbS 320 (p0).A ++ tbS 320 (p0).B)) 93), (1, .own 2 n 1 (tbV n (p0).S) 3), (3, .cells [.v (iv sl), .v (iv ro), .v (iv su), .v gs, .v ts] 34)], 4, fun w' => Below w.heap.size w w' ∧ Rd 3 Ln.cs (.slice (some ad) n lc) L w', z0⟩ Φ := by
 have hh : PhOK ⟨sl, ro, su, gs, ts, some ad, n, lc, L⟩ := ⟨hn, hn2, hx⟩
 have hv8 : ∀ i, i < L.length → ∀ te, vx L i te < 8 := fun i hi te => by
  have := hx _ (List.mem_of_getElem? (lnAt_get hi))
  unfold vx
  split <;> omega
 have hmB : ∀ (k : Nat) (p : Pn), 4 ≤ k → mB k [(0, .cells (.v (iv sl) :: .v (iv ro) :: .v (iv su) :: .v gs :: .v ts :: .v (.slice (some ad) n lc) :: .os 1 2 n :: (tbS 320 (p).A ++ tbS 320 (p).B)) 93), (1, .own 2 n 1 (tbV n (p).S) 3), (3, .cells [.v (iv sl), .v (iv ro), .v (iv su), .v gs, .v ts] 34)] = true := fun k p hk => by
  have h1 := mB_up (mPl ⟨sl, ro, su, gs, ts, some ad, n, lc, L⟩ p) (show 3 ≤ k by omega)
  have h2 : mB k [(3, Blk.cells [.v (iv sl), .v (iv ro), .v (iv su), .v gs, .v ts] 34)] = true := by
   simp only [mB, Blk.lt, SV.lts, SV.lt, Bool.and_true, Nat.blt_eq]; omega
  exact mB_app h1 h2
 have hcE := fun (σ : Sg) (rs : List Nat) (K : Ef → Prop) (KF : Option KT) (p p' : Pn) (i : Nat) (hC : PlTo 40 [.ptr 0 0, .v (iv i)] ⟨sl, ro, su, gs, ts, some ad, n, lc, L⟩ p p') => callPl (σ := σ) (rs := rs) (K := K) (KF := KF) ⟨sl, ro, su, gs, ts, some ad, n, lc, L⟩ p p' hC
 dsimp only [plM, plC] at hcE
 refine VC.cutE env mixed 1 4 (fun p : Pn => [(1, .ptr 3 0), (6, .ptr 0 0)]) (fun p => [(0, .cells (.v (iv sl) :: .v (iv ro) :: .v (iv su) :: .v gs :: .v ts :: .v (.slice (some ad) n lc) :: .os 1 2 n :: (tbS 320 (p).A ++ tbS 320 (p).B)) 93), (1, .own 2 n 1 (tbV n (p).S) 3), (3, .cells [.v (iv sl), .v (iv ro), .v (iv su), .v gs, .v ts] 34)]) (fun p => Cons L z p ∧ ∀ i, i < n → ∃ s : Nat, s < z ∧ p.S i = s) (fun p _ => ⟨rfl, hmB 4 p (Nat.le_refl _)⟩) ?_ (fun p hp => hr p hp.1 hp.2)
 repeat'
  conv => whnf
  first
   |refine zB ?_
   |refine nlC rfl rfl ?_
 refine loopN 4 (fun x : Nat × Pn => [(1, .ptr 3 0), (6, .ptr 0 0), (74, .v (iv n)), (75, .v (iv x.1))]) (fun x => [(0, .cells (.v (iv sl) :: .v (iv ro) :: .v (iv su) :: .v gs :: .v ts :: .v (.slice (some ad) n lc) :: .os 1 2 n :: (tbS 320 (x.2).A ++ tbS 320 (x.2).B)) 93), (1, .own 2 n 1 (tbV n (x.2).S) 3), (3, .cells [.v (iv sl), .v (iv ro), .v (iv su), .v gs, .v ts] 34)]) (fun x => x.1 ≤ n ∧ Cons L z x.2 ∧ ∀ j, j < n → (x.2.S j = -1 ↔ x.1 ≤ j)) (fun x => n - x.1) (0, p0) ⟨Nat.zero_le _, hC0, fun j hj => ⟨fun _ => Nat.zero_le _, fun _ => hS0 j hj⟩⟩ ⟨rfl, rfl, rfl, rfl, trivial⟩ ⟨rfl, rfl, rfl, trivial⟩ (fun x _ => ⟨rfl, hmB 4 x.2 (Nat.le_refl _)⟩) ?_
 intro ⟨i, p⟩ ⟨hin, hC, hS⟩
 dsimp only at hin hC hS ⊢
 rcases Nat.lt_or_ge i n with hil | hil
 · have hSi := (hS i hil).2 (Nat.le_refl _)
   obtain ⟨p', a, b, k1, k2, k3, k4, k5, k6, k7, k8, k9⟩ := place_cons hC hz hv8 (by omega) hSi (hc i (by omega))
   have hpl := place_ok ⟨sl, ro, su, gs, ts, some ad, n, lc, L⟩ p p' i z a b (lnAt L i) hh (lnAt_get (show i < L.length by omega)) hsl hz hSi k1 k2 k3 k4 k5 k6 k7
   have hS' : ∀ j, j < n → (p'.S j = -1 ↔ i + 1 ≤ j) := fun j hj => by
    rw [k9 j, hS j hj]
    constructor
    · rintro ⟨h1, h2⟩; omega
    · intro h; exact ⟨by omega, by omega⟩
   clear k7 k9
   repeat'
    conv => whnf
    first
     |refine zD ?_|refine zF ?_
     |(refine splD ?_ ?_ <;> intro hc <;> first|(exfalso; omega)|skip)
     |(with_reducible show CallEv _ _ 40 ..); refine hcE _ _ _ _ p p' i hpl rfl rfl (by show 3 ≤ 4; decide) (fun w' hw' => hw'.2) ?_
   all_goals exact ⟨(i + 1, p'), ⟨by omega, k8, hS'⟩, by omega, Ent.weak rfl ⟨rfl, rfl, rfl, rfl, trivial⟩ ⟨rfl, rfl, rfl, trivial⟩ fun _ h => h⟩
 · obtain rfl : i = n := by omega
   have hall : ∀ j, j < i → ∃ s : Nat, s < z ∧ p.S j = s := fun j hj => by
    rcases hC.r j (by omega) with e | e
    · have := (hS j hj).1 e; omega
    · exact e
   repeat'
    conv => whnf
    first
     |(refine splD ?_ ?_ <;> intro hc <;> first|(exfalso; omega)|skip)
   all_goals exact ⟨rfl, p, ⟨hC, hall⟩, Ent.weak rfl ⟨rfl, rfl, trivial⟩ ⟨rfl, rfl, rfl, trivial⟩ fun _ h => h⟩
def negR (k : Nat) : List Int := List.replicate k (-1)
theorem negR_len (k : Nat) : (negR k).length = k := by simp [negR]
theorem negR_snoc (k : Nat) : negR (k + 1) = negR k ++ [-1] := List.replicate_succ'
theorem T5 (sl ro su : Int) (gs ts : Value) (lo : Option Addr) (n lc : Nat) (A B : Nat → Int) (hn2 : n ≤ 10000) {h : World → Prop} {Φ : Exit → Sg → Prop}
 (hr : VC Tryz.prog (rest 6 body13) ⟨139, [(1, .ptr 3 0), (6, .ptr 0 0)], (0, .cells (.v (iv sl) :: .v (iv ro) :: .v (iv su) :: .v gs :: .v ts :: .v (.slice lo n lc) :: oSV 1 2 (negR n) :: (tbS 320 A ++ tbS 320 B)) 93) :: (3, .cells [.v (iv sl), .v (iv ro), .v (iv su), .v gs, .v ts] 34) :: oM 1 2 1 iF 3 (negR n), 4, h, z0⟩ Φ) :
 VC Tryz.prog (rest 5 body13) ⟨139, [(1, .ptr 3 0), (6, .ptr 0 0)], [(0, .cells (.v (iv sl) :: .v (iv ro) :: .v (iv su) :: .v gs :: .v ts :: .v (.slice lo n lc) :: .v (.slice none 0 0) :: (tbS 320 A ++ tbS 320 B)) 93), (3, .cells [.v (iv sl), .v (iv ro), .v (iv su), .v gs, .v ts] 34)], 4, h, z0⟩ Φ := by
 have hmB : ∀ (k : Nat), mB 4 ((0, .cells (.v (iv sl) :: .v (iv ro) :: .v (iv su) :: .v gs :: .v ts :: .v (.slice lo n lc) :: oSV 1 2 (negR k) :: (tbS 320 A ++ tbS 320 B)) 93) :: (3, .cells [.v (iv sl), .v (iv ro), .v (iv su), .v gs, .v ts] 34) :: oM 1 2 1 iF 3 (negR k)) = true := fun k => by
  have h1 : SV.lts 4 (tbS 320 A ++ tbS 320 B) = true := lts_append (tbS_lt _ _ _) (tbS_lt _ _ _)
  cases k with
  | zero => simp only [mB, Blk.lt, SV.lts, h1]; rfl
  | succ k =>
   show mB 4 ((0, .cells (.v (iv sl) :: .v (iv ro) :: .v (iv su) :: .v gs :: .v ts :: .v (.slice lo n lc) :: .os 1 2 ((negR k).length + 1) :: (tbS 320 A ++ tbS 320 B)) 93) :: (3, .cells [.v (iv sl), .v (iv ro), .v (iv su), .v gs, .v ts] 34) :: [(1, .own 2 ((negR k).length + 1) 1 _ 3)]) = true
   simp only [mB, Blk.lt, SV.lts, SV.lt, h1]; rfl
 refine VC.cutE env mixed 1 4 (fun _ : Unit => [(1, .ptr 3 0), (6, .ptr 0 0)]) (fun _ => (0, .cells (.v (iv sl) :: .v (iv ro) :: .v (iv su) :: .v gs :: .v ts :: .v (.slice lo n lc) :: oSV 1 2 (negR n) :: (tbS 320 A ++ tbS 320 B)) 93) :: (3, .cells [.v (iv sl), .v (iv ro), .v (iv su), .v gs, .v ts] 34) :: oM 1 2 1 iF 3 (negR n)) (fun _ => True) (fun _ _ => ⟨rfl, hmB n⟩) ?_ (fun _ _ => hr)
 repeat'
  conv => whnf
  first
   |refine zB ?_
   |refine nlC rfl rfl ?_
 refine loopN 4 (fun k : Nat => [(1, .ptr 3 0), (6, .ptr 0 0), (57, .v (iv n)), (58, .v (iv k))]) (fun k => (0, .cells (.v (iv sl) :: .v (iv ro) :: .v (iv su) :: .v gs :: .v ts :: .v (.slice lo n lc) :: oSV 1 2 (negR k) :: (tbS 320 A ++ tbS 320 B)) 93) :: (3, .cells [.v (iv sl), .v (iv ro), .v (iv su), .v gs, .v ts] 34) :: oM 1 2 1 iF 3 (negR k)) (fun k => k ≤ n) (fun k => n - k) 0 (Nat.zero_le _) ⟨rfl, rfl, rfl, rfl, trivial⟩ (by exact ⟨rfl, rfl, trivial⟩) (fun k _ => ⟨rfl, hmB k⟩) ?_
 intro k hk
 rcases Nat.lt_or_ge k n with hkl | hkl
 · have hs := negR_snoc k
   have hl := negR_len k
   cases hR : negR k with
   | nil =>
    repeat'
     conv => whnf
     first
      |refine zB ?_|refine zC ?_|refine zF ?_|refine zI ?_
      |(refine splD ?_ ?_ <;> intro hc <;> first|(exfalso; omega)|skip)
      |refine nlC rfl rfl ?_
    rw [hR, List.nil_append] at hs
    conv => whnf
    exact ⟨k + 1, by omega, by omega, Ent.ren (rho [(1, 5), (2, 6)]) rfl (by rw [hs]; rfl) ⟨rfl, rfl, rfl, rfl, trivial⟩ (by rw [hs]; exact ⟨rfl, rfl, rfl, trivial⟩) fun _ h => h⟩
   | cons a R =>
    have hl2 : R.length + 1 = k := by rw [← hl, hR]; rfl
    rw [hR, List.cons_append] at hs
    repeat'
     conv => whnf
     first
      |refine zB ?_|refine zC ?_|refine zF ?_|refine zH ?_|refine zI ?_
      |(refine splD ?_ ?_ <;> intro hc <;> first|(exfalso; omega)|skip)
      |refine nlC rfl rfl ?_
    conv => whnf
    exact ⟨k + 1, by omega, by omega, Ent.ren (rho [(1, 5), (2, 6)]) rfl (by rw [hs]; rfl) ⟨rfl, rfl, rfl, rfl, trivial⟩ (by rw [hs]; exact ⟨by simp [oSV]; rfl, rfl, by simp [oM]; rfl, trivial⟩) fun _ h => h⟩
 · obtain rfl : k = n := by omega
   repeat'
    conv => whnf
    first
     |(refine splD ?_ ?_ <;> intro hc <;> first|(exfalso; omega)|skip)
   all_goals exact ⟨rfl, (), trivial, Ent.weak rfl ⟨rfl, rfl, trivial⟩ (by cases negR k <;> first | exact ⟨rfl, rfl, trivial⟩ | exact ⟨rfl, rfl, rfl, trivial⟩) fun _ h => h⟩
def fillF (k : Nat) : Nat → Int := fun p => if p < k then -1 else 0
theorem fill_upd (k : Nat) : updF (fillF k) k (-1) = fillF (k + 1) := by
 funext p
 show (if p = k then -1 else fillF k p) = fillF (k + 1) p
 unfold fillF
 by_cases h : p = k
 · rw [if_pos h, if_pos (by omega)]
 · rw [if_neg h]
   by_cases h2 : p < k
   · rw [if_pos h2, if_pos (by omega)]
   · rw [if_neg h2, if_neg (by omega)]
theorem T4 (sl ro su : Int) (gs ts : Value) (lo : Option Addr) (n lc : Nat) {h : World → Prop} {Φ : Exit → Sg → Prop}
 (hr : VC Tryz.prog (rest 5 body13) ⟨139, [(1, .ptr 3 0), (6, .ptr 0 0)], [(0, .cells (.v (iv sl) :: .v (iv ro) :: .v (iv su) :: .v gs :: .v ts :: .v (.slice lo n lc) :: .v (.slice none 0 0) :: (tbS 320 (fillF (320)) ++ tbS 320 (fillF (320)))) 93), (3, .cells [.v (iv sl), .v (iv ro), .v (iv su), .v gs, .v ts] 34)], 4, h, z0⟩ Φ) :
 VC Tryz.prog (rest 4 body13) ⟨139, [(1, .ptr 3 0), (6, .ptr 0 0)], [(0, .cells (.v (iv sl) :: .v (iv ro) :: .v (iv su) :: .v gs :: .v ts :: .v (.slice lo n lc) :: .v (.slice none 0 0) :: (tbS 320 (fillF (0)) ++ tbS 320 (fillF (0)))) 93), (3, .cells [.v (iv sl), .v (iv ro), .v (iv su), .v gs, .v ts] 34)], 4, h, z0⟩ Φ := by
 have hmB : ∀ (k : Nat), mB 4 [(0, .cells (.v (iv sl) :: .v (iv ro) :: .v (iv su) :: .v gs :: .v ts :: .v (.slice lo n lc) :: .v (.slice none 0 0) :: (tbS 320 (fillF (k)) ++ tbS 320 (fillF (k)))) 93), (3, .cells [.v (iv sl), .v (iv ro), .v (iv su), .v gs, .v ts] 34)] = true := fun k => by
  have h1 : SV.lts 4 (tbS 320 (fillF k) ++ tbS 320 (fillF k)) = true := lts_append (tbS_lt _ _ _) (tbS_lt _ _ _)
  simp only [mB, Blk.lt, SV.lts, h1]; rfl
 refine VC.cutE env mixed 1 4 (fun _ : Unit => [(1, .ptr 3 0), (6, .ptr 0 0)]) (fun _ => [(0, .cells (.v (iv sl) :: .v (iv ro) :: .v (iv su) :: .v gs :: .v ts :: .v (.slice lo n lc) :: .v (.slice none 0 0) :: (tbS 320 (fillF (320)) ++ tbS 320 (fillF (320)))) 93), (3, .cells [.v (iv sl), .v (iv ro), .v (iv su), .v gs, .v ts] 34)]) (fun _ => True) (fun _ _ => ⟨rfl, hmB 320⟩) ?_ (fun _ _ => hr)
 skip
 refine loopN 4 (fun i : Nat => [(1, .ptr 3 0), (6, .ptr 0 0), (31, .v (iv i))]) (fun i => [(0, .cells (.v (iv sl) :: .v (iv ro) :: .v (iv su) :: .v gs :: .v ts :: .v (.slice lo n lc) :: .v (.slice none 0 0) :: (tbS 320 (fillF (i * 40)) ++ tbS 320 (fillF (i * 40)))) 93), (3, .cells [.v (iv sl), .v (iv ro), .v (iv su), .v gs, .v ts] 34)]) (fun i => i ≤ 8) (fun i => 8 - i) 0 (Nat.zero_le _) ⟨rfl, rfl, rfl, trivial⟩ ⟨rfl, rfl, trivial⟩ (fun i _ => ⟨rfl, hmB (i * 40)⟩) ?_
 intro i hi
 rcases Nat.lt_or_ge i 8 with hil | hil
 ·
  repeat'
   conv => whnf
   first
    |(refine splD ?_ ?_ <;> intro hc <;> first|(exfalso; omega)|skip)
  refine loopN 4 (fun j : Nat => [(1, .ptr 3 0), (6, .ptr 0 0), (31, .v (iv i)), (7, .v (iv i)), (34, .v (iv j))]) (fun j => [(0, .cells (.v (iv sl) :: .v (iv ro) :: .v (iv su) :: .v gs :: .v ts :: .v (.slice lo n lc) :: .v (.slice none 0 0) :: (tbS 320 (fillF (i * 40 + j)) ++ tbS 320 (fillF (i * 40 + j)))) 93), (3, .cells [.v (iv sl), .v (iv ro), .v (iv su), .v gs, .v ts] 34)]) (fun j => j ≤ 40) (fun j => 40 - j) 0 (Nat.zero_le _) ⟨rfl, rfl, rfl, rfl, rfl, trivial⟩ ⟨rfl, rfl, trivial⟩ (fun j _ => ⟨rfl, hmB (i * 40 + j)⟩) ?_
  intro j hj
  rcases Nat.lt_or_ge j 40 with hjl | hjl
  · have hfu := fill_upd (i * 40 + j)
    repeat'
     conv => whnf
     first
      |refine zA ?_|refine zB ?_|refine zC ?_|refine zF ?_|refine zG ?_
      |(refine splD ?_ ?_ <;> intro hc <;> first|(exfalso; omega)|skip)
      |refine nlC rfl rfl ?_
      |refine spA (k := i * 40 + j) (by show 0 + 7 + (i : Int).toNat * 40 + (j : Int).toNat * 1 = 7 + (i * 40 + j); omega) (by omega) ?_
      |refine spB (k := i * 40 + j) (by show 0 + 327 + (i : Int).toNat * 40 + (j : Int).toNat * 1 = 327 + (i * 40 + j); omega) (by omega) ?_
    all_goals exact ⟨j + 1, by omega, by omega, Ent.weak rfl ⟨rfl, rfl, rfl, rfl, rfl, trivial⟩ ⟨by rw [show i * 40 + (j + 1) = i * 40 + j + 1 from rfl, ← hfu]; rfl, rfl, trivial⟩ fun _ h => h⟩
  · obtain rfl : j = 40 := by omega
    repeat'
     conv => whnf
     first
      |refine zF ?_|refine splF ?_
    all_goals exact ⟨i + 1, by omega, by omega, Ent.weak rfl ⟨rfl, rfl, rfl, trivial⟩ ⟨by rw [show (i + 1) * 40 = i * 40 + 40 from by omega]; rfl, rfl, trivial⟩ fun _ h => h⟩
 · obtain rfl : i = 8 := by omega
   repeat'
    conv => whnf
    first
     |refine splF ?_
   all_goals exact ⟨rfl, (), trivial, Ent.weak rfl ⟨rfl, rfl, trivial⟩ ⟨rfl, rfl, trivial⟩ fun _ h => h⟩
end Go.Proofs.YtkbfcofifhngfaaGreat
namespace Go.Proofs.YtkbfcofifhngfaaGreat
open Go
theorem sum_lnAt (F : Ln → Int) (l : List Ln) : (l.map F).sum = sumN (fun i => F (lnAt l i)) l.length := sumN_list F ⟨0, 0, 0⟩ l
theorem srtL_sum (F : Ln → Int) (l : List Ln) : ((srtL l).map F).sum = (l.map F).sum := by
 rw [sum_lnAt F l, sum_lnAt F (srtL l), srtL_len]
 rw [sumN_congr (g := fun i => F (srtF l.length (lnAt l) i)) fun i hi => by rw [srtL_at hi]]
 exact srt_sum F (lnAt l) l.length (Nat.le_refl _)
theorem flat_sum (F : Ln → Int) : ∀ X : List (List Ln), (X.flatten.map F).sum = (X.map fun l => (l.map F).sum).sum
 | [] => rfl
 | l :: X => by rw [List.flatten_cons, List.map_append, List.sum_append, flat_sum F X, List.map_cons, List.sum_cons]
theorem rowL_sum (F : Ln → Int) (L : List Ln) (S : Nat → Int) (s : Nat) : ∀ i, ((rowL L S i s).map F).sum = sumN (fun k => if S k = (s : Int) then F (lnAt L k) else 0) i
 | 0 => rfl
 | i + 1 => by
  rw [sumN]
  by_cases h : S i = (s : Int)
  · rw [rowL_yes h, List.map_append, List.sum_append, rowL_sum F L S s i, if_pos h]; simp
  · rw [rowL_no h, rowL_sum F L S s i, if_neg h]; omega
def tabX (L : List Ln) (S : Nat → Int) (n z : Nat) : List (List Ln) := (List.range z).map fun s => srtL (rowL L S n s)
theorem tab_sum (F : Ln → Int) (L : List Ln) (S : Nat → Int) (z : Nat) (hS : ∀ i, i < L.length → ∃ s : Nat, s < z ∧ S i = s) : ((tabX L S L.length z).flatten.map F).sum = (L.map F).sum := by
 rw [flat_sum, tabX, List.map_map, sumN_list (α := Nat) _ 0, List.length_range, sum_lnAt F L]
 rw [sumN_congr (g := fun s => sumN (fun k => if S k = (s : Int) then F (lnAt L k) else 0) L.length) fun s hs => by
  have : (List.range z).getD s 0 = s := by rw [List.getD_eq_getElem?_getD, List.getElem?_range hs]; rfl
  rw [this]
  show ((srtL (rowL L S L.length s)).map F).sum = _
  rw [srtL_sum, rowL_sum]]
 rw [sumN_swap]
 refine sumN_congr fun k hk => ?_
 obtain ⟨s, hs, e⟩ := hS k hk
 rw [sumN_congr (g := fun i => if i = s then F (lnAt L k) else (fun _ => 0) i) fun i _ => by
  by_cases h : i = s
  · subst h; rw [if_pos e, if_pos rfl]
  · rw [if_neg (fun e2 => h (by omega)), if_neg h], sumN_upd hs, sumN_zero]
 omega
theorem srtL_mem {l : List Ln} {x : Ln} (h : x ∈ srtL l) : x ∈ l := by
 unfold srtL at h
 obtain ⟨k, hk, rfl⟩ := List.mem_map.1 h
 exact srt_all (P := fun x => x ∈ l) (lnAt l) (fun k hk => List.mem_of_getElem? (lnAt_get hk)) l.length (Nat.le_refl _) k (List.mem_range.1 hk)
theorem two_le {f : Nat → Int} {n p q : Nat} (hn : ∀ i, i < n → 0 ≤ f i) (hp : p < n) (hq : q < n) (hpq : p ≠ q) : f p + f q ≤ sumN f n := by
 have h1 := sumN_upd (f := f) (v := 0) hp
 have h2 : (fun k => if k = p then 0 else f k) q ≤ sumN (fun k => if k = p then 0 else f k) n := sumN_ge (fun i hi => by
  split
  · exact Int.le_refl _
  · exact hn i hi) hq
 dsimp only at h2
 rw [if_neg (fun e => hpq e.symm)] at h2
 omega
theorem ind_le {P : Nat → Prop} [DecidablePred P] {n : Nat} (h : ∀ i j, i < n → j < n → P i → P j → i = j) : sumN (fun k => if P k then (1 : Int) else 0) n ≤ 1 := by
 by_cases hex : ∃ k, k < n ∧ P k
 · obtain ⟨k, hk, hp⟩ := hex
   rw [sumN_congr (g := fun i => if i = k then 1 else (fun _ : Nat => (0 : Int)) i) fun i hi => by
    by_cases e : i = k
    · subst e; rw [if_pos hp, if_pos rfl]
    · rw [if_neg (fun hp2 => e (h i k hi hk hp2 hp)), if_neg e], sumN_upd hk, sumN_zero]
   omega
 · rw [sumN_congr (g := fun _ => 0) fun i hi => if_neg fun hp => hex ⟨i, hi, hp⟩, sumN_zero]; omega
theorem row_one {L : List Ln} {z : Nat} {p : Pn} (hC : Cons L z p) {s : Nat} (hs : s < z) (key : Ln → Int) (te : Bool) (hkey : ∀ i j, i < L.length → j < L.length → key (lnAt L i) = key (lnAt L j) → vx L i te = vx L j te) {a b : Nat} (ha : a < (srtL (rowL L p.S L.length s)).length) (hb : b < (srtL (rowL L p.S L.length s)).length) (hab : a ≠ b) :
 key (lnAt (srtL (rowL L p.S L.length s)) a) ≠ key (lnAt (srtL (rowL L p.S L.length s)) b) := by
 intro e
 have h1 := sum_lnAt (fun x => if key x = key (lnAt (srtL (rowL L p.S L.length s)) a) then (1 : Int) else 0) (srtL (rowL L p.S L.length s))
 rw [srtL_sum, rowL_sum] at h1
 have h2 := two_le (f := fun i => if key (lnAt (srtL (rowL L p.S L.length s)) i) = key (lnAt (srtL (rowL L p.S L.length s)) a) then (1 : Int) else 0) (fun i _ => by split <;> decide) ha hb hab
 rw [if_pos rfl, if_pos e.symm] at h2
 have h3 : sumN (fun k => if p.S k = (s : Int) then (if key (lnAt L k) = key (lnAt (srtL (rowL L p.S L.length s)) a) then (1 : Int) else 0) else 0) L.length ≤ 1 := by
  rw [sumN_congr (g := fun k => if p.S k = (s : Int) ∧ key (lnAt L k) = key (lnAt (srtL (rowL L p.S L.length s)) a) then (1 : Int) else 0) fun k _ => by
   by_cases q1 : p.S k = (s : Int)
   · by_cases q2 : key (lnAt L k) = key (lnAt (srtL (rowL L p.S L.length s)) a)
     · rw [if_pos q1, if_pos q2, if_pos ⟨q1, q2⟩]
     · rw [if_pos q1, if_neg q2, if_neg (fun h => q2 h.2)]
   · rw [if_neg q1, if_neg (fun h => q1 h.1)]]
  exact ind_le (P := fun k => p.S k = (s : Int) ∧ key (lnAt L k) = key (lnAt (srtL (rowL L p.S L.length s)) a)) fun i j hi hj ⟨q1, q2⟩ ⟨q3, q4⟩ => by
   have hv := hkey i j hi hj (q2.trans q4.symm)
   have r1 := hC.a i hi s q1 te
   have r2 := hC.a j hj s q3 te
   rw [hv, r2] at r1
   omega
 omega
end Go.Proofs.YtkbfcofifhngfaaGreat
namespace Go.Proofs.YtkbfcofifhngfaaGreat
open Go Tx
theorem cntP_cGU (Y : List Ln) {a b : Nat} (hb : b < 6) : cntP Y (a * 6 + b) = cGU Y a b := by
 unfold cntP cGU
 rw [show (a * 6 + b) / 6 = a from by omega, show (a * 6 + b) % 6 = b from by omega]
 rfl
theorem tab_fit {D : SD} (hv : scOk D = true) {L : List Ln} (hA : AllOK D L) {z : Nat} (hz : D.sl = z) {p : Pn} (hC : Cons L z p) (hS : ∀ i, i < L.length → ∃ s : Nat, s < z ∧ p.S i = s) (hro : ∀ s, s < z → cntS p.S L.length s ≤ D.ro) :
 rfitB D (tabX L p.S L.length z) = true ∧ risB (tabX L p.S L.length z) := by
 obtain ⟨hv1, hv2, hv3, hv4, hv5, hv6, hv7⟩ := scOk_iff.1 hv
 have hmem : ∀ s x, x ∈ srtL (rowL L p.S L.length s) → x ∈ L := fun s x hx => rowL_mem rfl (srtL_mem hx)
 have hgk : ∀ i j, i < L.length → j < L.length → (lnAt L i).g = (lnAt L j).g → vx L i false = vx L j false := fun i j hi hj e => by show (lnAt L i).g.toNat = (lnAt L j).g.toNat; rw [e]
 have htk : ∀ i j, i < L.length → j < L.length → (lnAt L i).t = (lnAt L j).t → vx L i true = vx L j true := fun i j hi hj e => by show (lnAt L i).t.toNat = (lnAt L j).t.toNat; rw [e]
 have hone := fun (s : Nat) (hs : s < z) {a b : Nat} ha hb hab => row_one (a := a) (b := b) hC hs (fun x => x.g) false hgk ha hb hab
 have hone2 := fun (s : Nat) (hs : s < z) {a b : Nat} ha hb hab => row_one (a := a) (b := b) hC hs (fun x => x.t) true htk ha hb hab
 refine ⟨?_, fun l hl q hq => ?_⟩
 · unfold rfitB
   simp only [Bool.and_eq_true, decide_eq_true_eq]
   refine ⟨?_, ?_, ?_, ?_⟩
   · rw [hz]; simp [tabX]
   · refine List.all_eq_true.2 fun l hl => ?_
     obtain ⟨s, hs, rfl⟩ := List.mem_map.1 hl
     have hs := List.mem_range.1 hs
     unfold sltB
     simp only [Bool.and_eq_true, decide_eq_true_eq]
     refine ⟨?_, ?_, ?_⟩
     · rw [srtL_len, rowL_len]; exact hro s hs
     · refine List.all_eq_true.2 fun x hx => ?_
       obtain ⟨a, b, t, rfl, h1, h2, h3, h4⟩ := hA.rng x (hmem s x hx)
       unfold lesB
       simp only [Bool.and_eq_true, inB_iff]
       exact ⟨by omega, by omega, by omega, h4⟩
     · refine alN_iff.2 fun i hi => ?_
       unfold dsB
       refine alN_iff.2 fun k hk => ?_
       unfold cfB
       have q1 := hone s hs hi (show k < _ by omega) (show i ≠ k by omega)
       have q2 := hone2 s hs hi (show k < _ by omega) (show i ≠ k by omega)
       rw [beq_false_of_ne q1, beq_false_of_ne q2]; rfl
   · unfold hoB
     refine alN_iff.2 fun a ha => alN_iff.2 fun b hb => ?_
     rw [cntP_cGU _ (by omega)]
     have h1 := hA.cnt a ha b hb
     unfold rowP at h1
     rw [← h1]
     have : cGU (tabX L p.S L.length z).flatten a b = cGU L a b := tab_sum (fun x => b1 (decide (x.g = (a : Int) ∧ x.j = (b : Int)))) L p.S z hS
     rw [this]; exact beq_self_eq_true _
   · refine alN_iff.2 fun t ht => decide_eq_true ?_
     have : cntT (tabX L p.S L.length z).flatten t = cntT L t := tab_sum (fun x => b2i (decide (x.t = (t : Int)))) L p.S z hS
     rw [this]
     have h1 := hA.tea t ht
     unfold tmB timeP at h1
     omega
 · obtain ⟨s, hs, rfl⟩ := List.mem_map.1 hl
   have hs := List.mem_range.1 hs
   have h1 := srt_sorted (lnAt (rowL L p.S L.length s)) (rowL L p.S L.length s).length q (q + 1) (by omega) (by rw [srtL_len] at hq; exact hq)
   have h2 := hone s hs (show q < _ by omega) hq (show q ≠ q + 1 by omega)
   rw [← srtL_at (by rw [srtL_len] at hq; omega), ← srtL_at (by rw [srtL_len] at hq; exact hq)] at h1
   omega
end Go.Proofs.YtkbfcofifhngfaaGreat
namespace Go.Proofs.YtkbfcofifhngfaaGreat
open Go Tx Go.RowKit
theorem mBz (sl ro su : Int) (gs ts : Value) (lo : Option Addr) (lc : Nat) (A B : Nat → Int) {k : Nat} (hk : 4 ≤ k) : mB k [(0, .cells (.v (iv sl) :: .v (iv ro) :: .v (iv su) :: .v gs :: .v ts :: .v (.slice lo 0 lc) :: .v (.slice none 0 0) :: (tbS 320 A ++ tbS 320 B)) 93), (3, .cells [.v (iv sl), .v (iv ro), .v (iv su), .v gs, .v ts] 34)] = true := by
 have h1 : SV.lts k (tbS 320 A ++ tbS 320 B) = true := lts_append (tbS_lt _ _ _) (tbS_lt _ _ _)
 have h2 : Nat.blt 0 k = true := by rw [Nat.blt_eq]; omega
 have h3 : Nat.blt 3 k = true := by rw [Nat.blt_eq]; omega
 simp only [mB, Blk.lt, SV.lts, SV.lt, h1, h2, h3]; rfl
theorem mBw (sl ro su : Int) (gs ts : Value) (lo : Option Addr) (lc : Nat) (A B : Nat → Int) (y : Nat) (X : List Value) : mB 6 [(4, .own 5 (y + 1) 1 X 3), (0, .cells (.v (iv sl) :: .v (iv ro) :: .v (iv su) :: .v gs :: .v ts :: .v (.slice lo 0 lc) :: .v (.slice none 0 0) :: (tbS 320 A ++ tbS 320 B)) 93), (3, .cells [.v (iv sl), .v (iv ro), .v (iv su), .v gs, .v ts] 34)] = true := by
 have h1 : SV.lts 6 (tbS 320 A ++ tbS 320 B) = true := lts_append (tbS_lt _ _ _) (tbS_lt _ _ _)
 simp only [mB, Blk.lt, SV.lts, SV.lt, h1]; rfl
theorem mBy (sl ro su : Int) (gs ts : Value) (lo : Option Addr) (lc : Nat) (A B : Nat → Int) (z : Nat) : mB 6 [(0, .cells (.v (iv sl) :: .v (iv ro) :: .v (iv su) :: .v gs :: .v ts :: .v (.slice lo 0 lc) :: .v (.slice none 0 0) :: (tbS 320 A ++ tbS 320 B)) 93), (4, .mix 5 z 1 [] ((outV z F00).map .v) 44)] = true := by
 have h1 : SV.lts 6 (tbS 320 A ++ tbS 320 B) = true := lts_append (tbS_lt _ _ _) (tbS_lt _ _ _)
 simp only [mB, Blk.lt, SV.lts, SV.lt, lts_v, h1]; rfl
theorem T9z (w : World) (z : Nat) (sl ro su : Int) (gs ts : Value) (lo : Option Addr) (lc : Nat) (A B : Nat → Int) {Φ : Exit → Sg → Prop}
 (hr : VC Tryz.prog (rest 10 body13) ⟨139, [(12, .os 4 5 z)], [(4, .mix 5 z 1 [] ((outV z F00).map .v) 44)], 6, fun w' => Below w.heap.size w w' ∧ OutOK w.heap.size z F00 w', z0⟩ Φ) :
 VC Tryz.prog (rest 9 body13) ⟨139, [(6, .ptr 0 0), (12, .os 4 5 z)], [(0, .cells (.v (iv sl) :: .v (iv ro) :: .v (iv su) :: .v gs :: .v ts :: .v (.slice lo 0 lc) :: .v (.slice none 0 0) :: (tbS 320 A ++ tbS 320 B)) 93), (4, .mix 5 z 1 [] ((outV z F00).map .v) 44)], 6, fun w' => Below w.heap.size w w' ∧ OutOK w.heap.size z F00 w', z0⟩ Φ := by
 refine VC.cutE env mixed 1 6 (fun _ : Unit => [(12, .os 4 5 z)]) (fun _ => [(4, .mix 5 z 1 [] ((outV z F00).map .v) 44)]) (fun _ => True) (fun _ _ => ⟨rfl, by simp only [mB, Blk.lt, lts_v, SV.lts]; rfl⟩) ?_ (fun _ _ => hr)
 repeat'
  conv => whnf
  first
   |refine zB ?_
   |refine nlC rfl rfl ?_
 refine loopN 6 (fun _ : Unit => [(12, .os 4 5 z), (106, .v (iv 0)), (107, .v (iv 0))]) (fun _ => [(4, .mix 5 z 1 [] ((outV z F00).map .v) 44)]) (fun _ => True) (fun _ => 0) () trivial ⟨rfl, rfl, rfl, trivial⟩ ⟨rfl, trivial⟩ (fun _ _ => ⟨rfl, by simp only [mB, Blk.lt, lts_v, SV.lts]; rfl⟩) ?_
 intro _ _
 repeat'
  conv => whnf
  first
   |refine splF ?_
 all_goals exact ⟨rfl, (), trivial, Ent.weak rfl ⟨rfl, trivial⟩ ⟨rfl, trivial⟩ fun _ h => h⟩
theorem T8z (w : World) (z : Nat) (sl ro su : Int) (gs ts : Value) (lo : Option Addr) (lc : Nat) (A B : Nat → Int) (hsl : sl = z) (hz : z ≤ 40) {Φ : Exit → Sg → Prop}
 (hr : VC Tryz.prog (rest 9 body13) ⟨139, [(6, .ptr 0 0), (12, .os 4 5 z)], [(0, .cells (.v (iv sl) :: .v (iv ro) :: .v (iv su) :: .v gs :: .v ts :: .v (.slice lo 0 lc) :: .v (.slice none 0 0) :: (tbS 320 A ++ tbS 320 B)) 93), (4, .mix 5 z 1 [] ((outV z F00).map .v) 44)], 6, fun w' => Below w.heap.size w w' ∧ OutOK w.heap.size z F00 w', z0⟩ Φ) :
 VC Tryz.prog (rest 8 body13) ⟨139, [(1, .ptr 3 0), (6, .ptr 0 0)], [(0, .cells (.v (iv sl) :: .v (iv ro) :: .v (iv su) :: .v gs :: .v ts :: .v (.slice lo 0 lc) :: .v (.slice none 0 0) :: (tbS 320 A ++ tbS 320 B)) 93), (3, .cells [.v (iv sl), .v (iv ro), .v (iv su), .v gs, .v ts] 34)], 4, Below w.heap.size w, z0⟩ Φ := by
 subst hsl
 refine VC.eq c13_8 (VC.sq (VC.of env mixed ?_))
 repeat'
  conv => whnf
  first
   |refine zB ?_
   |refine mkO env 4 z (outV z F00) rfl rfl rfl (by decide) rfl (by omega) (by decide) (outV_nil _) rfl ?_
 conv => whnf
 exact VC.dis (α := Unit) (I := fun _ => ⟨139, [(6, .ptr 0 0), (12, .os 4 5 z)], [(0, .cells (.v (iv (z : Int)) :: .v (iv ro) :: .v (iv su) :: .v gs :: .v ts :: .v (.slice lo 0 lc) :: .v (.slice none 0 0) :: (tbS 320 A ++ tbS 320 B)) 93), (4, .mix 5 z 1 [] ((outV z F00).map .v) 44)], 6, fun w' => Below w.heap.size w w' ∧ OutOK w.heap.size z F00 w', z0⟩) (pre := fun _ => True)
  (Dis.mk3 (w0 := w) id [] rfl (fun i hi => by cases hi) (fun w' h => h) (fun β w1 hok hw1 hge => ⟨(), trivial, ⟨⟨_, rfl, rfl⟩, ⟨_, rfl, rfl⟩, trivial⟩, ⟨⟨rfl, _, rfl, fun _ => rfl, fun w2 y hy => hy⟩, ⟨rfl, _, rfl, fun _ => rfl, fun w2 y hy => by simp only [Blk.ok, cs_v] at hy ⊢; exact hy⟩, trivial⟩, rfl, fun w2 hw2 _ => ⟨hw2, fun s hs => ⟨fun _ => rfl, fun q hq => by cases hq⟩⟩⟩))
  (fun _ _ => okB rfl (mBy _ _ _ _ _ _ _ _ _ _) rfl) (fun _ _ => hr)
theorem maxF_rep (n : Nat) : maxF 0 (List.replicate n 0) = 0 := by
 have h := (maxF_spec (List.replicate n 0) 0).1
 rw [← List.replicate_succ] at h
 exact List.eq_of_mem_replicate h
theorem T7z (w : World) (z : Nat) (sl ro su : Int) (gs ts : Value) (lo : Option Addr) (lc : Nat) (A B : Nat → Int) (hsl : sl = z) (hz1 : 1 ≤ z) (hz : z ≤ 40) (hro : 1 ≤ ro ∧ ro ≤ 6) {Φ : Exit → Sg → Prop}
 (hr : VC Tryz.prog (rest 8 body13) ⟨139, [(1, .ptr 3 0), (6, .ptr 0 0)], [(0, .cells (.v (iv sl) :: .v (iv ro) :: .v (iv su) :: .v gs :: .v ts :: .v (.slice lo 0 lc) :: .v (.slice none 0 0) :: (tbS 320 A ++ tbS 320 B)) 93), (3, .cells [.v (iv sl), .v (iv ro), .v (iv su), .v gs, .v ts] 34)], 4, Below w.heap.size w, z0⟩ Φ) :
 VC Tryz.prog (rest 7 body13) ⟨139, [(1, .ptr 3 0), (6, .ptr 0 0)], [(0, .cells (.v (iv sl) :: .v (iv ro) :: .v (iv su) :: .v gs :: .v ts :: .v (.slice lo 0 lc) :: .v (.slice none 0 0) :: (tbS 320 A ++ tbS 320 B)) 93), (3, .cells [.v (iv sl), .v (iv ro), .v (iv su), .v gs, .v ts] 34)], 4, Below w.heap.size w, z0⟩ Φ := by
 subst hsl
 obtain ⟨y, rfl⟩ : ∃ y, z = y + 1 := ⟨z - 1, by omega⟩
 have h42 := fun (b d : Nat) (w' : World) (ho : w'.ownsRow 0 3 1 (.slice (some ⟨b, 0, none⟩) (y + 1) d) (y + 1) (tbV (y + 1) fun t => 0)) => by
  have h1 : tbV (y + 1) (fun _ => 0) = ((0 : Int) :: List.replicate y 0).flatMap iF := by
   rw [fIv, ← List.replicate_succ, List.map_replicate, tbV, List.map_const', List.length_range]
  have h2 : Rd 1 iF (.slice (some ⟨b, 0, none⟩) (y + 1) d) ((0 : Int) :: List.replicate y 0) w' := by
   rw [h1] at ho
   exact Rd.of_owns (sz := 1) (f := iF) (bs := (0 : Int) :: List.replicate y 0) (fun _ => rfl) rfl (by simp) ho
  have h3 := Max_ok 0 (List.replicate y 0) (some ⟨b, 0, none⟩) d w' (by rw [show ((0 : Int) :: List.replicate y 0).length = y + 1 from by simp]; exact h2) (by simp; omega)
  rw [maxF_rep, show ((0 : Int) :: List.replicate y 0).length = y + 1 from by simp] at h3
  exact h3
 refine VC.cutE env mixed 1 4 (fun _ : Unit => [(1, .ptr 3 0), (6, .ptr 0 0)]) (fun _ => [(0, .cells (.v (iv ((y + 1 : Nat) : Int)) :: .v (iv ro) :: .v (iv su) :: .v gs :: .v ts :: .v (.slice lo 0 lc) :: .v (.slice none 0 0) :: (tbS 320 A ++ tbS 320 B)) 93), (3, .cells [.v (iv ((y + 1 : Nat) : Int)), .v (iv ro), .v (iv su), .v gs, .v ts] 34)]) (fun _ => True) (fun _ _ => ⟨rfl, mBz _ _ _ _ _ _ _ _ _ (Nat.le_refl _)⟩) ?_ (fun _ _ => hr)
 skip
 refine loopN 4 (fun _ : Unit => [(1, .ptr 3 0), (6, .ptr 0 0)]) (fun _ => [(0, .cells (.v (iv ((y + 1 : Nat) : Int)) :: .v (iv ro) :: .v (iv su) :: .v gs :: .v ts :: .v (.slice lo 0 lc) :: .v (.slice none 0 0) :: (tbS 320 A ++ tbS 320 B)) 93), (3, .cells [.v (iv ((y + 1 : Nat) : Int)), .v (iv ro), .v (iv su), .v gs, .v ts] 34)]) (fun _ => True) (fun _ => 0) () trivial ⟨rfl, rfl, trivial⟩ ⟨rfl, rfl, trivial⟩ (fun _ _ => ⟨rfl, mBz _ _ _ _ _ _ _ _ _ (Nat.le_refl _)⟩) ?_
 intro _ _
 repeat'
  conv => whnf
  first
   |refine zB ?_|refine zD ?_
   |((with_reducible show CallEv _ _ 41 ..); refine callI env mixed 1000 [1, 6] Tryz.func41 has41 Tryz.ntmps41 (Nat.le_of_ble_eq_true rfl) rfl rfl rfl ?_)
   |refine nlC rfl rfl ?_
   |refine mkO1 env 4 (y + 1) (tbV (y + 1) fun _ => 0) rfl rfl rfl (by decide) rfl (by omega) (by decide) (mk0 _) rfl ?_
 refine loopN 6 (fun _ : Unit => [(3, .os 4 5 (y + 1)), (16, .v (iv 0)), (17, .v (iv 0))]) (fun _ => [(4, .own 5 (y + 1) 1 (tbV (y + 1) fun _ => 0) 3), (0, .cells (.v (iv ((y + 1 : Nat) : Int)) :: .v (iv ro) :: .v (iv su) :: .v gs :: .v ts :: .v (.slice lo 0 lc) :: .v (.slice none 0 0) :: (tbS 320 A ++ tbS 320 B)) 93), (3, .cells [.v (iv ((y + 1 : Nat) : Int)), .v (iv ro), .v (iv su), .v gs, .v ts] 34)]) (fun _ => True) (fun _ => 0) () trivial ⟨rfl, rfl, rfl, trivial⟩ ⟨rfl, rfl, rfl, trivial⟩ (fun _ _ => ⟨rfl, mBw _ _ _ _ _ _ _ _ _ _ _⟩) ?_
 intro _ _
 repeat'
  conv => whnf
  first
   |refine zB ?_|refine zD ?_|refine splF ?_
   |(refine splD ?_ ?_ <;> intro hc <;> first|(exfalso; omega)|skip)
   |((with_reducible show CallEv _ _ 42 ..); refine callM [4] (fun β w' hbk hbw => h42 (β 4) (β 5) w' (hbk 4 (by simp) _ rfl)) ?_)
 all_goals exact ⟨rfl, (), trivial, Ent.weak rfl ⟨rfl, rfl, trivial⟩ ⟨rfl, rfl, trivial⟩ fun _ h => h⟩
theorem T6z (w : World) (sl ro su : Int) (gs ts : Value) (lo : Option Addr) (lc : Nat) (A B : Nat → Int) {Φ : Exit → Sg → Prop}
 (hr : VC Tryz.prog (rest 7 body13) ⟨139, [(1, .ptr 3 0), (6, .ptr 0 0)], [(0, .cells (.v (iv sl) :: .v (iv ro) :: .v (iv su) :: .v gs :: .v ts :: .v (.slice lo 0 lc) :: .v (.slice none 0 0) :: (tbS 320 A ++ tbS 320 B)) 93), (3, .cells [.v (iv sl), .v (iv ro), .v (iv su), .v gs, .v ts] 34)], 4, Below w.heap.size w, z0⟩ Φ) :
 VC Tryz.prog (rest 6 body13) ⟨139, [(1, .ptr 3 0), (6, .ptr 0 0)], [(0, .cells (.v (iv sl) :: .v (iv ro) :: .v (iv su) :: .v gs :: .v ts :: .v (.slice lo 0 lc) :: .v (.slice none 0 0) :: (tbS 320 A ++ tbS 320 B)) 93), (3, .cells [.v (iv sl), .v (iv ro), .v (iv su), .v gs, .v ts] 34)], 4, Below w.heap.size w, z0⟩ Φ := by
 refine VC.cutE env mixed 1 4 (fun _ : Unit => [(1, .ptr 3 0), (6, .ptr 0 0)]) (fun _ => [(0, .cells (.v (iv sl) :: .v (iv ro) :: .v (iv su) :: .v gs :: .v ts :: .v (.slice lo 0 lc) :: .v (.slice none 0 0) :: (tbS 320 A ++ tbS 320 B)) 93), (3, .cells [.v (iv sl), .v (iv ro), .v (iv su), .v gs, .v ts] 34)]) (fun _ => True) (fun _ _ => ⟨rfl, mBz _ _ _ _ _ _ _ _ _ (Nat.le_refl _)⟩) ?_ (fun _ _ => hr)
 repeat'
  conv => whnf
  first
   |refine zB ?_
   |refine nlC rfl rfl ?_
 refine loopN 4 (fun _ : Unit => [(1, .ptr 3 0), (6, .ptr 0 0), (74, .v (iv 0)), (75, .v (iv 0))]) (fun _ => [(0, .cells (.v (iv sl) :: .v (iv ro) :: .v (iv su) :: .v gs :: .v ts :: .v (.slice lo 0 lc) :: .v (.slice none 0 0) :: (tbS 320 A ++ tbS 320 B)) 93), (3, .cells [.v (iv sl), .v (iv ro), .v (iv su), .v gs, .v ts] 34)]) (fun _ => True) (fun _ => 0) () trivial ⟨rfl, rfl, rfl, rfl, trivial⟩ ⟨rfl, rfl, trivial⟩ (fun _ _ => ⟨rfl, mBz _ _ _ _ _ _ _ _ _ (Nat.le_refl _)⟩) ?_
 intro _ _
 repeat'
  conv => whnf
  first
   |refine splF ?_
 all_goals exact ⟨rfl, (), trivial, Ent.weak rfl ⟨rfl, rfl, trivial⟩ ⟨rfl, rfl, trivial⟩ fun _ h => h⟩
theorem vP_fill (te : Bool) {g s z : Nat} (hz : z ≤ 40) (hg : g < 8) (hs : s < z) : vP ⟨fun _ => -1, fillF 320, fillF 320⟩ te g s = -1 := by
 have : ∀ k, k < 320 → fillF 320 k = -1 := fun k hk => if_pos hk
 unfold vP
 cases te <;> exact this _ (by omega)
theorem cons0 (L : List Ln) {z : Nat} (hz : z ≤ 40) : Cons L z ⟨fun _ => -1, fillF 320, fillF 320⟩ :=
 ⟨fun i hi => .inl rfl, fun i hi s h => by have h : (-1 : Int) = (s : Int) := h; omega, fun te g s hg hs => .inl (vP_fill te hz hg hs)⟩
theorem negR_fm (n : Nat) : (negR n).flatMap iF = tbV n fun _ => -1 := by
 rw [fIv, negR, List.map_replicate, tbV, List.map_const', List.length_range]
theorem errT0 {D : SD} (hv : scOk D = true) (hw : rWhy D = none) : errT D = 0 := by
 unfold errT; rw [hv, hw]; rfl
theorem Table_main (D : SD) (sl ro su : Int) (go to : Option Addr) (gc tc : Nat) (G : List Rw) (T : List Tc) (hD : D = (⟨sl, ro, su, go, gc, G, to, tc, T⟩ : Sc).d) (w : World) (hv : scOk D = true) (hw : rWhy D = none) (o : Option Addr) (c : Nat) (L : List Ln) (hA : AllOK D L) (hy : L ≠ [] → ∃ ad, o = some ad) :
 VC Tryz.prog (rest 4 body13) ⟨139, [(1, .ptr 3 0), (6, .ptr 0 0)], [(0, .cells (.v (iv sl) :: .v (iv ro) :: .v (iv su) :: .v (.slice go G.length gc) :: .v (.slice to T.length tc) :: .v (.slice o L.length c) :: .v (.slice none 0 0) :: (tbS 320 (fillF 0) ++ tbS 320 (fillF 0))) 93), (3, .cells [.v (iv sl), .v (iv ro), .v (iv su), .v (.slice go G.length gc), .v (.slice to T.length tc)] 34)], 4, fun w' => Below w.heap.size w w' ∧ St w.heap.size (Rd 3 Ln.cs (.slice o L.length c) L) w', z0⟩ (endΦ env Tryz.f13 fun s σ => (∀ w', σ.h w' → Below w.heap.size w w') ∧ ∀ β w', σ.h w' → (∀ i b, lk σ.m i = some b → b.live = true → St w.heap.size (fun w2 => b.ok β w2 (β i)) w') → ∃ x : TabF D, s.c β = x.v ∧ St w.heap.size (TbL x.o x.c x.R) w') := by
 have hn := noWhy hw
 obtain ⟨hv1, hv2, hv3, hv4, hv5, hv6, hv7⟩ := scOk_iff.1 hv
 have he := errT0 hv hw
 have hmv := all_memV hv hA hn
 have hal := all_len hv hA hn
 have hlen := hA.len
 have hsl : D.sl = sl := by rw [hD]; rfl
 have hro : D.ro = ro := by rw [hD]; rfl
 obtain ⟨z, hz⟩ : ∃ z : Nat, sl = z := ⟨sl.toNat, by omega⟩
 have hz1 : 1 ≤ z := by omega
 have hz40 : z ≤ 40 := by omega
 have hx : ∀ x ∈ L, 0 ≤ x.g ∧ x.g ≤ 7 ∧ 0 ≤ x.t ∧ x.t ≤ 7 := fun x hx => by
  obtain ⟨a, b, t, rfl, h1, h2, h3, h4⟩ := hA.rng x hx
  dsimp only; omega
 have hfin := fun (p : Pn) (hC : Cons L z p) (hS : ∀ i, i < L.length → ∃ s : Nat, s < z ∧ p.S i = s) (hc : ∀ s, s < z → cntS p.S L.length s ≤ ro) => tab_fit hv hA (hsl.trans hz) hC hS (fun s hs => by rw [hro]; exact hc s hs)
 refine T4 _ _ _ _ _ _ _ _ (T5 _ _ _ _ _ _ _ _ _ _ (by omega) ?_)
 cases L with
 | nil =>
  refine VC.ent (T6z w sl ro su (.slice go G.length gc) (.slice to T.length tc) o c (fillF 320) (fillF 320) (T7z w z sl ro su (.slice go G.length gc) (.slice to T.length tc) o c (fillF 320) (fillF 320) hz hz1 hz40 (by omega) (T8z w z sl ro su (.slice go G.length gc) (.slice to T.length tc) o c (fillF 320) (fillF 320) hz hz40 (T9z w z sl ro su (.slice go G.length gc) (.slice to T.length tc) o c (fillF 320) (fillF 320) (T10 D w z F00 hz40 (fun s hs => ⟨Nat.zero_le _, fun x hx => by cases hx⟩) (fun s s' _ _ _ p p' h => by cases h) he ?_))))) (Ent.weak rfl ⟨rfl, rfl, trivial⟩ ⟨rfl, rfl, trivial⟩ fun w' h => h.1) (okB rfl (mBz _ _ _ _ _ _ _ _ _ (Nat.le_refl _)) rfl)
  exact hfin ⟨fun _ => -1, fillF 320, fillF 320⟩ (cons0 _ hz40) (fun i hi => by cases hi) (fun s hs => by show (0 : Int) ≤ ro; omega)
 | cons x0 l0 =>
  obtain ⟨ad, rfl⟩ := hy (by simp)
  generalize hL : x0 :: l0 = L at *
  have hlp : 1 ≤ L.length := by rw [← hL]; simp
  have key : ∀ n : Nat, 1 ≤ n → MSub ((0, .cells (.v (iv sl) :: .v (iv ro) :: .v (iv su) :: .v (.slice go G.length gc) :: .v (.slice to T.length tc) :: .v (.slice (some ad) n c) :: oSV 1 2 (negR n) :: (tbS 320 (fillF 320) ++ tbS 320 (fillF 320))) 93) :: (3, .cells [.v (iv sl), .v (iv ro), .v (iv su), .v (.slice go G.length gc), .v (.slice to T.length tc)] 34) :: oM 1 2 1 iF 3 (negR n)) [(0, .cells (.v (iv sl) :: .v (iv ro) :: .v (iv su) :: .v (.slice go G.length gc) :: .v (.slice to T.length tc) :: .v (.slice (some ad) n c) :: .os 1 2 n :: (tbS 320 (fillF 320) ++ tbS 320 (fillF 320))) 93), (1, .own 2 n 1 (tbV n fun _ => -1) 3), (3, .cells [.v (iv sl), .v (iv ro), .v (iv su), .v (.slice go G.length gc), .v (.slice to T.length tc)] 34)] := fun n h1 => by
   have e1 := negR_len n
   have e2 := negR_fm n
   cases hR : negR n with
   | nil => rw [hR] at e1; simp at e1; omega
   | cons a R =>
    rw [hR] at e1 e2
    have e1 : R.length + 1 = n := e1
    rw [← e2, ← e1]
    exact ⟨rfl, rfl, rfl, trivial⟩
  refine VC.ent (T6 w z sl ro su (.slice go G.length gc) (.slice to T.length tc) ad L.length c L ⟨fun _ => -1, fillF 320, fillF 320⟩ rfl (by omega) hz hz40 hx (cons0 L hz40) (fun i hi => rfl) (fun i hi te => by have := hmv i hi te; omega) (fun p hC hS => T7 w z sl ro su (.slice go G.length gc) (.slice to T.length tc) ad L.length c L p rfl (by omega) hz hz1 hz40 (by omega) hx (by rw [hro, hsl, hz] at hal; exact hal) hC hS (fun p hC hS hc => T8 w z sl ro su (.slice go G.length gc) (.slice to T.length tc) ad L.length c L p hz hz40 (T9 D w z sl ro su (.slice go G.length gc) (.slice to T.length tc) ad L.length c L p rfl hlp (by omega) hz40 hS (fun x h => ⟨(hx x h).1, (hx x h).2.1⟩) (fun s hs => by have h1 := hc s hs; have h2 := rowL_len L p.S s L.length; omega) he (hfin p hC hS hc))))) (Ent.weak rfl ⟨rfl, rfl, trivial⟩ (key _ hlp) fun w' h => ⟨h.1, h.2.now⟩) (okB rfl ?_ rfl)
  have h1 := mB_up (mPl ⟨sl, ro, su, .slice go G.length gc, .slice to T.length tc, some ad, L.length, c, L⟩ ⟨fun _ => -1, fillF 320, fillF 320⟩) (show 3 ≤ 4 by omega)
  exact mB_app h1 (m' := [(3, Blk.cells [.v (iv sl), .v (iv ro), .v (iv su), .v (.slice go G.length gc), .v (.slice to T.length tc)] 34)]) rfl
theorem mB0 (sl ro su : Int) (gs ts : Value) (lo : Option Addr) (n lc : Nat) : mB 4 [(0, .cells (.v (iv sl) :: .v (iv ro) :: .v (iv su) :: .v gs :: .v ts :: .v (.slice lo n lc) :: .v (.slice none 0 0) :: (tbS 320 (fillF 0) ++ tbS 320 (fillF 0))) 93), (3, .cells [.v (iv sl), .v (iv ro), .v (iv su), .v gs, .v ts] 34)] = true := by
 have h1 : SV.lts 4 (tbS 320 (fillF 0) ++ tbS 320 (fillF 0)) = true := lts_append (tbS_lt _ _ _) (tbS_lt _ _ _)
 simp only [mB, Blk.lt, SV.lts, SV.lt, h1]; rfl
theorem VC.pure {P : Program} {c : Code} {σ : Sg} {Φ : Exit → Sg → Prop} {p : Prop} (hp : ∀ w, σ.h w → p) (h : p → VC P c σ Φ) : VC P c σ Φ := by
 intro F n X a w hF hlp hok hsat
 obtain ⟨β, D, hs⟩ := hsat
 exact h (hp w (hs.h w (Chg.refl _ _))) F n X a w hF hlp hok ⟨β, D, hs⟩
theorem c13_3 : rest 3 body13 = .seq (.region 6 (hdO (rest 3 body13)) true) (rest 4 body13) := by kernel_rfl
theorem Table_ok (s : Sc) (w : World) (h : ScIn s w) (hB : ScB s) :
 Calls Tryz.prog 13 #[s.v] w fun e w' => ∃ y : TabF s.d, e = .returned y.v ∧ Below w.heap.size w w' ∧ St w.heap.size (TbL y.o y.c y.R) w' := by
 have c37 := fun (w' : World) (hw : Below w.heap.size w w') => valid_ok s w' (h.below hw) hB
 cases hv : scOk s.d with
 | false =>
  rw [hv] at c37
  have e1 : errT s.d = 1 := by unfold errT; rw [hv]; rfl
  have hend : ∃ x : TabF s.d, Value.tuple #[.slice none 0 0, iv 1] = x.v ∧ ∀ w', St w.heap.size (TbL x.o x.c x.R) w' := ⟨⟨none, 0, [], fun h => (by rw [e1] at h; cases h), fun _ => rfl⟩, congrArg (fun v => Value.tuple #[.slice none 0 0, iv v]) e1.symm, fun w' w2 _ => ⟨.inl ⟨rfl, rfl⟩, fun r hr => by cases hr⟩⟩
  generalize s.d = D at *
  obtain ⟨sl, ro, su, go, gc, G, to, tc, T⟩ := s
  refine calls_fam env mixed Tryz.func13 has13 Tryz.ntmps13 [.agg #[iv sl, iv ro, iv su, .slice go G.length gc, .slice to T.length tc]] (by simp) ?_
  repeat'
   conv => whnf
   first
    |refine zD ?_|refine splT ?_
    |((with_reducible show CallEv _ _ 37 ..); refine callE (fun β w' hbw => c37 _ hbw) ?_)
  all_goals exact ⟨fun w' h => h, fun β w' hB hblk => by obtain ⟨x, h1, h2⟩ := hend; exact ⟨x, h1, h2 w'⟩⟩
 | true =>
  rw [hv] at c37
  have c38 := fun (w' : World) (hw : Below w.heap.size w w') => famS hw (why_ok s w' (h.below hw) hB hv)
  cases hr : rWhy s.d with
  | some r =>
   rw [hr] at c38
   have e1 : errT s.d = 9 := by unfold errT; rw [hv, hr]; rfl
   have hend : ∃ x : TabF s.d, Value.tuple #[.slice none 0 0, iv 9] = x.v ∧ ∀ w', St w.heap.size (TbL x.o x.c x.R) w' := ⟨⟨none, 0, [], fun h => (by rw [e1] at h; cases h), fun _ => rfl⟩, congrArg (fun v => Value.tuple #[.slice none 0 0, iv v]) e1.symm, fun w' w2 _ => ⟨.inl ⟨rfl, rfl⟩, fun r hr => by cases hr⟩⟩
   generalize s.d = D at *
   obtain ⟨sl, ro, su, go, gc, G, to, tc, T⟩ := s
   refine calls_fam env mixed Tryz.func13 has13 Tryz.ntmps13 [.agg #[iv sl, iv ro, iv su, .slice go G.length gc, .slice to T.length tc]] (by simp) ?_
   repeat'
    conv => whnf
    first
     |refine zC ?_|refine zD ?_|refine splT ?_|refine splF ?_
     |((with_reducible show CallEv _ _ 37 ..); refine callE (fun β w' hbw => c37 _ hbw) ?_)
     |((with_reducible show CallEv _ _ 38 ..); refine callF [] (fun y : RnF (some r) => .tuple #[y.1.v, .bool (some r : Option RD).isSome]) (fun y => St w.heap.size (Rd 1 iF (.slice y.1.o y.1.L.length y.1.c) y.1.L)) (fun β w' _ hbw => c38 w' (by repeat (first | exact hbw | replace hbw := hbw.1))) ?_; intro y)
   all_goals exact ⟨fun w' h => h.1, fun β w' hB hblk => by obtain ⟨x, h1, h2⟩ := hend; exact ⟨x, h1, h2 w'⟩⟩
  | none =>
   rw [hr] at c38
   have hnw := (noWhy hr).un
   have c39 := fun (w' : World) (hw : Below w.heap.size w w') => by
    have h0 := famS hw (all_ok s w' (h.below hw) hB hv hnw)
    exact (h0.mono fun e w2 ⟨y, h1, h2, h3⟩ => (⟨⟨y.o, y.c, y.L⟩, h1, h2, fun w3 k3 => ⟨⟨y.h, fun hne => by
     obtain ⟨_, ad, h4, _⟩ := h3.now.now.ptr (List.length_pos_iff.2 hne)
     exact ⟨ad, h4⟩⟩, h3 w3 k3⟩⟩ : ∃ y : Lr, e = Ending.returned (.slice y.o y.L.length y.c) ∧ Below w'.heap.size w' w2 ∧ St w'.heap.size (fun w3 => (AllOK s.d y.L ∧ (y.L ≠ [] → ∃ ad, y.o = some ad)) ∧ St w.heap.size (Rd 3 Ln.cs (.slice y.o y.L.length y.c) y.L) w3) w2))
   have hmain := Table_main s.d s.sl s.ro s.su s.go s.to s.gc s.tc s.G s.T rfl w hv hr
   generalize s.d = D at *
   obtain ⟨sl, ro, su, go, gc, G, to, tc, T⟩ := s
   dsimp only at hmain
   refine calls_famV env mixed Tryz.func13 has13 Tryz.ntmps13 [.agg #[iv sl, iv ro, iv su, .slice go G.length gc, .slice to T.length tc]] (by simp) ?_
   refine VC.cutE env mixed 3 2 (fun _ : Unit => [(1, .ptr 0 0)]) (fun _ => [(0, .cells [.v (iv sl), .v (iv ro), .v (iv su), .v (.slice go G.length gc), .v (.slice to T.length tc)] 34)]) (fun _ => True) (fun _ _ => ⟨rfl, rfl⟩) ?_ (fun _ _ => ?_)
   · skip
     repeat'
      conv => whnf
      first
       |refine zC ?_|refine zD ?_|refine splF ?_
       |((with_reducible show CallEv _ _ 37 ..); refine callE (fun β w' hbw => c37 _ hbw) ?_)
       |((with_reducible show CallEv _ _ 38 ..); refine callF [] (fun y : RnF none => .tuple #[y.1.v, .bool (none : Option RD).isSome]) (fun y => St w.heap.size (Rd 1 iF (.slice y.1.o y.1.L.length y.1.c) y.1.L)) (fun β w' _ hbw => c38 w' (by repeat (first | exact hbw | replace hbw := hbw.1))) ?_; intro y)
     all_goals exact ⟨rfl, (), trivial, Ent.weak rfl ⟨rfl, trivial⟩ ⟨rfl, trivial⟩ fun _ h => h.1⟩
   · have hm2 : ∀ y : Lr, VC Tryz.prog (rest 4 body13) ⟨139, [(1, .ptr 3 0), (6, .ptr 0 0)], [(0, .cells (.v (iv sl) :: .v (iv ro) :: .v (iv su) :: .v (.slice go G.length gc) :: .v (.slice to T.length tc) :: .v (.slice y.o y.L.length y.c) :: .v (.slice none 0 0) :: (tbS 320 (fillF 0) ++ tbS 320 (fillF 0))) 93), (3, .cells [.v (iv sl), .v (iv ro), .v (iv su), .v (.slice go G.length gc), .v (.slice to T.length tc)] 34)], 4, fun w' => Below w.heap.size w w' ∧ (AllOK D y.L ∧ (y.L ≠ [] → ∃ ad, y.o = some ad)) ∧ St w.heap.size (Rd 3 Ln.cs (.slice y.o y.L.length y.c) y.L) w', z0⟩ (endΦ env Tryz.f13 fun s σ => (∀ w', σ.h w' → Below w.heap.size w w') ∧ ∀ β w', σ.h w' → (∀ i b, lk σ.m i = some b → b.live = true → St w.heap.size (fun w2 => b.ok β w2 (β i)) w') → ∃ x : TabF D, s.c β = x.v ∧ St w.heap.size (TbL x.o x.c x.R) w') := fun y => by
      refine VC.pure (p := AllOK D y.L ∧ (y.L ≠ [] → ∃ ad, y.o = some ad)) (fun w' h => h.2.1) fun hp => ?_
      exact VC.ent (hmain y.o y.c y.L hp.1 hp.2) (Ent.weak rfl ⟨rfl, rfl, trivial⟩ ⟨rfl, rfl, trivial⟩ fun w' h => ⟨h.1, h.2.2⟩) (okB rfl (mB0 _ _ _ _ _ _ _ _) rfl)
     rw [c13_3]
     refine VC.seq (f := fun σ' => ∃ y : Lr, Ent σ' ⟨139, [(1, .ptr 3 0), (6, .ptr 0 0)], [(0, .cells (.v (iv sl) :: .v (iv ro) :: .v (iv su) :: .v (.slice go G.length gc) :: .v (.slice to T.length tc) :: .v (.slice y.o y.L.length y.c) :: .v (.slice none 0 0) :: (tbS 320 (fillF 0) ++ tbS 320 (fillF 0))) 93), (3, .cells [.v (iv sl), .v (iv ro), .v (iv su), .v (.slice go G.length gc), .v (.slice to T.length tc)] 34)], 4, fun w' => Below w.heap.size w w' ∧ (AllOK D y.L ∧ (y.L ≠ [] → ∃ ad, y.o = some ad)) ∧ St w.heap.size (Rd 3 Ln.cs (.slice y.o y.L.length y.c) y.L) w', z0⟩) ?_ (fun σ' ⟨y, hy⟩ => VC.ent (hm2 y) hy (okB rfl (mB0 _ _ _ _ _ _ _ _) rfl))
     clear hmain hm2
     apply VC_reg1 env mixed 2 (fun y : Lr => .slice y.o y.L.length y.c) (fun y w2 => (AllOK D y.L ∧ (y.L ≠ [] → ∃ ad, y.o = some ad)) ∧ St w.heap.size (Rd 3 Ln.cs (.slice y.o y.L.length y.c) y.L) w2) ⟨none, 0, []⟩
     case h3 => exact Nat.le_of_ble_eq_true (by kernel_rfl)
     case hv =>
      intro y
      repeat'
       conv => whnf
       first
        |refine zA ?_|refine zB ?_
        |refine And.intro (a := (_ : Bool) = true ∧ (_ : List _) = [] ∧ (_ : List _) = []) ⟨rfl, rfl, rfl⟩ ?_
        |(with_reducible show FamEv _ _ _ 39 _ _ _); refine FamEv.mk [] (fun β w' _ hbw => c39 w' hbw) ?_
      refine ⟨?_, y, Ent.ren (rho [(0, 2), (3, 0)]) rfl rfl ⟨rfl, rfl, trivial⟩ ⟨rfl, rfl, trivial⟩ fun w2 h => h⟩
      simp only [List.nil_append, List.cons_append, List.append_assoc]
      exact rfl
     case hk1 => intros; rfl
     case hi1 => exact fun _ _ => ⟨Or.inr rfl, Or.inr rfl, Or.inl (by kernel_rfl), Or.inl (by kernel_rfl), Or.inl (by kernel_rfl), Or.inl (by kernel_rfl), trivial⟩
end Go.Proofs.YtkbfcofifhngfaaGreat
namespace Go.Proofs.YtkbfcofifhngfaaGreat
open Go Tx
structure Fit (D : SD) (X : List (List Ln)) : Prop where
 len : (X.length : Int) = D.sl
 ro : ∀ l ∈ X, (l.length : Int) ≤ D.ro
 one : ∀ l ∈ X, ∀ i j, i < l.length → j < l.length → ((lnAt l i).g = (lnAt l j).g ∨ (lnAt l i).t = (lnAt l j).t) → i = j
 rng : ∀ x ∈ X.flatten, ∃ a b t : Nat, x = ⟨a, b, t⟩ ∧ a < D.G.length ∧ b < D.su.toNat ∧ t < D.T.length ∧ teachB D t b = true
 cnt : ∀ g, g < D.G.length → ∀ i, i < D.su.toNat → cGU X.flatten g i = rowP D g i
 tea : ∀ t, t < D.T.length → cntT X.flatten t ≤ (D.T.getD t ([], 0)).2
theorem Fit.of {D : SD} (hv : scOk D = true) {X : List (List Ln)} (h : rfitB D X = true) : Fit D X := by
 obtain ⟨hv1, hv2, hv3, hv4, hv5, hv6, hv7⟩ := scOk_iff.1 hv
 unfold rfitB at h
 simp only [Bool.and_eq_true, decide_eq_true_eq] at h
 obtain ⟨h1, h2, h3, h4⟩ := h
 have hs := fun l hl => List.all_eq_true.1 h2 l hl
 unfold sltB at hs
 simp only [Bool.and_eq_true, decide_eq_true_eq] at hs
 refine ⟨h1, fun l hl => (hs l hl).1, fun l hl i j hi hj e => ?_, fun x hx => ?_, fun g hg i hi => ?_, fun t ht => of_decide_eq_true (alN_iff.1 h4 t ht)⟩
 · have hd : ∀ i k, i < l.length → k < i → ¬ ((lnAt l i).g = (lnAt l k).g ∨ (lnAt l i).t = (lnAt l k).t) := fun i k hi hk e => by
    have h5 := alN_iff.1 (hs l hl).2.2 i hi
    have h6 := alN_iff.1 h5 k hk
    unfold cfB at h6
    rcases e with e | e <;> simp [e] at h6
   rcases Nat.lt_trichotomy i j with h5 | h5 | h5
   · exact absurd (e.imp Eq.symm Eq.symm) (hd j i hj h5)
   · exact h5
   · exact absurd e (hd i j hi h5)
 · obtain ⟨l, hl, hxl⟩ := List.mem_flatten.1 hx
   have h5 := List.all_eq_true.1 (hs l hl).2.1 x hxl
   unfold lesB at h5
   simp only [Bool.and_eq_true, inB_iff] at h5
   obtain ⟨h6, h7, h8, h9⟩ := h5
   obtain ⟨g, j, t⟩ := x
   dsimp only at h6 h7 h8 h9
   refine ⟨g.toNat, j.toNat, t.toNat, ?_, by omega, by omega, by omega, ?_⟩
   · rw [Int.toNat_of_nonneg h6.1, Int.toNat_of_nonneg h7.1, Int.toNat_of_nonneg h8.1]
   · unfold teachB
     rw [Int.toNat_of_nonneg h7.1]
     exact h9
 · have h5 := alN_iff.1 (alN_iff.1 h3 g hg) i hi
   rw [cntP_cGU _ (by omega)] at h5
   exact beq_iff_eq.1 h5
theorem len_le {α : Type} (f : α → Int) (c : Int) : ∀ X : List α, (∀ l ∈ X, f l ≤ c) → (X.map f).sum ≤ c * X.length
 | [], _ => by simp
 | l :: X, h => by
  have h1 := h l List.mem_cons_self
  have h2 := len_le f c X fun l hl => h l (List.mem_cons_of_mem _ hl)
  rw [List.map_cons, List.sum_cons, List.length_cons, Int.natCast_add, Int.mul_add]
  simp only [Int.natCast_one, Int.mul_one]
  omega
theorem Fit.slot {D : SD} {X : List (List Ln)} (h : Fit D X) (Q : Ln → Bool) (hQ : ∀ l ∈ X, ∀ i j, i < l.length → j < l.length → Q (lnAt l i) = true → Q (lnAt l j) = true → (lnAt l i).g = (lnAt l j).g ∨ (lnAt l i).t = (lnAt l j).t) : (X.flatten.map fun x => b1 (Q x)).sum ≤ D.sl := by
 rw [flat_sum]
 have h1 := len_le (fun l : List Ln => (l.map fun x => b1 (Q x)).sum) 1 X fun l hl => by
  rw [sum_lnAt]
  have h2 := ind_le (P := fun k => Q (lnAt l k) = true) (n := l.length) fun i j hi hj e1 e2 => h.one l hl i j hi hj (hQ l hl i j hi hj e1 e2)
  rw [sumN_congr (g := fun k => b1 (Q (lnAt l k))) fun k _ => by cases Q (lnAt l k) <;> rfl] at h2
  exact h2
 have h3 := h.len
 omega
theorem sum_dup {n : Nat} (f : Nat → Int) : ∀ l : List Int, l.Nodup → (∀ j ∈ l, 0 ≤ j ∧ j < n) → (l.map fun j => f j.toNat).sum = sumN (fun i => if (i : Int) ∈ l then f i else 0) n
 | [], _, _ => by rw [sumN_congr (g := fun _ => 0) fun i _ => if_neg (by simp), sumN_zero]; rfl
 | a :: l, hn, hb => by
  obtain ⟨ha, hn⟩ := List.nodup_cons.1 hn
  have hba := hb a List.mem_cons_self
  have ih := sum_dup (n := n) f l hn fun j hj => hb j (List.mem_cons_of_mem _ hj)
  rw [List.map_cons, List.sum_cons, ih]
  have e : sumN (fun i => if (i : Int) ∈ a :: l then f i else 0) n = sumN (fun k => if k = a.toNat then f a.toNat else (fun i : Nat => if (i : Int) ∈ l then f i else 0) k) n := sumN_congr fun i _ => by
   by_cases h : i = a.toNat
   · subst h; rw [if_pos rfl, if_pos (by rw [Int.toNat_of_nonneg hba.1]; exact List.mem_cons_self)]
   · rw [if_neg h]
     dsimp only
     by_cases h2 : (i : Int) ∈ l
     · rw [if_pos h2, if_pos (List.mem_cons_of_mem _ h2)]
     · rw [if_neg h2, if_neg fun h3 => (List.mem_cons.1 h3).elim (fun e => h (by omega)) h2]
  rw [e, sumN_upd (by omega), if_neg (by rw [Int.toNat_of_nonneg hba.1]; exact ha)]
  omega
theorem Fit.hours {D : SD} {X : List (List Ln)} (h : Fit D X) {l : List Int} (hn : l.Nodup) (hb : ∀ j ∈ l, 0 ≤ j ∧ j < D.su.toNat) : hoursP D l = (X.flatten.map fun x => b1 (decide (x.j ∈ l))).sum := by
 have h1 := sum_split (fun x : Ln => decide (x.j ∈ l)) (fun x => x.g) D.G.length X.flatten fun x hx => by
  obtain ⟨a, b, t, rfl, ha, _⟩ := h.rng x hx
  exact ⟨a, rfl, ha⟩
 rw [h1]
 unfold hoursP
 rw [sumN_list (rowH l) []]
 refine sumN_congr fun g hg => ?_
 have h2 := sum_split (fun x : Ln => decide (x.j ∈ l) && decide (x.g = (g : Int))) (fun x => x.j) D.su.toNat X.flatten fun x hx => by
  obtain ⟨a, b, t, rfl, _, hb, _⟩ := h.rng x hx
  exact ⟨b, rfl, hb⟩
 rw [h2]
 unfold rowH
 rw [sum_dup (n := D.su.toNat) (fun i => (D.G.getD g []).getD i 0) l hn hb]
 refine sumN_congr fun i hi => ?_
 by_cases hm : (i : Int) ∈ l
 · rw [if_pos hm]
   show rowP D g i = _
   rw [← h.cnt g hg i hi]
   unfold cGU
   congr 1
   refine List.map_congr_left fun x _ => ?_
   by_cases e : x.j = (i : Int)
   · rw [e]; simp [hm]
   · simp [e]
 · rw [if_neg hm]
   have : (X.flatten.map fun x => b1 (decide (x.j ∈ l) && decide (x.g = (g : Int)) && decide (x.j = (i : Int)))).sum = sumN (fun _ => 0) X.flatten.length := by
    rw [sum_lnAt]
    refine sumN_congr fun k _ => ?_
    by_cases e : (lnAt X.flatten k).j = (i : Int)
    · rw [e]; simp [hm, b1]
    · simp [e, b1]
   rw [this, sumN_zero]
theorem Fit.times {D : SD} {X : List (List Ln)} (h : Fit D X) (l : List Int) : (X.flatten.map fun x => b1 (decide (x.j ∈ l))).sum ≤ timesP D l := by
 have h1 := sum_split (fun x : Ln => decide (x.j ∈ l)) (fun x => x.t) D.T.length X.flatten fun x hx => by
  obtain ⟨a, b, t, rfl, _, _, ht, _⟩ := h.rng x hx
  exact ⟨t, rfl, ht⟩
 rw [h1]
 unfold timesP
 rw [sumN_list (teP D l) ([], 0)]
 refine sumN_le fun t ht => ?_
 unfold teP
 cases hc : (D.T.getD t ([], 0)).1.any (fun j => l.contains j) with
 | true =>
  show _ ≤ timeP D (D.T.getD t ([], 0))
  unfold timeP
  have h2 := h.slot (fun x => decide (x.j ∈ l) && decide (x.t = (t : Int))) fun l' hl' i j hi hj e1 e2 => by
   simp only [Bool.and_eq_true, decide_eq_true_eq] at e1 e2
   exact .inr (e1.2.trans e2.2.symm)
  have h3 := h.tea t ht
  have h4 : (X.flatten.map fun x => b1 (decide (x.j ∈ l) && decide (x.t = (t : Int)))).sum ≤ cntT X.flatten t := by
   unfold cntT
   rw [sum_lnAt, sum_lnAt]
   refine sumN_le fun k _ => ?_
   cases decide ((lnAt X.flatten k).j ∈ l) <;> cases decide ((lnAt X.flatten k).t = (t : Int)) <;> decide
  omega
 | false =>
  show _ ≤ (0 : Int)
  have : (X.flatten.map fun x => b1 (decide (x.j ∈ l) && decide (x.t = (t : Int)))).sum = sumN (fun _ => 0) X.flatten.length := by
   rw [sum_lnAt]
   refine sumN_congr fun k hk => ?_
   obtain ⟨a, b, t', hx, _, _, _, hte⟩ := h.rng (lnAt X.flatten k) (List.mem_of_getElem? (lnAt_get hk))
   rw [hx]
   dsimp only
   by_cases e : (t' : Int) = (t : Int)
   · have e : t' = t := by omega
     subst e
     have : ¬ (b : Int) ∈ l := fun hm => by
      rw [List.any_eq_false] at hc
      unfold teachB at hte
      exact hc b (by simpa using hte) (by simpa using hm)
     simp [this, b1]
   · simp [e, b1]
  rw [this, sumN_zero]
  exact Int.le_refl _
theorem sub_nodup {su : Int} {l : List Int} (h : subB su l = true) : l.Nodup := by
 unfold subB evB at h
 simp only [Bool.and_eq_true, decide_eq_true_eq, List.all_eq_true] at h
 obtain ⟨h1, h2, h3⟩ := h
 rw [List.nodup_iff_pairwise_ne, List.pairwise_iff_getElem]
 intro i j hi hj hij e
 have h4 := rise_at (i := i) (j := j) h3 (by omega) hj
 rw [List.getD_eq_getElem?_getD, List.getElem?_eq_getElem hi, List.getD_eq_getElem?_getD, List.getElem?_eq_getElem hj] at h4
 simp only [Option.getD_some] at h4
 omega
theorem dual {D : SD} (hv : scOk D = true) {X : List (List Ln)} (hf : rfitB D X = true) (r : RD) : isB D r = false := by
 have h := Fit.of hv hf
 obtain ⟨hv1, hv2, hv3, hv4, hv5, hv6, hv7⟩ := scOk_iff.1 hv
 cases hb : isB D r with
 | false => rfl
 | true =>
  exfalso
  unfold isB at hb
  simp only [Bool.and_eq_true, decide_eq_true_eq] at hb
  obtain ⟨hlt, hb⟩ := hb
  split at hb
  · simp only [Bool.and_eq_true, decide_eq_true_eq, inB_iff] at hb
    obtain ⟨hg, _, hn, hh⟩ := hb
    obtain ⟨g, hgn⟩ : ∃ g : Nat, r.g = g := ⟨r.g.toNat, by omega⟩
    rw [hgn, Int.toNat_natCast] at hn
    rw [hgn] at hg
    have hgl : g < D.G.length := by omega
    have h1 := h.slot (fun x => decide (x.g = (g : Int))) fun l hl i j hi hj e1 e2 => by
     simp only [decide_eq_true_eq] at e1 e2
     exact .inl (e1.trans e2.symm)
    have h2 := sum_split (fun x : Ln => decide (x.g = (g : Int))) (fun x => x.j) D.su.toNat X.flatten fun x hx => by
     obtain ⟨a, b, t, rfl, _, hb, _⟩ := h.rng x hx
     exact ⟨b, rfl, hb⟩
    rw [h2, sumN_congr (g := fun i => rowP D g i) fun i hi => by
     rw [← h.cnt g hgl i hi]
     unfold cGU
     congr 1
     refine List.map_congr_left fun x _ => ?_
     rw [Bool.decide_and], rowP_sum hv hgl] at h1
    omega
  · split at hb
    · simp only [Bool.and_eq_true, decide_eq_true_eq] at hb
      obtain ⟨hs, _, hn, hh⟩ := hb
      have h1 := h.hours (sub_nodup hs) fun j hj => by have := (sub_in hv hs).2 j hj; omega
      have h2 := h.times r.L
      omega
    · split at hb
      · simp only [Bool.and_eq_true, decide_eq_true_eq] at hb
        obtain ⟨_, _, hn, hh⟩ := hb
        have h1 := h.hours (l := numL D.su.toNat) (by
         unfold numL
         rw [List.nodup_iff_pairwise_ne, List.pairwise_iff_getElem]
         intro i j hi hj hij
         simp only [List.getElem_map, List.getElem_range]
         omega) fun j hj => by
          obtain ⟨i, hi, rfl⟩ := List.mem_map.1 hj
          have := List.mem_range.1 hi
          omega
        have h2 : (X.flatten.map fun x => b1 (decide (x.j ∈ numL D.su.toNat))).sum ≤ (X.map fun l => (l.length : Int)).sum := by
         rw [flat_sum]
         have h3 : ∀ l : List Ln, (l.map fun x => b1 (decide (x.j ∈ numL D.su.toNat))).sum ≤ l.length := fun l => by
          have := len_le (fun x : Ln => b1 (decide (x.j ∈ numL D.su.toNat))) 1 l fun x _ => by cases decide (x.j ∈ numL D.su.toNat) <;> decide
          omega
         rw [sumN_list _ [], sumN_list (fun l : List Ln => (l.length : Int)) []]
         exact sumN_le fun i _ => h3 _
        have h4 := len_le (fun l : List Ln => (l.length : Int)) D.ro X h.ro
        rw [h.len] at h4
        omega
      · cases hb
end Go.Proofs.YtkbfcofifhngfaaGreat
namespace Go.Proofs.YtkbfcofifhngfaaGreat
open Go Tx Go.RowKit
structure Cr where
  no : Option Addr
  nc : Nat
  N : List Int
  wk : Int
  co : Option Addr
  cc : Nat
  C : List Rw
abbrev Cr.v (x : Cr) : Value := .agg #[.slice x.no x.N.length x.nc, iv x.wk, .slice x.co x.C.length x.cc]
structure CrIn (x : Cr) (w : World) : Prop where
  n : Rd 1 iF (.slice x.no x.N.length x.nc) x.N w
  c : Rd 1 Rw.cs (.slice x.co x.C.length x.cc) x.C w
  r : RR x.C w
  nl : x.N.length ≤ 1000000
  cl : x.C.length ≤ 1000000
  rl : ∀ r ∈ x.C, r.xs.length ≤ 1000000
theorem CrIn.below {x : Cr} {w w' : World} (h : CrIn x w) (hb : Below w.heap.size w w') : CrIn x w' := ⟨h.n.below hb, h.c.below hb, h.r.below hb, h.nl, h.cl, h.rl⟩
abbrev Cr.CC (x : Cr) : List (List Int) := x.C.map Rw.xs
def rowOk (n : Nat) (l : List Int) : Bool := decide (l.length = n) && evB l 0 2000
def crOk (N : List Int) (wk : Int) (CC : List (List Int)) : Bool :=
  inB N.length 1 6 && evB N 0 2000 && inB wk 1 60 && inB CC.length 1 20 && CC.all (rowOk N.length)
theorem cvalid_ok (x : Cr) (w : World) (h : CrIn x w) : Calls Tryz.prog 111 #[x.v] w fun e w' => e = .returned (.bool (crOk x.N x.wk x.CC)) ∧ Below w.heap.size w w' := by
  obtain ⟨no, nc, N, wk, co, cc, C⟩ := x
  obtain ⟨hN, hC, hR, hnl, hcl, hrl⟩ := h
  dsimp only at hN hC hR hnl hcl hrl ⊢
  refine calls_val env mixed Tryz.func111 has111 Tryz.ntmps111 [.agg #[.slice no N.length nc, iv wk, .slice co C.length cc]] (by simp) ?_
  have hcm : (C.map Rw.xs).length = C.length := List.length_map ..
  repeat'
   conv => whnf
   first
    |refine zB ?_|refine zD ?_|refine splF ?_
    |refine splIn (fun hc => ?_) (fun hc => ?_)
    |((with_reducible show CallEv _ _ 61 ..); refine callE (fun β w' hbw => within_ok _ _ _ _) ?_)
    |((with_reducible show CallEv _ _ 82 ..); refine callE (fun β w' hbw => every_ok N no nc 0 2000 _ (hN.below hbw) hnl) ?_)
    |refine splB (fun hb => ?_) (fun hb => ?_)
    |((with_reducible show CallEv _ _ 80 ..); refine callI env mixed 1000 [23] Tryz.func80 has80 Tryz.ntmps80 (Nat.le_of_ble_eq_true rfl) rfl rfl rfl ?_)
    |((with_reducible show CallEv _ _ 113 ..); refine callI env mixed 2000 [] Tryz.func113 has113 Tryz.ntmps113 (Nat.le_of_ble_eq_true rfl) rfl rfl rfl ?_)
    |((with_reducible show CallEv _ _ 146 ..); refine callI env mixed 3000 [] Tryz.func146 has146 Tryz.ntmps146 (Nat.le_of_ble_eq_true rfl) rfl rfl rfl ?_)
  all_goals first|exact ⟨fun β => congrArg Value.bool (by simp [crOk, inB, *]; done), fun w' h => h⟩|skip
  have hn : crOk N wk (C.map Rw.xs) = (C.map Rw.xs).all (rowOk N.length) := by
    simp only [crOk, inB, hcm, hb]
    rw [decide_eq_true (by omega), decide_eq_true (by omega), decide_eq_true (by omega), decide_eq_true (by omega), decide_eq_true (by omega), decide_eq_true (by omega)]
    rfl
  conv => whnf
  refine loopE (fun k : Nat => [(0, .v (.slice co C.length cc)), (1, .fn (.func 114) [.ptr 1 0]), (7, .v (iv C.length)), (8, .v (iv k))]) (fun _ => [(1, .cells [.fn (.func 143) [.ptr 0 0]] 111), (0, .cells [.v (.slice no N.length nc), .v (iv wk), .v (.slice co C.length cc)] 77)]) (fun k => k ≤ C.length ∧ ((C.map Rw.xs).take k).all (rowOk N.length) = true) (fun k => C.length - k) 0 ⟨Nat.zero_le _, rfl⟩ ⟨rfl, rfl, rfl, rfl, trivial⟩ ⟨rfl, rfl, trivial⟩ (fun _ => ⟨rfl, rfl⟩) ?_
  intro k ⟨hk, hall⟩
  rcases Nat.lt_or_ge k C.length with hkl | hkl
  · obtain ⟨⟨ro, rc, xs⟩, hx⟩ : ∃ b, C[k]? = some b := ⟨_, List.getElem?_eq_getElem hkl⟩
    obtain ⟨_, ad, rfl, _⟩ := hC.ptr (by omega)
    have e0 := fun (w' : World) hw' => rd_ati (hC.below (w' := w') hw') hx
    have hm : (C.map Rw.xs)[k]? = some xs := by rw [List.getElem?_map, hx]; rfl
    have ht := all_take (p := rowOk N.length) hm
    rw [hall, Bool.true_and] at ht
    have hr := hR _ (List.mem_of_getElem? hx)
    have hrb := hrl _ (List.mem_of_getElem? hx)
    dsimp only at hr hrb
    repeat'
     conv => whnf
     first
      |refine zB ?_|refine zD ?_|refine zF ?_|refine zG ?_|refine splT ?_|refine splNot ?_
      |(refine splD ?_ ?_ <;> intro hc <;> first|(exfalso; omega)|skip)
      |refine eL [.slice ro xs.length rc] ⟨⟨rfl, fun w' hw' => e0 w' hw'⟩, ?_⟩
      |((with_reducible show CallEv _ _ 114 ..); refine callI env mixed 4000 [0,1,5,7,8] Tryz.func114 has114 Tryz.ntmps114 (Nat.le_of_ble_eq_true rfl) rfl rfl rfl ?_)
      |((with_reducible show CallEv _ _ 143 ..); refine callI env mixed 5000 [] Tryz.func143 has143 Tryz.ntmps143 (Nat.le_of_ble_eq_true rfl) rfl rfl rfl ?_)
      |((with_reducible show CallEv _ _ 82 ..); refine callE (fun β w' hbw => every_ok xs ro rc 0 2000 _ (hr.below hbw) hrb) ?_)
      |refine splB (fun hb2 => ?_) (fun hb2 => ?_)
    all_goals first
      | (exfalso; omega)
      | (have hg : rowOk N.length xs = true := by simp only [rowOk, Bool.and_eq_true, decide_eq_true_eq]; exact ⟨by omega, by assumption⟩
         exact ⟨k + 1, ⟨by omega, by rw [ht, hg]⟩, by omega, Ent.weak rfl ⟨rfl, rfl, rfl, rfl, trivial⟩ ⟨rfl, rfl, trivial⟩ fun _ h => h⟩)
      | (have hg : rowOk N.length xs = false := by
           rw [Bool.eq_false_iff]; intro hc2; simp only [rowOk, Bool.and_eq_true, decide_eq_true_eq] at hc2; first | omega | (rw [hb2] at hc2; cases hc2.2)
         rw [hn, all_no hm hg]
         exact ⟨fun β => rfl, fun w' h => h⟩)
      | skip
  · rw [List.take_of_length_le (by rw [hcm]; exact hkl)] at hall
    rw [hn, hall]
    repeat'
     conv => whnf
     first
      |(refine splD ?_ ?_ <;> intro hc <;> first|(exfalso; omega)|skip)
    all_goals exact ⟨fun β => rfl, fun w' h => h⟩
structure Sy where
  p : Int
  o : Option Addr
  c : Nat
  xs : List Int
abbrev Sy.cs (s : Sy) : List Value := [iv s.p, .slice s.o s.xs.length s.c]
abbrev Sy.d (s : Sy) : Int × List Int := (s.p, s.xs)
structure SyIn (o : Option Addr) (c : Nat) (S : List Sy) (w : World) : Prop where
  s : Rd 2 Sy.cs (.slice o S.length c) S w
  r : ∀ s ∈ S, Rd 1 iF (.slice s.o s.xs.length s.c) s.xs w
  sl : S.length ≤ 1000000
  rl : ∀ s ∈ S, s.xs.length ≤ 1000000
theorem SyIn.below {o : Option Addr} {c : Nat} {S : List Sy} {w w' : World} (h : SyIn o c S w) (hb : Below w.heap.size w w') : SyIn o c S w' := ⟨h.s.below hb, fun s hs => (h.r s hs).below hb, h.sl, h.rl⟩
def stOk (n m : Nat) (s : Int × List Int) : Bool := inB s.1 0 (m - 1) && (decide (s.2.length = n) && evB s.2 0 40)
def stE (n m : Nat) (wk : Int) (SS : List (Int × List Int)) : Int := if (SS.length : Int) > wk then 3 else if SS.all (stOk n m) = true then 0 else 1
theorem cstays_ok (x : Cr) (o : Option Addr) (c : Nat) (S : List Sy) (w : World) (h : CrIn x w) (hS : SyIn o c S w) :
    Calls Tryz.prog 112 #[x.v, .slice o S.length c] w fun e w' => e = .returned (iv (stE x.N.length x.CC.length x.wk (S.map Sy.d))) ∧ Below w.heap.size w w' := by
  obtain ⟨no, nc, N, wk, co, cc, C⟩ := x
  obtain ⟨hN, hC, hR, hnl, hcl, hrl⟩ := h
  obtain ⟨hS1, hS2, hsl, hsr⟩ := hS
  dsimp only at hN hC hR hnl hcl hrl ⊢
  refine calls_val env mixed Tryz.func112 has112 Tryz.ntmps112 [.agg #[.slice no N.length nc, iv wk, .slice co C.length cc], .slice o S.length c] (by simp) ?_
  have hcm : (C.map Rw.xs).length = C.length := List.length_map ..
  have hsm : (S.map Sy.d).length = S.length := List.length_map ..
  rw [stE, hsm, hcm]
  by_cases h0 : (S.length : Int) > wk
  · rw [if_pos h0]
    repeat'
     conv => whnf
     first
      |refine zB ?_
      |(refine splD ?_ ?_ <;> intro hc <;> first|(exfalso; omega)|skip)
    all_goals exact ⟨fun β => rfl, fun w' h => h⟩
  rw [if_neg h0]
  repeat'
   conv => whnf
   first
    |refine zB ?_|refine zD ?_
    |(refine splD ?_ ?_ <;> intro hc <;> first|(exfalso; omega)|skip)
    |((with_reducible show CallEv _ _ 145 ..); refine callI env mixed 1000 [] Tryz.func145 has145 Tryz.ntmps145 (Nat.le_of_ble_eq_true rfl) rfl rfl rfl ?_)
    |((with_reducible show CallEv _ _ 164 ..); refine callI env mixed 2000 [] Tryz.func164 has164 Tryz.ntmps164 (Nat.le_of_ble_eq_true rfl) rfl rfl rfl ?_)
    |((with_reducible show CallEv _ _ 172 ..); refine callI env mixed 3000 [] Tryz.func172 has172 Tryz.ntmps172 (Nat.le_of_ble_eq_true rfl) rfl rfl rfl ?_)
  conv => whnf
  refine loopE (fun k : Nat => [(0, .v (.slice o S.length c)), (1, .fn (.func 165) [.ptr 1 0]), (7, .v (iv S.length)), (8, .v (iv k))]) (fun _ => [(1, .cells [.fn (.func 144) [.ptr 0 0]] 178), (0, .cells [.v (.slice no N.length nc), .v (iv wk), .v (.slice co C.length cc)] 77)]) (fun k => k ≤ S.length ∧ ((S.map Sy.d).take k).all (stOk N.length C.length) = true) (fun k => S.length - k) 0 ⟨Nat.zero_le _, rfl⟩ ⟨rfl, rfl, rfl, rfl, trivial⟩ ⟨rfl, rfl, trivial⟩ (fun _ => ⟨rfl, rfl⟩) ?_
  intro k ⟨hk, hall⟩
  rcases Nat.lt_or_ge k S.length with hkl | hkl
  · obtain ⟨⟨sp, so, sc, xs⟩, hx⟩ : ∃ b, S[k]? = some b := ⟨_, List.getElem?_eq_getElem hkl⟩
    obtain ⟨_, ad, rfl, _⟩ := hS1.ptr (by omega)
    have e0 := fun (w' : World) hw' => rd_ati (hS1.below (w' := w') hw') hx
    have hm : (S.map Sy.d)[k]? = some (sp, xs) := by rw [List.getElem?_map, hx]; rfl
    have ht := all_take (p := stOk N.length C.length) hm
    rw [hall, Bool.true_and] at ht
    have hr := hS2 _ (List.mem_of_getElem? hx)
    have hrb := hsr _ (List.mem_of_getElem? hx)
    dsimp only at hr hrb
    repeat'
     conv => whnf
     first
      |refine zB ?_|refine zD ?_|refine zF ?_|refine zG ?_|refine splT ?_|refine splF ?_|refine splNot ?_
      |((first|refine splIn ?_ ?_|refine splD ?_ ?_) <;> intro hc <;> first|(exfalso; omega)|skip)
      |refine eL [iv sp, .slice so xs.length sc] ⟨⟨rfl, fun w' hw' => e0 w' hw'⟩, ?_⟩
      |((with_reducible show CallEv _ _ 165 ..); refine callI env mixed 4000 [0,1,5,7,8] Tryz.func165 has165 Tryz.ntmps165 (Nat.le_of_ble_eq_true rfl) rfl rfl rfl ?_)
      |((with_reducible show CallEv _ _ 144 ..); refine callI env mixed 5000 [] Tryz.func144 has144 Tryz.ntmps144 (Nat.le_of_ble_eq_true rfl) rfl rfl rfl ?_)
      |((with_reducible show CallEv _ _ 61 ..); refine callE (fun β w' hbw => within_ok _ _ _ _) ?_)
      |((with_reducible show CallEv _ _ 82 ..); refine callE (fun β w' hbw => every_ok xs so sc 0 40 _ (hr.below hbw) hrb) ?_)
      |refine splB (fun hb2 => ?_) (fun hb2 => ?_)
    all_goals first
      | (exfalso; omega)
      | (have hg : stOk N.length C.length (sp, xs) = true := by simp only [stOk, inB, Bool.and_eq_true, decide_eq_true_eq]; exact ⟨by omega, by omega, by assumption⟩
         exact ⟨k + 1, ⟨by omega, by rw [ht, hg]⟩, by omega, Ent.weak rfl ⟨rfl, rfl, rfl, rfl, trivial⟩ ⟨rfl, rfl, trivial⟩ fun _ h => h⟩)
      | (have hg : stOk N.length C.length (sp, xs) = false := by
           rw [Bool.eq_false_iff]; intro hc2; simp only [stOk, inB, Bool.and_eq_true, decide_eq_true_eq] at hc2; first | omega | (rw [hb2] at hc2; cases hc2.2.2)
         rw [all_no hm hg]
         exact ⟨fun β => rfl, fun w' h => h⟩)
      | skip
  · rw [List.take_of_length_le (by rw [hsm]; exact hkl)] at hall
    rw [hall]
    repeat'
     conv => whnf
     first
      |refine splF ?_
      |(refine splD ?_ ?_ <;> intro hc <;> first|(exfalso; omega)|skip)
    all_goals exact ⟨fun β => rfl, fun w' h => h⟩
def ckE (N : List Int) (wk : Int) (CC : List (List Int)) (SS : List (Int × List Int)) : Int := if crOk N wk CC = true then stE N.length CC.length wk SS else 1
theorem ccheck_ok (x : Cr) (o : Option Addr) (c : Nat) (S : List Sy) (w : World) (h : CrIn x w) (hS : SyIn o c S w) :
    Calls Tryz.prog 75 #[x.v, .slice o S.length c] w fun e w' => e = .returned (iv (ckE x.N x.wk x.CC (S.map Sy.d))) ∧ Below w.heap.size w w' := by
  refine calls_val env mixed Tryz.func75 has75 Tryz.ntmps75 [x.v, .slice o S.length c] (by simp) ?_
  have hv := fun w' hb => cvalid_ok x w' (h.below hb)
  have hs := fun w' hb => cstays_ok x o c S w' (h.below hb) (hS.below hb)
  obtain ⟨no, nc, N, wk, co, cc, C⟩ := x
  dsimp only at hv hs ⊢
  rw [ckE]
  cases hc : crOk N wk (C.map Rw.xs) with
  | true =>
    rw [hc] at hv
    rw [if_pos rfl]
    repeat'
     conv => whnf
     first
      |refine zD ?_|refine splF ?_
      |((with_reducible show CallEv _ _ 111 ..); refine callE (fun β w' hbw => hv _ hbw) ?_)
      |((with_reducible show CallEv _ _ 112 ..); refine callE (fun β w' hbw => hs _ hbw) ?_)
    all_goals exact ⟨fun β => rfl, fun w' h => h⟩
  | false =>
    rw [hc] at hv
    rw [if_neg (by decide)]
    repeat'
     conv => whnf
     first
      |refine zD ?_|refine splT ?_
      |((with_reducible show CallEv _ _ 111 ..); refine callE (fun β w' hbw => hv _ hbw) ?_)
    all_goals exact ⟨fun β => rfl, fun w' h => h⟩
def gt (L : List Int) (j : Nat) : Int := (L[j]?).getD 0
def rwA (CC : List (List Int)) (p : Int) : List Int := (CC[p.toNat]?).getD []
def tmS (CC : List (List Int)) (j : Nat) (s : Int × List Int) : Int := gt s.2 j * gt (rwA CC s.1) j
def hsS (CC : List (List Int)) (SS : List (Int × List Int)) (j : Nat) : Int := (SS.map (tmS CC j)).sum
def hsV (CC : List (List Int)) (SS : List (Int × List Int)) (j : Nat) : Int := (hsS CC SS j).tdiv 1000
def lfV (N : List Int) (CC : List (List Int)) (SS : List (Int × List Int)) (j : Nat) : Int := imax 0 (gt N j - hsV CC SS j)
def nxV (N : List Int) (wk : Int) (CC : List (List Int)) (SS : List (Int × List Int)) (j : Nat) : Int := imin 20 ((lfV N CC SS j + (wk - (SS.length : Int)) - 1).tdiv (wk - (SS.length : Int)))
theorem hsS_take {CC : List (List Int)} {SS : List (Int × List Int)} {j k : Nat} {s : Int × List Int} (h : SS[k]? = some s) : hsS CC (SS.take (k + 1)) j = hsS CC (SS.take k) j + tmS CC j s := by
  rw [hsS, List.take_add_one, h]; simp [hsS]
theorem quoT {k : IntKind} {a b : Int} {K : Int → Prop} (h1 : b ≠ 0) (h2 : IR k (a.tdiv b)) (h : K (a.tdiv b)) : ∃ q : Int, (b ≠ 0 ∧ a.tdiv b = q ∧ IR k q) ∧ K q := ⟨_, ⟨h1, rfl, h2⟩, h⟩
structure YrOk (N : List Int) (wk : Int) (CC : List (List Int)) (SS : List (Int × List Int)) : Prop where
  n6 : 1 ≤ N.length ∧ N.length ≤ 6
  nb : ∀ n ∈ N, 0 ≤ n ∧ n ≤ 2000
  w : 1 ≤ wk ∧ wk ≤ 60
  c1 : 1 ≤ CC.length ∧ CC.length ≤ 20
  r : ∀ l ∈ CC, l.length = N.length ∧ ∀ n ∈ l, 0 ≤ n ∧ n ≤ 2000
  sl : (SS.length : Int) ≤ wk
  s : ∀ s ∈ SS, (0 ≤ s.1 ∧ s.1 < CC.length) ∧ s.2.length = N.length ∧ ∀ n ∈ s.2, 0 ≤ n ∧ n ≤ 40
theorem evB_iff {L : List Int} {lo hi : Int} (h : evB L lo hi = true) : ∀ n ∈ L, lo ≤ n ∧ n ≤ hi := fun n hn => by
  have := List.all_eq_true.1 h n hn
  simpa [inB] using this
theorem YrOk.of {N : List Int} {wk : Int} {CC : List (List Int)} {SS : List (Int × List Int)} (h : ckE N wk CC SS = 0) : YrOk N wk CC SS := by
  unfold ckE at h
  split at h
  case isFalse => cases h
  rename_i h1
  unfold stE at h
  split at h
  case isTrue => cases h
  rename_i h2
  split at h
  case isFalse => cases h
  rename_i h3
  simp only [crOk, inB, Bool.and_eq_true, decide_eq_true_eq] at h1
  obtain ⟨⟨⟨⟨h4, h5⟩, h6⟩, h7⟩, h8⟩ := h1
  refine ⟨by omega, evB_iff h5, h6, by omega, fun l hl => ?_, by omega, fun s hs => ?_⟩
  · have := List.all_eq_true.1 h8 l hl
    simp only [rowOk, Bool.and_eq_true, decide_eq_true_eq] at this
    exact ⟨this.1, evB_iff this.2⟩
  · have := List.all_eq_true.1 h3 s hs
    simp only [stOk, inB, Bool.and_eq_true, decide_eq_true_eq] at this
    exact ⟨by omega, this.2.1, evB_iff this.2.2⟩
theorem gt_some {L : List Int} {j : Nat} {n : Int} (h : L[j]? = some n) : gt L j = n := by simp [gt, h]
theorem YrOk.tm {N : List Int} {wk : Int} {CC : List (List Int)} {SS : List (Int × List Int)} (h : YrOk N wk CC SS) (j : Nat) {s : Int × List Int} (hs : s ∈ SS) : 0 ≤ tmS CC j s ∧ tmS CC j s ≤ 80000 := by
  obtain ⟨h1, h2, h3⟩ := h.s s hs
  have a : 0 ≤ gt s.2 j ∧ gt s.2 j ≤ 40 := by
    unfold gt
    cases hj : s.2[j]? with
    | none => simp
    | some n => exact h3 n (List.mem_of_getElem? hj)
  have b : 0 ≤ gt (rwA CC s.1) j ∧ gt (rwA CC s.1) j ≤ 2000 := by
    unfold gt rwA
    cases hc : CC[s.1.toNat]? with
    | none => simp
    | some l =>
      simp only [Option.getD_some]
      cases hj : l[j]? with
      | none => simp
      | some n => exact (h.r l (List.mem_of_getElem? hc)).2 n (List.mem_of_getElem? hj)
  unfold tmS
  refine ⟨Int.mul_nonneg a.1 b.1, ?_⟩
  have := Int.mul_le_mul a.2 b.2 b.1 (by omega : (0 : Int) ≤ 40)
  omega
theorem YrOk.bd {N : List Int} {wk : Int} {CC : List (List Int)} {SS : List (Int × List Int)} (h : YrOk N wk CC SS) (j : Nat) : ∀ k, 0 ≤ hsS CC (SS.take k) j ∧ hsS CC (SS.take k) j ≤ 80000 * k
  | 0 => by simp [hsS]
  | k + 1 => by
    have ih := h.bd j k
    cases hx : SS[k]? with
    | none =>
      rw [List.getElem?_eq_none_iff] at hx
      rw [List.take_of_length_le (show SS.length ≤ k + 1 by omega)]
      rw [List.take_of_length_le hx] at ih
      omega
    | some s =>
      have := h.tm j (List.mem_of_getElem? hx)
      rw [hsS_take hx]
      omega
theorem YrOk.bdl {N : List Int} {wk : Int} {CC : List (List Int)} {SS : List (Int × List Int)} (h : YrOk N wk CC SS) (j : Nat) : 0 ≤ hsS CC SS j ∧ hsS CC SS j ≤ 4800000 := by
  have := h.bd j SS.length
  rw [List.take_of_length_le (Nat.le_refl _)] at this
  have := h.sl
  have := h.w
  omega
theorem tdiv_b0 {a b : Int} (h : 0 ≤ a) (hb : 0 < b) : 0 ≤ a.tdiv b ∧ a.tdiv b ≤ a := by
  rw [Int.tdiv_eq_ediv_of_nonneg h]
  exact ⟨Int.ediv_nonneg h (by omega), Int.ediv_le_self _ h⟩
theorem YrOk.hv {N : List Int} {wk : Int} {CC : List (List Int)} {SS : List (Int × List Int)} (h : YrOk N wk CC SS) (j : Nat) : 0 ≤ hsV CC SS j ∧ hsV CC SS j ≤ 4800000 := by
  have := h.bdl j
  have := tdiv_b0 this.1 (show (0 : Int) < 1000 by omega)
  unfold hsV; omega
theorem YrOk.gn {N : List Int} {wk : Int} {CC : List (List Int)} {SS : List (Int × List Int)} (h : YrOk N wk CC SS) (j : Nat) : 0 ≤ gt N j ∧ gt N j ≤ 2000 := by
  unfold gt
  cases hj : N[j]? with
  | none => simp
  | some n => exact h.nb n (List.mem_of_getElem? hj)
abbrev Cr.ch (x : Cr) (s : Value) : Value := .agg #[.slice x.no x.N.length x.nc, iv x.wk, .slice x.co x.C.length x.cc, s]
theorem hasC_ok (x : Cr) (o : Option Addr) (c : Nat) (S : List Sy) (j : Nat) (w : World) (h : CrIn x w) (hS : SyIn o c S w) (hy : YrOk x.N x.wk x.CC (S.map Sy.d)) (hj : j < x.N.length) :
    Calls Tryz.prog 77 #[x.ch (.slice o S.length c), iv j] w fun e w' => e = .returned (iv (hsV x.CC (S.map Sy.d) j)) ∧ Below w.heap.size w w' := by
  obtain ⟨no, nc, N, wk, co, cc, C⟩ := x
  obtain ⟨hN, hC, hR, hnl, hcl, hrl⟩ := h
  obtain ⟨hS1, hS2, hsl, hsr⟩ := hS
  dsimp only at hN hC hR hnl hcl hrl hj ⊢
  change YrOk N wk (C.map Rw.xs) (S.map Sy.d) at hy
  show Calls _ _ _ _ fun e w' => e = .returned (iv (hsV (C.map Rw.xs) (S.map Sy.d) j)) ∧ _
  refine calls_val env mixed Tryz.func77 has77 Tryz.ntmps77 [.agg #[.slice no N.length nc, iv wk, .slice co C.length cc, .slice o S.length c], iv j] (by simp) ?_
  have hcm : (C.map Rw.xs).length = C.length := List.length_map ..
  have hsm : (S.map Sy.d).length = S.length := List.length_map ..
  have h60 := hy.sl
  have h61 := hy.w
  rw [hsm] at h60
  repeat'
   conv => whnf
   first
    |refine zB ?_
  refine loopE (fun k : Nat => [(1, .v (iv j)), (2, .ptr 0 0), (5, .v (iv (hsS (C.map Rw.xs) ((S.map Sy.d).take k) j))), (9, .v (.slice o S.length c)), (10, .v (iv S.length)), (11, .v (iv k))]) (fun _ => [(0, .cells [.v (.slice no N.length nc), .v (iv wk), .v (.slice co C.length cc), .v (.slice o S.length c)] 135)]) (fun k => k ≤ S.length) (fun k => S.length - k) 0 (Nat.zero_le _) ⟨rfl, rfl, rfl, rfl, rfl, rfl, trivial⟩ ⟨rfl, trivial⟩ (fun _ => ⟨rfl, rfl⟩) ?_
  intro k hk
  have hbd := hy.bd j k
  rcases Nat.lt_or_ge k S.length with hkl | hkl
  · obtain ⟨⟨sp, so, sc, xs⟩, hx⟩ : ∃ b, S[k]? = some b := ⟨_, List.getElem?_eq_getElem hkl⟩
    obtain ⟨_, ad, rfl, _⟩ := hS1.ptr (by omega)
    have e1 := fun (w' : World) hw' => rd_ati (hS1.below (w' := w') hw') hx
    have hm : (S.map Sy.d)[k]? = some (sp, xs) := by rw [List.getElem?_map, hx]; rfl
    have hr := hS2 _ (List.mem_of_getElem? hx)
    have hso := hy.s _ (List.mem_of_getElem? hm)
    have htb := hy.tm j (List.mem_of_getElem? hm)
    have hst := hsS_take (CC := C.map Rw.xs) (j := j) hm
    dsimp only at hr hso
    obtain ⟨⟨hp0, hp1⟩, hxl, hxb⟩ := hso
    obtain ⟨q, rfl⟩ := Int.eq_ofNat_of_zero_le hp0
    rw [hcm] at hp1
    obtain ⟨⟨ro, rc, ys⟩, hq⟩ : ∃ b, C[q]? = some b := ⟨_, List.getElem?_eq_getElem (by omega)⟩
    have hqm : (C.map Rw.xs)[q]? = some ys := by rw [List.getElem?_map, hq]; rfl
    obtain ⟨hyl, hyb⟩ := hy.r _ (List.mem_of_getElem? hqm)
    have hrr := hR _ (List.mem_of_getElem? hq)
    change Rd 1 iF (.slice ro ys.length rc) ys w at hrr
    obtain ⟨a, ha⟩ : ∃ b, xs[j]? = some b := ⟨_, List.getElem?_eq_getElem (by omega)⟩
    obtain ⟨b, hb⟩ : ∃ b, ys[j]? = some b := ⟨_, List.getElem?_eq_getElem (by omega)⟩
    have htm : tmS (C.map Rw.xs) j ((q : Int), xs) = a * b := by
      unfold tmS rwA
      rw [gt_some ha, Int.toNat_natCast, hqm, Option.getD_some, gt_some hb]
    rw [htm] at htb hst
    obtain ⟨_, adc, rfl, _⟩ := hC.ptr (by omega)
    obtain ⟨_, adx, rfl, _⟩ := hr.ptr (by omega)
    obtain ⟨_, ady, rfl, _⟩ := hrr.ptr (by omega)
    have ec := fun (w' : World) hw' => rd_ati (hC.below (w' := w') hw') hq
    have ex := fun (w' : World) hw' => rd_ati (hr.below (w' := w') hw') ha
    have ey := fun (w' : World) hw' => rd_ati (hrr.below (w' := w') hw') hb
    repeat'
     conv => whnf
     first
      |refine zA ?_|refine zB ?_|refine zC ?_|refine zF ?_|refine zG ?_
      |(refine splD ?_ ?_ <;> intro hc <;> first|(exfalso; omega)|skip)
      |refine eL [iv q, .slice (some adx) xs.length sc] ⟨⟨rfl, fun w' hw' => e1 w' hw'⟩, ?_⟩
      |refine eL [.slice (some ady) ys.length rc] ⟨⟨rfl, fun w' hw' => ec w' hw'⟩, ?_⟩
      |refine eL [iv a] ⟨⟨rfl, fun w' hw' => ex w' hw'⟩, ?_⟩
      |refine eL [iv b] ⟨⟨rfl, fun w' hw' => ey w' hw'⟩, ?_⟩
    all_goals first
      | (exfalso; omega)
      | exact ⟨k + 1, by omega, by omega, Ent.weak rfl ⟨rfl, rfl, by rw [hst]; rfl, rfl, rfl, rfl, trivial⟩ ⟨rfl, trivial⟩ fun _ h => h⟩
      | skip
  · rw [List.take_of_length_le (by rw [hsm]; exact hkl)] at hbd ⊢
    have hv := hy.hv j
    unfold hsV at hv ⊢
    repeat'
     conv => whnf
     first
      |(refine splD ?_ ?_ <;> intro hc <;> first|(exfalso; omega)|skip)
      |refine quoT (by omega) (And.intro (by omega) (by omega)) ?_
    all_goals exact ⟨fun β => rfl, fun w' h => h⟩
theorem leftC_ok (x : Cr) (o : Option Addr) (c : Nat) (S : List Sy) (j : Nat) (w : World) (h : CrIn x w) (hS : SyIn o c S w) (hy : YrOk x.N x.wk x.CC (S.map Sy.d)) (hj : j < x.N.length) :
    Calls Tryz.prog 78 #[x.ch (.slice o S.length c), iv j] w fun e w' => e = .returned (iv (lfV x.N x.CC (S.map Sy.d) j)) ∧ Below w.heap.size w w' := by
  have hc := fun w' hb => hasC_ok x o c S j w' (h.below hb) (hS.below hb) hy hj
  obtain ⟨no, nc, N, wk, co, cc, C⟩ := x
  have hN := h.n
  have hhv := hy.hv j
  have hgn := hy.gn j
  have hsl := hS.sl
  have hw := hy.w
  have hs60 := hy.sl
  have hsm : (S.map Sy.d).length = S.length := List.length_map ..
  rw [hsm] at hs60
  dsimp only at hN hj hc hw hs60 ⊢
  change 0 ≤ hsV (C.map Rw.xs) (S.map Sy.d) j ∧ hsV (C.map Rw.xs) (S.map Sy.d) j ≤ 4800000 at hhv
  have hc2 : ∀ w', Below w.heap.size w w' → Calls Tryz.prog 77 #[.agg #[.slice no N.length nc, iv wk, .slice co C.length cc, .slice o S.length c], iv j] w' fun e w1 => e = .returned (iv (hsV (C.map Rw.xs) (S.map Sy.d) j)) ∧ Below w'.heap.size w' w1 := hc
  clear hc
  refine calls_val env mixed Tryz.func78 has78 Tryz.ntmps78 [.agg #[.slice no N.length nc, iv wk, .slice co C.length cc, .slice o S.length c], iv j] (by simp) ?_
  obtain ⟨n, hn⟩ : ∃ b, N[j]? = some b := ⟨_, List.getElem?_eq_getElem hj⟩
  obtain ⟨_, ad, rfl, _⟩ := hN.ptr (by omega)
  have en := fun (w' : World) hw' => rd_ati (hN.below (w' := w') hw') hn
  rw [gt_some hn] at hgn
  show vc _ _ _ (endΦ _ _ fun s σ => (∀ β, s.c β = iv (lfV N (C.map Rw.xs) (S.map Sy.d) j)) ∧ _)
  rw [lfV, gt_some hn]
  repeat'
   conv => whnf
   first
    |refine zA ?_|refine zB ?_|refine zD ?_|refine zF ?_|refine zG ?_
    |refine eL [iv n] ⟨⟨rfl, fun w' hw' => en w' hw'⟩, ?_⟩
    |((with_reducible show CallEv _ _ 77 ..); refine callE (fun β w' hbw => hc2 _ hbw) ?_)
  all_goals exact ⟨fun β => rfl, fun w' h => h⟩
theorem nextC_ok (x : Cr) (o : Option Addr) (c : Nat) (S : List Sy) (j : Nat) (w : World) (h : CrIn x w) (hS : SyIn o c S w) (hy : YrOk x.N x.wk x.CC (S.map Sy.d)) (hj : j < x.N.length) (hlt : (S.length : Int) < x.wk) :
    Calls Tryz.prog 79 #[x.ch (.slice o S.length c), iv j] w fun e w' => e = .returned (iv (nxV x.N x.wk x.CC (S.map Sy.d) j)) ∧ Below w.heap.size w w' := by
  have hc := fun w' hb => leftC_ok x o c S j w' (h.below hb) (hS.below hb) hy hj
  obtain ⟨no, nc, N, wk, co, cc, C⟩ := x
  have hN := h.n
  have hhv := hy.hv j
  have hgn := hy.gn j
  have hsl := hS.sl
  have hw := hy.w
  have hs60 := hy.sl
  have hsm : (S.map Sy.d).length = S.length := List.length_map ..
  rw [hsm] at hs60
  dsimp only at hN hj hc hw hs60 hlt ⊢
  change 0 ≤ hsV (C.map Rw.xs) (S.map Sy.d) j ∧ hsV (C.map Rw.xs) (S.map Sy.d) j ≤ 4800000 at hhv
  have hc2 : ∀ w', Below w.heap.size w w' → Calls Tryz.prog 78 #[.agg #[.slice no N.length nc, iv wk, .slice co C.length cc, .slice o S.length c], iv j] w' fun e w1 => e = .returned (iv (lfV N (C.map Rw.xs) (S.map Sy.d) j)) ∧ Below w'.heap.size w' w1 := hc
  clear hc
  refine calls_val env mixed Tryz.func79 has79 Tryz.ntmps79 [.agg #[.slice no N.length nc, iv wk, .slice co C.length cc, .slice o S.length c], iv j] (by simp) ?_
  obtain ⟨n, hn⟩ : ∃ b, N[j]? = some b := ⟨_, List.getElem?_eq_getElem hj⟩
  obtain ⟨_, ad, rfl, _⟩ := hN.ptr (by omega)
  have en := fun (w' : World) hw' => rd_ati (hN.below (w' := w') hw') hn
  rw [gt_some hn] at hgn
  show vc _ _ _ (endΦ _ _ fun s σ => (∀ β, s.c β = iv (nxV N wk (C.map Rw.xs) (S.map Sy.d) j)) ∧ _)
  have hl1 : 0 ≤ lfV N (C.map Rw.xs) (S.map Sy.d) j ∧ lfV N (C.map Rw.xs) (S.map Sy.d) j ≤ 2000 := by
    rw [lfV, gt_some hn, imax_eq]; omega
  rw [nxV, hsm]
  generalize lfV N (C.map Rw.xs) (S.map Sy.d) j = L at *
  have hm2 := tdiv_b0 (show 0 ≤ L + (wk - (S.length : Int)) - 1 by omega) (show 0 < wk - (S.length : Int) by omega)
  repeat'
   conv => whnf
   first
    |refine zB ?_|refine zD ?_|refine zF ?_
    |((with_reducible show CallEv _ _ 78 ..); refine callE (fun β w' hbw => hc2 _ hbw) ?_)
    |refine quoT (by omega) (And.intro (by omega) (by omega)) ?_
  all_goals exact ⟨fun β => rfl, fun w' h => h⟩
theorem stS' {L : List Int} {k : Nat} (hk : k < L.length) (n : Int) : (k : Int).toNat * 1 + [iv n].length ≤ (L.flatMap iF).length := by
  rw [lenF, Int.toNat_natCast, Nat.mul_one]; exact hk
theorem stE' {L : List Int} {k : Nat} (hk : k < L.length) (n : Int) : (L.flatMap iF).take ((k : Int).toNat * ti3.size) ++ [iv n] ++ (L.flatMap iF).drop ((k : Int).toNat * ti3.size + [iv n].length) = (L.set k n).flatMap iF := by
  rw [show ti3.size = 1 from rfl, Int.toNat_natCast, Nat.mul_one, ← setF hk, List.append_assoc]; rfl
theorem take_set {D : List Int} {k : Nat} {g : Nat → Int} (hk : k < D.length) (h : D.take k = (List.range k).map g) : (D.set k (g k)).take (k + 1) = (List.range (k + 1)).map g := by
  rw [List.take_add_one, List.take_set_of_le (Nat.le_refl _), h, List.getElem?_set_self hk, List.range_succ, List.map_append]; rfl
theorem each79_own (no : Option Addr) (nc : Nat) (N : List Int) (wk : Int) (co : Option Addr) (cn cc : Nat) (s : Value) (g : Nat → Int) (w : World) (hN : 1 ≤ N.length ∧ N.length ≤ 6)
    (hg : ∀ j, j < N.length → ∀ w', Below w.heap.size w w' → Calls Tryz.prog 77 #[.agg #[.slice no N.length nc, iv wk, .slice co cn cc, s], iv j] w' fun e w2 => e = .returned (iv (g j)) ∧ Below w'.heap.size w' w2) :
    Calls Tryz.prog 76 #[.agg #[.slice no N.length nc, iv wk, .slice co cn cc, s], .func (.func 77) #[.agg #[.slice no N.length nc, iv wk, .slice co cn cc, s]] #[]] w fun e w' => ∃ b d, e = .returned (.slice (some ⟨b, 0, none⟩) N.length d) ∧ w.heap.size ≤ b ∧ Below w.heap.size w w' ∧
      w'.ownsRow 0 3 1 (.slice (some ⟨b, 0, none⟩) N.length d) N.length (((List.range N.length).map g).flatMap iF) := by
  refine calls_fam2 env mixed Tryz.func76 has76 Tryz.ntmps76 [.agg #[.slice no N.length nc, iv wk, .slice co cn cc, s], .func (.func 77) #[.agg #[.slice no N.length nc, iv wk, .slice co cn cc, s]] #[]] (by simp) ?_
  repeat'
   conv => whnf
   first
    |refine zB ?_
    |refine mkO env 1 N.length ((List.replicate N.length (0 : Int)).flatMap iF) rfl rfl rfl (by decide) rfl (by omega) (by decide) (by rw [List.flatMap_replicate]; rfl) rfl ?_
  refine loopN2 3 (fun (k : Nat) (D : List Int) => [(1, .v (.func (.func 77) #[.agg #[.slice no N.length nc, iv wk, .slice co cn cc, s]] #[])), (5, .os 1 2 N.length), (13, .v (iv N.length)), (14, .v (iv k))])
    (fun k D => [(1, .own 2 N.length 1 (D.flatMap iF) 3)])
    (fun k D => k ≤ N.length ∧ D.length = N.length ∧ D.take k = (List.range k).map g) (fun k _ => N.length - k) 0 (List.replicate N.length 0)
    ⟨Nat.zero_le _, by simp, rfl⟩ ⟨rfl, rfl, rfl, rfl, trivial⟩ ⟨rfl, trivial⟩ (fun _ _ _ => ⟨rfl, rfl⟩) ?_
  intro k D ⟨hk, hD, hDk⟩
  rcases Nat.lt_or_ge k N.length with hkl | hkl
  · have hkD : k < D.length := by omega
    have ht := take_set hkD hDk
    repeat'
     conv => whnf
     first
      |refine zC ?_|refine zD ?_|refine zF ?_|refine zG ?_
      |(refine splD ?_ ?_ <;> intro hc <;> first|(exfalso; omega)|skip)
      |((with_reducible show CallEv _ _ 77 ..); refine callE (fun β w' hbw => hg k hkl _ hbw) ?_)
      |(refine And.intro (a := _ + _ ≤ List.length _) (stS' hkD (g k)) ?_; rw [stE' hkD (g k)])
    all_goals exact ⟨k + 1, D.set k (g k), ⟨by omega, by rw [List.length_set]; exact hD, ht⟩, by omega, Ent.weak rfl ⟨rfl, rfl, rfl, rfl, trivial⟩ ⟨rfl, trivial⟩ fun _ h => h⟩
  · have hkn : k = N.length := by omega
    subst hkn
    rw [List.take_of_length_le (by omega)] at hDk
    subst hDk
    repeat'
     conv => whnf
     first
      |(refine splD ?_ ?_ <;> intro hc <;> first|(exfalso; omega)|skip)
    all_goals exact ⟨fun w' h => h, fun β w' hB hB2 hblk => ⟨β 1, β 2, rfl, (hblk 1 _ rfl rfl).1, hB2, (hblk 1 _ rfl rfl).2⟩⟩
theorem each80_own (no : Option Addr) (nc : Nat) (N : List Int) (wk : Int) (co : Option Addr) (cn cc : Nat) (s : Value) (g : Nat → Int) (w : World) (hN : 1 ≤ N.length ∧ N.length ≤ 6)
    (hg : ∀ j, j < N.length → ∀ w', Below w.heap.size w w' → Calls Tryz.prog 78 #[.agg #[.slice no N.length nc, iv wk, .slice co cn cc, s], iv j] w' fun e w2 => e = .returned (iv (g j)) ∧ Below w'.heap.size w' w2) :
    Calls Tryz.prog 76 #[.agg #[.slice no N.length nc, iv wk, .slice co cn cc, s], .func (.func 78) #[.agg #[.slice no N.length nc, iv wk, .slice co cn cc, s]] #[]] w fun e w' => ∃ b d, e = .returned (.slice (some ⟨b, 0, none⟩) N.length d) ∧ w.heap.size ≤ b ∧ Below w.heap.size w w' ∧
      w'.ownsRow 0 3 1 (.slice (some ⟨b, 0, none⟩) N.length d) N.length (((List.range N.length).map g).flatMap iF) := by
  refine calls_fam2 env mixed Tryz.func76 has76 Tryz.ntmps76 [.agg #[.slice no N.length nc, iv wk, .slice co cn cc, s], .func (.func 78) #[.agg #[.slice no N.length nc, iv wk, .slice co cn cc, s]] #[]] (by simp) ?_
  repeat'
   conv => whnf
   first
    |refine zB ?_
    |refine mkO env 1 N.length ((List.replicate N.length (0 : Int)).flatMap iF) rfl rfl rfl (by decide) rfl (by omega) (by decide) (by rw [List.flatMap_replicate]; rfl) rfl ?_
  refine loopN2 3 (fun (k : Nat) (D : List Int) => [(1, .v (.func (.func 78) #[.agg #[.slice no N.length nc, iv wk, .slice co cn cc, s]] #[])), (5, .os 1 2 N.length), (13, .v (iv N.length)), (14, .v (iv k))])
    (fun k D => [(1, .own 2 N.length 1 (D.flatMap iF) 3)])
    (fun k D => k ≤ N.length ∧ D.length = N.length ∧ D.take k = (List.range k).map g) (fun k _ => N.length - k) 0 (List.replicate N.length 0)
    ⟨Nat.zero_le _, by simp, rfl⟩ ⟨rfl, rfl, rfl, rfl, trivial⟩ ⟨rfl, trivial⟩ (fun _ _ _ => ⟨rfl, rfl⟩) ?_
  intro k D ⟨hk, hD, hDk⟩
  rcases Nat.lt_or_ge k N.length with hkl | hkl
  · have hkD : k < D.length := by omega
    have ht := take_set hkD hDk
    repeat'
     conv => whnf
     first
      |refine zC ?_|refine zD ?_|refine zF ?_|refine zG ?_
      |(refine splD ?_ ?_ <;> intro hc <;> first|(exfalso; omega)|skip)
      |((with_reducible show CallEv _ _ 78 ..); refine callE (fun β w' hbw => hg k hkl _ hbw) ?_)
      |(refine And.intro (a := _ + _ ≤ List.length _) (stS' hkD (g k)) ?_; rw [stE' hkD (g k)])
    all_goals exact ⟨k + 1, D.set k (g k), ⟨by omega, by rw [List.length_set]; exact hD, ht⟩, by omega, Ent.weak rfl ⟨rfl, rfl, rfl, rfl, trivial⟩ ⟨rfl, trivial⟩ fun _ h => h⟩
  · have hkn : k = N.length := by omega
    subst hkn
    rw [List.take_of_length_le (by omega)] at hDk
    subst hDk
    repeat'
     conv => whnf
     first
      |(refine splD ?_ ?_ <;> intro hc <;> first|(exfalso; omega)|skip)
    all_goals exact ⟨fun w' h => h, fun β w' hB hB2 hblk => ⟨β 1, β 2, rfl, (hblk 1 _ rfl rfl).1, hB2, (hblk 1 _ rfl rfl).2⟩⟩
theorem each81_own (no : Option Addr) (nc : Nat) (N : List Int) (wk : Int) (co : Option Addr) (cn cc : Nat) (s : Value) (g : Nat → Int) (w : World) (hN : 1 ≤ N.length ∧ N.length ≤ 6)
    (hg : ∀ j, j < N.length → ∀ w', Below w.heap.size w w' → Calls Tryz.prog 79 #[.agg #[.slice no N.length nc, iv wk, .slice co cn cc, s], iv j] w' fun e w2 => e = .returned (iv (g j)) ∧ Below w'.heap.size w' w2) :
    Calls Tryz.prog 76 #[.agg #[.slice no N.length nc, iv wk, .slice co cn cc, s], .func (.func 79) #[.agg #[.slice no N.length nc, iv wk, .slice co cn cc, s]] #[]] w fun e w' => ∃ b d, e = .returned (.slice (some ⟨b, 0, none⟩) N.length d) ∧ w.heap.size ≤ b ∧ Below w.heap.size w w' ∧
      w'.ownsRow 0 3 1 (.slice (some ⟨b, 0, none⟩) N.length d) N.length (((List.range N.length).map g).flatMap iF) := by
  refine calls_fam2 env mixed Tryz.func76 has76 Tryz.ntmps76 [.agg #[.slice no N.length nc, iv wk, .slice co cn cc, s], .func (.func 79) #[.agg #[.slice no N.length nc, iv wk, .slice co cn cc, s]] #[]] (by simp) ?_
  repeat'
   conv => whnf
   first
    |refine zB ?_
    |refine mkO env 1 N.length ((List.replicate N.length (0 : Int)).flatMap iF) rfl rfl rfl (by decide) rfl (by omega) (by decide) (by rw [List.flatMap_replicate]; rfl) rfl ?_
  refine loopN2 3 (fun (k : Nat) (D : List Int) => [(1, .v (.func (.func 79) #[.agg #[.slice no N.length nc, iv wk, .slice co cn cc, s]] #[])), (5, .os 1 2 N.length), (13, .v (iv N.length)), (14, .v (iv k))])
    (fun k D => [(1, .own 2 N.length 1 (D.flatMap iF) 3)])
    (fun k D => k ≤ N.length ∧ D.length = N.length ∧ D.take k = (List.range k).map g) (fun k _ => N.length - k) 0 (List.replicate N.length 0)
    ⟨Nat.zero_le _, by simp, rfl⟩ ⟨rfl, rfl, rfl, rfl, trivial⟩ ⟨rfl, trivial⟩ (fun _ _ _ => ⟨rfl, rfl⟩) ?_
  intro k D ⟨hk, hD, hDk⟩
  rcases Nat.lt_or_ge k N.length with hkl | hkl
  · have hkD : k < D.length := by omega
    have ht := take_set hkD hDk
    repeat'
     conv => whnf
     first
      |refine zC ?_|refine zD ?_|refine zF ?_|refine zG ?_
      |(refine splD ?_ ?_ <;> intro hc <;> first|(exfalso; omega)|skip)
      |((with_reducible show CallEv _ _ 79 ..); refine callE (fun β w' hbw => hg k hkl _ hbw) ?_)
      |(refine And.intro (a := _ + _ ≤ List.length _) (stS' hkD (g k)) ?_; rw [stE' hkD (g k)])
    all_goals exact ⟨k + 1, D.set k (g k), ⟨by omega, by rw [List.length_set]; exact hD, ht⟩, by omega, Ent.weak rfl ⟨rfl, rfl, rfl, rfl, trivial⟩ ⟨rfl, trivial⟩ fun _ h => h⟩
  · have hkn : k = N.length := by omega
    subst hkn
    rw [List.take_of_length_le (by omega)] at hDk
    subst hDk
    repeat'
     conv => whnf
     first
      |(refine splD ?_ ?_ <;> intro hc <;> first|(exfalso; omega)|skip)
    all_goals exact ⟨fun w' h => h, fun β w' hB hB2 hblk => ⟨β 1, β 2, rfl, (hblk 1 _ rfl rfl).1, hB2, (hblk 1 _ rfl rfl).2⟩⟩
def hasL (N : List Int) (wk : Int) (CC : List (List Int)) (SS : List (Int × List Int)) : List Int := if ckE N wk CC SS = 0 then (List.range N.length).map (hsV CC SS) else []
def lefL (N : List Int) (wk : Int) (CC : List (List Int)) (SS : List (Int × List Int)) : List Int := if ckE N wk CC SS = 0 then (List.range N.length).map (lfV N CC SS) else []
def nxE (N : List Int) (wk : Int) (CC : List (List Int)) (SS : List (Int × List Int)) : Int := if ckE N wk CC SS = 0 then (if (SS.length : Int) = wk then 7 else 0) else ckE N wk CC SS
def nxtL (N : List Int) (wk : Int) (CC : List (List Int)) (SS : List (Int × List Int)) : List Int := if nxE N wk CC SS = 0 then (List.range N.length).map (nxV N wk CC SS) else []
theorem below_tr {w0 w1 w2 : World} (h : Below w0.heap.size w0 w1) (k : Below w1.heap.size w1 w2) : Below w0.heap.size w0 w2 := h.trans (k.mono h.size)
theorem own_rd {n m : Nat} {L : List Int} {β : Nat → Nat} {b : Nat} {j : Nat} {w : World} (hn : m = L.length) (h : St n (fun w2 => (Blk.own j m 1 (L.flatMap iF) 3).ok β w2 b) w) : St n (Rd 1 iF (.slice (some ⟨b, 0, none⟩) m (β j)) L) w :=
  h.imp fun _ q => Rd.of_owns (sz := 1) (f := iF) (fun _ => rfl) rfl hn q
theorem Has_ok (x : Cr) (o : Option Addr) (c : Nat) (S : List Sy) (w : World) (h : CrIn x w) (hS : SyIn o c S w) :
    Calls Tryz.prog 34 #[x.v, .slice o S.length c] w fun e w' => ∃ y : (Option Addr × Nat) × (Option Addr × Nat), e = .returned (.tuple #[sV (hasL x.N x.wk x.CC (S.map Sy.d)).length y.1, sV (lefL x.N x.wk x.CC (S.map Sy.d)).length y.2, iv (ckE x.N x.wk x.CC (S.map Sy.d))]) ∧ Below w.heap.size w w' ∧
      St w.heap.size (fun w2 => Rd 1 iF (sV (hasL x.N x.wk x.CC (S.map Sy.d)).length y.1) (hasL x.N x.wk x.CC (S.map Sy.d)) w2 ∧ Rd 1 iF (sV (lefL x.N x.wk x.CC (S.map Sy.d)).length y.2) (lefL x.N x.wk x.CC (S.map Sy.d)) w2) w' := by
  have hck := fun w' hb => ccheck_ok x o c S w' (h.below hb) (hS.below hb)
  have hsm : (S.map Sy.d).length = S.length := List.length_map ..
  unfold hasL lefL
  by_cases h0 : ckE x.N x.wk x.CC (S.map Sy.d) = 0
  · have hy := YrOk.of h0
    have h79 := fun j hj w' hb => hasC_ok x o c S j w' (h.below hb) (hS.below hb) hy hj
    have h80 := fun j hj w' hb => leftC_ok x o c S j w' (h.below hb) (hS.below hb) hy hj
    have e79 := fun w' hb => each79_own x.no x.nc x.N x.wk x.co x.C.length x.cc (.slice o S.length c) (hsV x.CC (S.map Sy.d)) w' hy.n6 (fun j hj w2 hb2 => h79 j hj w2 (below_tr hb hb2))
    have e80 := fun w' hb => each80_own x.no x.nc x.N x.wk x.co x.C.length x.cc (.slice o S.length c) (lfV x.N x.CC (S.map Sy.d)) w' hy.n6 (fun j hj w2 hb2 => h80 j hj w2 (below_tr hb hb2))
    rw [if_pos h0, if_pos h0, h0]
    rw [h0] at hck
    have hl1 : ((List.range x.N.length).map (hsV x.CC (S.map Sy.d))).length = x.N.length := by simp
    have hl2 : ((List.range x.N.length).map (lfV x.N x.CC (S.map Sy.d))).length = x.N.length := by simp
    generalize (List.range x.N.length).map (hsV x.CC (S.map Sy.d)) = A at *
    generalize (List.range x.N.length).map (lfV x.N x.CC (S.map Sy.d)) = B at *
    clear h79 h80 hy h0
    obtain ⟨no, nc, N, wk, co, cc, C⟩ := x
    dsimp only at hck e79 e80 hl1 hl2 ⊢
    refine calls_fam env mixed Tryz.func34 has34 Tryz.ntmps34 [.agg #[.slice no N.length nc, iv wk, .slice co C.length cc], .slice o S.length c] (by simp) ?_
    repeat'
     conv => whnf
     first
      |refine zA ?_|refine zB ?_|refine zC ?_|refine zD ?_|refine splF ?_
      |((with_reducible show CallEv _ _ 75 ..); refine callE (fun β w' hbw => hck _ hbw) ?_)
      |refine mkMv (.agg #[.slice no N.length nc, iv wk, .slice co C.length cc, .slice o S.length c]) rfl (fun _ => rfl) rfl ?_
      |((with_reducible show CallEv _ _ 76 [_, .v (.func (.func 77) _ _)] _ _ _ _); refine callO 2 [] (.os 2 3 N.length) N.length 1 (A.flatMap iF) 3 rfl (fun β w' _ hbw => (e79 w' hbw).mono fun _ _ ⟨b, c, h1, h2, h3, h4⟩ => ⟨b, c, h1, h2, h3, h4⟩) ?_)
      |((with_reducible show CallEv _ _ 76 [_, .v (.func (.func 78) _ _)] _ _ _ _); refine callO 4 [] (.os 4 5 N.length) N.length 1 (B.flatMap iF) 3 rfl (fun β w' _ hbw => (e80 w' hbw).mono fun _ _ ⟨b, c, h1, h2, h3, h4⟩ => ⟨b, c, h1, h2, h3, h4⟩) ?_)
    all_goals first
      | (exfalso; omega)
      | exact ⟨fun w' h => h, fun β w' hB hblk => ⟨((some ⟨β 2, 0, none⟩, β 3), (some ⟨β 4, 0, none⟩, β 5)), by rw [hl1, hl2]; rfl, by rw [hl1, hl2]; exact (own_rd hl1.symm (hblk 2 _ rfl rfl)).and (own_rd hl2.symm (hblk 4 _ rfl rfl))⟩⟩
  · rw [if_neg h0, if_neg h0]
    generalize ckE x.N x.wk x.CC (S.map Sy.d) = E at *
    obtain ⟨no, nc, N, wk, co, cc, C⟩ := x
    try dsimp only at hck ⊢
    refine calls_fam env mixed Tryz.func34 has34 Tryz.ntmps34 [.agg #[.slice no N.length nc, iv wk, .slice co C.length cc], .slice o S.length c] (by simp) ?_
    repeat'
     conv => whnf
     first
      |refine zD ?_|refine splNot ?_
      |(refine splD ?_ ?_ <;> intro hc <;> first|(exfalso; omega)|skip)
      |((with_reducible show CallEv _ _ 75 ..); refine callE (fun β w' hbw => hck _ hbw) ?_)
    all_goals exact ⟨fun w' h => h, fun β w' hB hblk => ⟨((none, 0), (none, 0)), rfl, fun w2 k2 => ⟨.inl ⟨rfl, rfl⟩, .inl ⟨rfl, rfl⟩⟩⟩⟩
theorem Next_ok (x : Cr) (o : Option Addr) (c : Nat) (S : List Sy) (w : World) (h : CrIn x w) (hS : SyIn o c S w) :
    Calls Tryz.prog 35 #[x.v, .slice o S.length c] w fun e w' => ∃ y : Option Addr × Nat, e = .returned (.tuple #[sV (nxtL x.N x.wk x.CC (S.map Sy.d)).length y, iv (nxE x.N x.wk x.CC (S.map Sy.d))]) ∧ Below w.heap.size w w' ∧
      St w.heap.size (Rd 1 iF (sV (nxtL x.N x.wk x.CC (S.map Sy.d)).length y) (nxtL x.N x.wk x.CC (S.map Sy.d))) w' := by
  have hck := fun w' hb => ccheck_ok x o c S w' (h.below hb) (hS.below hb)
  have hsm : (S.map Sy.d).length = S.length := List.length_map ..
  unfold nxtL nxE
  by_cases h0 : ckE x.N x.wk x.CC (S.map Sy.d) = 0
  · have hy := YrOk.of h0
    have hsl := hS.sl
    have hwk := hy.w
    rw [if_pos h0, hsm]
    rw [h0] at hck
    by_cases h1 : (S.length : Int) = x.wk
    · rw [if_pos h1]
      obtain ⟨no, nc, N, wk, co, cc, C⟩ := x
      dsimp only at hck h1 hwk ⊢
      refine calls_fam env mixed Tryz.func35 has35 Tryz.ntmps35 [.agg #[.slice no N.length nc, iv wk, .slice co C.length cc], .slice o S.length c] (by simp) ?_
      repeat'
       conv => whnf
       first
        |refine zB ?_|refine zD ?_|refine splF ?_
        |(refine splD ?_ ?_ <;> intro hc <;> first|(exfalso; omega)|skip)
        |((with_reducible show CallEv _ _ 75 ..); refine callE (fun β w' hbw => hck _ hbw) ?_)
      all_goals exact ⟨fun w' h => h, fun β w' hB hblk => ⟨(none, 0), rfl, fun w2 k2 => .inl ⟨rfl, rfl⟩⟩⟩
    · rw [if_neg h1]
      have hlt : (S.length : Int) < x.wk := by have := hy.sl; rw [hsm] at this; omega
      have h81 := fun j hj w' hb => nextC_ok x o c S j w' (h.below hb) (hS.below hb) hy hj hlt
      have e81 := fun w' hb => each81_own x.no x.nc x.N x.wk x.co x.C.length x.cc (.slice o S.length c) (nxV x.N x.wk x.CC (S.map Sy.d)) w' hy.n6 (fun j hj w2 hb2 => h81 j hj w2 (below_tr hb hb2))
      rw [if_pos rfl]
      have hl1 : ((List.range x.N.length).map (nxV x.N x.wk x.CC (S.map Sy.d))).length = x.N.length := by simp
      generalize (List.range x.N.length).map (nxV x.N x.wk x.CC (S.map Sy.d)) = A at *
      clear h81 hy h0
      obtain ⟨no, nc, N, wk, co, cc, C⟩ := x
      dsimp only at hck e81 hl1 h1 hlt hwk ⊢
      refine calls_fam env mixed Tryz.func35 has35 Tryz.ntmps35 [.agg #[.slice no N.length nc, iv wk, .slice co C.length cc], .slice o S.length c] (by simp) ?_
      repeat'
       conv => whnf
       first
        |refine zB ?_|refine zC ?_|refine zD ?_|refine splF ?_
        |(refine splD ?_ ?_ <;> intro hc <;> first|(exfalso; omega)|skip)
        |((with_reducible show CallEv _ _ 75 ..); refine callE (fun β w' hbw => hck _ hbw) ?_)
        |refine mkMv (.agg #[.slice no N.length nc, iv wk, .slice co C.length cc, .slice o S.length c]) rfl (fun _ => rfl) rfl ?_
        |((with_reducible show CallEv _ _ 76 [_, .v (.func (.func 79) _ _)] _ _ _ _); refine callO 2 [] (.os 2 3 N.length) N.length 1 (A.flatMap iF) 3 rfl (fun β w' _ hbw => (e81 w' hbw).mono fun _ _ ⟨b, c, h1, h2, h3, h4⟩ => ⟨b, c, h1, h2, h3, h4⟩) ?_)
      all_goals first
        | (exfalso; omega)
        | exact ⟨fun w' h => h, fun β w' hB hblk => ⟨(some ⟨β 2, 0, none⟩, β 3), by rw [hl1]; rfl, by rw [hl1]; exact own_rd hl1.symm (hblk 2 _ rfl rfl)⟩⟩
  · rw [if_neg h0, if_neg h0]
    generalize ckE x.N x.wk x.CC (S.map Sy.d) = E at *
    obtain ⟨no, nc, N, wk, co, cc, C⟩ := x
    try dsimp only at hck ⊢
    refine calls_fam env mixed Tryz.func35 has35 Tryz.ntmps35 [.agg #[.slice no N.length nc, iv wk, .slice co C.length cc], .slice o S.length c] (by simp) ?_
    repeat'
     conv => whnf
     first
      |refine zD ?_|refine splNot ?_
      |(refine splD ?_ ?_ <;> intro hc <;> first|(exfalso; omega)|skip)
      |((with_reducible show CallEv _ _ 75 ..); refine callE (fun β w' hbw => hck _ hbw) ?_)
    all_goals exact ⟨fun w' h => h, fun β w' hB hblk => ⟨(none, 0), rfl, fun w2 k2 => .inl ⟨rfl, rfl⟩⟩⟩
def campD : SD := ⟨4, 2, 2, [[2, 1], [1, 2], [0, 1]], [([0], 5), ([0, 1], 4)]⟩
theorem cells_rd {α : Type} {sz : Nat} {f : α → List Value} {n m c ty : Nat} {β : Nat → Nat} {bs : List α} {l : List SV} {b : Nat} {w : World} (hf : ∀ x, (f x).length = sz) (hl : SV.cs β l = bs.flatMap f) (hn : m = bs.length) (h : St n (fun w2 => (Blk.cells l ty).ok β w2 b) w) : St n (Rd sz f (.slice (some ⟨b, 0, none⟩) m c) bs) w := fun w2 k2 =>
 Rd.of_cells hf hn (by have := h w2 k2; simp only [Blk.ok] at this; rw [hl] at this; exact this)
theorem camp_ok (w : World) : Calls Tryz.prog 32 #[] w fun e w' => ∃ y : { y : Sc // y.d = campD }, e = .returned y.1.v ∧ Below w.heap.size w w' ∧ St w.heap.size (ScIn y.1) w' := by
 refine calls_fam env mixed Tryz.func32 has32 Tryz.ntmps32 [] (by simp) ?_
 repeat'
  conv => whnf
  first
   |refine zB ?_|refine zC ?_
 conv => whnf
 refine ⟨fun w' h => h, fun β w' hB hblk => ⟨⟨⟨4, 2, 2, some ⟨β 4, 0, none⟩, 3, [⟨some ⟨β 1, 0, none⟩, 2, [2, 1]⟩, ⟨some ⟨β 2, 0, none⟩, 2, [1, 2]⟩, ⟨some ⟨β 3, 0, none⟩, 2, [0, 1]⟩], some ⟨β 7, 0, none⟩, 2, [⟨some ⟨β 5, 0, none⟩, 1, [0], 5⟩, ⟨some ⟨β 6, 0, none⟩, 2, [0, 1], 4⟩]⟩, rfl⟩, rfl, ?_⟩⟩
 have h4 := cells_rd (sz := 1) (f := Rw.cs) (m := 3) (c := 3) (bs := [⟨some ⟨β 1, 0, none⟩, 2, [2, 1]⟩, ⟨some ⟨β 2, 0, none⟩, 2, [1, 2]⟩, ⟨some ⟨β 3, 0, none⟩, 2, [0, 1]⟩]) (fun _ => rfl) rfl rfl (hblk 4 _ rfl rfl)
 have h7 := cells_rd (sz := 2) (f := Tc.cs) (m := 2) (c := 2) (bs := [⟨some ⟨β 5, 0, none⟩, 1, [0], 5⟩, ⟨some ⟨β 6, 0, none⟩, 2, [0, 1], 4⟩]) (fun _ => rfl) rfl rfl (hblk 7 _ rfl rfl)
 have h1 := cells_rd (sz := 1) (f := iF) (m := 2) (c := 2) (bs := [2, 1]) (fun _ => rfl) rfl rfl (hblk 1 _ rfl rfl)
 have h2 := cells_rd (sz := 1) (f := iF) (m := 2) (c := 2) (bs := [1, 2]) (fun _ => rfl) rfl rfl (hblk 2 _ rfl rfl)
 have h3 := cells_rd (sz := 1) (f := iF) (m := 2) (c := 2) (bs := [0, 1]) (fun _ => rfl) rfl rfl (hblk 3 _ rfl rfl)
 have h5 := cells_rd (sz := 1) (f := iF) (m := 1) (c := 1) (bs := [0]) (fun _ => rfl) rfl rfl (hblk 5 _ rfl rfl)
 have h6 := cells_rd (sz := 1) (f := iF) (m := 2) (c := 2) (bs := [0, 1]) (fun _ => rfl) rfl rfl (hblk 6 _ rfl rfl)
 intro w2 k2
 refine ⟨h4 w2 k2, fun r hr => ?_, h7 w2 k2, fun t ht => ?_⟩
 · simp only [List.mem_cons, List.not_mem_nil, or_false] at hr
   rcases hr with rfl | rfl | rfl
   · exact h1 w2 k2
   · exact h2 w2 k2
   · exact h3 w2 k2
 · simp only [List.mem_cons, List.not_mem_nil, or_false] at ht
   rcases ht with rfl | rfl
   · exact h5 w2 k2
   · exact h6 w2 k2
structure Yr where
 x : Cr
 o : Option Addr
 c : Nat
 S : List Sy
 h : (x.N, x.wk, x.CC, S.map Sy.d) = ([40, 10], 4, [[1000, 1000], [500, 1500]], [(0, [12, 2]), (1, [7, 1])])
abbrev Yr.v (y : Yr) : Value := .tuple #[y.x.v, .slice y.o y.S.length y.c]
theorem year_ok (w : World) : Calls Tryz.prog 33 #[] w fun e w' => ∃ y : Yr, e = .returned y.v ∧ Below w.heap.size w w' ∧ St w.heap.size (fun w2 => CrIn y.x w2 ∧ SyIn y.o y.c y.S w2) w' := by
 refine calls_fam env mixed Tryz.func33 has33 Tryz.ntmps33 [] (by simp) ?_
 repeat'
  conv => whnf
  first
   |refine zB ?_|refine zC ?_
 conv => whnf
 refine ⟨fun w' h => h, fun β w' hB hblk => ⟨⟨⟨some ⟨β 1, 0, none⟩, 2, [40, 10], 4, some ⟨β 4, 0, none⟩, 2, [⟨some ⟨β 2, 0, none⟩, 2, [1000, 1000]⟩, ⟨some ⟨β 3, 0, none⟩, 2, [500, 1500]⟩]⟩, some ⟨β 7, 0, none⟩, 2, [⟨0, some ⟨β 5, 0, none⟩, 2, [12, 2]⟩, ⟨1, some ⟨β 6, 0, none⟩, 2, [7, 1]⟩], rfl⟩, rfl, ?_⟩⟩
 have h4 := cells_rd (sz := 1) (f := Rw.cs) (m := 2) (c := 2) (bs := [⟨some ⟨β 2, 0, none⟩, 2, [1000, 1000]⟩, ⟨some ⟨β 3, 0, none⟩, 2, [500, 1500]⟩]) (fun _ => rfl) rfl rfl (hblk 4 _ rfl rfl)
 have h7 := cells_rd (sz := 2) (f := Sy.cs) (m := 2) (c := 2) (bs := [⟨0, some ⟨β 5, 0, none⟩, 2, [12, 2]⟩, ⟨1, some ⟨β 6, 0, none⟩, 2, [7, 1]⟩]) (fun _ => rfl) rfl rfl (hblk 7 _ rfl rfl)
 have h1 := cells_rd (sz := 1) (f := iF) (m := 2) (c := 2) (bs := [40, 10]) (fun _ => rfl) rfl rfl (hblk 1 _ rfl rfl)
 have h2 := cells_rd (sz := 1) (f := iF) (m := 2) (c := 2) (bs := [1000, 1000]) (fun _ => rfl) rfl rfl (hblk 2 _ rfl rfl)
 have h3 := cells_rd (sz := 1) (f := iF) (m := 2) (c := 2) (bs := [500, 1500]) (fun _ => rfl) rfl rfl (hblk 3 _ rfl rfl)
 have h5 := cells_rd (sz := 1) (f := iF) (m := 2) (c := 2) (bs := [12, 2]) (fun _ => rfl) rfl rfl (hblk 5 _ rfl rfl)
 have h6 := cells_rd (sz := 1) (f := iF) (m := 2) (c := 2) (bs := [7, 1]) (fun _ => rfl) rfl rfl (hblk 6 _ rfl rfl)
 intro w2 k2
 refine ⟨⟨h1 w2 k2, h4 w2 k2, fun r hr => ?_, by show (2 : Nat) ≤ 1000000; omega, by show (2 : Nat) ≤ 1000000; omega, fun r hr => ?_⟩, h7 w2 k2, fun t ht => ?_, by show (2 : Nat) ≤ 1000000; omega, fun t ht => ?_⟩
 all_goals simp only [List.mem_cons, List.not_mem_nil, or_false] at *
 · rcases hr with rfl | rfl
   · exact h2 w2 k2
   · exact h3 w2 k2
 · rcases hr with rfl | rfl <;> (show (2 : Nat) ≤ 1000000; omega)
 · rcases ht with rfl | rfl
   · exact h5 w2 k2
   · exact h6 w2 k2
 · rcases ht with rfl | rfl <;> (show (2 : Nat) ≤ 1000000; omega)
def camp0 : Sc := ⟨4, 2, 2, none, 0, [⟨none, 0, [2, 1]⟩, ⟨none, 0, [1, 2]⟩, ⟨none, 0, [0, 1]⟩], none, 0, [⟨none, 0, [0], 5⟩, ⟨none, 0, [0, 1], 4⟩]⟩
theorem camp0_b : ScB camp0 := by
 refine ⟨by show (3 : Nat) ≤ 1000000; omega, fun r hr => ?_, by show (2 : Nat) ≤ 1000000; omega, fun t ht => ?_⟩
 · have hr : r ∈ [(⟨none, 0, [2, 1]⟩ : Rw), ⟨none, 0, [1, 2]⟩, ⟨none, 0, [0, 1]⟩] := hr
   simp only [List.mem_cons, List.not_mem_nil, or_false] at hr
   rcases hr with rfl | rfl | rfl <;> (show (2 : Nat) ≤ 1000000; omega)
 · have ht : t ∈ [(⟨none, 0, [0], 5⟩ : Tc), ⟨none, 0, [0, 1], 4⟩] := ht
   simp only [List.mem_cons, List.not_mem_nil, or_false] at ht
   rcases ht with rfl | rfl
   · show (1 : Nat) ≤ 1000000; omega
   · show (2 : Nat) ≤ 1000000; omega
theorem awk1 : resW campD = none ∧ errW campD = 7 ∧ errL campD = 0 ∧ lst campD = 4 ∧ errT campD = 0 ∧ scOk campD = true := by
 refine ⟨?_, ?_, ?_, ?_, ?_, ?_⟩ <;> kernel_rfl
theorem awk2 : resW (campD.at 3) = some ⟨2, 0, [1], 4, 3⟩ ∧ errW (campD.at 3) = 0 := by
 refine ⟨?_, ?_⟩ <;> kernel_rfl
theorem awk3 : hasL [40, 10] 4 [[1000, 1000], [500, 1500]] [(0, [12, 2]), (1, [7, 1])] = [15, 3] ∧ lefL [40, 10] 4 [[1000, 1000], [500, 1500]] [(0, [12, 2]), (1, [7, 1])] = [25, 7] ∧ ckE [40, 10] 4 [[1000, 1000], [500, 1500]] [(0, [12, 2]), (1, [7, 1])] = 0 ∧ nxtL [40, 10] 4 [[1000, 1000], [500, 1500]] [(0, [12, 2]), (1, [7, 1])] = [13, 4] ∧ nxE [40, 10] 4 [[1000, 1000], [500, 1500]] [(0, [12, 2]), (1, [7, 1])] = 0 := by
 refine ⟨?_, ?_, ?_, ?_, ?_⟩ <;> kernel_rfl
theorem ints2 (a b : Int) (o : Option Addr) (c bb : Nat) (w : World) (h : Rd 1 iF (.slice o 2 c) [a, b] w) (hb : w.heap[bb]? = some (.cells #[iv a, iv b] 3 (0, 0))) : Calls Tryz.prog 36 #[.slice o 2 c, .slice (some ⟨bb, 0, none⟩) 2 2] w fun e w' => e = .returned (.bool true) ∧ Below w.heap.size w w' := by
 have h1 : Rd 1 iF (.slice (some ⟨bb, 0, none⟩) 2 2) [a, b] w := Rd.of_cells (sz := 1) (f := iF) (bs := [a, b]) (fun _ => rfl) rfl hb
 have := ints_ok [a, b] [a, b] o (some ⟨bb, 0, none⟩) c 2 w h h1 (by show (2 : Nat) ≤ 1000000; omega)
 rw [decide_eq_true (rfl : [a, b] = [a, b])] at this
 exact this
theorem Aw5 (w : World) (zo ao bo co to : Option Addr) (zc ac bc cc tc : Nat) :
 VC Tryz.prog (rest 10 body12) ⟨108, [(2, .v (iv 7)), (3, .v (iv 4)), (4, .v (iv 0)), (6, .ptr 0 0), (7, .v (iv 0)), (10, .v (.slice ao 2 ac)), (11, .v (.slice bo 2 bc)), (12, .v (iv 0)), (13, .v (.slice co 2 cc)), (14, .v (iv 0)), (15, .v (.slice to 4 tc)), (16, .v (iv 0))], [(0, .cells [.v (.int .u8 2), .v (iv 0), .v (.slice zo 1 zc), .v (iv 4), .v (iv 3)] 56)], 1, fun w' => Below w.heap.size w w' ∧ St w.heap.size (Rd 1 iF (.slice zo 1 zc) [1]) w' ∧ St w.heap.size (Rd 1 iF (.slice ao 2 ac) [15, 3]) w' ∧ St w.heap.size (Rd 1 iF (.slice bo 2 bc) [25, 7]) w' ∧ St w.heap.size (Rd 1 iF (.slice co 2 cc) [13, 4]) w', z0⟩ (endΦ env Tryz.f12 fun v σ => (∀ β, v.c β = .bool true) ∧ ∀ w', σ.h w' → Below w.heap.size w w') := by
 refine VC.of env mixed ?_
 have h23 : ∀ (b : Nat) (w' : World), Rd 1 iF (.slice zo 1 zc) [1] w' → w'.heap[b]? = some (.cells #[iv 1] 3 (0, 0)) → Calls Tryz.prog 23 #[(⟨2, 0, zo, zc, [1], 4, 3⟩ : Rn).v, (⟨2, 0, some ⟨b, 0, none⟩, 1, [1], 4, 3⟩ : Rn).v] w' fun e w2 => e = Ending.returned (.bool true) ∧ Below w'.heap.size w' w2 := fun b w' h hb => same_ok ⟨2, 0, zo, zc, [1], 4, 3⟩ ⟨2, 0, some ⟨b, 0, none⟩, 1, [1], 4, 3⟩ w' h (Rd.of_cells (sz := 1) (f := iF) (bs := [1]) (fun _ => rfl) rfl hb) (by show (1 : Nat) ≤ 1000000; omega)
 repeat'
  conv => whnf
  first
   |refine zB ?_|refine zD ?_|refine splT ?_
   |((with_reducible show CallEv _ _ 23 ..); refine callM [1] (fun β w' hbk hbw => h23 (β 1) w' hbw.2.1.now (hbk 1 (by simp) _ rfl)) ?_)
   |((with_reducible show CallEv _ _ 36 [.v (.slice ao 2 ac), _] _ _ _ _); refine callM (k := 36) [2] (fun β w' hbk hbw => ints2 15 3 ao ac (β 2) w' hbw.2.2.1.now (hbk 2 (by simp) _ rfl)) ?_)
   |((with_reducible show CallEv _ _ 36 [.v (.slice bo 2 bc), _] _ _ _ _); refine callM (k := 36) [3] (fun β w' hbk hbw => ints2 25 7 bo bc (β 3) w' hbw.2.2.2.1.now (hbk 3 (by simp) _ rfl)) ?_)
   |((with_reducible show CallEv _ _ 36 [.v (.slice co 2 cc), _] _ _ _ _); refine callM (k := 36) [4] (fun β w' hbk hbw => ints2 13 4 co cc (β 4) w' hbw.2.2.2.2.now (hbk 4 (by simp) _ rfl)) ?_)
 all_goals exact ⟨fun β => rfl, fun w' h => h.1⟩
theorem Aw4 (w : World) (zo ao bo co : Option Addr) (zc ac bc cc : Nat) :
 VC Tryz.prog (rest 9 body12) ⟨108, [(2, .v (iv 7)), (3, .v (iv 4)), (4, .v (iv 0)), (6, .ptr 0 0), (7, .v (iv 0)), (10, .v (.slice ao 2 ac)), (11, .v (.slice bo 2 bc)), (12, .v (iv 0)), (13, .v (.slice co 2 cc)), (14, .v (iv 0))], [(0, .cells [.v (.int .u8 2), .v (iv 0), .v (.slice zo 1 zc), .v (iv 4), .v (iv 3)] 56)], 1, fun w' => Below w.heap.size w w' ∧ St w.heap.size (Rd 1 iF (.slice zo 1 zc) [1]) w' ∧ St w.heap.size (Rd 1 iF (.slice ao 2 ac) [15, 3]) w' ∧ St w.heap.size (Rd 1 iF (.slice bo 2 bc) [25, 7]) w' ∧ St w.heap.size (Rd 1 iF (.slice co 2 cc) [13, 4]) w', z0⟩ (endΦ env Tryz.f12 fun v σ => (∀ β, v.c β = .bool true) ∧ ∀ w', σ.h w' → Below w.heap.size w w') := by
 have h32 := fun (w' : World) (hw : Below w.heap.size w w') => famS hw (camp_ok w')
 have h13 : ∀ (y : Sc), y.d = campD → ∀ (w' : World), ScIn y w' → Calls Tryz.prog 13 #[y.v] w' fun e w2 => ∃ p : Option Addr × Nat, e = Ending.returned (.tuple #[.slice p.1 4 p.2, iv 0]) ∧ Below w'.heap.size w' w2 ∧ St w'.heap.size (fun _ => True) w2 := fun y hy w' h => by
  have h0 := Table_ok y w' h (camp0_b.d hy)
  rw [hy] at h0
  refine h0.mono fun e w2 ⟨x, h1, h2, h3⟩ => ⟨(x.o, x.c), ?_, h2, fun _ _ => trivial⟩
  have h4 := (x.h awk1.2.2.2.2.1).1
  unfold rfitB at h4
  simp only [Bool.and_eq_true, decide_eq_true_eq] at h4
  have h5 : x.R.length = 4 := by have h6 := h4.1; rw [List.length_map] at h6; have h7 : campD.sl = 4 := rfl; omega
  rw [h1]
  show Ending.returned (Value.tuple #[.slice x.o x.R.length x.c, iv (errT campD)]) = _
  rw [h5, awk1.2.2.2.2.1]
 refine VC.cutE env mixed 1 1 (fun p : Option Addr × Nat => [(2, .v (iv 7)), (3, .v (iv 4)), (4, .v (iv 0)), (6, .ptr 0 0), (7, .v (iv 0)), (10, .v (.slice ao 2 ac)), (11, .v (.slice bo 2 bc)), (12, .v (iv 0)), (13, .v (.slice co 2 cc)), (14, .v (iv 0)), (15, .v (.slice p.1 4 p.2)), (16, .v (iv 0))]) (fun _ => [(0, .cells [.v (.int .u8 2), .v (iv 0), .v (.slice zo 1 zc), .v (iv 4), .v (iv 3)] 56)]) (fun _ => True) (fun _ _ => ⟨rfl, rfl⟩) ?_ (fun p _ => Aw5 w zo ao bo co p.1 zc ac bc cc p.2)
 repeat'
  conv => whnf
  first
   |refine zD ?_
   |((with_reducible show CallEv _ _ 32 ..); refine callF [] (fun y : { y : Sc // y.d = campD } => y.1.v) (fun y => St w.heap.size (ScIn y.1)) (fun β w' _ hbw => h32 w' (by repeat (first | exact hbw | replace hbw := hbw.1))) ?_; rintro ⟨⟨sl, ro, su, go, gc, G, to, tc, T⟩, hy⟩)
   |((with_reducible show CallEv _ _ 13 ..); refine callF [] (fun p : Option Addr × Nat => .tuple #[.slice p.1 4 p.2, iv 0]) (fun _ _ => True) (fun β w' _ hbw => h13 _ hy w' hbw.2.now) ?_; intro p)
 all_goals exact ⟨rfl, p, trivial, Ent.weak rfl ⟨rfl, rfl, rfl, rfl, rfl, rfl, rfl, rfl, rfl, rfl, rfl, rfl, trivial⟩ ⟨rfl, trivial⟩ fun w' h => h.1.1⟩
structure P3 where
 ao : Option Addr
 ac : Nat
 bo : Option Addr
 bc : Nat
 co : Option Addr
 cc : Nat
theorem Aw3 (w : World) (zo : Option Addr) (zc : Nat) :
 VC Tryz.prog (rest 6 body12) ⟨108, [(2, .v (iv 7)), (3, .v (iv 4)), (4, .v (iv 0)), (6, .ptr 0 0), (7, .v (iv 0))], [(0, .cells [.v (.int .u8 2), .v (iv 0), .v (.slice zo 1 zc), .v (iv 4), .v (iv 3)] 56)], 1, fun w' => Below w.heap.size w w' ∧ St w.heap.size (Rd 1 iF (.slice zo 1 zc) [1]) w', z0⟩ (endΦ env Tryz.f12 fun v σ => (∀ β, v.c β = .bool true) ∧ ∀ w', σ.h w' → Below w.heap.size w w') := by
 have h33 := fun (w' : World) (hw : Below w.heap.size w w') => famS hw (year_ok w')
 have h34 : ∀ (y : Yr) (w' : World), Below w.heap.size w w' → CrIn y.x w' ∧ SyIn y.o y.c y.S w' → Calls Tryz.prog 34 #[y.x.v, .slice y.o y.S.length y.c] w' fun e w2 => ∃ p : (Option Addr × Nat) × (Option Addr × Nat), e = Ending.returned (.tuple #[.slice p.1.1 2 p.1.2, .slice p.2.1 2 p.2.2, iv 0]) ∧ Below w'.heap.size w' w2 ∧ St w'.heap.size (fun w3 => St w.heap.size (Rd 1 iF (.slice p.1.1 2 p.1.2) [15, 3]) w3 ∧ St w.heap.size (Rd 1 iF (.slice p.2.1 2 p.2.2) [25, 7]) w3) w2 := fun y w' hw h => by
  have h0 := famS hw (Has_ok y.x y.o y.c y.S w' h.1 h.2)
  obtain ⟨e1, e2, e3, e4⟩ : y.x.N = [40, 10] ∧ y.x.wk = 4 ∧ y.x.CC = [[1000, 1000], [500, 1500]] ∧ y.S.map Sy.d = [(0, [12, 2]), (1, [7, 1])] := by have := y.h; simp only [Prod.mk.injEq] at this; exact this
  rw [e1, e2, e3, e4, awk3.1, awk3.2.1, awk3.2.2.1] at h0
  exact h0.mono fun e w2 ⟨p, h1, h2, h3⟩ => ⟨p, h1, h2, fun w3 k3 => ⟨fun w4 k4 => (h3 w3 k3 w4 k4).1, fun w4 k4 => (h3 w3 k3 w4 k4).2⟩⟩
 have h35 : ∀ (y : Yr) (w' : World), Below w.heap.size w w' → CrIn y.x w' ∧ SyIn y.o y.c y.S w' → Calls Tryz.prog 35 #[y.x.v, .slice y.o y.S.length y.c] w' fun e w2 => ∃ p : Option Addr × Nat, e = Ending.returned (.tuple #[.slice p.1 2 p.2, iv 0]) ∧ Below w'.heap.size w' w2 ∧ St w'.heap.size (fun w3 => St w.heap.size (Rd 1 iF (.slice p.1 2 p.2) [13, 4]) w3) w2 := fun y w' hw h => by
  have h0 := famS hw (Next_ok y.x y.o y.c y.S w' h.1 h.2)
  obtain ⟨e1, e2, e3, e4⟩ : y.x.N = [40, 10] ∧ y.x.wk = 4 ∧ y.x.CC = [[1000, 1000], [500, 1500]] ∧ y.S.map Sy.d = [(0, [12, 2]), (1, [7, 1])] := by have := y.h; simp only [Prod.mk.injEq] at this; exact this
  rw [e1, e2, e3, e4, awk3.2.2.2.1, awk3.2.2.2.2] at h0
  exact h0
 refine VC.cutH env mixed 3 1 (fun p : P3 => [(2, .v (iv 7)), (3, .v (iv 4)), (4, .v (iv 0)), (6, .ptr 0 0), (7, .v (iv 0)), (10, .v (.slice p.ao 2 p.ac)), (11, .v (.slice p.bo 2 p.bc)), (12, .v (iv 0)), (13, .v (.slice p.co 2 p.cc)), (14, .v (iv 0))]) (fun _ => [(0, .cells [.v (.int .u8 2), .v (iv 0), .v (.slice zo 1 zc), .v (iv 4), .v (iv 3)] 56)]) (fun p w' => Below w.heap.size w w' ∧ St w.heap.size (Rd 1 iF (.slice zo 1 zc) [1]) w' ∧ St w.heap.size (Rd 1 iF (.slice p.ao 2 p.ac) [15, 3]) w' ∧ St w.heap.size (Rd 1 iF (.slice p.bo 2 p.bc) [25, 7]) w' ∧ St w.heap.size (Rd 1 iF (.slice p.co 2 p.cc) [13, 4]) w') (fun _ => True) (fun _ _ => ⟨rfl, rfl⟩) ?_ (fun p _ => Aw4 w zo p.ao p.bo p.co zc p.ac p.bc p.cc)
 repeat'
  conv => whnf
  first
   |refine zC ?_|refine zD ?_
   |((with_reducible show CallEv _ _ 33 ..); refine callF [] (fun y : Yr => y.v) (fun y w' => St w.heap.size (fun w2 => CrIn y.x w2 ∧ SyIn y.o y.c y.S w2) w') (fun β w' _ hbw => h33 w' (by repeat (first | exact hbw | replace hbw := hbw.1))) ?_; rintro ⟨⟨no, nc, NN, wk, ko, kc, C⟩, so, sc, S, hy⟩)
   |((with_reducible show CallEv _ _ 34 ..); refine callF [] (fun p : (Option Addr × Nat) × (Option Addr × Nat) => .tuple #[.slice p.1.1 2 p.1.2, .slice p.2.1 2 p.2.2, iv 0]) (fun p w3 => St w.heap.size (Rd 1 iF (.slice p.1.1 2 p.1.2) [15, 3]) w3 ∧ St w.heap.size (Rd 1 iF (.slice p.2.1 2 p.2.2) [25, 7]) w3) (fun β w' _ hbw => h34 ⟨⟨no, nc, NN, wk, ko, kc, C⟩, so, sc, S, hy⟩ w' (by repeat (first | exact hbw | replace hbw := hbw.1)) hbw.2.now) ?_; intro p)
   |((with_reducible show CallEv _ _ 35 ..); refine callF [] (fun p : Option Addr × Nat => .tuple #[.slice p.1 2 p.2, iv 0]) (fun p w3 => St w.heap.size (Rd 1 iF (.slice p.1 2 p.2) [13, 4]) w3) (fun β w' _ hbw => h35 ⟨⟨no, nc, NN, wk, ko, kc, C⟩, so, sc, S, hy⟩ w' (by repeat (first | exact hbw | replace hbw := hbw.1)) hbw.1.2.now) ?_; intro q)
 all_goals exact ⟨rfl, ⟨p.1.1, p.1.2, p.2.1, p.2.2, q.1, q.2⟩, trivial, Ent.weak rfl ⟨rfl, rfl, rfl, rfl, rfl, rfl, rfl, rfl, rfl, rfl, trivial⟩ ⟨rfl, trivial⟩ fun w' h => ⟨h.1.1.1.1, h.1.1.1.2, h.1.2.1, h.1.2.2, h.2⟩⟩
theorem Aw2 (w : World) :
 VC Tryz.prog (rest 3 body12) ⟨108, [(2, .v (iv 7)), (3, .v (iv 4)), (4, .v (iv 0))], [], 1, Below w.heap.size w, z0⟩ (endΦ env Tryz.f12 fun v σ => (∀ β, v.c β = .bool true) ∧ ∀ w', σ.h w' → Below w.heap.size w w') := by
 have h32 := fun (w' : World) (hw : Below w.heap.size w w') => famS hw (camp_ok w')
 have h22 : ∀ (y : Sc), y.d = campD.at 3 → ∀ (w' : World), Below w.heap.size w w' → ScIn y w' → Calls Tryz.prog 22 #[y.v] w' fun e w2 => ∃ z : RnF (some ⟨2, 0, [1], 4, 3⟩), e = Ending.returned (.tuple #[z.1.v, iv 0]) ∧ Below w'.heap.size w' w2 ∧ St w'.heap.size (St w.heap.size (Rd 1 iF (.slice z.1.o z.1.L.length z.1.c) z.1.L)) w2 := fun y hy w' hw h => by
  have h0 := famS hw (Why_ok y w' h ((camp0_b.sl 3).d (s := { camp0 with sl := 3 }) hy))
  rw [hy, awk2.1, awk2.2] at h0
  exact h0
 refine VC.cutH env mixed 3 1 (fun p : Option Addr × Nat => [(2, .v (iv 7)), (3, .v (iv 4)), (4, .v (iv 0)), (6, .ptr 0 0), (7, .v (iv 0))]) (fun p => [(0, .cells [.v (.int .u8 2), .v (iv 0), .v (.slice p.1 1 p.2), .v (iv 4), .v (iv 3)] 56)]) (fun p w' => Below w.heap.size w w' ∧ St w.heap.size (Rd 1 iF (.slice p.1 1 p.2) [1]) w') (fun _ => True) (fun _ _ => ⟨rfl, rfl⟩) ?_ (fun p _ => Aw3 w p.1 p.2)
 repeat'
  conv => whnf
  first
   |refine zB ?_|refine zC ?_|refine zD ?_
   |((with_reducible show CallEv _ _ 32 ..); refine callF [] (fun y : { y : Sc // y.d = campD } => y.1.v) (fun y => St w.heap.size (ScIn y.1)) (fun β w' _ hbw => h32 w' (by repeat (first | exact hbw | replace hbw := hbw.1))) ?_; rintro ⟨⟨sl, ro, su, go, gc, G, to, tc, T⟩, hy⟩)
   |((with_reducible show CallEv _ _ 22 ..); refine callF [] (fun z : RnF (some ⟨2, 0, [1], 4, 3⟩) => .tuple #[z.1.v, iv 0]) (fun z => St w.heap.size (Rd 1 iF (.slice z.1.o z.1.L.length z.1.c) z.1.L)) (fun β w' _ hbw => h22 ⟨3, ro, su, go, gc, G, to, tc, T⟩ (by rw [← hy]; rfl) w' (by repeat (first | exact hbw | replace hbw := hbw.1)) ⟨hbw.2.now.g, hbw.2.now.r, hbw.2.now.t, hbw.2.now.h⟩) ?_; rintro ⟨⟨zk, zg, zo, zc, zL, zn, zh⟩, hz⟩)
 have hz : (⟨zk, zg, zL, zn, zh⟩ : RD) = ⟨2, 0, [1], 4, 3⟩ := hz
 simp only [RD.mk.injEq] at hz
 obtain ⟨rfl, rfl, rfl, rfl, rfl⟩ := hz
 exact ⟨rfl, (zo, zc), trivial, Ent.ren (rho [(0, 2)]) rfl rfl ⟨rfl, rfl, rfl, rfl, rfl, trivial⟩ ⟨rfl, trivial⟩ fun w' h => ⟨h.1.1, h.2⟩⟩
theorem awake_ok (w : World) : Calls Tryz.prog 12 #[] w fun e w' => e = .returned (.bool true) ∧ Below w.heap.size w w' := by
 have h32 := fun (w' : World) (hw : Below w.heap.size w w') => famS hw (camp_ok w')
 have h22 : ∀ (y : Sc), y.d = campD → ∀ (w' : World), ScIn y w' → Calls Tryz.prog 22 #[y.v] w' fun e w2 => ∃ z : RnF none, e = Ending.returned (.tuple #[z.1.v, iv 7]) ∧ Below w'.heap.size w' w2 ∧ St w'.heap.size (fun _ => True) w2 := fun y hy w' h => by
  have h0 := Why_ok y w' h (camp0_b.d hy)
  rw [hy, awk1.1, awk1.2.1] at h0
  exact h0.mono fun e w2 ⟨z, h1, h2, h3⟩ => ⟨z, h1, h2, fun _ _ => trivial⟩
 have h19 : ∀ (y : Sc), y.d = campD → ∀ (w' : World), ScIn y w' → Calls Tryz.prog 19 #[y.v] w' fun e w2 => e = Ending.returned (.tuple #[iv 4, iv 0]) ∧ Below w'.heap.size w' w2 := fun y hy w' h => by
  have h0 := Least_ok y w' h (camp0_b.d hy)
  rw [hy, awk1.2.2.1, awk1.2.2.2.1, awk1.2.2.2.2.2] at h0
  exact h0
 refine calls_valV env mixed Tryz.func12 has12 Tryz.ntmps12 [] (by simp) ?_
 refine VC.cutE env mixed 3 1 (fun _ : Unit => [(2, .v (iv 7)), (3, .v (iv 4)), (4, .v (iv 0))]) (fun _ => []) (fun _ => True) (fun _ _ => ⟨rfl, rfl⟩) ?_ (fun _ _ => Aw2 w)
 repeat'
  conv => whnf
  first
   |refine zC ?_|refine zD ?_
   |((with_reducible show CallEv _ _ 32 ..); refine callF [] (fun y : { y : Sc // y.d = campD } => y.1.v) (fun y => St w.heap.size (ScIn y.1)) (fun β w' _ hbw => h32 w' (by repeat (first | exact hbw | replace hbw := hbw.1))) ?_; rintro ⟨⟨sl, ro, su, go, gc, G, to, tc, T⟩, hy⟩)
   |((with_reducible show CallEv _ _ 22 ..); refine callF [] (fun z : RnF none => .tuple #[z.1.v, iv 7]) (fun z _ => True) (fun β w' _ hbw => h22 _ hy w' hbw.2.now) ?_; intro z)
   |((with_reducible show CallEv _ _ 19 ..); refine callE (fun β w' hbw => h19 _ hy w' hbw.2.now) ?_)
 all_goals exact ⟨rfl, (), trivial, Ent.weak rfl ⟨rfl, rfl, rfl, trivial⟩ trivial fun w' h => by repeat (first | exact h | replace h := h.1)⟩
structure TbR where
 o : Option Addr
 c : Nat
 R : List Lr
theorem c9_6 : rest 6 body9 = .seq (.region 11 (qO (qL (rest 6 body9))) true) (rest 7 body9) := by kernel_rfl
theorem c9_7 : rest 7 body9 = .seq (.region 12 (qO (qL (rest 7 body9))) true) (rest 8 body9) := by kernel_rfl
theorem c9_8 : rest 8 body9 = .seq (.seq (qL (qL (rest 8 body9))) (.cond (.tmp 64) (.seq (.region 14 (qO (qL (qT (qR (qL (rest 8 body9)))))) true) .ret) .skip)) (rest 9 body9) := by kernel_rfl
def memB (su : Nat) : Bool := (List.range' 1 (2 ^ su - 1)).all fun m => subB su (memL m 6)
theorem memB_ok : ∀ su, 1 ≤ su → su ≤ 6 → memB su = true
 | 1, _, _ => by kernel_rfl
 | 2, _, _ => by kernel_rfl
 | 3, _, _ => by kernel_rfl
 | 4, _, _ => by kernel_rfl
 | 5, _, _ => by kernel_rfl
 | 6, _, _ => by kernel_rfl
 | 0, h, _ => absurd h (by decide)
 | n + 7, _, h => absurd h (by omega)
theorem why_is {D : SD} (hv : scOk D = true) {r : RD} (h : rWhy D = some r) : isB D r = true := by
 obtain ⟨hv1, hv2, hv3, hv4, hv5, hv6, hv7⟩ := scOk_iff.1 hv
 have crs : ∀ (n k g : Nat), crF D k n = some g → crB D g = true ∧ k ≤ g ∧ g < k + n := by
  intro n
  induction n with
  | zero => intro k g h; cases h
  | succ n ih =>
   intro k g h
   rw [crF] at h
   split at h
   · rename_i hc; cases h; exact ⟨hc, Nat.le_refl _, by omega⟩
   · obtain ⟨h1, h2, h3⟩ := ih (k + 1) g h; exact ⟨h1, by omega, by omega⟩
 unfold rWhy at h
 split at h
 · rename_i g hg
   cases h
   obtain ⟨h1, h2, h3⟩ := crs _ _ _ hg
   unfold crB at h1
   have h1 := of_decide_eq_true h1
   unfold isB
   dsimp only
   rw [decide_eq_true h1, if_pos rfl, Int.toNat_natCast, inB_iff.2 ⟨by omega, by omega⟩]
   simp
 · split at h
   · rename_i l hl
     cases h
     rw [bestK_G] at hl
     obtain ⟨h1, ⟨m, h2, h3, h4⟩, _⟩ := bestG_some hl
     have hm := memB_ok D.su.toNat (by omega) (by omega)
     have h5 := List.all_eq_true.1 hm m (List.mem_range'_1.2 ⟨h2, by omega⟩)
     rw [Int.toNat_of_nonneg (by omega), h4] at h5
     unfold unB at h1
     have h1 := of_decide_eq_true h1
     unfold isB
     dsimp only
     rw [decide_eq_true h1, if_neg (by decide), if_pos rfl, h5]
     simp
   · split at h
     · rename_i h1
       cases h
       unfold isB
       dsimp only
       rw [decide_eq_true h1, if_neg (by decide), if_neg (by decide), if_pos rfl]
       simp
     · cases h
theorem E6 (D : SD) (sl ro su : Int) (go to : Option Addr) (gc tc : Nat) (G : List Rw) (T : List Tc) (rk rg rn rh : Int) (ro' : Option Addr) (rc : Nat) (L : List Int) (o : Option Addr) (c : Nat) (S : List Lr) (v9 : Value) (e1 e2 : Int) (zk zg zn zh : Int) (zo : Option Addr) (zc : Nat) (zL : List Int) (K : World → Prop) (w : World) (hD : Sc.d ⟨sl, ro, su, go, gc, G, to, tc, T⟩ = D) (hB : ScB ⟨sl, ro, su, go, gc, G, to, tc, T⟩) (hv : scOk D = true) (hl : L.length ≤ 1000000) (hSl : S.length ≤ 45) (hSr : ∀ r ∈ S, r.L.length ≤ 10) 
 (hr : VC Tryz.prog (rest 7 body9) ⟨99, [(2, .v (.slice o S.length c)), (4, .ptr 1 0), (8, .ptr 0 0), (13, .v (.bool (isB D (⟨rk, rg, ro', rc, L, rn, rh⟩ : Rn).d))), (9, .v v9), (10, .v (iv e1)), (11, .ptr 2 0), (12, .v (iv e2))], [(0, .cells [.v (iv sl), .v (iv ro), .v (iv su), .v (.slice go G.length gc), .v (.slice to T.length tc)] 34), (1, .cells [.v (.int .u8 rk), .v (iv rg), .v (.slice ro' L.length rc), .v (iv rn), .v (iv rh)] 38), (2, .cells [.v (.int .u8 zk), .v (iv zg), .v (.slice zo zL.length zc), .v (iv zn), .v (iv zh)] 56)], 3, fun w' => Below w.heap.size w w' ∧ Rd 1 iF (.slice ro' L.length rc) L w' ∧ TbL o c S w' ∧ ScIn ⟨sl, ro, su, go, gc, G, to, tc, T⟩ w' ∧ Rd 1 iF (.slice zo zL.length zc) zL w' ∧ K w', z0⟩ (endΦ env Tryz.f9 fun v σ => (∀ β, v.c β = .bool true) ∧ ∀ w', σ.h w' → Below w.heap.size w w')) :
 VC Tryz.prog (rest 6 body9) ⟨99, [(2, .v (.slice o S.length c)), (4, .ptr 1 0), (8, .ptr 0 0), (9, .v v9), (10, .v (iv e1)), (11, .ptr 2 0), (12, .v (iv e2))], [(0, .cells [.v (iv sl), .v (iv ro), .v (iv su), .v (.slice go G.length gc), .v (.slice to T.length tc)] 34), (1, .cells [.v (.int .u8 rk), .v (iv rg), .v (.slice ro' L.length rc), .v (iv rn), .v (iv rh)] 38), (2, .cells [.v (.int .u8 zk), .v (iv zg), .v (.slice zo zL.length zc), .v (iv zn), .v (iv zh)] 56)], 3, fun w' => Below w.heap.size w w' ∧ Rd 1 iF (.slice ro' L.length rc) L w' ∧ TbL o c S w' ∧ ScIn ⟨sl, ro, su, go, gc, G, to, tc, T⟩ w' ∧ Rd 1 iF (.slice zo zL.length zc) zL w' ∧ K w', z0⟩ (endΦ env Tryz.f9 fun v σ => (∀ β, v.c β = .bool true) ∧ ∀ w', σ.h w' → Below w.heap.size w w') := by
 have h25 := fun (w' : World) (hw : Below w.heap.size w w') (hr : Rd 1 iF (.slice ro' L.length rc) L w') => famS hw (reason_ok (⟨rk, rg, ro', rc, L, rn, rh⟩ : Rn) w' hr hl)
 have h24 : ∀ (t : { y : Rn // y.d = (⟨rk, rg, ro', rc, L, rn, rh⟩ : Rn).d }) (w' : World), ScIn ⟨sl, ro, su, go, gc, G, to, tc, T⟩ w' → Rd 1 iF (.slice t.1.o t.1.L.length t.1.c) t.1.L w' → Calls Tryz.prog 24 #[Sc.v ⟨sl, ro, su, go, gc, G, to, tc, T⟩, t.1.v] w' fun e w2 => ∃ x : Unit, e = .returned (.bool (isB D (⟨rk, rg, ro', rc, L, rn, rh⟩ : Rn).d)) ∧ Below w'.heap.size w' w2 ∧ St w'.heap.size (fun _ => True) w2 := fun t w' h1 h2 => by
  have ht : t.1.L = L := congrArg RD.L t.2
  have := ProveWhy_ok ⟨sl, ro, su, go, gc, G, to, tc, T⟩ t.1 w' h1 hB h2 (by rw [ht]; exact hl)
  rw [t.2, hD, hv, Bool.true_and] at this
  exact this.mono fun e w2 ⟨h1, h2⟩ => ⟨(), h1, h2, fun _ _ => trivial⟩
 generalize isB D (⟨rk, rg, ro', rc, L, rn, rh⟩ : Rn).d = q at *
 rw [c9_6]
 refine VC.seq (f := fun σ' => Ent σ' ⟨99, [(2, .v (.slice o S.length c)), (4, .ptr 1 0), (8, .ptr 0 0), (13, .v (.bool q)), (9, .v v9), (10, .v (iv e1)), (11, .ptr 2 0), (12, .v (iv e2))], [(0, .cells [.v (iv sl), .v (iv ro), .v (iv su), .v (.slice go G.length gc), .v (.slice to T.length tc)] 34), (1, .cells [.v (.int .u8 rk), .v (iv rg), .v (.slice ro' L.length rc), .v (iv rn), .v (iv rh)] 38), (2, .cells [.v (.int .u8 zk), .v (iv zg), .v (.slice zo zL.length zc), .v (iv zn), .v (iv zh)] 56)], 3, fun w' => Below w.heap.size w w' ∧ Rd 1 iF (.slice ro' L.length rc) L w' ∧ TbL o c S w' ∧ ScIn ⟨sl, ro, su, go, gc, G, to, tc, T⟩ w' ∧ Rd 1 iF (.slice zo zL.length zc) zL w' ∧ K w', z0⟩) ?_ (fun σ' hy => VC.ent hr hy (okB rfl rfl rfl))
 clear hr
 apply VC_reg2 env mixed 2 3 (fun y : { y : Rn // y.d = (⟨rk, rg, ro', rc, L, rn, rh⟩ : Rn).d } => y.1.v) (fun y w2 => St w.heap.size (Rd 1 iF (.slice y.1.o y.1.L.length y.1.c) y.1.L) w2) (fun _ : Unit => .bool q) (fun _ _ => True) ⟨(⟨rk, rg, ro', rc, L, rn, rh⟩ : Rn), rfl⟩ ()
 case h12 => decide
 case h3 => exact Nat.le_of_ble_eq_true (by kernel_rfl)
 case hd12 => kernel_rfl
 case hv =>
  intro y1 y2
  repeat'
   conv => whnf
   first
    |refine zA ?_
    |refine And.intro (a := (_ : Bool) = true ∧ (_ : List _) = [] ∧ (_ : List _) = []) ⟨rfl, rfl, rfl⟩ ?_
    |(with_reducible show FamEv _ _ _ 25 _ _ _); refine FamEv.mk [] (fun β w' _ hbw => h25 w' hbw.1 hbw.2.1) ?_
    |(with_reducible show FamEv _ _ _ 24 _ _ _); refine FamEv.mk [] (fun β w' _ hbw => h24 y1 w' hbw.1.2.2.2.1 (St.now hbw.2)) ?_
  refine ⟨?_, Ent.weak rfl ⟨rfl, rfl, rfl, rfl, rfl, rfl, rfl, rfl, trivial⟩ ⟨rfl, rfl, rfl, trivial⟩ fun w2 h => h.1.1⟩
  simp only [List.nil_append, List.cons_append, List.append_assoc]
  exact rfl
 case hk1 => intros; rfl
 case hk2 => intros; rfl
 case hi1 => exact fun _ _ _ => ⟨Or.inr rfl, Or.inr rfl, Or.inl (by kernel_rfl), Or.inl (by kernel_rfl), Or.inl (by kernel_rfl), trivial⟩
 case hi2 => exact fun _ _ _ => ⟨Or.inr rfl, Or.inr rfl, Or.inr rfl, Or.inl (by kernel_rfl), Or.inl (by kernel_rfl), trivial⟩
theorem E7 (D : SD) (sl ro su : Int) (go to : Option Addr) (gc tc : Nat) (G : List Rw) (T : List Tc) (rk rg rn rh : Int) (ro' : Option Addr) (rc : Nat) (L : List Int) (o : Option Addr) (c : Nat) (S : List Lr) (v9 : Value) (e1 e2 : Int) (zk zg zn zh : Int) (zo : Option Addr) (zc : Nat) (zL : List Int) (K : World → Prop) (b : Bool) (w : World) (hD : Sc.d ⟨sl, ro, su, go, gc, G, to, tc, T⟩ = D) (hB : ScB ⟨sl, ro, su, go, gc, G, to, tc, T⟩) (hv : scOk D = true) (hl : L.length ≤ 1000000) (hSl : S.length ≤ 45) (hSr : ∀ r ∈ S, r.L.length ≤ 10) 
 (hr : VC Tryz.prog (rest 8 body9) ⟨99, [(2, .v (.slice o S.length c)), (4, .ptr 1 0), (8, .ptr 0 0), (13, .v (.bool b)), (14, .v (.bool (fitB D (S.map Lr.L)))), (9, .v v9), (10, .v (iv e1)), (11, .ptr 2 0), (12, .v (iv e2))], [(0, .cells [.v (iv sl), .v (iv ro), .v (iv su), .v (.slice go G.length gc), .v (.slice to T.length tc)] 34), (1, .cells [.v (.int .u8 rk), .v (iv rg), .v (.slice ro' L.length rc), .v (iv rn), .v (iv rh)] 38), (2, .cells [.v (.int .u8 zk), .v (iv zg), .v (.slice zo zL.length zc), .v (iv zn), .v (iv zh)] 56)], 3, fun w' => Below w.heap.size w w' ∧ Rd 1 iF (.slice ro' L.length rc) L w' ∧ TbL o c S w' ∧ ScIn ⟨sl, ro, su, go, gc, G, to, tc, T⟩ w' ∧ Rd 1 iF (.slice zo zL.length zc) zL w' ∧ K w', z0⟩ (endΦ env Tryz.f9 fun v σ => (∀ β, v.c β = .bool true) ∧ ∀ w', σ.h w' → Below w.heap.size w w')) :
 VC Tryz.prog (rest 7 body9) ⟨99, [(2, .v (.slice o S.length c)), (4, .ptr 1 0), (8, .ptr 0 0), (13, .v (.bool b)), (9, .v v9), (10, .v (iv e1)), (11, .ptr 2 0), (12, .v (iv e2))], [(0, .cells [.v (iv sl), .v (iv ro), .v (iv su), .v (.slice go G.length gc), .v (.slice to T.length tc)] 34), (1, .cells [.v (.int .u8 rk), .v (iv rg), .v (.slice ro' L.length rc), .v (iv rn), .v (iv rh)] 38), (2, .cells [.v (.int .u8 zk), .v (iv zg), .v (.slice zo zL.length zc), .v (iv zn), .v (iv zh)] 56)], 3, fun w' => Below w.heap.size w w' ∧ Rd 1 iF (.slice ro' L.length rc) L w' ∧ TbL o c S w' ∧ ScIn ⟨sl, ro, su, go, gc, G, to, tc, T⟩ w' ∧ Rd 1 iF (.slice zo zL.length zc) zL w' ∧ K w', z0⟩ (endΦ env Tryz.f9 fun v σ => (∀ β, v.c β = .bool true) ∧ ∀ w', σ.h w' → Below w.heap.size w w') := by
 have h29 := fun (w' : World) (hw : Below w.heap.size w w') (hT : TbL o c S w') => famS hw (table_ok o c S w' hT (by omega) (fun r hr => by have := hSr r hr; omega))
 have h28 : ∀ (t : TbF (S.map Lr.L)) (w' : World), ScIn ⟨sl, ro, su, go, gc, G, to, tc, T⟩ w' → TbL t.o t.c t.D w' → Calls Tryz.prog 28 #[Sc.v ⟨sl, ro, su, go, gc, G, to, tc, T⟩, t.v] w' fun e w2 => ∃ x : Unit, e = .returned (.bool (fitB D (S.map Lr.L))) ∧ Below w'.heap.size w' w2 ∧ St w'.heap.size (fun _ => True) w2 := fun t w' h1 h2 => by
  have hlen : t.D.length = S.length := by have := congrArg List.length t.h; simpa using this
  have := Fits_ok ⟨sl, ro, su, go, gc, G, to, tc, T⟩ t.D t.o t.c w' h1 hB h2 (by omega) (fun r hr => by
   have h3 : r.L ∈ S.map Lr.L := t.h ▸ List.mem_map_of_mem hr
   obtain ⟨q, h4, h5⟩ := List.mem_map.1 h3
   rw [← h5]; exact hSr q h4) t.k
  rw [hD, t.h] at this
  exact this.mono fun e w2 ⟨h1, h2⟩ => ⟨(), h1, h2, fun _ _ => trivial⟩
 generalize fitB D (S.map Lr.L) = p at *
 rw [c9_7]
 refine VC.seq (f := fun σ' => Ent σ' ⟨99, [(2, .v (.slice o S.length c)), (4, .ptr 1 0), (8, .ptr 0 0), (13, .v (.bool b)), (14, .v (.bool p)), (9, .v v9), (10, .v (iv e1)), (11, .ptr 2 0), (12, .v (iv e2))], [(0, .cells [.v (iv sl), .v (iv ro), .v (iv su), .v (.slice go G.length gc), .v (.slice to T.length tc)] 34), (1, .cells [.v (.int .u8 rk), .v (iv rg), .v (.slice ro' L.length rc), .v (iv rn), .v (iv rh)] 38), (2, .cells [.v (.int .u8 zk), .v (iv zg), .v (.slice zo zL.length zc), .v (iv zn), .v (iv zh)] 56)], 3, fun w' => Below w.heap.size w w' ∧ Rd 1 iF (.slice ro' L.length rc) L w' ∧ TbL o c S w' ∧ ScIn ⟨sl, ro, su, go, gc, G, to, tc, T⟩ w' ∧ Rd 1 iF (.slice zo zL.length zc) zL w' ∧ K w', z0⟩) ?_ (fun σ' hy => VC.ent hr hy (okB rfl rfl rfl))
 clear hr
 apply VC_reg2 env mixed 2 3 (fun t : TbF (S.map Lr.L) => t.v) (fun t w2 => St w.heap.size (TbL t.o t.c t.D) w2) (fun _ : Unit => .bool p) (fun _ _ => True) (tbD S) ()
 case h12 => decide
 case h3 => exact Nat.le_of_ble_eq_true (by kernel_rfl)
 case hd12 => kernel_rfl
 case hv =>
  intro y1 y2
  repeat'
   conv => whnf
   first
    |refine zA ?_
    |refine And.intro (a := (_ : Bool) = true ∧ (_ : List _) = [] ∧ (_ : List _) = []) ⟨rfl, rfl, rfl⟩ ?_
    |(with_reducible show FamEv _ _ _ 29 _ _ _); refine FamEv.mk [] (fun β w' _ hbw => h29 w' hbw.1 hbw.2.2.1) ?_
    |(with_reducible show FamEv _ _ _ 28 _ _ _); refine FamEv.mk [] (fun β w' _ hbw => h28 y1 w' hbw.1.2.2.2.1 (St.now hbw.2)) ?_
  refine ⟨?_, Ent.weak rfl ⟨rfl, rfl, rfl, rfl, rfl, rfl, rfl, rfl, rfl, trivial⟩ ⟨rfl, rfl, rfl, trivial⟩ fun w2 h => h.1.1⟩
  simp only [List.nil_append, List.cons_append, List.append_assoc]
  exact rfl
 case hk1 => intros; rfl
 case hk2 => intros; rfl
 case hi1 => exact fun _ _ _ => ⟨Or.inr rfl, Or.inr rfl, Or.inl (by kernel_rfl), Or.inl (by kernel_rfl), Or.inl (by kernel_rfl), trivial⟩
 case hi2 => exact fun _ _ _ => ⟨Or.inr rfl, Or.inr rfl, Or.inr rfl, Or.inl (by kernel_rfl), Or.inl (by kernel_rfl), trivial⟩
theorem En8 (D : SD) (sl ro su : Int) (go to : Option Addr) (gc tc : Nat) (G : List Rw) (T : List Tc) (rk rg rn rh : Int) (ro' : Option Addr) (rc : Nat) (L : List Int) (o : Option Addr) (c : Nat) (S : List Lr) (uo : Option Addr) (uc : Nat) (U : List Lr) (zk zg zn zh : Int) (zo : Option Addr) (zc : Nat) (zL : List Int) (b : Bool) (w : World) (hD : Sc.d ⟨sl, ro, su, go, gc, G, to, tc, T⟩ = D) (hB : ScB ⟨sl, ro, su, go, gc, G, to, tc, T⟩) (hv : scOk D = true) (hl : L.length ≤ 1000000) (hSl : S.length ≤ 45) (hSr : ∀ r ∈ S, r.L.length ≤ 10) (hu : rfitB D (U.map Lr.L) = true) :
 VC Tryz.prog (rest 8 body9) ⟨99, [(2, .v (.slice o S.length c)), (4, .ptr 1 0), (8, .ptr 0 0), (13, .v (.bool false)), (14, .v (.bool b)), (9, .v (.slice uo U.length uc)), (10, .v (iv 0)), (11, .ptr 2 0), (12, .v (iv 7))], [(0, .cells [.v (iv sl), .v (iv ro), .v (iv su), .v (.slice go G.length gc), .v (.slice to T.length tc)] 34), (1, .cells [.v (.int .u8 rk), .v (iv rg), .v (.slice ro' L.length rc), .v (iv rn), .v (iv rh)] 38), (2, .cells [.v (.int .u8 zk), .v (iv zg), .v (.slice zo zL.length zc), .v (iv zn), .v (iv zh)] 56)], 3, fun w' => Below w.heap.size w w' ∧ Rd 1 iF (.slice ro' L.length rc) L w' ∧ TbL o c S w' ∧ ScIn ⟨sl, ro, su, go, gc, G, to, tc, T⟩ w' ∧ Rd 1 iF (.slice zo zL.length zc) zL w' ∧ TbL uo uc U w', z0⟩ (endΦ env Tryz.f9 fun v σ => (∀ β, v.c β = .bool true) ∧ ∀ w', σ.h w' → Below w.heap.size w w') := by
 have h12 := fun w' => awake_ok w'
 have hfb : fitB D (U.map Lr.L) = true := (fit_ref hv).trans hu
 obtain ⟨hv1, hv2, hv3, hv4, hv5, hv6, hv7⟩ := scOk_iff.1 hv
 have hf := Fit.of hv hu
 have hUl : U.length ≤ 45 := by have := hf.len; rw [List.length_map] at this; omega
 have hUr : ∀ r ∈ U, r.L.length ≤ 10 := fun r hr => by have := hf.ro r.L (List.mem_map_of_mem hr); omega
 have h18 := fun (w' : World) (hw : Below w.heap.size w w') (hT : TbL uo uc U w') => famS hw (Back_ok uo uc U w' hT (by omega) (fun r hr => by have := hUr r hr; omega))
 have tl : ∀ t : TbF (U.map Lr.L), t.D.length = U.length := fun t => by have := congrArg List.length t.h; simpa using this
 have tr : ∀ t : TbF (U.map Lr.L), ∀ r ∈ t.D, r.L.length ≤ 10 := fun t r hr => by
  have h3 : r.L ∈ U.map Lr.L := t.h ▸ List.mem_map_of_mem hr
  obtain ⟨q, h4, h5⟩ := List.mem_map.1 h3
  rw [← h5]; exact hUr q h4
 have h29 := fun (t : TbF (U.map Lr.L)) (w' : World) (hw : Below w.heap.size w w') (hT : TbL t.o t.c t.D w') => by
  have h0 := famS hw (table_ok t.o t.c t.D w' hT (by have := tl t; omega) (fun r hr => by have := tr t r hr; omega))
  rw [t.h] at h0
  exact h0
 have h28 : ∀ (t : TbF (U.map Lr.L)) (w' : World), ScIn ⟨sl, ro, su, go, gc, G, to, tc, T⟩ w' → TbL t.o t.c t.D w' → Calls Tryz.prog 28 #[Sc.v ⟨sl, ro, su, go, gc, G, to, tc, T⟩, t.v] w' fun e w2 => ∃ x : Unit, e = .returned (.bool true) ∧ Below w'.heap.size w' w2 ∧ St w'.heap.size (fun _ => True) w2 := fun t w' h1 h2 => by
  have := Fits_ok ⟨sl, ro, su, go, gc, G, to, tc, T⟩ t.D t.o t.c w' h1 hB h2 (by have := tl t; omega) (tr t) t.k
  rw [hD, t.h, hfb] at this
  exact this.mono fun e w2 ⟨h1, h2⟩ => ⟨(), h1, h2, fun _ _ => trivial⟩
 refine VC.eq c9_8 (VC.sq (VC.seq (f := fun σ' => Ent σ' ⟨99, [(2, .v (.slice o S.length c)), (4, .ptr 1 0), (8, .ptr 0 0), (13, .v (.bool false)), (64, .v (.bool true)), (9, .v (.slice uo U.length uc)), (10, .v (iv 0)), (11, .ptr 2 0), (12, .v (iv 7))], [(0, .cells [.v (iv sl), .v (iv ro), .v (iv su), .v (.slice go G.length gc), .v (.slice to T.length tc)] 34), (1, .cells [.v (.int .u8 rk), .v (iv rg), .v (.slice ro' L.length rc), .v (iv rn), .v (iv rh)] 38), (2, .cells [.v (.int .u8 zk), .v (iv zg), .v (.slice zo zL.length zc), .v (iv zn), .v (iv zh)] 56)], 3, fun w' => Below w.heap.size w w' ∧ Rd 1 iF (.slice ro' L.length rc) L w' ∧ TbL o c S w' ∧ ScIn ⟨sl, ro, su, go, gc, G, to, tc, T⟩ w' ∧ Rd 1 iF (.slice zo zL.length zc) zL w' ∧ TbL uo uc U w', z0⟩) ?_ (fun σ' hy => VC.ent (VC.cond true rfl (fun _ => ?_) (fun h => by cases h)) hy (okB rfl rfl rfl))))
 · refine VC.of env mixed ?_
   skip
   conv => whnf
   exact Ent.weak rfl ⟨rfl, rfl, rfl, rfl, rfl, rfl, rfl, rfl, rfl, trivial⟩ ⟨rfl, rfl, rfl, trivial⟩ fun w2 h => h
 · refine VC.seq (f := fun σ' => Ent σ' ⟨99, [(6, .v (.bool true))], [], 3, Below w.heap.size w, z0⟩) ?_ (fun σ' hy => VC.ent ?_ hy (okB rfl rfl rfl))
   · apply VC_reg3 env mixed 5 6 7 (fun t : TbF (U.map Lr.L) => t.v) (fun t w2 => St w.heap.size (TbL t.o t.c t.D) w2) (fun t : TbF (U.map Lr.L) => t.v) (fun t w2 => St w.heap.size (TbL t.o t.c t.D) w2) (fun _ : Unit => .bool true) (fun _ _ => True) (tbD U) (tbD U) ()
     case h12 => decide
     case h23 => decide
     case h3 => exact Nat.le_of_ble_eq_true (by kernel_rfl)
     case hd12 => kernel_rfl
     case hd13 => kernel_rfl
     case hd23 => kernel_rfl
     case hv =>
      intro y1 y2 y3
      repeat'
       conv => whnf
       first
        |refine zD ?_|refine splT ?_
        |refine And.intro (a := (_ : Bool) = true ∧ (_ : List _) = [] ∧ (_ : List _) = []) ⟨rfl, rfl, rfl⟩ ?_
        |(with_reducible show FamEv _ _ _ 18 _ _ _); refine FamEv.mk [] (fun β w' _ hbw => h18 w' hbw.1 hbw.2.2.2.2.2) ?_
        |(with_reducible show FamEv _ _ _ 29 _ _ _); refine FamEv.mk [] (fun β w' _ hbw => h29 y1 w' hbw.1.1 (St.now hbw.2)) ?_
        |(with_reducible show FamEv _ _ _ 28 _ _ _); refine FamEv.mk [] (fun β w' _ hbw => h28 y2 w' hbw.1.1.2.2.2.1 (St.now hbw.2)) ?_
      conv => whnf
      refine callE (k := 12) (fun β w' hbw => h12 w') ?_
      conv => whnf
      refine zA ?_
      refine ⟨?_, Ent.weak rfl ⟨rfl, trivial⟩ trivial fun w2 h => h.1.1.1.1⟩
      simp only [List.nil_append, List.cons_append, List.append_assoc]
      exact rfl
     case hk1 => intros; rfl
     case hk2 => intros; rfl
     case hk3 => intros; rfl
     case hi1 => exact fun _ _ _ _ => ⟨Or.inr rfl, Or.inr rfl, Or.inr rfl, Or.inr rfl, Or.inr rfl, Or.inl (by kernel_rfl), Or.inl (by kernel_rfl), Or.inl (by kernel_rfl), Or.inl (by kernel_rfl), Or.inl (by kernel_rfl), Or.inl (by kernel_rfl), Or.inl (by kernel_rfl), Or.inl (by kernel_rfl), Or.inl (by kernel_rfl), Or.inl (by kernel_rfl), Or.inl (by kernel_rfl), Or.inl (by kernel_rfl), trivial⟩
     case hi2 => exact fun _ _ _ _ => ⟨Or.inr rfl, Or.inr rfl, Or.inr rfl, Or.inr rfl, Or.inr rfl, Or.inr rfl, Or.inl (by kernel_rfl), Or.inl (by kernel_rfl), Or.inl (by kernel_rfl), Or.inl (by kernel_rfl), Or.inl (by kernel_rfl), Or.inl (by kernel_rfl), Or.inl (by kernel_rfl), Or.inl (by kernel_rfl), Or.inl (by kernel_rfl), Or.inl (by kernel_rfl), Or.inl (by kernel_rfl), trivial⟩
     case hi3 => exact fun _ _ _ _ => ⟨Or.inr rfl, Or.inr rfl, Or.inr rfl, Or.inr rfl, Or.inr rfl, Or.inr rfl, Or.inr rfl, Or.inl (by kernel_rfl), Or.inl (by kernel_rfl), Or.inl (by kernel_rfl), Or.inl (by kernel_rfl), Or.inl (by kernel_rfl), Or.inl (by kernel_rfl), Or.inl (by kernel_rfl), Or.inl (by kernel_rfl), Or.inl (by kernel_rfl), Or.inl (by kernel_rfl), trivial⟩
   · refine VC.of env mixed ?_
     conv => whnf
     exact ⟨fun β => rfl, fun w' h => h⟩
theorem Es8 (D : SD) (sl ro su : Int) (go to : Option Addr) (gc tc : Nat) (G : List Rw) (T : List Tc) (rk rg rn rh : Int) (ro' : Option Addr) (rc : Nat) (L : List Int) (o : Option Addr) (c : Nat) (S : List Lr) (v9 : Value) (zk zg zn zh : Int) (zo : Option Addr) (zc : Nat) (zL : List Int) (b : Bool) (w : World) (hD : Sc.d ⟨sl, ro, su, go, gc, G, to, tc, T⟩ = D) (hB : ScB ⟨sl, ro, su, go, gc, G, to, tc, T⟩) (hv : scOk D = true) (hl : L.length ≤ 1000000) (hSl : S.length ≤ 45) (hSr : ∀ r ∈ S, r.L.length ≤ 10) (hz : isB D ⟨zk, zg, zL, zn, zh⟩ = true) (hzl : zL.length ≤ 1000000) :
 VC Tryz.prog (rest 8 body9) ⟨99, [(2, .v (.slice o S.length c)), (4, .ptr 1 0), (8, .ptr 0 0), (13, .v (.bool b)), (14, .v (.bool false)), (9, .v v9), (10, .v (iv 9)), (11, .ptr 2 0), (12, .v (iv 0))], [(0, .cells [.v (iv sl), .v (iv ro), .v (iv su), .v (.slice go G.length gc), .v (.slice to T.length tc)] 34), (1, .cells [.v (.int .u8 rk), .v (iv rg), .v (.slice ro' L.length rc), .v (iv rn), .v (iv rh)] 38), (2, .cells [.v (.int .u8 zk), .v (iv zg), .v (.slice zo zL.length zc), .v (iv zn), .v (iv zh)] 56)], 3, fun w' => Below w.heap.size w w' ∧ Rd 1 iF (.slice ro' L.length rc) L w' ∧ TbL o c S w' ∧ ScIn ⟨sl, ro, su, go, gc, G, to, tc, T⟩ w' ∧ Rd 1 iF (.slice zo zL.length zc) zL w' ∧ True, z0⟩ (endΦ env Tryz.f9 fun v σ => (∀ β, v.c β = .bool true) ∧ ∀ w', σ.h w' → Below w.heap.size w w') := by
 have h12 := fun w' => awake_ok w'
 have h24 := fun (w' : World) (h1 : ScIn ⟨sl, ro, su, go, gc, G, to, tc, T⟩ w') (h2 : Rd 1 iF (.slice zo zL.length zc) zL w') => ProveWhy_ok ⟨sl, ro, su, go, gc, G, to, tc, T⟩ ⟨zk, zg, zo, zc, zL, zn, zh⟩ w' h1 hB h2 hzl
 rw [hD, hv, Bool.true_and, show isB D (⟨zk, zg, zo, zc, zL, zn, zh⟩ : Rn).d = true from hz] at h24
 refine VC.of env mixed ?_
 repeat'
  conv => whnf
  first
   |refine zD ?_|refine splT ?_|refine splF ?_
   |((with_reducible show CallEv _ _ 24 ..); refine callE (fun β w' hbw => h24 w' hbw.2.2.2.1 hbw.2.2.2.2.1) ?_)
   |((with_reducible show CallEv _ _ 12 ..); refine callE (fun β w' hbw => h12 w') ?_)
 all_goals exact ⟨fun β => rfl, fun w' h => h.1⟩
theorem E3 (D : SD) (s : Sc) (rk rg rn rh : Int) (ro' : Option Addr) (rc : Nat) (L : List Int) (o : Option Addr) (c : Nat) (S : List Lr) (w : World) (h : ScIn s w) (hB : ScB s) (hD : s.d = D) (hv : scOk D = true) (hr : Rd 1 iF (.slice ro' L.length rc) L w) (hT : TbL o c S w) (hl : L.length ≤ 1000000) (hSl : S.length ≤ 45) (hSr : ∀ r ∈ S, r.L.length ≤ 10) :
 VC Tryz.prog (rest 3 body9) ⟨99, [(2, .v (.slice o S.length c)), (3, .ptr 0 0), (4, .ptr 1 0)], [(0, .cells [.v (iv s.sl), .v (iv s.ro), .v (iv s.su), .v (.slice s.go s.G.length s.gc), .v (.slice s.to s.T.length s.tc)] 25), (1, .cells [.v (.int .u8 rk), .v (iv rg), .v (.slice ro' L.length rc), .v (iv rn), .v (iv rh)] 38)], 2, Below w.heap.size w, z0⟩ (endΦ env Tryz.f9 fun v σ => (∀ β, v.c β = .bool true) ∧ ∀ w', σ.h w' → Below w.heap.size w w') := by
 have h14 := fun (w' : World) (hw : Below w.heap.size w w') => famS hw (School_ok s w' (h.below hw) hB)
 have h13 : ∀ (y : Sc), y.d = D → ∀ (w' : World), Below w.heap.size w w' → ScIn y w' → Calls Tryz.prog 13 #[y.v] w' fun e w2 => ∃ x : TabF D, e = .returned x.v ∧ Below w'.heap.size w' w2 ∧ St w'.heap.size (St w.heap.size (TbL x.o x.c x.R)) w2 := fun y hy w' hw h1 => by
  have h2 := famS hw (Table_ok y w' h1 (hB.d (hy.trans hD.symm)))
  rw [hy] at h2
  exact h2
 have h22 : ∀ (y : Sc), y.d = D → ∀ (w' : World), Below w.heap.size w w' → ScIn y w' → Calls Tryz.prog 22 #[y.v] w' fun e w2 => ∃ z : RnF (rWhy D), e = Ending.returned (.tuple #[z.1.v, iv (errW D)]) ∧ Below w'.heap.size w' w2 ∧ St w'.heap.size (St w.heap.size (Rd 1 iF (.slice z.1.o z.1.L.length z.1.c) z.1.L)) w2 := fun y hy w' hw h1 => by
  have h0 := famS hw (Why_ok y w' h1 (hB.d (hy.trans hD.symm)))
  rw [hy, show resW D = rWhy D from by unfold resW; rw [if_pos hv]] at h0
  exact h0
 rw [hD] at h14
 have hBy : ∀ y : Sc, y.d = D → ScB y := fun y hy => hB.d (hy.trans hD.symm)
 obtain ⟨sl0, ro0, su0, go0, gc0, G0, to0, tc0, T0⟩ := s
 dsimp only at h14 ⊢
 clear hD hB h
 cases hw : rWhy D with
 | none =>
  have e1 := errT0 hv hw
  have e2 : errW D = 7 := by unfold errW; rw [hv, hw]; rfl
  rw [e2, hw] at h22
  have h13 := fun y hy w' hw h1 => (h13 y hy w' hw h1).mono fun e w2 ⟨x, h1, h2, h3⟩ => (⟨⟨⟨x.o, x.c, x.R⟩, (x.h e1).1⟩, by rw [h1]; show Ending.returned (Value.tuple #[.slice x.o x.R.length x.c, iv (errT D)]) = _; rw [e1], h2, h3⟩ : ∃ p : { p : TbR // rfitB D (p.R.map Lr.L) = true }, e = Ending.returned (.tuple #[.slice p.1.o p.1.R.length p.1.c, iv 0]) ∧ Below w'.heap.size w' w2 ∧ St w'.heap.size (St w.heap.size (TbL p.1.o p.1.c p.1.R)) w2)
  have hgo := fun (x : { y : Sc // y.d = D } × Rn × { p : TbR // rfitB D (p.R.map Lr.L) = true }) => E6 D x.1.1.sl x.1.1.ro x.1.1.su x.1.1.go x.1.1.to x.1.1.gc x.1.1.tc x.1.1.G x.1.1.T rk rg rn rh ro' rc L o c S (.slice x.2.2.1.o x.2.2.1.R.length x.2.2.1.c) 0 7 x.2.1.k x.2.1.g x.2.1.n x.2.1.h x.2.1.o x.2.1.c x.2.1.L (TbL x.2.2.1.o x.2.2.1.c x.2.2.1.R) w x.1.2 (hBy _ x.1.2) hv hl hSl hSr (E7 D x.1.1.sl x.1.1.ro x.1.1.su x.1.1.go x.1.1.to x.1.1.gc x.1.1.tc x.1.1.G x.1.1.T rk rg rn rh ro' rc L o c S (.slice x.2.2.1.o x.2.2.1.R.length x.2.2.1.c) 0 7 x.2.1.k x.2.1.g x.2.1.n x.2.1.h x.2.1.o x.2.1.c x.2.1.L (TbL x.2.2.1.o x.2.2.1.c x.2.2.1.R) _ w x.1.2 (hBy _ x.1.2) hv hl hSl hSr (by rw [dual hv x.2.2.2 _]; exact En8 D x.1.1.sl x.1.1.ro x.1.1.su x.1.1.go x.1.1.to x.1.1.gc x.1.1.tc x.1.1.G x.1.1.T rk rg rn rh ro' rc L o c S x.2.2.1.o x.2.2.1.c x.2.2.1.R x.2.1.k x.2.1.g x.2.1.n x.2.1.h x.2.1.o x.2.1.c x.2.1.L _ w x.1.2 (hBy _ x.1.2) hv hl hSl hSr x.2.2.2))
  refine VC.cutH env mixed 3 3 (fun x : { y : Sc // y.d = D } × Rn × { p : TbR // rfitB D (p.R.map Lr.L) = true } => [(2, .v (.slice o S.length c)), (4, .ptr 1 0), (8, .ptr 0 0), (9, .v (.slice x.2.2.1.o x.2.2.1.R.length x.2.2.1.c)), (10, .v (iv 0)), (11, .ptr 2 0), (12, .v (iv 7))]) (fun x => [(0, .cells [.v (iv x.1.1.sl), .v (iv x.1.1.ro), .v (iv x.1.1.su), .v (.slice x.1.1.go x.1.1.G.length x.1.1.gc), .v (.slice x.1.1.to x.1.1.T.length x.1.1.tc)] 34), (1, .cells [.v (.int .u8 rk), .v (iv rg), .v (.slice ro' L.length rc), .v (iv rn), .v (iv rh)] 38), (2, .cells [.v (.int .u8 x.2.1.k), .v (iv x.2.1.g), .v (.slice x.2.1.o x.2.1.L.length x.2.1.c), .v (iv x.2.1.n), .v (iv x.2.1.h)] 56)]) (fun x w' => Below w.heap.size w w' ∧ Rd 1 iF (.slice ro' L.length rc) L w' ∧ TbL o c S w' ∧ ScIn x.1.1 w' ∧ Rd 1 iF (.slice x.2.1.o x.2.1.L.length x.2.1.c) x.2.1.L w' ∧ TbL x.2.2.1.o x.2.2.1.c x.2.2.1.R w') (fun _ => True) (fun _ _ => ⟨rfl, rfl⟩) ?_ (fun x _ => hgo x)
  clear hgo
  repeat'
   conv => whnf
   first
    |refine zC ?_|refine zD ?_
    |((with_reducible show CallEv _ _ 14 ..); refine callF [] (fun y : { y : Sc // y.d = D } => y.1.v) (fun y => St w.heap.size (ScIn y.1)) (fun β w' _ hbw => h14 w' hbw) ?_; rintro ⟨⟨sl, ro, su, go, gc, G, to, tc, T⟩, hy⟩)
    |((with_reducible show CallEv _ _ 13 ..); refine callF [] (fun p : { p : TbR // rfitB D (p.R.map Lr.L) = true } => .tuple #[.slice p.1.o p.1.R.length p.1.c, iv 0]) (fun p => St w.heap.size (TbL p.1.o p.1.c p.1.R)) (fun β w' _ hbw => h13 _ hy w' (by repeat (first | exact hbw | replace hbw := hbw.1)) hbw.2.now) ?_; intro p)
    |((with_reducible show CallEv _ _ 22 ..); refine callF [] (fun z : RnF none => .tuple #[z.1.v, iv 7]) (fun z => St w.heap.size (Rd 1 iF (.slice z.1.o z.1.L.length z.1.c) z.1.L)) (fun β w' _ hbw => h22 _ hy w' (by repeat (first | exact hbw | replace hbw := hbw.1)) hbw.1.2.now) ?_; rintro ⟨⟨zk, zg, zo, zc, zL, zn, zh⟩, hz⟩)
  all_goals exact ⟨rfl, (⟨⟨sl, ro, su, go, gc, G, to, tc, T⟩, hy⟩, ⟨zk, zg, zo, zc, zL, zn, zh⟩, p), trivial, Ent.ren (rho [(0, 2), (2, 3)]) rfl rfl ⟨rfl, rfl, rfl, rfl, rfl, rfl, rfl, trivial⟩ ⟨rfl, rfl, rfl, trivial⟩ fun w' h => ⟨h.1.1.1, hr.below h.1.1.1, hT.below h.1.1.1, h.1.1.2.now, h.2.now, h.1.2.now⟩⟩
 | some r0 =>
  have e1 : errT D = 9 := by unfold errT; rw [hv, hw]; rfl
  have e2 : errW D = 0 := by unfold errW; rw [hv, hw]; rfl
  rw [e2, hw] at h22
  have his := why_is hv hw
  have hrl := rWhy_len hv hw
  have hnf : fitB D (S.map Lr.L) = false := by
   rw [fit_ref hv]
   cases hq : rfitB D (S.map Lr.L) with
   | false => rfl
   | true => have := dual hv hq r0; rw [his] at this; cases this
  have h13 := fun y hy w' hw h1 => (h13 y hy w' hw h1).mono fun e w2 ⟨x, h1, h2, h3⟩ => (⟨(x.o, x.c), by rw [h1]; have := x.e (by rw [e1]; decide); show Ending.returned (Value.tuple #[.slice x.o x.R.length x.c, iv (errT D)]) = _; rw [this, e1]; rfl, h2, fun _ _ => trivial⟩ : ∃ p : Option Addr × Nat, e = Ending.returned (.tuple #[.slice p.1 0 p.2, iv 9]) ∧ Below w'.heap.size w' w2 ∧ St w'.heap.size (fun _ => True) w2)
  have hz1 : ∀ z : { z : Rn // z.d = r0 }, isB D z.1.d = true := fun z => by rw [z.2]; exact his
  have hz2 : ∀ z : { z : Rn // z.d = r0 }, z.1.L.length ≤ 1000000 := fun z => by
   have h1 : z.1.d.L.length ≤ 10 := by rw [z.2]; exact hrl
   show z.1.d.L.length ≤ 1000000
   omega
  have hgo := fun (x : { y : Sc // y.d = D } × { z : Rn // z.d = r0 } × Value) => E6 D x.1.1.sl x.1.1.ro x.1.1.su x.1.1.go x.1.1.to x.1.1.gc x.1.1.tc x.1.1.G x.1.1.T rk rg rn rh ro' rc L o c S x.2.2 9 0 x.2.1.1.k x.2.1.1.g x.2.1.1.n x.2.1.1.h x.2.1.1.o x.2.1.1.c x.2.1.1.L (fun _ => True) w x.1.2 (hBy _ x.1.2) hv hl hSl hSr (E7 D x.1.1.sl x.1.1.ro x.1.1.su x.1.1.go x.1.1.to x.1.1.gc x.1.1.tc x.1.1.G x.1.1.T rk rg rn rh ro' rc L o c S x.2.2 9 0 x.2.1.1.k x.2.1.1.g x.2.1.1.n x.2.1.1.h x.2.1.1.o x.2.1.1.c x.2.1.1.L (fun _ => True) _ w x.1.2 (hBy _ x.1.2) hv hl hSl hSr (by rw [hnf]; exact Es8 D x.1.1.sl x.1.1.ro x.1.1.su x.1.1.go x.1.1.to x.1.1.gc x.1.1.tc x.1.1.G x.1.1.T rk rg rn rh ro' rc L o c S x.2.2 x.2.1.1.k x.2.1.1.g x.2.1.1.n x.2.1.1.h x.2.1.1.o x.2.1.1.c x.2.1.1.L _ w x.1.2 (hBy _ x.1.2) hv hl hSl hSr (hz1 x.2.1) (hz2 x.2.1)))
  refine VC.cutH env mixed 3 3 (fun x : { y : Sc // y.d = D } × { z : Rn // z.d = r0 } × Value => [(2, .v (.slice o S.length c)), (4, .ptr 1 0), (8, .ptr 0 0), (9, .v x.2.2), (10, .v (iv 9)), (11, .ptr 2 0), (12, .v (iv 0))]) (fun x => [(0, .cells [.v (iv x.1.1.sl), .v (iv x.1.1.ro), .v (iv x.1.1.su), .v (.slice x.1.1.go x.1.1.G.length x.1.1.gc), .v (.slice x.1.1.to x.1.1.T.length x.1.1.tc)] 34), (1, .cells [.v (.int .u8 rk), .v (iv rg), .v (.slice ro' L.length rc), .v (iv rn), .v (iv rh)] 38), (2, .cells [.v (.int .u8 x.2.1.1.k), .v (iv x.2.1.1.g), .v (.slice x.2.1.1.o x.2.1.1.L.length x.2.1.1.c), .v (iv x.2.1.1.n), .v (iv x.2.1.1.h)] 56)]) (fun x w' => Below w.heap.size w w' ∧ Rd 1 iF (.slice ro' L.length rc) L w' ∧ TbL o c S w' ∧ ScIn x.1.1 w' ∧ Rd 1 iF (.slice x.2.1.1.o x.2.1.1.L.length x.2.1.1.c) x.2.1.1.L w' ∧ True) (fun _ => True) (fun _ _ => ⟨rfl, rfl⟩) ?_ (fun x _ => hgo x)
  clear hgo
  repeat'
   conv => whnf
   first
    |refine zC ?_|refine zD ?_
    |((with_reducible show CallEv _ _ 14 ..); refine callF [] (fun y : { y : Sc // y.d = D } => y.1.v) (fun y => St w.heap.size (ScIn y.1)) (fun β w' _ hbw => h14 w' hbw) ?_; rintro ⟨⟨sl, ro, su, go, gc, G, to, tc, T⟩, hy⟩)
    |((with_reducible show CallEv _ _ 13 ..); refine callF [] (fun p : Option Addr × Nat => .tuple #[.slice p.1 0 p.2, iv 9]) (fun _ _ => True) (fun β w' _ hbw => h13 _ hy w' (by repeat (first | exact hbw | replace hbw := hbw.1)) hbw.2.now) ?_; intro p)
    |((with_reducible show CallEv _ _ 22 ..); refine callF [] (fun z : RnF (some r0) => .tuple #[z.1.v, iv 0]) (fun z => St w.heap.size (Rd 1 iF (.slice z.1.o z.1.L.length z.1.c) z.1.L)) (fun β w' _ hbw => h22 _ hy w' (by repeat (first | exact hbw | replace hbw := hbw.1)) hbw.1.2.now) ?_; rintro ⟨⟨zk, zg, zo, zc, zL, zn, zh⟩, hz⟩)
  all_goals exact ⟨rfl, (⟨⟨sl, ro, su, go, gc, G, to, tc, T⟩, hy⟩, ⟨⟨zk, zg, zo, zc, zL, zn, zh⟩, hz⟩, .slice p.1 0 p.2), trivial, Ent.ren (rho [(0, 2), (2, 3)]) rfl rfl ⟨rfl, rfl, rfl, rfl, rfl, rfl, rfl, trivial⟩ ⟨rfl, rfl, rfl, trivial⟩ fun w' h => ⟨h.1.1.1, hr.below h.1.1.1, hT.below h.1.1.1, h.1.1.2.now, h.2.now, trivial⟩⟩
theorem SchoolEither_ok (s : Sc) (r : Rn) (S : List Lr) (o : Option Addr) (c : Nat) (w : World) (h : ScIn s w) (hX : ScX s) (hr : Rd 1 iF (.slice r.o r.L.length r.c) r.L w) (hrl : r.L.length ≤ 9223372036854775807) (hT : TbL o c S w) (hSl : S.length ≤ 9223372036854775807) (hSr : ∀ r ∈ S, r.L.length ≤ 9223372036854775807) :
 Calls Tryz.prog 9 #[s.v, r.v, .slice o S.length c] w fun e w' => e = .returned (.bool true) ∧ Below w.heap.size w w' := by
 have h12 := fun w' => awake_ok w'
 have h15 := fun (w' : World) (hw : Below w.heap.size w w') => RightX_ok s w' (h.below hw) hX
 have hE := fun (hv : scOk s.d = true) => E3 s.d s r.k r.g r.n r.h r.o r.c r.L o c S w h (ScX.ok hv) rfl hv hr hT
 obtain ⟨rk, rg, ro', rc, L, rn, rh⟩ := r
 dsimp only at hrl hE ⊢
 generalize hD : s.d = D at *
 obtain ⟨sl0, ro0, su0, go0, gc0, G0, to0, tc0, T0⟩ := s
 dsimp only at hE
 cases hv : scOk D with
 | false =>
  rw [hv] at h15
  refine calls_val env mixed Tryz.func9 has9 Tryz.ntmps9 [.agg #[iv sl0, iv ro0, iv su0, .slice go0 G0.length gc0, .slice to0 T0.length tc0], .agg #[.int .u8 rk, iv rg, .slice ro' L.length rc, iv rn, iv rh], .slice o S.length c] (by simp) ?_
  repeat'
   conv => whnf
   first
    |refine zD ?_|refine splT ?_
    |((with_reducible show CallEv _ _ 15 ..); refine callE (fun β w' hbw => h15 _ hbw) ?_)
    |((with_reducible show CallEv _ _ 12 ..); refine callE (fun β w' hbw => h12 w') ?_)
  all_goals exact ⟨fun β => rfl, fun w' h => h⟩
 | true =>
  rw [hv] at h15
  have hE := hE hv
  by_cases hl : L.length ≤ 10
  · by_cases hS4 : S.length ≤ 45
    · refine calls_valV env mixed Tryz.func9 has9 Tryz.ntmps9 [.agg #[iv sl0, iv ro0, iv su0, .slice go0 G0.length gc0, .slice to0 T0.length tc0], .agg #[.int .u8 rk, iv rg, .slice ro' L.length rc, iv rn, iv rh], .slice o S.length c] (by simp) ?_
      refine VC.cutE env mixed 3 2 (fun _ : Unit => [(2, .v (.slice o S.length c)), (3, .ptr 0 0), (4, .ptr 1 0)]) (fun _ => [(0, .cells [.v (iv sl0), .v (iv ro0), .v (iv su0), .v (.slice go0 G0.length gc0), .v (.slice to0 T0.length tc0)] 25), (1, .cells [.v (.int .u8 rk), .v (iv rg), .v (.slice ro' L.length rc), .v (iv rn), .v (iv rh)] 38)]) (fun _ => ∀ r ∈ S, r.L.length ≤ 10) (fun _ _ => ⟨rfl, rfl⟩) ?_ (fun _ hp => hE (by omega) hS4 hp)
      clear hE
      repeat'
       conv => whnf
       first
        |refine zB ?_|refine zD ?_|refine splF ?_
        |(refine splD ?_ ?_ <;> intro hc <;> first|(exfalso; omega)|skip)
        |((with_reducible show CallEv _ _ 15 ..); refine callE (fun β w' hbw => h15 _ hbw) ?_)
      refine loopN 2 (fun k : Nat => [(2, .v (.slice o S.length c)), (3, .ptr 0 0), (4, .ptr 1 0), (7, .v (iv k))]) (fun _ => [(0, .cells [.v (iv sl0), .v (iv ro0), .v (iv su0), .v (.slice go0 G0.length gc0), .v (.slice to0 T0.length tc0)] 25), (1, .cells [.v (.int .u8 rk), .v (iv rg), .v (.slice ro' L.length rc), .v (iv rn), .v (iv rh)] 38)]) (fun k => k ≤ S.length ∧ ∀ r ∈ S.take k, r.L.length ≤ 10) (fun k => S.length - k) 0 ⟨Nat.zero_le _, fun r hr => by simp at hr⟩ ⟨rfl, rfl, rfl, rfl, trivial⟩ ⟨rfl, rfl, trivial⟩ (fun _ _ => ⟨rfl, rfl⟩) ?_
      intro k ⟨hk, hall⟩
      rcases Nat.lt_or_ge k S.length with hkl | hkl
      · obtain ⟨⟨so, sc, M⟩, hx⟩ : ∃ b, S[k]? = some b := ⟨_, List.getElem?_eq_getElem hkl⟩
        obtain ⟨hS, hSr2⟩ := hT
        obtain ⟨_, ad, rfl, _⟩ := hS.ptr (by omega)
        have e1 := fun (w' : World) hw' => rd_ati (hS.below (w' := w') hw') hx
        have hL := hSr _ (List.mem_of_getElem? hx)
        dsimp only at hL
        by_cases h10 : M.length ≤ 10
        · have hn : ∀ r ∈ S.take (k + 1), r.L.length ≤ 10 := fun r hr => by
           rw [List.take_add_one, hx] at hr
           rcases List.mem_append.1 hr with hr | hr
           · exact hall r hr
           · simp at hr; subst hr; exact h10
          repeat'
           conv => whnf
           first
            |refine zF ?_|refine zG ?_
            |(refine splD ?_ ?_ <;> intro hc <;> first|(exfalso; omega)|skip)
            |refine eL [.slice so M.length sc] ⟨⟨rfl, fun w' hw' => e1 w' hw'⟩, ?_⟩
          all_goals exact ⟨k + 1, ⟨by omega, hn⟩, by omega, Ent.weak rfl ⟨rfl, rfl, rfl, rfl, trivial⟩ ⟨rfl, rfl, trivial⟩ fun _ h => h⟩
        · skip
          repeat'
           conv => whnf
           first
            |refine zD ?_|refine zG ?_
            |(refine splD ?_ ?_ <;> intro hc <;> first|(exfalso; omega)|skip)
            |refine eL [.slice so M.length sc] ⟨⟨rfl, fun w' hw' => e1 w' hw'⟩, ?_⟩
            |((with_reducible show CallEv _ _ 12 ..); refine callE (fun β w' hbw => h12 w') ?_)
          all_goals exact ⟨fun β => rfl, fun w' h => h⟩
      · rw [List.take_of_length_le hkl] at hall
        repeat'
         conv => whnf
         first
          |(refine splD ?_ ?_ <;> intro hc <;> first|(exfalso; omega)|skip)
        all_goals exact ⟨rfl, (), hall, Ent.weak rfl ⟨rfl, rfl, rfl, trivial⟩ ⟨rfl, rfl, trivial⟩ fun _ h => h⟩
    · refine calls_val env mixed Tryz.func9 has9 Tryz.ntmps9 [.agg #[iv sl0, iv ro0, iv su0, .slice go0 G0.length gc0, .slice to0 T0.length tc0], .agg #[.int .u8 rk, iv rg, .slice ro' L.length rc, iv rn, iv rh], .slice o S.length c] (by simp) ?_
      repeat'
       conv => whnf
       first
        |refine zB ?_|refine zD ?_|refine splF ?_
        |(refine splD ?_ ?_ <;> intro hc <;> first|(exfalso; omega)|skip)
        |((with_reducible show CallEv _ _ 15 ..); refine callE (fun β w' hbw => h15 _ hbw) ?_)
        |((with_reducible show CallEv _ _ 12 ..); refine callE (fun β w' hbw => h12 w') ?_)
      all_goals exact ⟨fun β => rfl, fun w' h => h⟩
  · refine calls_val env mixed Tryz.func9 has9 Tryz.ntmps9 [.agg #[iv sl0, iv ro0, iv su0, .slice go0 G0.length gc0, .slice to0 T0.length tc0], .agg #[.int .u8 rk, iv rg, .slice ro' L.length rc, iv rn, iv rh], .slice o S.length c] (by simp) ?_
    repeat'
     conv => whnf
     first
      |refine zB ?_|refine zD ?_|refine splT ?_|refine splF ?_
      |(refine splD ?_ ?_ <;> intro hc <;> first|(exfalso; omega)|skip)
      |((with_reducible show CallEv _ _ 15 ..); refine callE (fun β w' hbw => h15 _ hbw) ?_)
      |((with_reducible show CallEv _ _ 12 ..); refine callE (fun β w' hbw => h12 w') ?_)
    all_goals exact ⟨fun β => rfl, fun w' h => h⟩
end Go.Proofs.YtkbfcofifhngfaaGreat
namespace Go.Proofs.YtkbfcofifhngfaaGreat
open Go Tx Go.RowKit Go.WideShapes
abbrev I64 (n : Int) : Prop := -9223372036854775808 ≤ n ∧ n ≤ 9223372036854775807
def shI : Shp := .int .i64
def shTe : Shp := .agg [.sl 1 shI, shI]
def shSc : Shp := .agg [shI, shI, shI, .sl 1 (.sl 1 shI), .sl 2 shTe]
def shL : Shp := .agg [shI, shI, shI]
def shTb : Shp := .sl 3 shL
theorem op_slc {α : Type} {w : World} {sz : Nat} {e : Shp} {f : α → List Value} {Q : α → Prop} (he : ∀ es, e.rd w es → ∃ x, es = f x ∧ Q x) {cs : List Value} (h : (Shp.sl sz e).rd w cs) :
 ∃ (o : Option Addr) (c : Nat) (xs : List α), cs = [.slice o xs.length c] ∧ Rd sz f (.slice o xs.length c) xs w ∧ xs.length ≤ 9223372036854775807 ∧ ∀ x ∈ xs, Q x := by
 unfold Shp.rd at h
 rcases h with rfl | ⟨a, n, c, rfl, h1, h2, h3⟩
 · exact ⟨none, 0, [], rfl, .inl ⟨rfl, rfl⟩, by simp, fun x hx => by simp at hx⟩
 · obtain ⟨xs, hl, hb⟩ := list_of (Q := fun i (x : α) => (∀ j v, (f x)[j]? = some v → w.cell? ((a.add (i * sz)).add j) = some v) ∧ Q x) n fun i hi => by
    obtain ⟨es, _, e2, e3⟩ := h3 i hi
    obtain ⟨x, rfl, hx⟩ := he es e3
    exact ⟨x, e2, hx⟩
   subst hl
   exact ⟨some a, c, xs, rfl, .inr ⟨a, c, rfl, fun k b hk => (hb k b hk).1⟩, by unfold maxLen at h2; omega, fun x hx => by
    obtain ⟨k, hk⟩ := List.mem_iff_getElem?.1 hx
    exact (hb k x hk).2⟩
theorem op_i {w : World} {es : List Value} (h : shI.rd w es) : ∃ n : Int, es = iF n ∧ I64 n := by
 simp only [shI, Shp.rd] at h
 obtain ⟨n, rfl, g⟩ := h
 exact ⟨n, rfl, wf64 g⟩
theorem op_ints {w : World} {cs : List Value} (h : (Shp.sl 1 shI).rd w cs) : ∃ (o : Option Addr) (c : Nat) (xs : List Int), cs = [.slice o xs.length c] ∧ Rd 1 iF (.slice o xs.length c) xs w ∧ xs.length ≤ 9223372036854775807 ∧ ∀ x ∈ xs, I64 x :=
 op_slc (f := iF) (Q := I64) (fun es h => op_i h) h
theorem op_rw {w : World} {es : List Value} (h : (Shp.sl 1 shI).rd w es) : ∃ r : Rw, es = Rw.cs r ∧ Rd 1 iF r.v r.xs w ∧ r.xs.length ≤ 9223372036854775807 := by
 obtain ⟨o, c, xs, h1, h2, h3, _⟩ := op_ints h
 exact ⟨⟨o, c, xs⟩, h1, h2, h3⟩
theorem op_te {w : World} {es : List Value} (h : shTe.rd w es) : ∃ s : Tc, es = Tc.cs s ∧ Rd 1 iF (.slice s.o s.T.length s.c) s.T w ∧ s.T.length ≤ 9223372036854775807 ∧ I64 s.h := by
 simp only [shTe, Shp.rd.eq_3, Shp.rds] at h
 obtain ⟨_, _, rfl, h2, _, _, rfl, h3, rfl⟩ := h
 obtain ⟨n0, rfl, g0⟩ := op_i h3
 obtain ⟨o, c, xs, rfl, h3, h4, _⟩ := op_ints h2
 exact ⟨⟨o, c, xs, n0⟩, rfl, h3, h4, g0⟩
theorem op_school {w : World} {cs : List Value} (h : shSc.rd w cs) : ∃ x : Sc, cs = [iv x.sl, iv x.ro, iv x.su, .slice x.go x.G.length x.gc, .slice x.to x.T.length x.tc] ∧ ScIn x w ∧ ScX x ∧ (I64 x.sl ∧ I64 x.ro ∧ I64 x.su ∧ ∀ t ∈ x.T, I64 t.h) := by
 unfold shSc at h
 simp only [Shp.rd.eq_3, Shp.rds] at h
 obtain ⟨_, _, rfl, h1, _, _, rfl, h2, _, _, rfl, h3, _, _, rfl, h4, _, _, rfl, h5, rfl⟩ := h
 obtain ⟨n1, rfl, g1⟩ := op_i h1
 obtain ⟨n2, rfl, g2⟩ := op_i h2
 obtain ⟨n3, rfl, g3⟩ := op_i h3
 obtain ⟨go, gc, G, rfl, b1, b2, b3⟩ := op_slc (f := Rw.cs) (Q := fun r => Rd 1 iF r.v r.xs w ∧ r.xs.length ≤ 9223372036854775807) (fun es h => op_rw h) h4
 obtain ⟨to, tc, T, rfl, d1, d2, d3⟩ := op_slc (f := Tc.cs) (Q := fun s => Rd 1 iF (.slice s.o s.T.length s.c) s.T w ∧ s.T.length ≤ 9223372036854775807 ∧ I64 s.h) (fun es h => op_te h) h5
 exact ⟨⟨n1, n2, n3, go, gc, G, to, tc, T⟩, rfl, ⟨b1, fun r hr => (b3 r hr).1, d1, fun t ht => (d3 t ht).1⟩, ⟨b2, fun r hr => (b3 r hr).2, d2, fun t ht => (d3 t ht).2.1⟩, g1, g2, g3, fun t ht => (d3 t ht).2.2⟩
theorem op_ln {w : World} {es : List Value} (h : shL.rd w es) : ∃ x : Ln, es = Ln.cs x ∧ True := by
 simp only [shL, Shp.rd.eq_3, Shp.rds] at h
 obtain ⟨_, _, rfl, h1, _, _, rfl, h2, _, _, rfl, h3, rfl⟩ := h
 obtain ⟨n1, rfl, g1⟩ := op_i h1
 obtain ⟨n2, rfl, g2⟩ := op_i h2
 obtain ⟨n3, rfl, g3⟩ := op_i h3
 exact ⟨⟨n1, n2, n3⟩, rfl, trivial⟩
theorem op_lr {w : World} {es : List Value} (h : shTb.rd w es) : ∃ r : Lr, es = Lr.cs r ∧ Rd 3 Ln.cs (.slice r.o r.L.length r.c) r.L w ∧ r.L.length ≤ 9223372036854775807 := by
 obtain ⟨o, c, xs, h1, h2, h3, _⟩ := op_slc (f := Ln.cs) (Q := fun _ => True) (fun es h => op_ln h) h
 exact ⟨⟨o, c, xs⟩, h1, h2, h3⟩
theorem op_tab {w : World} {v : Value} (h : (Shp.sl 1 shTb).rd w [v]) : ∃ (o : Option Addr) (c : Nat) (S : List Lr), v = .slice o S.length c ∧ TbL o c S w ∧ S.length ≤ 9223372036854775807 ∧ ∀ r ∈ S, r.L.length ≤ 9223372036854775807 := by
 obtain ⟨o, c, S, h1, h2, h3, h4⟩ := op_slc (f := Lr.cs) (Q := fun r => Rd 3 Ln.cs (.slice r.o r.L.length r.c) r.L w ∧ r.L.length ≤ 9223372036854775807) (fun es h => op_lr h) h
 simp only [List.cons.injEq, and_true] at h1
 exact ⟨o, c, S, h1, ⟨h2, fun r hr => (h4 r hr).1⟩, h3, fun r hr => (h4 r hr).2⟩
end Go.Proofs.YtkbfcofifhngfaaGreat
namespace Go.Proofs.YtkbfcofifhngfaaGreat
open Go Tx Go.RowKit
def shU : Shp := .int .u8
def shRn : Shp := .agg [shU, shI, .sl 1 shI, shI, shI]
theorem op_reason {w : World} {cs : List Value} (h : shRn.rd w cs) : ∃ r : Rn, cs = r.cs ∧ Rd 1 iF (.slice r.o r.L.length r.c) r.L w ∧ r.L.length ≤ 9223372036854775807 := by
 unfold shRn at h
 simp only [Shp.rd.eq_3, Shp.rds] at h
 obtain ⟨_, _, rfl, h1, _, _, rfl, h2, _, _, rfl, h3, _, _, rfl, h4, _, _, rfl, h5, rfl⟩ := h
 obtain ⟨n2, rfl, g2⟩ := op_i h2
 obtain ⟨n4, rfl, g4⟩ := op_i h4
 obtain ⟨n5, rfl, g5⟩ := op_i h5
 obtain ⟨o, c, xs, rfl, b1, b2, _⟩ := op_ints h3
 obtain ⟨k, rfl, _⟩ : ∃ k : Int, _ = [Value.int .u8 k] ∧ True := by
  simp only [shU, Shp.rd] at h1
  obtain ⟨n, hn, _⟩ := h1
  exact ⟨n, hn, trivial⟩
 exact ⟨⟨k, n2, o, c, xs, n4, n5⟩, rfl, b1, b2⟩
end Go.Proofs.YtkbfcofifhngfaaGreat
