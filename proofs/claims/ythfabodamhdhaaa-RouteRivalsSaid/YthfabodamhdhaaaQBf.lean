/- Part 6 of the proof: texts merged. -/
import Derived.Test.YthfabodamhdhaaaQBe
namespace Go.Proofs.Ythfabodamhdhaaa
open Go Tx Go.RowKit
set_option linter.unusedSimpArgs false
set_option linter.unusedVariables false
abbrev RvT (x : Tr) (k : Nat) (t0 : Tn) := {p : Tr × Tn // p.1.d = x.d ∧ p.1.T[k]? = some p.2 ∧ p.2.d = t0.d}
abbrev RvN (x : Tr) (k : Nat) (t0 : Tn) := {p : Tr × Tn // p.1.d = x.d ∧ p.1.T[k]? = some p.2 ∧ p.2.d = t0.d ∧ p.2.ro = none ∧ p.2.rc = 0}
theorem xsR_len {b k n : Nat} {y : Tr} : (xsR b k n y).length = y.T.length * 9 := by
 unfold xsR
 rw [List.length_set, List.length_map, flat_len (sz := 9) (fun _ => rfl)]
theorem xs_len {y : Tr} : ((y.T.flatMap Tn.cs).map SV.v).length = y.T.length * 9 := by
 rw [List.length_map, flat_len (sz := 9) (fun _ => rfl)]
theorem cv63 (a : Int) (h : -128 ≤ a ∧ a ≤ 127) : RunIs Try.prog (convert 63 3 (.int .i8 a)) (iv a) := fun w => by
 have h1 : Try.prog.underlying 63 = some (.int .i8) := by kernel_rfl
 have h2 : Try.prog.underlying 3 = some (.int .i64) := by kernel_rfl
 have e : IntKind.i64.wrap a = a := IR.wrap (k := .i64) (And.intro (by omega) (by omega))
 simp [convert, Conv.intToInt, Go.run_underlying h1 w, Go.run_underlying h2 w, e]
theorem cvE63 {a : Int} {K : Value → Prop} (h : -128 ≤ a ∧ a ≤ 127) (hK : K (iv a)) : ∃ v', RunIs Try.prog (convert 63 3 (.int .i8 a)) v' ∧ K v' := ⟨_, cv63 a h, hK⟩
theorem at9 {k n : Nat} (h : k < n) {j : Nat} (hj : j < 9) : k * 9 + j < n * 9 := by omega
set_option maxHeartbeats 4000000 in
set_option maxRecDepth 100000 in
theorem RvA (x : Tr) (k : Nat) (t0 : Tn) (d a lo hi : Int) (w : World) (hT : TrIn x w) (hB : TrB x) (hto : toB x.d = true) (hk : x.T[k]? = some t0) (hk1 : 1 ≤ k) (hR : t0.d.R ≠ []) (hR3 : t0.d.R.length < 3) (hlh : -60 ≤ lo ∧ lo ≤ hi ∧ hi ≤ 60) (hd : 0 ≤ d ∧ d < x.days) (ha : a = dyO t0.d d) :
 VC Try.prog (rest 6 body6) ⟨146, [(3, .v (.int .i8 lo)), (4, .v (.int .i8 hi)), (5, .ptr 0 0), (11, .v (iv k)), (12, .v (iv d)), (13, .v (iv a)), (14, .v (iv 0))], [(0, .cells x.l 25)], 1, fun w2 => Below w.heap.size w w2, z0⟩ (endΦ env Try.f6 fun s σ => (∀ β, s.c β = .bool true) ∧ ∀ w', σ.h w' → Below w.heap.size w w') := by
 have htw : twB x.days t0.d = true := toB_at (x := x.d) hto hk1 (by show (x.T.map Tn.d)[k]? = _; rw [List.getElem?_map, hk]; rfl)
 have hN := toB_n hto
 have hn9 := hN.n
 have hnl := hN.l
 rw [show x.d.T.length = x.T.length from List.length_map ..] at hn9
 rw [show x.d.T.length = x.T.length from List.length_map .., show x.d.L.length = x.L.length from List.length_map ..] at hnl
 have hL0 : x.L ≠ [] := fun e => by rw [e] at hnl; simp at hnl; omega
 have hkl := (List.getElem?_eq_some_iff.1 hk).1
 have hpT : ∀ p : RvT x k t0, p.1.1.T.length = x.T.length := fun p => by have := congrArg (fun d => d.T.length) p.2.1; simpa using this
 have hpk : ∀ p : RvT x k t0, k < p.1.1.T.length := fun p => by rw [hpT p]; exact hkl
 have hs6 : ∀ p : RvT x k t0, (xsR 5 k t0.d.R.length p.1.1)[k * 9 + 6]? = some (SV.os 5 6 t0.d.R.length) := fun p => by
  have := hpk p
  unfold xsR
  rw [List.getElem?_set_self (by rw [xs_len]; omega)]
 have hm1 : ∀ (p : RvT x k t0) (i : Nat) (bk : Blk), lk (mR 1 x.T.length x.L.length t0.d.R.length k p.1.2 p.1.1) i = some bk → 1 ≤ i ∧ i < 1 + 6 ∧ bk.lt (1 + 6) = true ∧ bk.live = true := fun p i bk h => by
  have hl : SV.lts 7 (xsR (1 + 4) k t0.d.R.length p.1.1) = true := lts_set rfl (lts_v _ _)
  rcases lk_mR h with ⟨rfl, rfl⟩ | ⟨rfl, rfl⟩ | ⟨rfl, rfl⟩ <;> exact ⟨by omega, by omega, by simp [Blk.lt, hl], rfl⟩
 have htour : ∀ (β : Nat → Nat) (w' : World) (hb : Below w.heap.size w w'), Calls Try.prog 21 #[x.v] w' fun e w2 => ∃ (p : RvT x k t0) (γ : Nat → Nat), e = .returned ((vR 1 x).c γ) ∧ (∀ i, i < 1 → γ i = β i) ∧ Below w'.heap.size w' w2 ∧
  (∀ i bk, lk (mR 1 x.T.length x.L.length t0.d.R.length k p.1.2 p.1.1) i = some bk → w'.heap.size ≤ γ i ∧ bk.ok γ w2 (γ i)) ∧ (∀ i j bi bj, lk (mR 1 x.T.length x.L.length t0.d.R.length k p.1.2 p.1.1) i = some bi → lk (mR 1 x.T.length x.L.length t0.d.R.length k p.1.2 p.1.1) j = some bj → i ≠ j → γ i ≠ γ j) ∧
  ∀ w3, w2.heap.size ≤ w3.heap.size → (∀ c, w'.heap.size ≤ c → c < w2.heap.size → (∀ i bk, lk (mR 1 x.T.length x.L.length t0.d.R.length k p.1.2 p.1.1) i = some bk → γ i ≠ c) → w3.heap[c]? = w2.heap[c]?) → RsK k p.1.1 w3 := fun β w' hb =>
  (TourR_ok x k t0 w' (hT.below hb) hB hk hR hL0 1 β).mono fun e w2 ⟨p, γ, g1, g2, g3, g4, g5, g6⟩ => ⟨⟨p, (g6 w2 (Nat.le_refl _) (fun _ _ _ _ => rfl)).1⟩, γ, g1, g2, g3, g4, g5, fun w3 h1 h2 => (g6 w3 h1 h2).2⟩
 have hday1 : ∀ (p : RvT x k t0) (β : Nat → Nat) (w' : World), (Blk.mix 2 x.T.length 9 [] ((xsR 5 k t0.d.R.length p.1.1).set (k * 9 + 6) (.os 9 10 (t0.d.R.length + 1))) 57).ok β w' (β 1) → (Blk.own 4 x.L.length 1 (p.1.1.L.flatMap Lr.cs) 61).ok β w' (β 3) → (Blk.own 10 (t0.d.R.length + 1) 2 (p.1.2.d.R.flatMap prF ++ [iv lo, iv hi]) 55).ok β w' (β 9) → RsK k p.1.1 w' →
  Calls Try.prog 34 #[.agg #[iv x.days, iv x.shift, iv x.size, .slice (some ⟨β 1, 0, none⟩) x.T.length (β 2), .slice (some ⟨β 3, 0, none⟩) x.L.length (β 4)], iv k, iv d] w' fun e w2 => e = .returned (.tuple #[iv (dyO { t0.d with R := t0.d.R ++ [(lo, hi)] } d), iv 0]) ∧ Below w'.heap.size w' w2 := fun p β w' h1 h3 h9 hrs => by
  rw [p.2.2.2] at h9
  obtain ⟨⟨y, t⟩, hyd, hyt, htd⟩ := p
  dsimp only at h1 h3 h9 hrs hyd hyt htd ⊢
  refine day_rows (t1 := { t with ro := some ⟨β 9, 0, none⟩, rc := β 10, d := { t0.d with R := t0.d.R ++ [(lo, hi)] } }) hyd hyt ?_ rfl rfl h1 h3 ⟨rfl, rfl, by rw [htd]⟩ ?_ hrs hto (twB_rival htw hR3 hlh) hk1 hd
  · show [] ++ SV.cs β _ = _
    rw [List.nil_append, cs_set, xsR, cs_set, cs_v, List.set_set]
    simp only [SV.c]
    rw [flat_set (sz := 9) (f := Tn.cs) (fun _ => rfl) _ k 6 t { t with ro := some ⟨β 9, 0, none⟩, rc := β 10, d := { t0.d with R := t0.d.R ++ [(lo, hi)] } } _ hyt (by decide) (by rw [← htd]; simp [SV.c])]
  · have h9' : w'.ownsRow 0 55 2 (.slice (some ⟨β 9, 0, none⟩) (t0.d.R.length + 1) (β 10)) (t0.d.R.length + 1) (t0.d.R.flatMap prF ++ [iv lo, iv hi]) := h9
    rw [show (t0.d.R.length + 1) = (t0.d.R ++ [(lo, hi)]).length from by simp] at h9'
    exact Rd.of_owns (sz := 2) (f := prF) (bs := t0.d.R ++ [(lo, hi)]) (xs := (t0.d.R.flatMap prF ++ [iv lo, iv hi])) (fun _ => rfl) (by simp) rfl h9'
 have hday2 : ∀ (p : RvT x k t0) (β : Nat → Nat) (w' : World), (Blk.mix 2 x.T.length 9 [] (((xsR 5 k t0.d.R.length p.1.1).set (k * 9 + 6) (.os 9 10 (t0.d.R.length + 1))).set (k * 9 + 8) (.v (iv 0))) 57).ok β w' (β 1) → (Blk.own 4 x.L.length 1 (p.1.1.L.flatMap Lr.cs) 61).ok β w' (β 3) → (Blk.own 10 (t0.d.R.length + 1) 2 (p.1.2.d.R.flatMap prF ++ [iv lo, iv hi]) 55).ok β w' (β 9) → RsK k p.1.1 w' →
  Calls Try.prog 34 #[.agg #[iv x.days, iv x.shift, iv x.size, .slice (some ⟨β 1, 0, none⟩) x.T.length (β 2), .slice (some ⟨β 3, 0, none⟩) x.L.length (β 4)], iv k, iv d] w' fun e w2 => e = .returned (.tuple #[iv (dyO { ({ t0.d with R := t0.d.R ++ [(lo, hi)] } : Tw) with cut := 0 } d), iv 0]) ∧ Below w'.heap.size w' w2 := fun p β w' h1 h3 h9 hrs => by
  rw [p.2.2.2] at h9
  obtain ⟨⟨y, t⟩, hyd, hyt, htd⟩ := p
  dsimp only at h1 h3 h9 hrs hyd hyt htd ⊢
  refine day_rows (t1 := { t with ro := some ⟨β 9, 0, none⟩, rc := β 10, d := { ({ t0.d with R := t0.d.R ++ [(lo, hi)] } : Tw) with cut := 0 } }) hyd hyt ?_ rfl rfl h1 h3 ⟨rfl, rfl, by rw [htd]⟩ ?_ hrs hto (twB_cut (twB_rival htw hR3 hlh)) hk1 hd
  · show [] ++ SV.cs β _ = _
    rw [List.nil_append, cs_set, cs_set, xsR, cs_set, cs_v, List.set_set]
    simp only [SV.c]
    rw [flat_set (sz := 9) (f := Tn.cs) (fun _ => rfl) _ k 6 t { t with ro := some ⟨β 9, 0, none⟩, rc := β 10, d := { t0.d with R := t0.d.R ++ [(lo, hi)] } } _ hyt (by decide) (by rw [← htd]; simp [SV.c])]
    rw [flat_set (sz := 9) (f := Tn.cs) (fun _ => rfl) _ k 8 (v := iv 0) { t with ro := some ⟨β 9, 0, none⟩, rc := β 10, d := { t0.d with R := t0.d.R ++ [(lo, hi)] } } { t with ro := some ⟨β 9, 0, none⟩, rc := β 10, d := { ({ t0.d with R := t0.d.R ++ [(lo, hi)] } : Tw) with cut := 0 } } (List.getElem?_set_self (List.getElem?_eq_some_iff.1 hyt).1) (by decide) rfl, List.set_set]
  · have h9' : w'.ownsRow 0 55 2 (.slice (some ⟨β 9, 0, none⟩) (t0.d.R.length + 1) (β 10)) (t0.d.R.length + 1) (t0.d.R.flatMap prF ++ [iv lo, iv hi]) := h9
    rw [show (t0.d.R.length + 1) = (t0.d.R ++ [(lo, hi)]).length from by simp] at h9'
    exact Rd.of_owns (sz := 2) (f := prF) (bs := t0.d.R ++ [(lo, hi)]) (xs := (t0.d.R.flatMap prF ++ [iv lo, iv hi])) (fun _ => rfl) (by simp) rfl h9'
 have hle : dyO { t0.d with R := t0.d.R ++ [(lo, hi)] } d ≤ a := by rw [ha]; exact dyO_rival (TwN.of htw) (lo, hi) d
 have hcut : dyO { ({ t0.d with R := t0.d.R ++ [(lo, hi)] } : Tw) with cut := 0 } d = t0.d.pay := dyO_cut _ rfl d
 have hpay := (TwN.of htw).p
 have hTt := hT.t
 obtain ⟨_, ad, hto2, _⟩ := hTt.ptr (by omega)
 rw [hto2] at hTt
 have eP := fun (w' : World) (hw' : Below w.heap.size w w') => rd_fld (hTt.below (w' := w') hw') hk 3 (iv t0.d.pay) rfl
 have hxv : x.v = .agg #[iv x.days, iv x.shift, iv x.size, .slice (some ad) x.T.length x.tc, .slice x.lo x.L.length x.lc] := by simp only [Tr.v, hto2]
 simp only [hxv] at htour
 refine VC.of env mixed ?_
 dsimp only [Tr.l]
 rw [hto2]
 generalize dyO { t0.d with R := t0.d.R ++ [(lo, hi)] } d = b1 at *
 rw [hcut] at hday2
 clear htw hN hnl hL0 hB
 repeat'
  conv => whnf
  first
   | refine zA ?_ | refine zB ?_ | refine zC ?_ | refine zD ?_ | refine zE ?_ | refine zF ?_ | refine zG ?_ | refine zH ?_ | refine zJ ?_ | refine zI ?_ | refine splT ?_ | refine splF ?_ | refine splNot ?_
   | ((first | refine splIn ?_ ?_ | refine splD ?_ ?_ | refine splE ?_ ?_ | refine splNE ?_ ?_) <;> intro hc <;> first | (exfalso; omega) | (exfalso; dsimp only at hc; omega) | skip)
   | ((with_reducible show CallEv _ _ 21 _ _ _ _ _); refine callFR [] 6 (vR 1 x) (fun p : RvT x k t0 => mR 1 x.T.length x.L.length t0.d.R.length k p.1.2 p.1.1) (fun p w2 => RsK k p.1.1 w2) hm1 rfl (fun β w' _ hbw => htour β w' hbw) ?_; intro p)
   | refine cvE63 (by omega) ?_
   | refine Tx.ldN env (.os 5 6 t0.d.R.length) rfl rfl rfl rfl rfl (hs6 p) rfl ?_
   | refine Tx.stN env (.os 9 10 (t0.d.R.length + 1)) rfl rfl rfl rfl rfl rfl rfl (by rw [xsR_len]; exact at9 (hpk p) (by decide)) rfl rfl (lts_set rfl (lts_v _ _)) rfl ?_
   | refine Tx.stN env (.v (iv 0)) rfl rfl rfl rfl rfl rfl rfl (by rw [List.length_set, xsR_len]; exact at9 (hpk p) (by decide)) rfl rfl (lts_set rfl (lts_set rfl (lts_v _ _))) rfl ?_
   | ((with_reducible show CallEv _ ⟨_, _, (1, Blk.mix _ _ _ _ (List.set (List.set _ _ _) _ _) _) :: _, _, _, _⟩ 34 _ _ _ _ _); refine callM (k := 34) [1, 3, 9] (fun β w' hbk hbw => hday2 p β w' (hbk 1 (by simp) _ rfl) (hbk 3 (by simp) _ rfl) (hbk 9 (by simp) _ rfl) hbw.2) ?_)
   | ((with_reducible show CallEv _ _ 34 _ _ _ _ _); refine callM (k := 34) [1, 3, 9] (fun β w' hbk hbw => hday1 p β w' (hbk 1 (by simp) _ rfl) (hbk 3 (by simp) _ rfl) (hbk 9 (by simp) _ rfl) hbw.2) ?_)
   | refine Exists.intro (α := List Value) [iv t0.d.pay] ⟨⟨rfl, fun w' hw' => eP w' (by repeat (first | exact hw' | replace hw' := hw'.1))⟩, ?_⟩
   | ((with_reducible show CallEv _ _ 19 _ _ _ _ _); refine callE (k := 19) (fun β w' hbw => awake_ok w') ?_)
 all_goals first | (exfalso; omega) | exact ⟨fun β => rfl, fun w' h => (by repeat (first | exact h | replace h := h.1))⟩
set_option maxHeartbeats 4000000 in
set_option maxRecDepth 100000 in
theorem RvB (x : Tr) (k : Nat) (t0 : Tn) (d a lo hi : Int) (w : World) (hT : TrIn x w) (hB : TrB x) (hto : toB x.d = true) (hk : x.T[k]? = some t0) (hk1 : 1 ≤ k) (hR0 : t0.d.R = []) (hR3 : t0.d.R.length < 3) (hlh : -60 ≤ lo ∧ lo ≤ hi ∧ hi ≤ 60) (hd : 0 ≤ d ∧ d < x.days) (ha : a = dyO t0.d d) :
 VC Try.prog (rest 6 body6) ⟨146, [(3, .v (.int .i8 lo)), (4, .v (.int .i8 hi)), (5, .ptr 0 0), (11, .v (iv k)), (12, .v (iv d)), (13, .v (iv a)), (14, .v (iv 0))], [(0, .cells x.l 25)], 1, fun w2 => Below w.heap.size w w2, z0⟩ (endΦ env Try.f6 fun s σ => (∀ β, s.c β = .bool true) ∧ ∀ w', σ.h w' → Below w.heap.size w w') := by
 have htw : twB x.days t0.d = true := toB_at (x := x.d) hto hk1 (by show (x.T.map Tn.d)[k]? = _; rw [List.getElem?_map, hk]; rfl)
 have hN := toB_n hto
 have hn9 := hN.n
 have hnl := hN.l
 rw [show x.d.T.length = x.T.length from List.length_map ..] at hn9
 rw [show x.d.T.length = x.T.length from List.length_map .., show x.d.L.length = x.L.length from List.length_map ..] at hnl
 have hL0 : x.L ≠ [] := fun e => by rw [e] at hnl; simp at hnl; omega
 have hkl := (List.getElem?_eq_some_iff.1 hk).1
 have hpT : ∀ p : RvN x k t0, p.1.1.T.length = x.T.length := fun p => by have := congrArg (fun d => d.T.length) p.2.1; simpa using this
 have hpk : ∀ p : RvN x k t0, k < p.1.1.T.length := fun p => by rw [hpT p]; exact hkl
 have hro : ∀ p : RvN x k t0, (Tn.cs p.1.2)[6]? = some (.slice none 0 0) := fun p => by
  have h1 := p.2.2.2
  show some (Value.slice p.1.2.ro p.1.2.d.R.length p.1.2.rc) = _
  rw [h1.1, hR0, h1.2.1, h1.2.2]; rfl
 have hs6 : ∀ p : RvN x k t0, ((p.1.1.T.flatMap Tn.cs).map SV.v)[k * 9 + 6]? = some (SV.v (.slice none 0 0)) := fun p => by
  have h1 := hro p
  have := flat_get (f := Tn.cs) (sz := 9) (fun _ => rfl) _ k 6 _ (.slice none 0 0) p.2.2.1 h1
  rw [List.getElem?_map, this]; rfl
 have hm1 : ∀ (p : RvN x k t0) (i : Nat) (bk : Blk), lk (mR0 1 x.T.length x.L.length p.1.1) i = some bk → 1 ≤ i ∧ i < 1 + 4 ∧ bk.lt (1 + 4) = true ∧ bk.live = true := fun p i bk h => by
  have hl : SV.lts 5 ((p.1.1.T.flatMap Tn.cs).map SV.v) = true := lts_v _ _
  rcases lk_mR0 h with ⟨rfl, rfl⟩ | ⟨rfl, rfl⟩ <;> exact ⟨by omega, by omega, by simp [Blk.lt, hl], rfl⟩
 have htour : ∀ (β : Nat → Nat) (w' : World) (hb : Below w.heap.size w w'), Calls Try.prog 21 #[x.v] w' fun e w2 => ∃ (p : RvN x k t0) (γ : Nat → Nat), e = .returned ((vR 1 x).c γ) ∧ (∀ i, i < 1 → γ i = β i) ∧ Below w'.heap.size w' w2 ∧
  (∀ i bk, lk (mR0 1 x.T.length x.L.length p.1.1) i = some bk → w'.heap.size ≤ γ i ∧ bk.ok γ w2 (γ i)) ∧ (∀ i j bi bj, lk (mR0 1 x.T.length x.L.length p.1.1) i = some bi → lk (mR0 1 x.T.length x.L.length p.1.1) j = some bj → i ≠ j → γ i ≠ γ j) ∧
  ∀ w3, w2.heap.size ≤ w3.heap.size → (∀ c, w'.heap.size ≤ c → c < w2.heap.size → (∀ i bk, lk (mR0 1 x.T.length x.L.length p.1.1) i = some bk → γ i ≠ c) → w3.heap[c]? = w2.heap[c]?) → RsK k p.1.1 w3 := fun β w' hb =>
  (TourR0_ok x k t0 w' (hT.below hb) hB hk hR0 hL0 1 β).mono fun e w2 ⟨p, γ, g1, g2, g3, g4, g5, g6⟩ => ⟨⟨p, (g6 w2 (Nat.le_refl _) (fun _ _ _ _ => rfl)).1⟩, γ, g1, g2, g3, g4, g5, fun w3 h1 h2 => (g6 w3 h1 h2).2⟩
 have hday1 : ∀ (p : RvN x k t0) (β : Nat → Nat) (w' : World), (Blk.mix 2 x.T.length 9 [] (((p.1.1.T.flatMap Tn.cs).map SV.v).set (k * 9 + 6) (.os 7 8 1)) 57).ok β w' (β 1) → (Blk.own 4 x.L.length 1 (p.1.1.L.flatMap Lr.cs) 61).ok β w' (β 3) → (Blk.own 8 1 2 [iv lo, iv hi] 55).ok β w' (β 7) → RsK k p.1.1 w' →
  Calls Try.prog 34 #[.agg #[iv x.days, iv x.shift, iv x.size, .slice (some ⟨β 1, 0, none⟩) x.T.length (β 2), .slice (some ⟨β 3, 0, none⟩) x.L.length (β 4)], iv k, iv d] w' fun e w2 => e = .returned (.tuple #[iv (dyO { t0.d with R := t0.d.R ++ [(lo, hi)] } d), iv 0]) ∧ Below w'.heap.size w' w2 := fun p β w' h1 h3 h9 hrs => by
  skip
  obtain ⟨⟨y, t⟩, hyd, hyt, htd, _⟩ := p
  dsimp only at h1 h3 h9 hrs hyd hyt htd ⊢
  refine day_rows (t1 := { t with ro := some ⟨β 7, 0, none⟩, rc := β 8, d := { t0.d with R := t0.d.R ++ [(lo, hi)] } }) hyd hyt ?_ rfl rfl h1 h3 ⟨rfl, rfl, by rw [htd]⟩ ?_ hrs hto (twB_rival htw hR3 hlh) hk1 hd
  · show [] ++ SV.cs β _ = _
    rw [List.nil_append, cs_set, cs_v]
    simp only [SV.c]
    rw [flat_set (sz := 9) (f := Tn.cs) (fun _ => rfl) _ k 6 t { t with ro := some ⟨β 7, 0, none⟩, rc := β 8, d := { t0.d with R := t0.d.R ++ [(lo, hi)] } } _ hyt (by decide) (by rw [← htd]; simp [SV.c, htd, hR0])]
  · have h9' : w'.ownsRow 0 55 2 (.slice (some ⟨β 7, 0, none⟩) 1 (β 8)) 1 [iv lo, iv hi] := h9
    rw [show 1 = (t0.d.R ++ [(lo, hi)]).length from by rw [hR0]; rfl] at h9'
    exact Rd.of_owns (sz := 2) (f := prF) (bs := t0.d.R ++ [(lo, hi)]) (xs := [iv lo, iv hi]) (fun _ => rfl) (by rw [hR0]; rfl) rfl h9'
 have hday2 : ∀ (p : RvN x k t0) (β : Nat → Nat) (w' : World), (Blk.mix 2 x.T.length 9 [] ((((p.1.1.T.flatMap Tn.cs).map SV.v).set (k * 9 + 6) (.os 7 8 1)).set (k * 9 + 8) (.v (iv 0))) 57).ok β w' (β 1) → (Blk.own 4 x.L.length 1 (p.1.1.L.flatMap Lr.cs) 61).ok β w' (β 3) → (Blk.own 8 1 2 [iv lo, iv hi] 55).ok β w' (β 7) → RsK k p.1.1 w' →
  Calls Try.prog 34 #[.agg #[iv x.days, iv x.shift, iv x.size, .slice (some ⟨β 1, 0, none⟩) x.T.length (β 2), .slice (some ⟨β 3, 0, none⟩) x.L.length (β 4)], iv k, iv d] w' fun e w2 => e = .returned (.tuple #[iv (dyO { ({ t0.d with R := t0.d.R ++ [(lo, hi)] } : Tw) with cut := 0 } d), iv 0]) ∧ Below w'.heap.size w' w2 := fun p β w' h1 h3 h9 hrs => by
  skip
  obtain ⟨⟨y, t⟩, hyd, hyt, htd, _⟩ := p
  dsimp only at h1 h3 h9 hrs hyd hyt htd ⊢
  refine day_rows (t1 := { t with ro := some ⟨β 7, 0, none⟩, rc := β 8, d := { ({ t0.d with R := t0.d.R ++ [(lo, hi)] } : Tw) with cut := 0 } }) hyd hyt ?_ rfl rfl h1 h3 ⟨rfl, rfl, by rw [htd]⟩ ?_ hrs hto (twB_cut (twB_rival htw hR3 hlh)) hk1 hd
  · show [] ++ SV.cs β _ = _
    rw [List.nil_append, cs_set, cs_set, cs_v]
    simp only [SV.c]
    rw [flat_set (sz := 9) (f := Tn.cs) (fun _ => rfl) _ k 6 t { t with ro := some ⟨β 7, 0, none⟩, rc := β 8, d := { t0.d with R := t0.d.R ++ [(lo, hi)] } } _ hyt (by decide) (by rw [← htd]; simp [SV.c, htd, hR0])]
    rw [flat_set (sz := 9) (f := Tn.cs) (fun _ => rfl) _ k 8 (v := iv 0) { t with ro := some ⟨β 7, 0, none⟩, rc := β 8, d := { t0.d with R := t0.d.R ++ [(lo, hi)] } } { t with ro := some ⟨β 7, 0, none⟩, rc := β 8, d := { ({ t0.d with R := t0.d.R ++ [(lo, hi)] } : Tw) with cut := 0 } } (List.getElem?_set_self (List.getElem?_eq_some_iff.1 hyt).1) (by decide) rfl, List.set_set]
  · have h9' : w'.ownsRow 0 55 2 (.slice (some ⟨β 7, 0, none⟩) 1 (β 8)) 1 [iv lo, iv hi] := h9
    rw [show 1 = (t0.d.R ++ [(lo, hi)]).length from by rw [hR0]; rfl] at h9'
    exact Rd.of_owns (sz := 2) (f := prF) (bs := t0.d.R ++ [(lo, hi)]) (xs := [iv lo, iv hi]) (fun _ => rfl) (by rw [hR0]; rfl) rfl h9'
 have hle : dyO { t0.d with R := t0.d.R ++ [(lo, hi)] } d ≤ a := by rw [ha]; exact dyO_rival (TwN.of htw) (lo, hi) d
 have hcut : dyO { ({ t0.d with R := t0.d.R ++ [(lo, hi)] } : Tw) with cut := 0 } d = t0.d.pay := dyO_cut _ rfl d
 have hpay := (TwN.of htw).p
 have hTt := hT.t
 obtain ⟨_, ad, hto2, _⟩ := hTt.ptr (by omega)
 rw [hto2] at hTt
 have eP := fun (w' : World) (hw' : Below w.heap.size w w') => rd_fld (hTt.below (w' := w') hw') hk 3 (iv t0.d.pay) rfl
 have hxv : x.v = .agg #[iv x.days, iv x.shift, iv x.size, .slice (some ad) x.T.length x.tc, .slice x.lo x.L.length x.lc] := by simp only [Tr.v, hto2]
 simp only [hxv] at htour
 refine VC.of env mixed ?_
 dsimp only [Tr.l]
 rw [hto2]
 generalize dyO { t0.d with R := t0.d.R ++ [(lo, hi)] } d = b1 at *
 rw [hcut] at hday2
 clear htw hN hnl hL0 hB
 repeat'
  conv => whnf
  first
   | refine zA ?_ | refine zB ?_ | refine zC ?_ | refine zD ?_ | refine zE ?_ | refine zF ?_ | refine zG ?_ | refine zH ?_ | refine zJ ?_ | refine zI ?_ | refine splT ?_ | refine splF ?_ | refine splNot ?_
   | ((first | refine splIn ?_ ?_ | refine splD ?_ ?_ | refine splE ?_ ?_ | refine splNE ?_ ?_) <;> intro hc <;> first | (exfalso; omega) | (exfalso; dsimp only at hc; omega) | skip)
   | ((with_reducible show CallEv _ _ 21 _ _ _ _ _); refine callFR [] 4 (vR 1 x) (fun p : RvN x k t0 => mR0 1 x.T.length x.L.length p.1.1) (fun p w2 => RsK k p.1.1 w2) hm1 rfl (fun β w' _ hbw => htour β w' hbw) ?_; intro p)
   | refine cvE63 (by omega) ?_
   | refine Tx.ldN env (.v (.slice none 0 0)) rfl rfl rfl rfl rfl (hs6 p) rfl ?_
   | refine Tx.stN env (.os 7 8 1) rfl rfl rfl rfl rfl rfl rfl (by rw [xs_len]; exact at9 (hpk p) (by decide)) rfl rfl (lts_v _ _) rfl ?_
   | refine Tx.stN env (.v (iv 0)) rfl rfl rfl rfl rfl rfl rfl (by rw [List.length_set, xs_len]; exact at9 (hpk p) (by decide)) rfl rfl (lts_set rfl (lts_v _ _)) rfl ?_
   | ((with_reducible show CallEv _ ⟨_, _, (1, Blk.mix _ _ _ _ (List.set (List.set _ _ _) _ _) _) :: _, _, _, _⟩ 34 _ _ _ _ _); refine callM (k := 34) [1, 3, 7] (fun β w' hbk hbw => hday2 p β w' (hbk 1 (by simp) _ rfl) (hbk 3 (by simp) _ rfl) (hbk 7 (by simp) _ rfl) hbw.2) ?_)
   | ((with_reducible show CallEv _ _ 34 _ _ _ _ _); refine callM (k := 34) [1, 3, 7] (fun β w' hbk hbw => hday1 p β w' (hbk 1 (by simp) _ rfl) (hbk 3 (by simp) _ rfl) (hbk 7 (by simp) _ rfl) hbw.2) ?_)
   | refine Exists.intro (α := List Value) [iv t0.d.pay] ⟨⟨rfl, fun w' hw' => eP w' (by repeat (first | exact hw' | replace hw' := hw'.1))⟩, ?_⟩
   | ((with_reducible show CallEv _ _ 19 _ _ _ _ _); refine callE (k := 19) (fun β w' hbw => awake_ok w') ?_)
 all_goals first | (exfalso; omega) | exact ⟨fun β => rfl, fun w' h => (by repeat (first | exact h | replace h := h.1))⟩
theorem cv5 (a : Int) (h : 0 ≤ a ∧ a ≤ 255) : RunIs Try.prog (convert 5 3 (.int .u8 a)) (iv a) := fun w => by
 have h1 : Try.prog.underlying 5 = some (.int .u8) := by kernel_rfl
 have h2 : Try.prog.underlying 3 = some (.int .i64) := by kernel_rfl
 have e : IntKind.i64.wrap a = a := IR.wrap (k := .i64) (And.intro (by omega) (by omega))
 simp [convert, Conv.intToInt, Go.run_underlying h1 w, Go.run_underlying h2 w, e]
theorem cvE5 {a : Int} {K : Value → Prop} (h : 0 ≤ a ∧ a ≤ 255) (hK : K (iv a)) : ∃ v', RunIs Try.prog (convert 5 3 (.int .u8 a)) v' ∧ K v' := ⟨_, cv5 a h, hK⟩
set_option maxHeartbeats 4000000 in
set_option maxRecDepth 100000 in
theorem RouteRivals_ok (x : Tr) (tn dn : Nat) (lo hi : Int) (w : World) (h : TrI0 x w) (ht : tn ≤ 255) (hd : dn ≤ 255) (hlo : -128 ≤ lo ∧ lo ≤ 127) (hhi : -128 ≤ hi ∧ hi ≤ 127) :
 Calls Try.prog 6 #[x.v, .int .u8 tn, .int .u8 dn, .int .i8 lo, .int .i8 hi] w fun e w' => e = .returned (.bool true) ∧ Below w.heap.size w w' := by
 have h22 := fun w' hb => Right_ok x w' (h.below hb)
 cases hto : toB x.d with
 | false =>
  rw [hto] at h22
  clear h
  obtain ⟨days, shift, size, to, tc, T, lo', lc, L⟩ := x
  refine calls_val env mixed Try.func6 has6 Try.ntmps6 [.agg #[iv days, iv shift, iv size, .slice to T.length tc, .slice lo' L.length lc], .int .u8 tn, .int .u8 dn, .int .i8 lo, .int .i8 hi] (by simp) ?_
  repeat'
   conv => whnf
   first
    | refine zA ?_ | refine zB ?_ | refine zC ?_ | refine zD ?_ | refine zE ?_ | refine zF ?_ | refine zG ?_ | refine zH ?_ | refine zJ ?_ | refine zI ?_ | refine splT ?_ | refine splF ?_ | refine splNot ?_
    | ((first | refine splIn ?_ ?_ | refine splD ?_ ?_ | refine splE ?_ ?_ | refine splNE ?_ ?_) <;> intro hc <;> first | (exfalso; omega) | (exfalso; dsimp only at hc; omega) | skip)
    | ((with_reducible show CallEv _ _ 22 _ _ _ _ _); refine callE (k := 22) (fun β w' hbw => h22 w' (by repeat (first | exact hbw | replace hbw := hbw.1))) ?_)
    | ((with_reducible show CallEv _ _ 19 _ _ _ _ _); refine callE (k := 19) (fun β w' hbw => awake_ok w') ?_)
  all_goals first | (exfalso; omega) | exact ⟨fun β => rfl, fun w' h => (by repeat (first | exact h | replace h := h.1))⟩
 | true =>
  rw [hto] at h22
  have hB := toB_b hto
  have hI := h.b hB
  have hN := toB_n hto
  have hday : 1 ≤ x.days ∧ x.days ≤ 60 := hN.d
  have hn9 := hN.n
  rw [show x.d.T.length = x.T.length from List.length_map ..] at hn9
  have hkl : tn % (x.T.length - 1) + 1 < x.T.length := by have := Nat.mod_lt tn (show 0 < x.T.length - 1 by omega); omega
  obtain ⟨t0, hk⟩ : ∃ t, x.T[tn % (x.T.length - 1) + 1]? = some t := ⟨_, List.getElem?_eq_getElem hkl⟩
  have hkd : x.d.T[tn % (x.T.length - 1) + 1]? = some t0.d := by show (x.T.map Tn.d)[_]? = _; rw [List.getElem?_map, hk]; rfl
  have hw0 := TwN.of (toB_at hto (by omega) hkd)
  have hR3 := hw0.r.1
  have hpay := hw0.p
  have hdd : 0 ≤ (dn : Int).tmod x.days ∧ (dn : Int).tmod x.days < x.days := by
   rw [Int.tmod_eq_emod_of_nonneg (by omega)]
   exact ⟨Int.emod_nonneg _ (by omega), Int.emod_lt_of_pos _ (by omega)⟩
  have hkm : (tn : Int).tmod ((x.T.length : Int) - 1) = ((tn % (x.T.length - 1) : Nat) : Int) := by
   rw [show (x.T.length : Int) - 1 = ((x.T.length - 1 : Nat) : Int) from by omega]
   rfl
  have hdy := hw0.day ((dn : Int).tmod x.days)
  have hke : ((tn % (x.T.length - 1) + 1 : Nat) : Int) = 1 + ((tn % (x.T.length - 1) : Nat) : Int) := by omega
  have h34 : ∀ y w', TrIn y w' ∧ y.d = x.d → Calls Try.prog 34 #[y.v, iv (1 + ((tn % (x.T.length - 1) : Nat) : Int)), iv ((dn : Int).tmod x.days)] w' fun e w2 => e = .returned (.tuple #[iv (dyO t0.d ((dn : Int).tmod x.days)), iv 0]) ∧ Below w'.heap.size w' w2 := fun y w' hy => by
   have := Day_ok y ((tn % (x.T.length - 1) + 1 : Nat) : Int) ((dn : Int).tmod x.days) w' hy.1
   rw [hy.2, dayV, if_pos hto, if_pos (by
    simp only [inB, Bool.and_eq_true, decide_eq_true_eq]
    rw [show x.d.T.length = x.T.length from List.length_map ..]
    omega), Int.toNat_natCast, hkd, hke] at this
   exact this
  have h21 := fun w' hb => Tour_ok x w' (hI.below hb) hB
  have hTt := hI.t
  have hxv : ∀ ad, x.to = some ad → x.v = .agg #[iv x.days, iv x.shift, iv x.size, .slice (some ad) x.T.length x.tc, .slice x.lo x.L.length x.lc] := fun ad e => by simp only [Tr.v, e]
  obtain ⟨_, ad, hto2, _⟩ := hTt.ptr (by omega)
  rw [hto2] at hTt
  have eP := fun (w' : World) (hw' : Below w.heap.size w w') => rd_fld (hTt.below (w' := w') hw') hk 3 (iv t0.d.pay) rfl
  have eR := fun (w' : World) (hw' : Below w.heap.size w w') => rd_fld (hTt.below (w' := w') hw') hk 6 (.slice t0.ro t0.d.R.length t0.rc) rfl
  rw [hke] at eP eR
  have hcut : ∀ _ : Unit, (t0.d.R.length < 3 ∧ -60 ≤ lo ∧ lo ≤ hi ∧ hi ≤ 60) → VC Try.prog (rest 6 body6) ⟨146, [(3, .v (.int .i8 lo)), (4, .v (.int .i8 hi)), (5, .ptr 0 0), (11, .v (iv (1 + ((tn % (x.T.length - 1) : Nat) : Int)))), (12, .v (iv ((dn : Int).tmod x.days))), (13, .v (iv (dyO t0.d ((dn : Int).tmod x.days)))), (14, .v (iv 0))], [(0, .cells x.l 25)], 1, fun w2 => Below w.heap.size w w2, z0⟩ (endΦ env Try.f6 fun s σ => (∀ β, s.c β = .bool true) ∧ ∀ w', σ.h w' → Below w.heap.size w w') := fun _ hp => by
   rw [← hke]
   by_cases hR : t0.d.R = []
   · exact RvB x _ t0 _ _ lo hi w hI hB hto hk (by omega) hR hp.1 hp.2 hdd rfl
   · exact RvA x _ t0 _ _ lo hi w hI hB hto hk (by omega) hR hp.1 hp.2 hdd rfl
  simp only [hxv ad hto2] at h22 h21
  rw [hxv ad hto2]
  refine calls_valV env mixed Try.func6 has6 Try.ntmps6 [.agg #[iv x.days, iv x.shift, iv x.size, .slice (some ad) x.T.length x.tc, .slice x.lo x.L.length x.lc], .int .u8 tn, .int .u8 dn, .int .i8 lo, .int .i8 hi] (by simp) ?_
  refine VC.cutE env mixed 6 1 (fun _ : Unit => [(3, .v (.int .i8 lo)), (4, .v (.int .i8 hi)), (5, .ptr 0 0), (11, .v (iv (1 + ((tn % (x.T.length - 1) : Nat) : Int)))), (12, .v (iv ((dn : Int).tmod x.days))), (13, .v (iv (dyO t0.d ((dn : Int).tmod x.days)))), (14, .v (iv 0))]) (fun _ => [(0, .cells x.l 25)]) (fun _ => t0.d.R.length < 3 ∧ -60 ≤ lo ∧ lo ≤ hi ∧ hi ≤ 60) (fun _ _ => ⟨rfl, rfl⟩) ?_ hcut
  clear hcut h hI hB hN hkd
  dsimp only [Tr.l]
  rw [hto2]
  generalize dyO t0.d ((dn : Int).tmod x.days) = a at *
  generalize hdq : (dn : Int).tmod x.days = dq at *
  generalize hkq : tn % (x.T.length - 1) = kq at *
  repeat'
   conv => whnf
   first
    | refine zA ?_ | refine zB ?_ | refine zC ?_ | refine zD ?_ | refine zE ?_ | refine zF ?_ | refine zG ?_ | refine zH ?_ | refine zJ ?_ | refine zI ?_ | refine splT ?_ | refine splF ?_ | refine splNot ?_
    | ((first | refine splIn ?_ ?_ | refine splD ?_ ?_ | refine splE ?_ ?_ | refine splNE ?_ ?_) <;> intro hc <;> first | (exfalso; omega) | (exfalso; dsimp only at hc; omega) | skip)
    | ((with_reducible show CallEv _ _ 22 _ _ _ _ _); refine callE (k := 22) (fun β w' hbw => h22 w' (by repeat (first | exact hbw | replace hbw := hbw.1))) ?_)
    | ((with_reducible show CallEv _ _ 19 _ _ _ _ _); refine callE (k := 19) (fun β w' hbw => awake_ok w') ?_)
    | refine cvE5 (by omega) ?_
    | refine Exists.intro (α := Int) (kq : Int) ⟨⟨by omega, hkm⟩, ?_⟩
    | refine Exists.intro (α := Int) dq ⟨⟨by omega, hdq⟩, ?_⟩
    | ((with_reducible show CallEv _ _ 21 _ _ _ _ _); refine callF [] (fun y : Tr => y.v) (fun y w2 => TrIn y w2 ∧ y.d = x.d) (fun β w' _ hbw => h21 w' (by repeat (first | exact hbw | replace hbw := hbw.1))) ?_; intro y)
    | ((with_reducible show CallEv _ _ 34 _ _ _ _ _); refine callE (k := 34) (fun β w' hbw => h34 y w' hbw.2) ?_)
    | refine Exists.intro (α := List Value) [iv t0.d.pay] ⟨⟨rfl, fun w' hw' => eP w' (by repeat (first | exact hw' | replace hw' := hw'.1))⟩, ?_⟩
    | refine Exists.intro (α := List Value) [.slice t0.ro t0.d.R.length t0.rc] ⟨⟨rfl, fun w' hw' => eR w' (by repeat (first | exact hw' | replace hw' := hw'.1))⟩, ?_⟩
  all_goals first | (exfalso; omega) | exact ⟨fun β => rfl, fun w' h => (by repeat (first | exact h | replace h := h.1))⟩ | exact ⟨rfl, (), ⟨by omega, by omega, by omega, by omega⟩, Ent.weak rfl ⟨rfl, rfl, rfl, rfl, rfl, rfl, rfl, trivial⟩ ⟨rfl, trivial⟩ fun w2 h => (by repeat (first | exact h | replace h := h.1))⟩
end Go.Proofs.Ythfabodamhdhaaa
namespace Go.Proofs.Ythfabodamhdhaaa
open Go Tx Go.RowKit
set_option linter.unusedSimpArgs false
set_option linter.unusedVariables false
abbrev I64 (n : Int) : Prop := -9223372036854775808 ≤ n ∧ n ≤ 9223372036854775807
def shI : Shp := .int .i64
def shRg : Shp := .agg [shI, shI]
def shTw : Shp := .agg [.sl 2 shRg, shRg, shI, shI, shI, .sl 2 shRg, shI, shI]
def shTo : Shp := .agg [shI, shI, shI, .sl 9 shTw, .sl 1 (.sl 2 shRg)]
theorem op_slc {α : Type} {w : World} {sz : Nat} {e : Shp} {f : α → List Value} {Q : α → Prop} (he : ∀ es, e.rd w es → ∃ x, es = f x ∧ Q x) {cs : List Value} (h : (Shp.sl sz e).rd w cs) :
 ∃ (o : Option Addr) (c : Nat) (xs : List α), cs = [.slice o xs.length c] ∧ Rd sz f (.slice o xs.length c) xs w ∧ xs.length ≤ 9223372036854775807 ∧ xs.length ≤ c ∧ ∀ x ∈ xs, Q x := by
 unfold Shp.rd at h
 rcases h with rfl | ⟨a, n, c, rfl, h1, h2, h3⟩
 · exact ⟨none, 0, [], rfl, .inl ⟨rfl, rfl⟩, by simp, by simp, fun x hx => by simp at hx⟩
 · obtain ⟨xs, hl, hb⟩ := list_of (Q := fun i (x : α) => (∀ j v, (f x)[j]? = some v → w.cell? ((a.add (i * sz)).add j) = some v) ∧ Q x) n fun i hi => by
    obtain ⟨es, _, e2, e3⟩ := h3 i hi
    obtain ⟨x, rfl, hx⟩ := he es e3
    exact ⟨x, e2, hx⟩
   subst hl
   exact ⟨some a, c, xs, rfl, .inr ⟨a, c, rfl, fun k b hk => (hb k b hk).1⟩, by unfold maxLen at h2; omega, h1, fun x hx => by
    obtain ⟨k, hk⟩ := List.mem_iff_getElem?.1 hx
    exact (hb k x hk).2⟩
theorem op_i {w : World} {es : List Value} (h : shI.rd w es) : ∃ n : Int, es = [iv n] ∧ I64 n := by
 simp only [shI, Shp.rd] at h
 obtain ⟨n, rfl, g⟩ := h
 exact ⟨n, rfl, wf64 g⟩
theorem op_rg {w : World} {es : List Value} (h : shRg.rd w es) : ∃ r : Int × Int, es = prF r ∧ I64 r.1 ∧ I64 r.2 := by
 simp only [shRg, Shp.rd.eq_3, Shp.rds] at h
 obtain ⟨_, _, rfl, h1, _, _, rfl, h2, rfl⟩ := h
 obtain ⟨a, rfl, ha⟩ := op_i h1
 obtain ⟨b, rfl, hb⟩ := op_i h2
 exact ⟨(a, b), rfl, ha, hb⟩
theorem op_rgs {w : World} {cs : List Value} (h : (Shp.sl 2 shRg).rd w cs) : ∃ (o : Option Addr) (c : Nat) (xs : List (Int × Int)), cs = [.slice o xs.length c] ∧ Rd 2 prF (.slice o xs.length c) xs w ∧ xs.length ≤ 9223372036854775807 := by
 obtain ⟨o, c, xs, h1, h2, h3, _, _⟩ := op_slc (f := prF) (Q := fun r => I64 r.1 ∧ I64 r.2) (fun es h => op_rg h) h
 exact ⟨o, c, xs, h1, h2, h3⟩
theorem op_tw {w : World} {es : List Value} (h : shTw.rd w es) : ∃ t : Tn, es = Tn.cs t ∧ TnI0 t w := by
 simp only [shTw, Shp.rd.eq_3, Shp.rds] at h
 obtain ⟨_, _, rfl, h1, _, _, rfl, h2, _, _, rfl, h3, _, _, rfl, h4, _, _, rfl, h5, _, _, rfl, h6, _, _, rfl, h7, _, _, rfl, h8, rfl⟩ := h
 obtain ⟨oo, oc, O, rfl, a1, a2⟩ := op_rgs h1
 obtain ⟨⟨s1, s2⟩, rfl, _⟩ := op_rg h2
 obtain ⟨pay, rfl, _⟩ := op_i h3
 obtain ⟨lot, rfl, _⟩ := op_i h4
 obtain ⟨rent, rfl, _⟩ := op_i h5
 obtain ⟨ro, rc, R, rfl, b1, b2⟩ := op_rgs h6
 obtain ⟨cold, rfl, _⟩ := op_i h7
 obtain ⟨cut, rfl, _⟩ := op_i h8
 exact ⟨⟨oo, oc, ro, rc, ⟨O, s1, s2, pay, lot, rent, R, cold, cut⟩⟩, rfl, a1, b1, a2, b2⟩
theorem op_lr {w : World} {es : List Value} (h : (Shp.sl 2 shRg).rd w es) : ∃ r : Lr, es = Lr.cs r ∧ Rd 2 prF (.slice r.o r.L.length r.c) r.L w ∧ r.L.length ≤ 9223372036854775807 := by
 obtain ⟨o, c, xs, h1, h2, h3⟩ := op_rgs h
 exact ⟨⟨o, c, xs⟩, h1, h2, h3⟩
theorem op_tour {w : World} {cs : List Value} (h : shTo.rd w cs) : ∃ x : Tr, cs = x.cs ∧ TrI0 x w := by
 simp only [shTo, Shp.rd.eq_3, Shp.rds] at h
 obtain ⟨_, _, rfl, h1, _, _, rfl, h2, _, _, rfl, h3, _, _, rfl, h4, _, _, rfl, h5, rfl⟩ := h
 obtain ⟨days, rfl, _⟩ := op_i h1
 obtain ⟨shift, rfl, _⟩ := op_i h2
 obtain ⟨size, rfl, _⟩ := op_i h3
 obtain ⟨to, tc, T, rfl, a1, a2, a3, a4⟩ := op_slc (f := Tn.cs) (Q := fun t => TnI0 t w) (fun es h => op_tw h) h4
 obtain ⟨lo, lc, L, rfl, b1, b2, _, b4⟩ := op_slc (f := Lr.cs) (Q := fun r => Rd 2 prF (.slice r.o r.L.length r.c) r.L w ∧ r.L.length ≤ 9223372036854775807) (fun es h => op_lr h) h5
 exact ⟨⟨days, shift, size, to, tc, T, lo, lc, L⟩, rfl, a1, a4, b1, fun r hr => (b4 r hr).1, a2, b2, fun r hr => (b4 r hr).2, a3⟩
end Go.Proofs.Ythfabodamhdhaaa
