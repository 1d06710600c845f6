/- ref.Fits (17): whether a timetable fits a valid school. By cCO.py. -/
import Derived.Test.YtkbfcofifhngfaaGreatCN
namespace Go.Proofs.YtkbfcofifhngfaaGreat
open Go Tx Go.RowKit
set_option linter.unusedSimpArgs false
set_option linter.unusedVariables false

/-- Rows that are made, nil behind them. -/
def rwV (su n : Nat) (D : List (Nat × Nat)) : List Value := (D.map fun p => Value.slice (some ⟨p.1, 0, none⟩) su p.2) ++ List.replicate (n - D.length) (.slice none 0 0)
theorem rwV_nil (su n : Nat) : rwV su n [] = (List.replicate n [Value.slice none 0 0]).flatten := by
  simp only [rwV, List.map_nil, List.nil_append, List.length_nil, Nat.sub_zero]
  induction n with
  | zero => rfl
  | succ n ih => rw [List.replicate_succ, List.replicate_succ, List.flatten_cons, ← ih]; rfl
theorem rwV_set {su n : Nat} {D : List (Nat × Nat)} (p : Nat × Nat) (h : D.length < n) : (rwV su n D).set D.length (.slice (some ⟨p.1, 0, none⟩) su p.2) = rwV su n (D ++ [p]) := by
  simp only [rwV, List.map_append, List.map_cons, List.map_nil, List.length_append, List.length_singleton]
  rw [List.set_append_right _ _ (by simp), List.length_map, Nat.sub_self, show n - D.length = (n - (D.length + 1)) + 1 from by omega, List.replicate_succ, List.set_cons_zero, List.append_assoc]
  rfl
theorem rwV_len {su n : Nat} {D : List (Nat × Nat)} (h : D.length ≤ n) : (rwV su n D).length = n := by simp [rwV]; omega
theorem tb_conv {su n : Nat} {D : List (Nat × Nat)} {p : Nat × Nat} {β : Nat → Nat} {w : World} {y : Nat} (hl : D.length < n) (hb : p.1 = β 5) (hc : p.2 = β 6) (h : (Blk.mix 2 n 1 [] (((rwV su n D).map SV.v).set ((D.length : Int).toNat * 1) (.os 5 6 su)) 36).ok β w y) :
    (Blk.mix 2 n 1 [] ((rwV su n (D ++ [p])).map SV.v) 36).ok (fun i => β (id i)) w y := by
  have e : (D.length : Int).toNat * 1 = D.length := by rw [Int.toNat_natCast]; exact Nat.mul_one _
  rw [e] at h
  simp only [Blk.ok, cs_v, cs_set] at h ⊢
  rw [← rwV_set p hl, hb, hc]
  exact h
/-- The counts of lessons, group by group. -/
def hrsC (n su : Nat) (Y : List Ln) : List (List Int) := (List.range n).map fun a => (List.range su).map fun b => cntP Y (a * 6 + b)
theorem hrsC_at {n su a : Nat} (Y : List Ln) (h : a < n) : (hrsC n su Y)[a]? = some ((List.range su).map fun b => cntP Y (a * 6 + b)) := by simp [hrsC, h]
theorem cntP_snoc (Y : List Ln) (x : Ln) (p : Nat) : cntP (Y ++ [x]) p = cntP Y p + b2i (decide (x.g = ((p / 6 : Nat) : Int) ∧ x.j = ((p % 6 : Nat) : Int))) := by
  unfold cntP; rw [List.map_append, List.sum_append]; simp
theorem cntT_snoc (Y : List Ln) (x : Ln) (t : Nat) : cntT (Y ++ [x]) t = cntT Y t + b2i (decide (x.t = (t : Int))) := by
  unfold cntT; rw [List.map_append, List.sum_append]; simp
theorem hrsC_set {n su a b : Nat} {Y : List Ln} {x : Ln} (hg : x.g = a) (hj : x.j = b) (ha : a < n) (hb : b < su) (h6 : su ≤ 6) :
    (hrsC n su Y).set a (((List.range su).map fun b => cntP Y (a * 6 + b)).set b (cntP Y (a * 6 + b) + 1)) = hrsC n su (Y ++ [x]) := by
  apply List.ext_getElem?
  intro q
  rw [List.getElem?_set]
  by_cases hq : a = q
  · subst hq
    rw [if_pos rfl, if_pos (by simp [hrsC]; exact ha), hrsC_at _ ha]
    congr 1
    apply List.ext_getElem?
    intro r
    rw [List.getElem?_set]
    by_cases hr : b = r
    · subst hr
      rw [if_pos rfl, if_pos (by simp; exact hb), List.getElem?_map, List.getElem?_range hb, Option.map_some, cntP_snoc, decide_eq_true ⟨by omega, by omega⟩]; rfl
    · rw [if_neg hr]
      by_cases hrs : r < su
      · rw [List.getElem?_map, List.getElem?_map, List.getElem?_range hrs, Option.map_some, Option.map_some, cntP_snoc, decide_eq_false (fun h => by omega)]; simp [b2i]
      · rw [List.getElem?_eq_none (by simp; omega), List.getElem?_eq_none (by simp; omega)]
  · rw [if_neg hq]
    by_cases hqn : q < n
    · rw [hrsC_at _ hqn, hrsC_at _ hqn]
      congr 1
      refine List.map_congr_left fun r hr => ?_
      have hr := List.mem_range.1 hr
      rw [cntP_snoc, decide_eq_false (fun h => by omega)]; simp [b2i]
    · rw [List.getElem?_eq_none (by simp [hrsC]; omega), List.getElem?_eq_none (by simp [hrsC]; omega)]
theorem cntT_upd {Y : List Ln} {x : Ln} {d : Nat} (h : x.t = d) : updF (fun t => cntT Y t) d (cntT Y d + 1) = fun t => cntT (Y ++ [x]) t := by
  funext p
  unfold updF
  rw [cntT_snoc]
  by_cases hp : p = d
  · subst hp
    rw [if_pos rfl, decide_eq_true h]; rfl
  · rw [if_neg hp, decide_eq_false (fun h2 => by omega)]; simp [b2i]

set_option maxHeartbeats 8000000 in
set_option maxRecDepth 100000 in
theorem RFits_ok (s : Sc) (S : List Lr) (o : Option Addr) (c : Nat) (w : World) (h : ScIn s w) (hB : ScB s) (hT : TbL o c S w) (hl : S.length ≤ 45) (hrl : ∀ r ∈ S, r.L.length ≤ 10) (hv : scOk s.d = true) :
    Calls Tryz.prog 17 #[s.v, .slice o S.length c] w fun e w' => e = .returned (.bool (rfitB s.d (S.map Lr.L))) ∧ Below w.heap.size w w' := by
  unfold rfitB
  have hv0 := hv
  obtain ⟨hv1, hv2, hv3, hv4, hv5, hv6, hv7⟩ := scOk_iff.1 hv
  have hles := fun (ha : (S.map Lr.L).all (sltB s.d) = true) (x : Ln) (hx : x ∈ (S.map Lr.L).flatten) => lesB_bd (sltB_les ha hx)
  have hflat : flL S = (S.map Lr.L).flatten := rfl
  rw [← hflat] at hles ⊢
  have hb4 := hB.h
  obtain ⟨hg, hr, ht, hh⟩ := h
  obtain ⟨hS, hSr⟩ := hT
  obtain ⟨sl, ro, su, go, gc, G, to, tc, T⟩ := s
  unfold Sc.d at hv1 hv2 hv3 hv4 hv5 hv6 hv7 hles ⊢
  dsimp only at hv1 hv2 hv3 hv4 hv5 hv6 hv7 hles hg hr ht hh hb4 ⊢
  simp only [List.length_map] at hv4 hv5 hles ⊢
  obtain ⟨su, rfl⟩ := Int.eq_ofNat_of_zero_le (show 0 ≤ su by omega)
  simp only [Int.toNat_natCast] at hles ⊢
  by_cases hsl : (S.length : Int) = sl
  · rw [decide_eq_true hsl]
    refine calls_val env mixed Tryz.func17 has17 Tryz.ntmps17 [.agg #[iv sl, iv ro, iv su, .slice go G.length gc, .slice to T.length tc], .slice o S.length c] (by simp) ?_
    repeat'
     conv => whnf
     first
      | refine zA ?_ | refine zB ?_ | refine zC ?_ | refine zD ?_ | refine zE ?_ | refine zF ?_ | refine zG ?_ | refine zH ?_ | refine zJ ?_ | refine zI ?_ | refine splT ?_ | refine splF ?_ | refine splNot ?_
      | ((first | refine splIn (fun hc => ?_) (fun hc => ?_) | refine splD (fun hc => ?_) (fun hc => ?_) | refine splE (fun hc => ?_) (fun hc => ?_) | refine splNE (fun hc => ?_) (fun hc => ?_)) <;> first | (exfalso; omega) | (exfalso; dsimp only at hc; omega) | skip)
      | refine mkO env 1 G.length (rwV su G.length []) rfl rfl rfl (by decide) rfl (by omega) (by decide) (rwV_nil _ _) rfl ?_
      | refine mkO env 3 T.length (tbV T.length fun _ => 0) rfl rfl rfl (by decide) rfl (by omega) (by decide) (mk0 _) rfl ?_
    refine loopD 5 (fun D : List (Nat × Nat) => [(1, .v (.slice o S.length c)), (2, .ptr 0 0), (5, .os 1 2 G.length), (6, .os 3 4 T.length), (7, .v (iv D.length))]) (fun D => [(0, .cells [.v (iv sl), .v (iv ro), .v (iv su), .v (.slice go G.length gc), .v (.slice to T.length tc)] 25), (1, .mix 2 G.length 1 [] ((rwV su G.length D).map .v) 36), (3, .own 4 T.length 1 (tbV T.length fun t => cntT ([]) t) 3)])
      (fun (D : List (Nat × Nat)) w' => Below w.heap.size w w' ∧ ∀ p ∈ D, w.heap.size ≤ p.1 ∧ w'.ownsRow 0 3 1 (.slice (some ⟨p.1, 0, none⟩) su p.2) su (tbV su fun _ => 0)) (fun D => D.length ≤ G.length ∧ (D.map Prod.fst).Nodup) (fun D => G.length - D.length)
      (Dis.mk3 (w0 := w) id [] rfl (fun i hi => by cases hi) (fun w' h => h) (fun β w1 hok hw1 hge => ⟨[], ⟨Nat.zero_le _, List.nodup_nil⟩, ⟨⟨_, rfl, rfl⟩, ⟨_, rfl, rfl⟩, ⟨_, rfl, rfl⟩, ⟨_, rfl, rfl⟩, ⟨_, rfl, rfl⟩, trivial⟩, ⟨⟨rfl, _, rfl, fun _ => rfl, fun w2 y hy => hy⟩, ⟨rfl, _, rfl, fun _ => rfl, fun w2 y hy => by simp only [Blk.ok, cs_v] at hy ⊢; exact hy⟩, ⟨rfl, _, rfl, fun _ => rfl, fun w2 y hy => hy⟩, trivial⟩, rfl, fun w2 hw2 _ => ⟨hw2, fun a hr => by cases hr⟩⟩))
      (fun D hD => ⟨rfl, by simp only [mB, Blk.lt, lts_v]; rfl⟩) ?_
    intro D ⟨hD, hDn⟩
    rcases Nat.lt_or_ge D.length G.length with hkl | hkl
    · have hVl := rwV_len (su := su) (n := G.length) hD
      repeat'
       conv => whnf
       first
        | refine zA ?_ | refine zB ?_ | refine zC ?_ | refine zD ?_ | refine zE ?_ | refine zF ?_ | refine zG ?_ | refine zH ?_ | refine zJ ?_ | refine zI ?_ | refine splT ?_ | refine splF ?_ | refine splNot ?_
        | ((first | refine splIn (fun hc => ?_) (fun hc => ?_) | refine splD (fun hc => ?_) (fun hc => ?_) | refine splE (fun hc => ?_) (fun hc => ?_) | refine splNE (fun hc => ?_) (fun hc => ?_)) <;> first | (exfalso; omega) | (exfalso; dsimp only at hc; omega) | skip)
        | refine mkO env 5 su (tbV su fun _ => 0) rfl rfl rfl (by decide) rfl (by omega) (by decide) (mk0 _) rfl ?_
        | refine Tx.stM env (.os 5 6 su) rfl rfl rfl rfl rfl rfl rfl (by rw [List.length_map, hVl, Int.toNat_natCast]; show D.length * 1 < _; omega) rfl rfl (lts_v _ _) rfl ?_
      all_goals first | (exfalso; omega) | skip
      refine Dis.mk5 (w0 := w) id [5] trivial (fun i hi => by rw [List.mem_singleton] at hi; subst hi; exact ⟨_, rfl, rfl⟩) (fun w' h => h.1) (fun β w1 hok hw1 hge hout hne => ⟨D ++ [(β 5, β 6)], ⟨⟨by simp; omega, ?_⟩, by simp; omega⟩, ⟨⟨_, rfl, rfl⟩, ⟨_, rfl, rfl⟩, ⟨_, rfl, rfl⟩, ⟨_, rfl, rfl⟩, ⟨_, rfl, by rw [List.length_append, Int.natCast_add]; rfl⟩, trivial⟩, ⟨⟨rfl, _, rfl, fun _ => rfl, fun w2 y hy => hy⟩, ⟨rfl, _, rfl, fun _ => rfl, fun w2 y hy => tb_conv hkl rfl rfl hy⟩, ⟨rfl, _, rfl, fun _ => rfl, fun w2 y hy => hy⟩, trivial⟩, rfl, fun w2 hw2 hLo => ⟨hw2.1, fun p hp => ?_⟩⟩)
      · rw [List.map_append, List.nodup_append]
        refine ⟨hDn, by simp, fun a ha b hb => ?_⟩
        simp only [List.map_cons, List.map_nil, List.mem_singleton] at hb
        subst hb
        obtain ⟨p, hp, rfl⟩ := List.mem_map.1 ha
        exact fun e => hout 5 _ p.1 rfl rfl (fun w3 hw3 => by obtain ⟨cur, hc⟩ := own_heap (hw3.2 p hp).2; exact ⟨_, _, _, hc⟩) e.symm
      · rcases List.mem_append.1 hp with hp | hp
        · exact hw2.2 p hp
        · rw [List.mem_singleton] at hp
          subst hp
          exact ⟨hge 5 _ rfl rfl, hLo 5 (by simp) _ rfl⟩
    · have hDl : D.length = G.length := by omega
      repeat'
       conv => whnf
       first
        | refine zA ?_ | refine zB ?_ | refine zC ?_ | refine zD ?_ | refine zE ?_ | refine zF ?_ | refine zG ?_ | refine zH ?_ | refine zJ ?_ | refine zI ?_ | refine splT ?_ | refine splF ?_ | refine splNot ?_
        | ((first | refine splIn (fun hc => ?_) (fun hc => ?_) | refine splD (fun hc => ?_) (fun hc => ?_) | refine splE (fun hc => ?_) (fun hc => ?_) | refine splNE (fun hc => ?_) (fun hc => ?_)) <;> first | (exfalso; omega) | (exfalso; dsimp only at hc; omega) | skip)
      all_goals first | (exfalso; omega) | skip
      refine loopD 5 (fun x : TbG × Nat => [(1, .v (.slice o S.length c)), (2, .ptr 0 0), (5, .v x.1.v), (6, .os 3 4 T.length), (8, .v (iv x.2))]) (fun x => [(0, .cells [.v (iv sl), .v (iv ro), .v (iv su), .v (.slice go G.length gc), .v (.slice to T.length tc)] 25), (3, .own 4 T.length 1 (tbV T.length fun t => cntT (flL (S.take x.2)) t) 3)])
        (fun x w' => Below w.heap.size w w' ∧ TbIn w.heap.size su x.1 (hrsC G.length su (flL (S.take x.2))) w') (fun x => x.1.D.length = G.length ∧ x.2 ≤ S.length ∧ ((S.take x.2).map Lr.L).all (sltB (⟨sl, ro, (su : Int), G.map Rw.xs, T.map Tc.d⟩ : SD)) = true) (fun x => S.length - x.2)
        (Dis.mk5 (w0 := w) id [1] trivial (fun i hi => by rw [List.mem_singleton] at hi; subst hi; exact ⟨_, rfl, rfl⟩) (fun w' h => h.1) (fun β w1 hok hw1 hge hout hne => ⟨(⟨β 1, β 2, D⟩, 0), ⟨hDl, Nat.zero_le _, rfl⟩, ⟨⟨_, rfl, rfl⟩, ⟨_, rfl, rfl⟩, ⟨_, rfl, by show _ = Value.slice _ _ _; rw [← hDl]; rfl⟩, ⟨_, rfl, rfl⟩, ⟨_, rfl, rfl⟩, trivial⟩, ⟨⟨rfl, _, rfl, fun _ => rfl, fun w2 y hy => hy⟩, ⟨rfl, _, rfl, fun _ => rfl, fun w2 y hy => hy⟩, trivial⟩, rfl, fun w2 hw2 hLo => ⟨hw2.1, ?_⟩⟩))
        (fun x hx => ⟨rfl, rfl⟩) ?_
      · have h1 : w2.ownsRow 0 36 1 (.slice (some ⟨β 1, 0, none⟩) G.length (β 2)) G.length (rwV su G.length D) := by
          have := hLo 1 (by simp) _ rfl
          simpa [Blk.ok, cs_v] using this
        have e1 : rwV su G.length D = D.map fun p => .slice (some ⟨p.1, 0, none⟩) su p.2 := by
          simp [rwV, hDl]
        have ez : ∀ a, a < G.length → (hrsC G.length su [])[a]? = some ((List.range su).map fun b => 0) := fun a ha => by rw [hrsC_at _ ha]; rfl
        refine ⟨by simp [hrsC, hDl], fun r hr => ?_, by dsimp only; rw [hDl, ← e1]; exact h1, fun i p xs h2 h3 => ?_, hDn, fun p hp => ⟨(hw2.2 p hp).1, fun e => ?_⟩, hge 1 _ rfl rfl⟩
        · obtain ⟨a, _, rfl⟩ := List.mem_map.1 hr
          simp
        · have h2 : D[i]? = some p := h2
          have hi : i < G.length := by have := (List.getElem?_eq_some_iff.1 h2).1; omega
          have h4 := (hw2.2 p (List.mem_of_getElem? h2)).2
          have h3' : (hrsC G.length su [])[i]? = some xs := h3
          rw [ez i hi, Option.some.injEq] at h3'
          subst h3'
          rw [fIv, List.map_map]
          exact h4
        · exact hout 1 _ p.1 rfl rfl (fun w3 hw3 => by obtain ⟨cur, hc⟩ := own_heap (hw3.2 p hp).2; exact ⟨_, _, _, hc⟩) e.symm
      rintro ⟨y, k⟩ ⟨hyl, hk, hall⟩
      dsimp only at hyl hk hall ⊢
      rcases Nat.lt_or_ge k S.length with hkS | hkS
      · obtain ⟨⟨xo, xc, L⟩, hx⟩ : ∃ b, S[k]? = some b := ⟨_, List.getElem?_eq_getElem hkS⟩
        obtain ⟨_, ad, rfl, _⟩ := hS.ptr (by omega)
        have e1 := fun (w' : World) hw' => rd_ati (hS.below (w' := w') hw') hx
        have hL := hrl _ (List.mem_of_getElem? hx)
        have hLr := hSr _ (List.mem_of_getElem? hx)
        have hfl := flL_take hx
        have hall1 := all_mapT (f := Lr.L) (p := sltB (⟨sl, ro, (su : Int), G.map Rw.xs, T.map Tc.d⟩ : SD)) hx
        have hno := all_mapN (f := Lr.L) (p := sltB (⟨sl, ro, (su : Int), G.map Rw.xs, T.map Tc.d⟩ : SD)) hx
        rw [hall, Bool.true_and] at hall1
        dsimp only at hL hLr hfl hall1 hno
        generalize hYk : flL (S.take k) = Yk at *
        by_cases hro : (L.length : Int) ≤ ro
        · have hslt : sltB (⟨sl, ro, (su : Int), G.map Rw.xs, T.map Tc.d⟩ : SD) L = (L.all (lesB (⟨sl, ro, (su : Int), G.map Rw.xs, T.map Tc.d⟩ : SD)) && alN (dsB L) L.length) := by unfold sltB; rw [decide_eq_true hro]; rfl
          repeat'
           conv => whnf
           first
            | refine zA ?_ | refine zB ?_ | refine zC ?_ | refine zD ?_ | refine zE ?_ | refine zF ?_ | refine zG ?_ | refine zH ?_ | refine zJ ?_ | refine zI ?_ | refine splT ?_ | refine splF ?_ | refine splNot ?_
            | ((first | refine splIn (fun hc => ?_) (fun hc => ?_) | refine splD (fun hc => ?_) (fun hc => ?_) | refine splE (fun hc => ?_) (fun hc => ?_) | refine splNE (fun hc => ?_) (fun hc => ?_)) <;> first | (exfalso; omega) | (exfalso; dsimp only at hc; omega) | skip)
            | refine Exists.intro (α := List Value) [.slice xo L.length xc] ⟨⟨rfl, fun w' hw' => e1 w' hw'.1⟩, ?_⟩
          all_goals first | (exfalso; omega) | skip
          refine loopH 5 (fun i : Nat => [(1, .v (.slice (some ad) S.length c)), (2, .ptr 0 0), (5, .v y.v), (6, .os 3 4 T.length), (8, .v (iv k)), (9, .v (iv i))]) (fun i => [(0, .cells [.v (iv sl), .v (iv ro), .v (iv su), .v (.slice go G.length gc), .v (.slice to T.length tc)] 25), (3, .own 4 T.length 1 (tbV T.length fun t => cntT (Yk ++ L.take i) t) 3)]) (fun i w' => Below w.heap.size w w' ∧ TbIn w.heap.size su y (hrsC G.length su (Yk ++ L.take i)) w') (fun i => i ≤ L.length ∧ (L.take i).all (lesB (⟨sl, ro, (su : Int), G.map Rw.xs, T.map Tc.d⟩ : SD)) = true ∧ alN (dsB L) i = true) (fun i => L.length - i) 0 ⟨Nat.zero_le _, rfl, rfl⟩ ⟨rfl, rfl, rfl, rfl, rfl, rfl, trivial⟩ ⟨rfl, by rw [List.take_zero, List.append_nil]; rfl, trivial⟩ (fun w2 h => by rw [List.take_zero, List.append_nil]; exact h) (fun _ _ => ⟨rfl, rfl⟩) ?_
          intro i ⟨hi, hal1, hal2⟩
          rcases Nat.lt_or_ge i L.length with hiL | hiL
          · obtain ⟨⟨xg, xj, xt⟩, hx3⟩ : ∃ b, L[i]? = some b := ⟨_, List.getElem?_eq_getElem hiL⟩
            obtain ⟨_, ad2, rfl, _⟩ := hLr.ptr (by omega)
            have e2 := fun (w' : World) hw' => rd_ati (hLr.below (w' := w') hw') hx3
            have hles1 := all_take (p := lesB (⟨sl, ro, (su : Int), G.map Rw.xs, T.map Tc.d⟩ : SD)) hx3
            rw [hal1, Bool.true_and] at hles1
            have hlno := all_no (p := lesB (⟨sl, ro, (su : Int), G.map Rw.xs, T.map Tc.d⟩ : SD)) hx3
            have hln := lnAt_at hx3
            have hT1 : L.take (i + 1) = L.take i ++ [⟨xg, xj, xt⟩] := by rw [List.take_add_one, hx3]; rfl
            have c1 := fun w' => In_ok xg 0 (G.length - 1) w'
            have c2 := fun w' => In_ok xj 0 (su - 1) w'
            have c3 := fun w' => In_ok xt 0 (T.length - 1) w'
            have hlex : lesB (⟨sl, ro, (su : Int), G.map Rw.xs, T.map Tc.d⟩ : SD) ⟨xg, xj, xt⟩ = (inB xg 0 (G.length - 1) && (inB xj 0 (su - 1) && (inB xt 0 (T.length - 1) && (((T.map Tc.d).getD xt.toNat ([], 0)).1.contains xj)))) := by
              unfold lesB; dsimp only; rw [List.length_map, List.length_map]
            have hfa : lesB (⟨sl, ro, (su : Int), G.map Rw.xs, T.map Tc.d⟩ : SD) ⟨xg, xj, xt⟩ = false → (S.map Lr.L).all (sltB (⟨sl, ro, (su : Int), G.map Rw.xs, T.map Tc.d⟩ : SD)) = false := fun h => hno (by rw [hslt, hlno h]; rfl)
            by_cases hin : 0 ≤ xt ∧ xt ≤ (T.length : Int) - 1
            · obtain ⟨d, rfl⟩ := Int.eq_ofNat_of_zero_le hin.1
              obtain ⟨⟨to', tc', ts, th⟩, hxt⟩ : ∃ b, T[d]? = some b := ⟨_, List.getElem?_eq_getElem (by omega)⟩
              obtain ⟨_, adt, rfl, _⟩ := ht.ptr (by omega)
              have hrr := hh _ (List.mem_of_getElem? hxt)
              have hrb := hb4 _ (List.mem_of_getElem? hxt)
              dsimp only at hrr hrb
              have e4 := fun (w' : World) hw' => rd_fld (ht.below (w' := w') hw') hxt
              have c59 := fun (w' : World) (hb : Below w.heap.size w w') => has59_ok ts to' tc' xj w' (hrr.below hb) hrb
              have hget : ((T.map Tc.d).getD (d : Int).toNat ([], 0)).1 = ts := by
                rw [Int.toNat_natCast, List.getD_eq_getElem?_getD, List.getElem?_map, hxt]; rfl
              rw [hget] at hlex
              generalize ts.contains xj = q4 at *
              rw [inB_iff.2 hin] at c3 hlex
              cases q1 : inB xg 0 (G.length - 1) <;> cases q2 : inB xj 0 (su - 1) <;> cases q4
              all_goals rw [q1] at c1
              all_goals rw [q2] at c2
              all_goals rw [q1, q2] at hlex
              case true.true.true =>
                have hgi := inB_iff.1 q1
                have hji := inB_iff.1 q2
                obtain ⟨a, rfl⟩ := Int.eq_ofNat_of_zero_le hgi.1
                obtain ⟨b, rfl⟩ := Int.eq_ofNat_of_zero_le hji.1
                rw [hlex] at hles1
                have hds : dsB L i = alN (fun k => !cfB ⟨(a : Int), (b : Int), (d : Int)⟩ (lnAt L k)) i := by unfold dsB; rw [hln]
                repeat'
                 conv => whnf
                 first
                  | refine zA ?_ | refine zB ?_ | refine zC ?_ | refine zD ?_ | refine zE ?_ | refine zF ?_ | refine zG ?_ | refine zH ?_ | refine zJ ?_ | refine zI ?_ | refine splT ?_ | refine splF ?_ | refine splNot ?_
                  | ((first | refine splIn (fun hc => ?_) (fun hc => ?_) | refine splD (fun hc => ?_) (fun hc => ?_) | refine splE (fun hc => ?_) (fun hc => ?_) | refine splNE (fun hc => ?_) (fun hc => ?_)) <;> first | (exfalso; omega) | (exfalso; dsimp only at hc; omega) | skip)
                  | refine Exists.intro (α := List Value) [.slice (some ad2) L.length xc] ⟨⟨rfl, fun w' hw' => e1 w' hw'.1⟩, ?_⟩
                  | refine Exists.intro (α := List Value) [iv a, iv b, iv d] ⟨⟨rfl, fun w' hw' => e2 w' hw'.1⟩, ?_⟩
                  | ((with_reducible show CallEv _ _ 50 [.v (iv a), _, _] _ _ _ _); refine callE (k := 50) (fun β w' hbw => c1 _) ?_)
                  | ((with_reducible show CallEv _ _ 50 [.v (iv b), _, _] _ _ _ _); refine callE (k := 50) (fun β w' hbw => c2 _) ?_)
                  | ((with_reducible show CallEv _ _ 50 [.v (iv d), _, _] _ _ _ _); refine callE (k := 50) (fun β w' hbw => c3 _) ?_)
                  | refine Exists.intro (α := List Value) [.slice to' ts.length tc'] ⟨⟨rfl, fun w' hw' => e4 w' hw'.1 0 _ rfl⟩, ?_⟩
                  | ((with_reducible show CallEv _ _ 59 _ _ _ _ _); refine callE (k := 59) (fun β w' hbw => c59 _ hbw.1) ?_)
                all_goals first | (exfalso; omega) | skip
                refine loopN 6 (fun j : Nat => [(1, .v (.slice (some ad) S.length c)), (2, .ptr 0 0), (5, .v y.v), (6, .os 3 4 T.length), (8, .v (iv k)), (9, .v (iv i)), (10, .ptr 5 0), (11, .v (iv j))]) (fun j => [(0, .cells [.v (iv sl), .v (iv ro), .v (iv su), .v (.slice go G.length gc), .v (.slice (some adt) T.length tc)] 25), (3, .own 4 T.length 1 (tbV T.length fun t => cntT (Yk ++ L.take i) t) 3), (5, .cells [.v (iv a), .v (iv b), .v (iv d)] 109)]) (fun j => j ≤ i ∧ alN (fun k => !cfB ⟨(a : Int), (b : Int), (d : Int)⟩ (lnAt L k)) j = true) (fun j => i - j) 0 ⟨Nat.zero_le _, rfl⟩ ⟨rfl, rfl, rfl, rfl, rfl, rfl, rfl, rfl, trivial⟩ ⟨rfl, rfl, rfl, trivial⟩ (fun _ _ => ⟨rfl, rfl⟩) ?_
                intro j ⟨hj, hal3⟩
                rcases Nat.lt_or_ge j i with hji2 | hji2
                · obtain ⟨⟨zg, zj, zt⟩, hz⟩ : ∃ b, L[j]? = some b := ⟨_, List.getElem?_eq_getElem (by omega)⟩
                  have e5 := fun (w' : World) hw' => rd_fld (hLr.below (w' := w') hw') hz
                  have hzl := lnAt_at hz
                  have hcf : cfB ⟨(a : Int), (b : Int), (d : Int)⟩ ⟨zg, zj, zt⟩ = (decide ((a : Int) = zg) || decide ((d : Int) = zt)) := rfl
                  have hds0 : cfB ⟨(a : Int), (b : Int), (d : Int)⟩ ⟨zg, zj, zt⟩ = true → (S.map Lr.L).all (sltB (⟨sl, ro, (su : Int), G.map Rw.xs, T.map Tc.d⟩ : SD)) = false := fun h => hno (by rw [hslt, alN_no hiL (by rw [hds]; exact alN_no hji2 (by rw [hzl, h]; rfl)), Bool.and_false])
                  by_cases h1 : zg = a
                  · rw [hds0 (by rw [hcf, decide_eq_true h1.symm]; rfl)]
                    repeat'
                     conv => whnf
                     first
                      | refine zA ?_ | refine zB ?_ | refine zC ?_ | refine zD ?_ | refine zE ?_ | refine zF ?_ | refine zG ?_ | refine zH ?_ | refine zJ ?_ | refine zI ?_ | refine splT ?_ | refine splF ?_ | refine splNot ?_
                      | ((first | refine splIn (fun hc => ?_) (fun hc => ?_) | refine splD (fun hc => ?_) (fun hc => ?_) | refine splE (fun hc => ?_) (fun hc => ?_) | refine splNE (fun hc => ?_) (fun hc => ?_)) <;> first | (exfalso; omega) | (exfalso; dsimp only at hc; omega) | skip)
                      | refine Exists.intro (α := List Value) [.slice (some ad2) L.length xc] ⟨⟨rfl, fun w' hw' => e1 w' hw'.1⟩, ?_⟩
                      | refine Exists.intro (α := List Value) [iv zg] ⟨⟨rfl, fun w' hw' => e5 w' hw'.1 0 _ rfl⟩, ?_⟩
                      | refine Exists.intro (α := List Value) [iv zt] ⟨⟨rfl, fun w' hw' => e5 w' hw'.1 2 _ rfl⟩, ?_⟩
                    all_goals first | (exfalso; omega) | exact ⟨fun β => rfl, fun w' h => h.1⟩
                  · by_cases h2 : zt = d
                    · rw [hds0 (by rw [hcf, decide_eq_true h2.symm, Bool.or_true])]
                      repeat'
                       conv => whnf
                       first
                        | refine zA ?_ | refine zB ?_ | refine zC ?_ | refine zD ?_ | refine zE ?_ | refine zF ?_ | refine zG ?_ | refine zH ?_ | refine zJ ?_ | refine zI ?_ | refine splT ?_ | refine splF ?_ | refine splNot ?_
                        | ((first | refine splIn (fun hc => ?_) (fun hc => ?_) | refine splD (fun hc => ?_) (fun hc => ?_) | refine splE (fun hc => ?_) (fun hc => ?_) | refine splNE (fun hc => ?_) (fun hc => ?_)) <;> first | (exfalso; omega) | (exfalso; dsimp only at hc; omega) | skip)
                        | refine Exists.intro (α := List Value) [.slice (some ad2) L.length xc] ⟨⟨rfl, fun w' hw' => e1 w' hw'.1⟩, ?_⟩
                        | refine Exists.intro (α := List Value) [iv zg] ⟨⟨rfl, fun w' hw' => e5 w' hw'.1 0 _ rfl⟩, ?_⟩
                        | refine Exists.intro (α := List Value) [iv zt] ⟨⟨rfl, fun w' hw' => e5 w' hw'.1 2 _ rfl⟩, ?_⟩
                      all_goals first | (exfalso; omega) | exact ⟨fun β => rfl, fun w' h => h.1⟩
                    · have hal4 : alN (fun k => !cfB ⟨(a : Int), (b : Int), (d : Int)⟩ (lnAt L k)) (j + 1) = true := by
                        rw [alN, hal3, hzl, hcf, decide_eq_false (fun h => h1 h.symm), decide_eq_false (fun h => h2 h.symm)]; rfl
                      repeat'
                       conv => whnf
                       first
                        | refine zA ?_ | refine zB ?_ | refine zC ?_ | refine zD ?_ | refine zE ?_ | refine zF ?_ | refine zG ?_ | refine zH ?_ | refine zJ ?_ | refine zI ?_ | refine splT ?_ | refine splF ?_ | refine splNot ?_
                        | ((first | refine splIn (fun hc => ?_) (fun hc => ?_) | refine splD (fun hc => ?_) (fun hc => ?_) | refine splE (fun hc => ?_) (fun hc => ?_) | refine splNE (fun hc => ?_) (fun hc => ?_)) <;> first | (exfalso; omega) | (exfalso; dsimp only at hc; omega) | skip)
                        | refine Exists.intro (α := List Value) [.slice (some ad2) L.length xc] ⟨⟨rfl, fun w' hw' => e1 w' hw'.1⟩, ?_⟩
                        | refine Exists.intro (α := List Value) [iv zg] ⟨⟨rfl, fun w' hw' => e5 w' hw'.1 0 _ rfl⟩, ?_⟩
                        | refine Exists.intro (α := List Value) [iv zt] ⟨⟨rfl, fun w' hw' => e5 w' hw'.1 2 _ rfl⟩, ?_⟩
                      all_goals first | (exfalso; omega) | exact ⟨j + 1, ⟨by omega, hal4⟩, by omega, Ent.weak rfl ⟨rfl, rfl, rfl, rfl, rfl, rfl, rfl, rfl, trivial⟩ ⟨rfl, rfl, rfl, trivial⟩ fun _ h => h⟩
                · obtain rfl : j = i := by omega
                  have hal5 : alN (dsB L) (j + 1) = true := by rw [alN, hal2, hds, hal3]; rfl
                  have hYl : (Yk ++ L.take j).length ≤ 460 := by
                    have h1 := flL_le (m := 10) (k := k) hrl
                    rw [hYk] at h1
                    have h2 := List.length_take_le j L
                    rw [List.length_append]
                    omega
                  have hcp := sum_bd (fun x : Ln => decide (x.g = (((a * 6 + b) / 6 : Nat) : Int) ∧ x.j = (((a * 6 + b) % 6 : Nat) : Int))) (Yk ++ L.take j)
                  have hct := sum_bd (fun x : Ln => decide (x.t = (d : Int))) (Yk ++ L.take j)
                  change 0 ≤ cntP (Yk ++ L.take j) (a * 6 + b) ∧ cntP (Yk ++ L.take j) (a * 6 + b) ≤ _ at hcp
                  change 0 ≤ cntT (Yk ++ L.take j) d ∧ cntT (Yk ++ L.take j) d ≤ _ at hct
                  have hsetC := hrsC_set (n := G.length) (su := su) (Y := Yk ++ L.take j) (x := ⟨(a : Int), (b : Int), (d : Int)⟩) rfl rfl (by omega) (by omega) (by omega)
                  have hatC := hrsC_at (su := su) (Yk ++ L.take j) (show a < G.length by omega)
                  have hupT := cntT_upd (Y := Yk ++ L.take j) (x := ⟨(a : Int), (b : Int), (d : Int)⟩) (d := d) rfl
                  have hT2 : Yk ++ L.take (j + 1) = (Yk ++ L.take j) ++ [⟨(a : Int), (b : Int), (d : Int)⟩] := by rw [hT1, List.append_assoc]
                  generalize hY : Yk ++ L.take j = Y at *
                  obtain ⟨p, hp⟩ : ∃ p, y.D[a]? = some p := ⟨_, List.getElem?_eq_getElem (by omega)⟩
                  have hxsl : ((List.range su).map fun b => cntP Y (a * 6 + b)).length = su := by simp
                  have hxb : ((List.range su).map fun b => cntP Y (a * 6 + b))[b]? = some (cntP Y (a * 6 + b)) := by rw [List.getElem?_map, List.getElem?_range (by omega)]; rfl
                  generalize hxs : ((List.range su).map fun b => cntP Y (a * 6 + b)) = xs at *
                  have er : ∀ w', (Below w.heap.size w w' ∧ TbIn w.heap.size su y (hrsC G.length su (Y)) w') → ∀ q z, [Value.slice (some ⟨p.1, 0, none⟩) su p.2][q]? = some z → w'.cell? (((⟨y.o, 0, none⟩ : Addr).add ((a : Int).toNat * 1)).add q) = some z := fun w2 hw2 => by
                    have := rd_ati hw2.2.out (TbG.rw_at hp hatC)
                    rw [show Rw.cs ⟨some ⟨p.1, 0, none⟩, p.2, xs⟩ = [Value.slice (some ⟨p.1, 0, none⟩) su p.2] from by show [Value.slice _ xs.length _] = _; rw [hxsl]] at this
                    exact this
                  have ev : ∀ w', (Below w.heap.size w w' ∧ TbIn w.heap.size su y (hrsC G.length su (Y)) w') → ∀ q z, [iv (cntP Y (a * 6 + b))][q]? = some z → w'.cell? (((⟨p.1, 0, none⟩ : Addr).add ((b : Int).toNat * 1)).add q) = some z := fun w2 hw2 => rd_ati (hw2.2.row _ (List.mem_of_getElem? (TbG.rw_at hp hatC))) hxb
                  have hspt : ∀ q, ((⟨p.1, 0, none⟩ : Addr).add q).spot = none := fun q => by rw [own_add]
                  have hax : (⟨p.1, 0, none⟩ : Addr).add ((b : Int).toNat * 1) = ⟨p.1, b, none⟩ := by rw [own_add, Int.toNat_natCast, Nat.mul_one, Nat.zero_add]
                  have hset : ∀ w', (Below w.heap.size w w' ∧ TbIn w.heap.size su y (hrsC G.length su (Y)) w') → Below w.heap.size w (w'.setCell ((⟨p.1, 0, none⟩ : Addr).add ((b : Int).toNat * 1)) (iv (cntP Y (a * 6 + b) + 1))) ∧ TbIn w.heap.size su y (hrsC G.length su (Y ++ [⟨(a : Int), (b : Int), (d : Int)⟩])) (w'.setCell ((⟨p.1, 0, none⟩ : Addr).add ((b : Int).toNat * 1)) (iv (cntP Y (a * 6 + b) + 1))) := fun w2 hw2 => by
                    rw [hax, ← hsetC]
                    exact ⟨below_set hw2.1 (hw2.2.a p (List.mem_of_getElem? hp)).1, hw2.2.set hp hatC (by omega)⟩
                  have hat : ∀ w', (Below w.heap.size w w' ∧ TbIn w.heap.size su y (hrsC G.length su (Y)) w') → (∃ cs ty fr, w'.heap[((⟨p.1, 0, none⟩ : Addr).add ((b : Int).toNat * 1)).block]? = some (.cells cs ty fr) ∧ ((⟨p.1, 0, none⟩ : Addr).add ((b : Int).toNat * 1)).off < cs.size) ∧ w'.frozen? ((⟨p.1, 0, none⟩ : Addr).add ((b : Int).toNat * 1)) = false := fun w2 hw2 => by
                    rw [hax]
                    exact hw2.2.at hp hatC (show b < su by omega)
                  repeat'
                   conv => whnf
                   first
                    | refine zA ?_ | refine zB ?_ | refine zC ?_ | refine zD ?_ | refine zE ?_ | refine zF ?_ | refine zG ?_ | refine zH ?_ | refine zJ ?_ | refine zI ?_ | refine splT ?_ | refine splF ?_ | refine splNot ?_
                    | ((first | refine splIn (fun hc => ?_) (fun hc => ?_) | refine splD (fun hc => ?_) (fun hc => ?_) | refine splE (fun hc => ?_) (fun hc => ?_) | refine splNE (fun hc => ?_) (fun hc => ?_)) <;> first | (exfalso; omega) | (exfalso; dsimp only at hc; omega) | skip)
                    | refine Exists.intro (α := List Value) [.slice (some ⟨p.1, 0, none⟩) su p.2] ⟨⟨rfl, fun w' hw' => er w' hw'⟩, ?_⟩
                    | refine Exists.intro (α := List Value) [iv (cntP Y (a * 6 + b))] ⟨⟨rfl, fun w' hw' => ev w' hw'⟩, ?_⟩
                    | refine stL (stF env rfl rfl rfl rfl rfl rfl (hspt _) (fun w' => Below w.heap.size w w' ∧ TbIn w.heap.size su y (hrsC G.length su (Y ++ [(⟨(a : Int), (b : Int), (d : Int)⟩ : Ln)])) w') (fun w' hw' => hat w' hw') (fun w' hw' => hset w' hw') ?_)
                    | refine Exists.intro (α := List Value) [iv (cntT Y d)] ⟨⟨rfl, tbV_one (by show d * 1 = d; omega) (fun t => cntT Y t) (by omega)⟩, ?_⟩
                    | refine And.intro (a := (_ : Nat) ≤ (tbV _ _).length) (by rw [tbV_len]; show d * 1 + 1 ≤ T.length; omega) ?_
                  all_goals first | (exfalso; omega) | exact ⟨j + 1, ⟨by omega, hles1, hal5⟩, by omega, Ent.weak rfl ⟨rfl, rfl, rfl, rfl, rfl, rfl, trivial⟩ ⟨rfl, by rw [hT2, ← hupT, tbV_setE (o := d * 1) (fun t => cntT Y t) (cntT Y d + 1) (by omega) (by omega)]; rfl, trivial⟩ fun w2 h => by rw [hT2]; exact h⟩
              all_goals rw [hfa hlex]
              all_goals skip
              repeat'
               conv => whnf
               first
                | refine zA ?_ | refine zB ?_ | refine zC ?_ | refine zD ?_ | refine zE ?_ | refine zF ?_ | refine zG ?_ | refine zH ?_ | refine zJ ?_ | refine zI ?_ | refine splT ?_ | refine splF ?_ | refine splNot ?_
                | ((first | refine splIn (fun hc => ?_) (fun hc => ?_) | refine splD (fun hc => ?_) (fun hc => ?_) | refine splE (fun hc => ?_) (fun hc => ?_) | refine splNE (fun hc => ?_) (fun hc => ?_)) <;> first | (exfalso; omega) | (exfalso; dsimp only at hc; omega) | skip)
                | refine Exists.intro (α := List Value) [.slice (some ad2) L.length xc] ⟨⟨rfl, fun w' hw' => e1 w' hw'.1⟩, ?_⟩
                | refine Exists.intro (α := List Value) [iv xg, iv xj, iv d] ⟨⟨rfl, fun w' hw' => e2 w' hw'.1⟩, ?_⟩
                | ((with_reducible show CallEv _ _ 50 [.v (iv xg), _, _] _ _ _ _); refine callE (k := 50) (fun β w' hbw => c1 _) ?_)
                | ((with_reducible show CallEv _ _ 50 [.v (iv xj), _, _] _ _ _ _); refine callE (k := 50) (fun β w' hbw => c2 _) ?_)
                | ((with_reducible show CallEv _ _ 50 [.v (iv d), _, _] _ _ _ _); refine callE (k := 50) (fun β w' hbw => c3 _) ?_)
                | refine Exists.intro (α := List Value) [.slice to' ts.length tc'] ⟨⟨rfl, fun w' hw' => e4 w' hw'.1 0 _ rfl⟩, ?_⟩
                | ((with_reducible show CallEv _ _ 59 _ _ _ _ _); refine callE (k := 59) (fun β w' hbw => c59 _ hbw.1) ?_)
              all_goals first | (exfalso; omega) | exact ⟨fun β => rfl, fun w' h => h.1⟩
            · have q3 : inB xt 0 ((T.length : Int) - 1) = false := by
                rw [Bool.eq_false_iff]; intro hc; exact hin (inB_iff.1 hc)
              rw [q3] at c3 hlex
              rw [hfa (by rw [hlex]; simp)]
              cases q1 : inB xg 0 (G.length - 1) <;> cases q2 : inB xj 0 (su - 1)
              all_goals rw [q1] at c1
              all_goals rw [q2] at c2
              all_goals skip
              repeat'
               conv => whnf
               first
                | refine zA ?_ | refine zB ?_ | refine zC ?_ | refine zD ?_ | refine zE ?_ | refine zF ?_ | refine zG ?_ | refine zH ?_ | refine zJ ?_ | refine zI ?_ | refine splT ?_ | refine splF ?_ | refine splNot ?_
                | ((first | refine splIn (fun hc => ?_) (fun hc => ?_) | refine splD (fun hc => ?_) (fun hc => ?_) | refine splE (fun hc => ?_) (fun hc => ?_) | refine splNE (fun hc => ?_) (fun hc => ?_)) <;> first | (exfalso; omega) | (exfalso; dsimp only at hc; omega) | skip)
                | refine Exists.intro (α := List Value) [.slice (some ad2) L.length xc] ⟨⟨rfl, fun w' hw' => e1 w' hw'.1⟩, ?_⟩
                | refine Exists.intro (α := List Value) [iv xg, iv xj, iv xt] ⟨⟨rfl, fun w' hw' => e2 w' hw'.1⟩, ?_⟩
                | ((with_reducible show CallEv _ _ 50 [.v (iv xg), _, _] _ _ _ _); refine callE (k := 50) (fun β w' hbw => c1 _) ?_)
                | ((with_reducible show CallEv _ _ 50 [.v (iv xj), _, _] _ _ _ _); refine callE (k := 50) (fun β w' hbw => c2 _) ?_)
                | ((with_reducible show CallEv _ _ 50 [.v (iv xt), _, _] _ _ _ _); refine callE (k := 50) (fun β w' hbw => c3 _) ?_)
              all_goals first | (exfalso; omega) | exact ⟨fun β => rfl, fun w' h => h.1⟩
          · obtain rfl : i = L.length := by omega
            rw [List.take_length] at hal1 ⊢
            have hslT : sltB (⟨sl, ro, (su : Int), G.map Rw.xs, T.map Tc.d⟩ : SD) L = true := by rw [hslt, hal1, hal2]; rfl
            rw [hslT] at hall1
            repeat'
             conv => whnf
             first
              | refine zA ?_ | refine zB ?_ | refine zC ?_ | refine zD ?_ | refine zE ?_ | refine zF ?_ | refine zG ?_ | refine zH ?_ | refine zJ ?_ | refine zI ?_ | refine splT ?_ | refine splF ?_ | refine splNot ?_
              | ((first | refine splIn (fun hc => ?_) (fun hc => ?_) | refine splD (fun hc => ?_) (fun hc => ?_) | refine splE (fun hc => ?_) (fun hc => ?_) | refine splNE (fun hc => ?_) (fun hc => ?_)) <;> first | (exfalso; omega) | (exfalso; dsimp only at hc; omega) | skip)
              | refine Exists.intro (α := List Value) [.slice xo L.length xc] ⟨⟨rfl, fun w' hw' => e1 w' hw'.1⟩, ?_⟩
            all_goals first | (exfalso; omega) | exact Dis.ent (x := (y, k + 1)) ⟨⟨hyl, by dsimp only; omega, hall1⟩, by dsimp only; omega⟩ (Ent.weak rfl ⟨rfl, rfl, rfl, rfl, rfl, trivial⟩ ⟨rfl, by dsimp only; rw [hfl]; rfl, trivial⟩ fun w2 h => by dsimp only; rw [hfl]; exact h)
        · rw [hno (by unfold sltB; rw [decide_eq_false hro]; rfl)]
          repeat'
           conv => whnf
           first
            | refine zA ?_ | refine zB ?_ | refine zC ?_ | refine zD ?_ | refine zE ?_ | refine zF ?_ | refine zG ?_ | refine zH ?_ | refine zJ ?_ | refine zI ?_ | refine splT ?_ | refine splF ?_ | refine splNot ?_
            | ((first | refine splIn (fun hc => ?_) (fun hc => ?_) | refine splD (fun hc => ?_) (fun hc => ?_) | refine splE (fun hc => ?_) (fun hc => ?_) | refine splNE (fun hc => ?_) (fun hc => ?_)) <;> first | (exfalso; omega) | (exfalso; dsimp only at hc; omega) | skip)
            | refine Exists.intro (α := List Value) [.slice xo L.length xc] ⟨⟨rfl, fun w' hw' => e1 w' hw'.1⟩, ?_⟩
          all_goals first | (exfalso; omega) | exact ⟨fun β => rfl, fun w' h => h.1⟩
      · obtain rfl : k = S.length := by omega
        rw [List.take_length] at hall ⊢
        rw [hall]
        have hYl : (flL S).length ≤ 450 := by
          have h1 := flL_le (m := 10) (k := S.length) hrl
          rw [List.take_length] at h1
          omega
        generalize hY : flL S = Y at *
        repeat'
         conv => whnf
         first
          | refine zA ?_ | refine zB ?_ | refine zC ?_ | refine zD ?_ | refine zE ?_ | refine zF ?_ | refine zG ?_ | refine zH ?_ | refine zJ ?_ | refine zI ?_ | refine splT ?_ | refine splF ?_ | refine splNot ?_
          | ((first | refine splIn (fun hc => ?_) (fun hc => ?_) | refine splD (fun hc => ?_) (fun hc => ?_) | refine splE (fun hc => ?_) (fun hc => ?_) | refine splNE (fun hc => ?_) (fun hc => ?_)) <;> first | (exfalso; omega) | (exfalso; dsimp only at hc; omega) | skip)
        all_goals first | (exfalso; omega) | skip
        refine loopN 5 (fun a : Nat => [(2, .ptr 0 0), (5, .v y.v), (6, .os 3 4 T.length), (12, .v (iv a))]) (fun a => [(0, .cells [.v (iv sl), .v (iv ro), .v (iv su), .v (.slice go G.length gc), .v (.slice to T.length tc)] 25), (3, .own 4 T.length 1 (tbV T.length fun t => cntT (Y) t) 3)]) (fun a => a ≤ G.length ∧ alN (fun a => alN (fun b => cntP Y (a * 6 + b) == ((G.map Rw.xs).getD a []).getD b 0) su) a = true) (fun a => G.length - a) 0 ⟨Nat.zero_le _, rfl⟩ ⟨rfl, rfl, rfl, rfl, trivial⟩ ⟨rfl, rfl, trivial⟩ (fun _ _ => ⟨rfl, rfl⟩) ?_
        intro a ⟨ha, hal⟩
        rcases Nat.lt_or_ge a G.length with hal1 | hal1
        · obtain ⟨⟨go', gc', gs⟩, hgx⟩ : ∃ b, G[a]? = some b := ⟨_, List.getElem?_eq_getElem hal1⟩
          obtain ⟨_, adg, rfl, _⟩ := hg.ptr (by omega)
          have e6 := fun (w' : World) hw' => rd_ati (hg.below (w' := w') hw') hgx
          have hgr := hr _ (List.mem_of_getElem? hgx)
          change Rd 1 iF (.slice go' gs.length gc') gs w at hgr
          have hgm : (G.map Rw.xs)[a]? = some gs := by rw [List.getElem?_map, hgx]; rfl
          have hgl : (gs.length : Int) = su := by
            have := List.all_eq_true.1 hv6 gs (List.mem_of_getElem? hgm)
            unfold grB at this
            simp only [Bool.and_eq_true, decide_eq_true_eq] at this
            exact this.1
          have hgget : (G.map Rw.xs).getD a [] = gs := by rw [List.getD_eq_getElem?_getD, hgm]; rfl
          have hatC := hrsC_at (su := su) Y hal1
          obtain ⟨p, hp⟩ : ∃ p, y.D[a]? = some p := ⟨_, List.getElem?_eq_getElem (by omega)⟩
          have hxsl : ((List.range su).map fun b => cntP Y (a * 6 + b)).length = su := by simp
          have hxb : ∀ b, b < su → ((List.range su).map fun b => cntP Y (a * 6 + b))[b]? = some (cntP Y (a * 6 + b)) := fun b hb => by rw [List.getElem?_map, List.getElem?_range hb]; rfl
          generalize hxs : ((List.range su).map fun b => cntP Y (a * 6 + b)) = xs at *
          have er : ∀ w', (Below w.heap.size w w' ∧ TbIn w.heap.size su y (hrsC G.length su (Y)) w') → ∀ q z, [Value.slice (some ⟨p.1, 0, none⟩) su p.2][q]? = some z → w'.cell? (((⟨y.o, 0, none⟩ : Addr).add ((a : Int).toNat * 1)).add q) = some z := fun w2 hw2 => by
            have := rd_ati hw2.2.out (TbG.rw_at hp hatC)
            rw [show Rw.cs ⟨some ⟨p.1, 0, none⟩, p.2, xs⟩ = [Value.slice (some ⟨p.1, 0, none⟩) su p.2] from by show [Value.slice _ xs.length _] = _; rw [hxsl]] at this
            exact this
          have ev : ∀ b, b < su → ∀ w', (Below w.heap.size w w' ∧ TbIn w.heap.size su y (hrsC G.length su (Y)) w') → ∀ q z, [iv (cntP Y (a * 6 + b))][q]? = some z → w'.cell? (((⟨p.1, 0, none⟩ : Addr).add ((b : Int).toNat * 1)).add q) = some z := fun b hb w2 hw2 => rd_ati (hw2.2.row _ (List.mem_of_getElem? (TbG.rw_at hp hatC))) (hxb b hb)
          repeat'
           conv => whnf
           first
            | refine zA ?_ | refine zB ?_ | refine zC ?_ | refine zD ?_ | refine zE ?_ | refine zF ?_ | refine zG ?_ | refine zH ?_ | refine zJ ?_ | refine zI ?_ | refine splT ?_ | refine splF ?_ | refine splNot ?_
            | ((first | refine splIn (fun hc => ?_) (fun hc => ?_) | refine splD (fun hc => ?_) (fun hc => ?_) | refine splE (fun hc => ?_) (fun hc => ?_) | refine splNE (fun hc => ?_) (fun hc => ?_)) <;> first | (exfalso; omega) | (exfalso; dsimp only at hc; omega) | skip)
          all_goals first | (exfalso; omega) | skip
          refine loopN 5 (fun b : Nat => [(2, .ptr 0 0), (5, .v y.v), (6, .os 3 4 T.length), (12, .v (iv a)), (13, .v (iv b))]) (fun b => [(0, .cells [.v (iv sl), .v (iv ro), .v (iv su), .v (.slice (some adg) G.length gc), .v (.slice to T.length tc)] 25), (3, .own 4 T.length 1 (tbV T.length fun t => cntT (Y) t) 3)]) (fun b => b ≤ su ∧ alN (fun b => cntP Y (a * 6 + b) == gs.getD b 0) b = true) (fun b => su - b) 0 ⟨Nat.zero_le _, rfl⟩ ⟨rfl, rfl, rfl, rfl, rfl, trivial⟩ ⟨rfl, rfl, trivial⟩ (fun _ _ => ⟨rfl, rfl⟩) ?_
          intro b ⟨hb, hbl⟩
          rcases Nat.lt_or_ge b su with hbs | hbs
          · obtain ⟨v, hvx⟩ : ∃ v, gs[b]? = some v := ⟨_, List.getElem?_eq_getElem (by omega)⟩
            obtain ⟨_, adr, rfl, _⟩ := hgr.ptr (by omega)
            have e7 := fun (w' : World) hw' => rd_ati (hgr.below (w' := w') hw') hvx
            have hvg : gs.getD b 0 = v := by rw [List.getD_eq_getElem?_getD, hvx]; rfl
            have ev := ev b hbs
            by_cases hcv : cntP Y (a * 6 + b) = v
            · have hn : alN (fun b => cntP Y (a * 6 + b) == gs.getD b 0) (b + 1) = true := by rw [alN, hbl, hvg, hcv]; simp
              repeat'
               conv => whnf
               first
                | refine zA ?_ | refine zB ?_ | refine zC ?_ | refine zD ?_ | refine zE ?_ | refine zF ?_ | refine zG ?_ | refine zH ?_ | refine zJ ?_ | refine zI ?_ | refine splT ?_ | refine splF ?_ | refine splNot ?_
                | ((first | refine splIn (fun hc => ?_) (fun hc => ?_) | refine splD (fun hc => ?_) (fun hc => ?_) | refine splE (fun hc => ?_) (fun hc => ?_) | refine splNE (fun hc => ?_) (fun hc => ?_)) <;> first | (exfalso; omega) | (exfalso; dsimp only at hc; omega) | skip)
                | refine Exists.intro (α := List Value) [.slice (some ⟨p.1, 0, none⟩) su p.2] ⟨⟨rfl, fun w' hw' => er w' hw'⟩, ?_⟩
                | refine Exists.intro (α := List Value) [iv (cntP Y (a * 6 + b))] ⟨⟨rfl, fun w' hw' => ev w' hw'⟩, ?_⟩
                | refine Exists.intro (α := List Value) [.slice (some adr) gs.length gc'] ⟨⟨rfl, fun w' hw' => e6 w' hw'.1⟩, ?_⟩
                | refine Exists.intro (α := List Value) [iv v] ⟨⟨rfl, fun w' hw' => e7 w' hw'.1⟩, ?_⟩
              all_goals first | (exfalso; omega) | exact ⟨b + 1, ⟨by omega, hn⟩, by omega, Ent.weak rfl ⟨rfl, rfl, rfl, rfl, rfl, trivial⟩ ⟨rfl, rfl, trivial⟩ fun _ h => h⟩
            · have hf : hoB (G.map Rw.xs) su G.length Y = false := alN_no hal1 (by rw [hgget]; exact alN_no hbs (by rw [hvg]; exact beq_false_of_ne hcv))
              rw [hf]
              repeat'
               conv => whnf
               first
                | refine zA ?_ | refine zB ?_ | refine zC ?_ | refine zD ?_ | refine zE ?_ | refine zF ?_ | refine zG ?_ | refine zH ?_ | refine zJ ?_ | refine zI ?_ | refine splT ?_ | refine splF ?_ | refine splNot ?_
                | ((first | refine splIn (fun hc => ?_) (fun hc => ?_) | refine splD (fun hc => ?_) (fun hc => ?_) | refine splE (fun hc => ?_) (fun hc => ?_) | refine splNE (fun hc => ?_) (fun hc => ?_)) <;> first | (exfalso; omega) | (exfalso; dsimp only at hc; omega) | skip)
                | refine Exists.intro (α := List Value) [.slice (some ⟨p.1, 0, none⟩) su p.2] ⟨⟨rfl, fun w' hw' => er w' hw'⟩, ?_⟩
                | refine Exists.intro (α := List Value) [iv (cntP Y (a * 6 + b))] ⟨⟨rfl, fun w' hw' => ev w' hw'⟩, ?_⟩
                | refine Exists.intro (α := List Value) [.slice (some adr) gs.length gc'] ⟨⟨rfl, fun w' hw' => e6 w' hw'.1⟩, ?_⟩
                | refine Exists.intro (α := List Value) [iv v] ⟨⟨rfl, fun w' hw' => e7 w' hw'.1⟩, ?_⟩
              all_goals first | (exfalso; omega) | exact ⟨fun β => rfl, fun w' h => h.1⟩
          · obtain rfl : b = su := by omega
            have hn : alN (fun a => alN (fun b' => cntP Y (a * 6 + b') == ((G.map Rw.xs).getD a []).getD b' 0) b) (a + 1) = true := by rw [alN, hal, hgget, hbl]; rfl
            repeat'
             conv => whnf
             first
              | refine zA ?_ | refine zB ?_ | refine zC ?_ | refine zD ?_ | refine zE ?_ | refine zF ?_ | refine zG ?_ | refine zH ?_ | refine zJ ?_ | refine zI ?_ | refine splT ?_ | refine splF ?_ | refine splNot ?_
              | ((first | refine splIn (fun hc => ?_) (fun hc => ?_) | refine splD (fun hc => ?_) (fun hc => ?_) | refine splE (fun hc => ?_) (fun hc => ?_) | refine splNE (fun hc => ?_) (fun hc => ?_)) <;> first | (exfalso; omega) | (exfalso; dsimp only at hc; omega) | skip)
            all_goals first | (exfalso; omega) | exact ⟨a + 1, ⟨by omega, hn⟩, by omega, Ent.weak rfl ⟨rfl, rfl, rfl, rfl, trivial⟩ ⟨rfl, rfl, trivial⟩ fun _ h => h⟩
        · obtain rfl : a = G.length := by omega
          have hho : hoB (G.map Rw.xs) su G.length Y = true := hal
          rw [hho]
          repeat'
           conv => whnf
           first
            | refine zA ?_ | refine zB ?_ | refine zC ?_ | refine zD ?_ | refine zE ?_ | refine zF ?_ | refine zG ?_ | refine zH ?_ | refine zJ ?_ | refine zI ?_ | refine splT ?_ | refine splF ?_ | refine splNot ?_
            | ((first | refine splIn (fun hc => ?_) (fun hc => ?_) | refine splD (fun hc => ?_) (fun hc => ?_) | refine splE (fun hc => ?_) (fun hc => ?_) | refine splNE (fun hc => ?_) (fun hc => ?_)) <;> first | (exfalso; omega) | (exfalso; dsimp only at hc; omega) | skip)
          all_goals first | (exfalso; omega) | skip
          refine loopN 5 (fun k : Nat => [(2, .ptr 0 0), (6, .os 3 4 T.length), (14, .v (iv k))]) (fun k => [(0, .cells [.v (iv sl), .v (iv ro), .v (iv su), .v (.slice go G.length gc), .v (.slice to T.length tc)] 25), (3, .own 4 T.length 1 (tbV T.length fun t => cntT (Y) t) 3)]) (fun k => k ≤ T.length ∧ alN (fun t => decide (cntT Y t ≤ ((T.map Tc.d).getD t ([], 0)).2)) k = true) (fun k => T.length - k) 0 ⟨Nat.zero_le _, rfl⟩ ⟨rfl, rfl, rfl, trivial⟩ ⟨rfl, rfl, trivial⟩ (fun k _ => ⟨rfl, rfl⟩) ?_
          intro k ⟨hk, hall⟩
          rcases Nat.lt_or_ge k T.length with hkl | hkl
          · obtain ⟨⟨to', tc', xs, hh'⟩, hx⟩ : ∃ b, T[k]? = some b := ⟨_, List.getElem?_eq_getElem hkl⟩
            obtain ⟨_, ad, rfl, _⟩ := ht.ptr (by omega)
            have e1 := fun (w' : World) hw' => rd_fld (ht.below (w' := w') hw') hx
            have hget : ((T.map Tc.d).getD k ([], 0)).2 = hh' := by
              rw [List.getD_eq_getElem?_getD, List.getElem?_map, hx]; rfl
            by_cases hle : cntT Y k ≤ hh'
            · have hn : alN (fun t => decide (cntT Y t ≤ ((T.map Tc.d).getD t ([], 0)).2)) (k + 1) = true := by rw [alN, hall, hget, decide_eq_true hle]; rfl
              repeat'
               conv => whnf
               first
                | refine zA ?_ | refine zB ?_ | refine zC ?_ | refine zD ?_ | refine zE ?_ | refine zF ?_ | refine zG ?_ | refine zH ?_ | refine zJ ?_ | refine zI ?_ | refine splT ?_ | refine splF ?_ | refine splNot ?_
                | ((first | refine splIn (fun hc => ?_) (fun hc => ?_) | refine splD (fun hc => ?_) (fun hc => ?_) | refine splE (fun hc => ?_) (fun hc => ?_) | refine splNE (fun hc => ?_) (fun hc => ?_)) <;> first | (exfalso; omega) | (exfalso; dsimp only at hc; omega) | skip)
                | refine Exists.intro (α := List Value) [iv (cntT Y k)] ⟨⟨rfl, tbV_one (by show k * 1 = k; omega) (fun t => cntT Y t) (by omega)⟩, ?_⟩
                | refine Exists.intro (α := List Value) [iv hh'] ⟨⟨rfl, fun w' hw' => e1 w' hw'.1 1 _ rfl⟩, ?_⟩
              all_goals first | (exfalso; omega) | exact ⟨k + 1, ⟨by omega, hn⟩, by omega, Ent.weak rfl ⟨rfl, rfl, rfl, trivial⟩ ⟨rfl, rfl, trivial⟩ fun _ h => h⟩
            · rw [alN_no hkl (by rw [hget]; exact decide_eq_false hle)]
              repeat'
               conv => whnf
               first
                | refine zA ?_ | refine zB ?_ | refine zC ?_ | refine zD ?_ | refine zE ?_ | refine zF ?_ | refine zG ?_ | refine zH ?_ | refine zJ ?_ | refine zI ?_ | refine splT ?_ | refine splF ?_ | refine splNot ?_
                | ((first | refine splIn (fun hc => ?_) (fun hc => ?_) | refine splD (fun hc => ?_) (fun hc => ?_) | refine splE (fun hc => ?_) (fun hc => ?_) | refine splNE (fun hc => ?_) (fun hc => ?_)) <;> first | (exfalso; omega) | (exfalso; dsimp only at hc; omega) | skip)
                | refine Exists.intro (α := List Value) [iv (cntT Y k)] ⟨⟨rfl, tbV_one (by show k * 1 = k; omega) (fun t => cntT Y t) (by omega)⟩, ?_⟩
                | refine Exists.intro (α := List Value) [iv hh'] ⟨⟨rfl, fun w' hw' => e1 w' hw'.1 1 _ rfl⟩, ?_⟩
              all_goals first | (exfalso; omega) | exact ⟨fun β => rfl, fun w' h => h.1⟩
          · obtain rfl : k = T.length := by omega
            rw [hall]
            repeat'
             conv => whnf
             first
              | refine zA ?_ | refine zB ?_ | refine zC ?_ | refine zD ?_ | refine zE ?_ | refine zF ?_ | refine zG ?_ | refine zH ?_ | refine zJ ?_ | refine zI ?_ | refine splT ?_ | refine splF ?_ | refine splNot ?_
              | ((first | refine splIn (fun hc => ?_) (fun hc => ?_) | refine splD (fun hc => ?_) (fun hc => ?_) | refine splE (fun hc => ?_) (fun hc => ?_) | refine splNE (fun hc => ?_) (fun hc => ?_)) <;> first | (exfalso; omega) | (exfalso; dsimp only at hc; omega) | skip)
            all_goals first | (exfalso; omega) | exact ⟨fun β => rfl, fun w' h => h.1⟩

  · rw [decide_eq_false hsl]
    refine calls_val env mixed Tryz.func17 has17 Tryz.ntmps17 [.agg #[iv sl, iv ro, iv su, .slice go G.length gc, .slice to T.length tc], .slice o S.length c] (by simp) ?_
    repeat'
     conv => whnf
     first
      | refine zA ?_ | refine zB ?_ | refine zC ?_ | refine zD ?_ | refine zE ?_ | refine zF ?_ | refine zG ?_ | refine zH ?_ | refine zJ ?_ | refine zI ?_ | refine splT ?_ | refine splF ?_ | refine splNot ?_
      | ((first | refine splIn (fun hc => ?_) (fun hc => ?_) | refine splD (fun hc => ?_) (fun hc => ?_) | refine splE (fun hc => ?_) (fun hc => ?_) | refine splNE (fun hc => ?_) (fun hc => ?_)) <;> first | (exfalso; omega) | (exfalso; dsimp only at hc; omega) | skip)
    all_goals first | (exfalso; omega) | exact ⟨fun β => rfl, fun w' h => h⟩
end Go.Proofs.YtkbfcofifhngfaaGreat
