/- Towns that may be played; CheckTour, Lost, Day: what these functions return. -/
import Derived.Test.YthfabodamhdhaaaRJ
namespace Go.Proofs.Ythfabodamhdhaaa
open Go Tx Go.RowKit
set_option linter.unusedSimpArgs false
set_option linter.unusedVariables false
theorem played_ok (x : Tr) (n : Int) (w : World) (hl : x.T.length ≤ 1000000) : Calls Try.prog 69 #[x.v, iv n] w fun e w' => e = .returned (.bool (inB n 1 ((x.T.length : Int) - 1))) ∧ Below w.heap.size w w' := by
 obtain ⟨days, shift, size, to, tc, T, lo, lc, L⟩ := x
 dsimp only at hl ⊢
 refine calls_val env mixed Try.func69 has69 Try.ntmps69 [.agg #[iv days, iv shift, iv size, .slice to T.length tc, .slice lo L.length lc], iv n] (by simp) ?_
 have hv := fun w' => within_ok n 1 (T.length - 1) w'
 repeat'
  conv => whnf
  first
   | refine zA ?_ | refine zB ?_ | refine zC ?_ | refine zD ?_ | refine zE ?_ | refine zF ?_ | refine zG ?_ | refine zH ?_ | refine zJ ?_ | refine zI ?_ | refine splT ?_ | refine splF ?_ | refine splNot ?_
   | ((first | refine splIn ?_ ?_ | refine splD ?_ ?_ | refine splE ?_ ?_ | refine splNE ?_ ?_) <;> intro hc <;> first | (exfalso; omega) | (exfalso; dsimp only at hc; omega) | skip)
   | ((with_reducible show CallEv _ _ 70 _ _ _ _ _); refine callE (k := 70) (fun β w' hbw => hv _) ?_)
 all_goals first | (exfalso; omega) | exact ⟨fun β => rfl, fun w' h => h⟩
theorem CheckTour_ok (x : Tr) (w : World) (h : TrIn x w) : Calls Try.prog 36 #[x.v] w fun e w' => e = .returned (iv (if toB x.d = true then 0 else 1)) ∧ Below w.heap.size w w' := by
 refine calls_val env mixed Try.func36 has36 Try.ntmps36 [x.v] (by simp) ?_
 have hv := fun w' hb => valid_ok x w' (h.below hb)
 obtain ⟨days, shift, size, to, tc, T, lo, lc, L⟩ := x
 obtain ⟨b, hb⟩ : ∃ b, toB (Tr.d ⟨days, shift, size, to, tc, T, lo, lc, L⟩) = b := ⟨_, rfl⟩
 rw [hb] at hv ⊢
 cases b
 all_goals skip
 repeat'
  conv => whnf
  first
   | refine zA ?_ | refine zB ?_ | refine zC ?_ | refine zD ?_ | refine zE ?_ | refine zF ?_ | refine zG ?_ | refine zH ?_ | refine zJ ?_ | refine zI ?_ | refine splT ?_ | refine splF ?_ | refine splNot ?_
   | ((first | refine splIn ?_ ?_ | refine splD ?_ ?_ | refine splE ?_ ?_ | refine splNE ?_ ?_) <;> intro hc <;> first | (exfalso; omega) | (exfalso; dsimp only at hc; omega) | skip)
   | ((with_reducible show CallEv _ _ 56 _ _ _ _ _); refine callE (k := 56) (fun β w' hbw => hv _ hbw) ?_)
 all_goals exact ⟨fun β => rfl, fun w' h => h⟩
def lostV (x : To) (f t : Int) : Int × Int := if toB x = true then (if (inB f 0 (x.T.length - 1) && inB t 0 (x.T.length - 1)) = true then (lsO x f.toNat t.toNat, 0) else (0, 2)) else (0, 1)
theorem Lost_ok (x : Tr) (f t : Int) (w : World) (h : TrIn x w) : Calls Try.prog 35 #[x.v, iv f, iv t] w fun e w' => e = .returned (.tuple #[iv (lostV x.d f t).1, iv (lostV x.d f t).2]) ∧ Below w.heap.size w w' := by
 have hv := fun w' hb => valid_ok x w' (h.below hb)
 have htl := h.tl
 have hlen : x.d.T.length = x.T.length := List.length_map ..
 unfold lostV
 rw [hlen]
 obtain ⟨b, hb⟩ : ∃ b, toB x.d = b := ⟨_, rfl⟩
 have h72 := fun (hn : toB x.d = true) (h1 : 0 ≤ f ∧ f < x.T.length) (h2 : 0 ≤ t ∧ t < x.T.length) w' hb => lost_ok x f.toNat t.toNat w' (h.below hb) (toB_n hn) (by omega) (by omega)
 rw [hb] at hv ⊢
 cases b with
 | false =>
  obtain ⟨days, shift, size, to, tc, T, lo, lc, L⟩ := x
  refine calls_val env mixed Try.func35 has35 Try.ntmps35 [.agg #[iv days, iv shift, iv size, .slice to T.length tc, .slice lo L.length lc], iv f, iv t] (by simp) ?_
  repeat'
   conv => whnf
   first
    | refine zA ?_ | refine zB ?_ | refine zC ?_ | refine zD ?_ | refine zE ?_ | refine zF ?_ | refine zG ?_ | refine zH ?_ | refine zJ ?_ | refine zI ?_ | refine splT ?_ | refine splF ?_ | refine splNot ?_
    | ((first | refine splIn ?_ ?_ | refine splD ?_ ?_ | refine splE ?_ ?_ | refine splNE ?_ ?_) <;> intro hc <;> first | (exfalso; omega) | (exfalso; dsimp only at hc; omega) | skip)
    | ((with_reducible show CallEv _ _ 56 _ _ _ _ _); refine callE (k := 56) (fun β w' hbw => hv _ hbw) ?_)
  all_goals exact ⟨fun β => rfl, fun w' h => h⟩
 | true =>
  by_cases hc : (0 ≤ f ∧ f < x.T.length) ∧ (0 ≤ t ∧ t < x.T.length)
  · have h72' := h72 hb hc.1 hc.2
    rw [Int.toNat_of_nonneg hc.1.1, Int.toNat_of_nonneg hc.2.1] at h72'
    rw [if_pos rfl, if_pos (by simp only [inB, Bool.and_eq_true, decide_eq_true_eq]; omega)]
    obtain ⟨days, shift, size, to, tc, T, lo, lc, L⟩ := x
    dsimp only at hc htl
    refine calls_val env mixed Try.func35 has35 Try.ntmps35 [.agg #[iv days, iv shift, iv size, .slice to T.length tc, .slice lo L.length lc], iv f, iv t] (by simp) ?_
    repeat'
     conv => whnf
     first
      | refine zA ?_ | refine zB ?_ | refine zC ?_ | refine zD ?_ | refine zE ?_ | refine zF ?_ | refine zG ?_ | refine zH ?_ | refine zJ ?_ | refine zI ?_ | refine splT ?_ | refine splF ?_ | refine splNot ?_
      | ((first | refine splIn ?_ ?_ | refine splD ?_ ?_ | refine splE ?_ ?_ | refine splNE ?_ ?_) <;> intro hc <;> first | (exfalso; omega) | (exfalso; dsimp only at hc; omega) | skip)
      | ((with_reducible show CallEv _ _ 56 _ _ _ _ _); refine callE (k := 56) (fun β w' hbw => hv _ hbw) ?_)
      | ((with_reducible show CallEv _ _ 70 _ _ _ _ _); refine callE (k := 70) (fun β w' hbw => within_ok _ _ _ _) ?_)
      | ((with_reducible show CallEv _ _ 72 _ _ _ _ _); refine callE (k := 72) (fun β w' hbw => h72' _ hbw) ?_)
    all_goals first | (exfalso; omega) | exact ⟨fun β => rfl, fun w' h => h⟩
  · rw [if_pos rfl, if_neg (by simp only [inB, Bool.and_eq_true, decide_eq_true_eq]; omega)]
    obtain ⟨days, shift, size, to, tc, T, lo, lc, L⟩ := x
    dsimp only at hc htl
    refine calls_val env mixed Try.func35 has35 Try.ntmps35 [.agg #[iv days, iv shift, iv size, .slice to T.length tc, .slice lo L.length lc], iv f, iv t] (by simp) ?_
    repeat'
     conv => whnf
     first
      | refine zA ?_ | refine zB ?_ | refine zC ?_ | refine zD ?_ | refine zE ?_ | refine zF ?_ | refine zG ?_ | refine zH ?_ | refine zJ ?_ | refine zI ?_ | refine splT ?_ | refine splF ?_ | refine splNot ?_
      | ((first | refine splIn ?_ ?_ | refine splD ?_ ?_ | refine splE ?_ ?_ | refine splNE ?_ ?_) <;> intro hc <;> first | (exfalso; omega) | (exfalso; dsimp only at hc; omega) | skip)
      | ((with_reducible show CallEv _ _ 56 _ _ _ _ _); refine callE (k := 56) (fun β w' hbw => hv _ hbw) ?_)
      | ((with_reducible show CallEv _ _ 70 _ _ _ _ _); refine callE (k := 70) (fun β w' hbw => within_ok _ _ _ _) ?_)
    all_goals first | (exfalso; omega) | exact ⟨fun β => rfl, fun w' h => h⟩
def dayV (x : To) (t n : Int) : Int × Int := if toB x = true then (if (inB t 1 (x.T.length - 1) && inB n 0 (x.days - 1)) = true then ((x.T[t.toNat]?).elim 0 fun a => dyO a n, 0) else (0, 2)) else (0, 1)
theorem Day_ok (x : Tr) (t n : Int) (w : World) (h : TrIn x w) : Calls Try.prog 34 #[x.v, iv t, iv n] w fun e w' => e = .returned (.tuple #[iv (dayV x.d t n).1, iv (dayV x.d t n).2]) ∧ Below w.heap.size w w' := by
 have hv := fun w' hb => valid_ok x w' (h.below hb)
 have hp := fun w' => played_ok x t w' h.tl
 have htl := h.tl
 have hlen : x.d.T.length = x.T.length := List.length_map ..
 have hTi := h.ti
 have hT := h.t
 unfold dayV
 rw [hlen]
 obtain ⟨b, hb⟩ : ∃ b, toB x.d = b := ⟨_, rfl⟩
 rw [hb] at hv ⊢
 cases b with
 | false =>
  obtain ⟨days, shift, size, to, tc, T, lo, lc, L⟩ := x
  refine calls_val env mixed Try.func34 has34 Try.ntmps34 [.agg #[iv days, iv shift, iv size, .slice to T.length tc, .slice lo L.length lc], iv t, iv n] (by simp) ?_
  repeat'
   conv => whnf
   first
    | refine zA ?_ | refine zB ?_ | refine zC ?_ | refine zD ?_ | refine zE ?_ | refine zF ?_ | refine zG ?_ | refine zH ?_ | refine zJ ?_ | refine zI ?_ | refine splT ?_ | refine splF ?_ | refine splNot ?_
    | ((first | refine splIn ?_ ?_ | refine splD ?_ ?_ | refine splE ?_ ?_ | refine splNE ?_ ?_) <;> intro hc <;> first | (exfalso; omega) | (exfalso; dsimp only at hc; omega) | skip)
    | ((with_reducible show CallEv _ _ 56 _ _ _ _ _); refine callE (k := 56) (fun β w' hbw => hv _ hbw) ?_)
  all_goals exact ⟨fun β => rfl, fun w' h => h⟩
 | true =>
  have hn := toB_n hb
  have hd := hn.d
  have hdx : x.d.days = x.days := rfl
  rw [hdx] at hd
  obtain ⟨q, hq⟩ : ∃ q, inB t 1 (x.T.length - 1) = q := ⟨_, rfl⟩
  rw [if_pos rfl, hq]
  rw [hq] at hp
  rw [hdx]
  by_cases hcc : q = true ∧ (0 ≤ n ∧ n ≤ x.days - 1)
  · obtain ⟨rfl, hc⟩ := hcc
    simp only [inB, Bool.and_eq_true, decide_eq_true_eq] at hq
    obtain ⟨a, ha⟩ : ∃ a, x.T[t.toNat]? = some a := ⟨_, List.getElem?_eq_getElem (by omega)⟩
    have had : x.d.T[t.toNat]? = some a.d := by simp only [Tr.d, List.getElem?_map, ha, Option.map_some]
    have h71 := fun w' hb => day_ok a n w' ((hTi a (List.mem_of_getElem? ha)).below hb) (TwN.of (hn.t t.toNat (by omega) _ had)) (by omega)
    rw [if_pos (by rw [Bool.true_and]; simp only [inB, Bool.and_eq_true, decide_eq_true_eq]; omega), had]
    obtain ⟨oo, oc, ro, rc, O, s1, s2, pay, lot, rent, R, cold, cut⟩ := a
    dsimp only [Option.elim]
    obtain ⟨days, shift, size, to, tc, T, lo, lc, L⟩ := x
    dsimp only at hc htl hq hd hT ha
    obtain ⟨_, ad, rfl, _⟩ := hT.ptr (by omega)
    have e0 := fun (w' : World) hw' => rd_atz (hT.below (w' := w') hw') ha t (by omega)
    refine calls_val env mixed Try.func34 has34 Try.ntmps34 [.agg #[iv days, iv shift, iv size, .slice (some ad) T.length tc, .slice lo L.length lc], iv t, iv n] (by simp) ?_
    repeat'
     conv => whnf
     first
      | refine zA ?_ | refine zB ?_ | refine zC ?_ | refine zD ?_ | refine zE ?_ | refine zF ?_ | refine zG ?_ | refine zH ?_ | refine zJ ?_ | refine zI ?_ | refine splT ?_ | refine splF ?_ | refine splNot ?_
      | ((first | refine splIn ?_ ?_ | refine splD ?_ ?_ | refine splE ?_ ?_ | refine splNE ?_ ?_) <;> intro hc <;> first | (exfalso; omega) | (exfalso; dsimp only at hc; omega) | skip)
      | ((with_reducible show CallEv _ _ 56 _ _ _ _ _); refine callE (k := 56) (fun β w' hbw => hv _ hbw) ?_)
      | ((with_reducible show CallEv _ _ 69 _ _ _ _ _); refine callE (k := 69) (fun β w' hbw => hp _) ?_)
      | ((with_reducible show CallEv _ _ 70 _ _ _ _ _); refine callE (k := 70) (fun β w' hbw => within_ok _ _ _ _) ?_)
      | ((with_reducible show CallEv _ _ 71 _ _ _ _ _); refine callE (k := 71) (fun β w' hbw => h71 _ hbw) ?_)
      | refine Exists.intro (α := List Value) [.slice oo O.length oc, iv s1, iv s2, iv pay, iv lot, iv rent, .slice ro R.length rc, iv cold, iv cut] ⟨⟨rfl, fun w' hw' => e0 w' hw'⟩, ?_⟩
    all_goals first | (exfalso; omega) | exact ⟨fun β => rfl, fun w' h => h⟩
  · rw [if_neg (by
     intro hh
     simp only [inB, Bool.and_eq_true, decide_eq_true_eq] at hh
     exact hcc ⟨hh.1, by omega⟩)]
    obtain ⟨days, shift, size, to, tc, T, lo, lc, L⟩ := x
    dsimp only at hcc htl hd
    refine calls_val env mixed Try.func34 has34 Try.ntmps34 [.agg #[iv days, iv shift, iv size, .slice to T.length tc, .slice lo L.length lc], iv t, iv n] (by simp) ?_
    cases q
    all_goals skip
    repeat'
     conv => whnf
     first
      | refine zA ?_ | refine zB ?_ | refine zC ?_ | refine zD ?_ | refine zE ?_ | refine zF ?_ | refine zG ?_ | refine zH ?_ | refine zJ ?_ | refine zI ?_ | refine splT ?_ | refine splF ?_ | refine splNot ?_
      | ((first | refine splIn ?_ ?_ | refine splD ?_ ?_ | refine splE ?_ ?_ | refine splNE ?_ ?_) <;> intro hc <;> first | (exfalso; omega) | (exfalso; dsimp only at hc; omega) | skip)
      | ((with_reducible show CallEv _ _ 56 _ _ _ _ _); refine callE (k := 56) (fun β w' hbw => hv _ hbw) ?_)
      | ((with_reducible show CallEv _ _ 69 _ _ _ _ _); refine callE (k := 69) (fun β w' hbw => hp _) ?_)
      | ((with_reducible show CallEv _ _ 70 _ _ _ _ _); refine callE (k := 70) (fun β w' hbw => within_ok _ _ _ _) ?_)
    all_goals first | (exfalso; omega) | (exfalso; exact hcc ⟨rfl, by omega⟩) | exact ⟨fun β => rfl, fun w' h => h⟩
end Go.Proofs.Ythfabodamhdhaaa
