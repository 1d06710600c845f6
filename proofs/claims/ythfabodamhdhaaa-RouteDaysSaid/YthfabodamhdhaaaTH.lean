/- Days lost and what a day brings, by the reference; the law of days. -/
import Derived.Test.YthfabodamhdhaaaTG
namespace Go.Proofs.Ythfabodamhdhaaa
open Go Tx Go.RowKit
set_option linter.unusedSimpArgs false
set_option linter.unusedVariables false

set_option maxHeartbeats 1000000 in
set_option maxRecDepth 100000 in
theorem rlost_ok (x : Tr) (f t : Nat) (w : World) (h : TrIn x w) (hn : ToN x.d) (hf : f < x.T.length) (ht : t < x.T.length) :
    Calls Try.prog 38 #[x.v, iv f, iv t] w fun e w' => e = .returned (iv (lsO x.d f t)) ∧ Below w.heap.size w w' := by
  obtain ⟨days, shift, size, to, tc, T, lo, lc, L⟩ := x
  obtain ⟨h1, h2, h3, h4, htl, hll, hlr, -⟩ := h
  have hs := hn.s
  have hlg := hn.leg f t
  have hls := hn.lost f t
  have hl := hn.l
  have hn9 := hn.n
  have hr9 := hn.lr
  dsimp only [Tr.d] at h1 h2 h3 h4 htl hll hlr hf ht hs hl hn9 hr9 ⊢
  simp only [List.length_map] at hl hn9 hr9
  refine calls_val env mixed Try.func38 has38 Try.ntmps38 [.agg #[iv days, iv shift, iv size, .slice to T.length tc, .slice lo L.length lc], iv f, iv t] (by simp) ?_
  obtain ⟨⟨ro, rc, r⟩, hr⟩ : ∃ r, L[f]? = some r := ⟨_, List.getElem?_eq_getElem (by omega)⟩
  have hrl := hr9 r (List.mem_of_getElem? (i := f) (by rw [List.getElem?_map, hr]; rfl))
  obtain ⟨⟨p1, p2⟩, hp⟩ : ∃ p, r[t]? = some p := ⟨_, List.getElem?_eq_getElem (by omega)⟩
  have hrd := h4 _ (List.mem_of_getElem? hr)
  dsimp only at hrd
  obtain ⟨_, la, rfl, _⟩ := h3.ptr (by omega)
  obtain ⟨_, ra, rfl, _⟩ := hrd.ptr (by omega)
  have hlgo : lgO (Tr.d ⟨days, shift, size, to, tc, T, some la, lc, L⟩) f t = (p1, p2) := by
    simp only [lgO, Tr.d, List.getElem?_map, hr, Option.map_some, Option.getD_some, hp]
  have e1 := fun (w' : World) hw' => rd_ati (h3.below (w' := w') hw') hr
  have e2 := fun (w' : World) hw' => rd_fld (hrd.below (w' := w') hw') hp 0 (iv p1) rfl
  have hv : lsO (Tr.d ⟨days, shift, size, to, tc, T, some la, lc, L⟩) f t = imax 0 ((p1 + shift - 1).tdiv shift - 1) := by unfold lsO; rw [hlgo]
  rw [hlgo] at hlg
  have hq : 0 ≤ (p1 + shift - 1).tdiv shift ∧ (p1 + shift - 1).tdiv shift ≤ 300 := by
    rw [hv, imax_eq] at hls
    have := Int.tdiv_nonneg (a := p1 + shift - 1) (b := shift) (by omega) (by omega)
    omega
  rw [hv]
  generalize hqq : (p1 + shift - 1).tdiv shift = q at *
  repeat'
   conv => whnf
   first
    | refine zA ?_ | refine zB ?_ | refine zC ?_ | refine zD ?_ | refine zE ?_ | refine zF ?_ | refine zG ?_ | refine zH ?_ | refine zJ ?_ | refine zI ?_ | refine splT ?_ | refine splF ?_ | refine splNot ?_
    | ((first | refine splIn (fun hc => ?_) (fun hc => ?_) | refine splD (fun hc => ?_) (fun hc => ?_) | refine splE (fun hc => ?_) (fun hc => ?_) | refine splNE (fun hc => ?_) (fun hc => ?_)) <;> first | (exfalso; omega) | (exfalso; dsimp only at hc; omega) | skip)
    | refine Exists.intro (α := List Value) [.slice (some ra) r.length rc] ⟨⟨rfl, fun w' hw' => e1 w' hw'⟩, ?_⟩
    | refine Exists.intro (α := List Value) [iv p1] ⟨⟨rfl, fun w' hw' => e2 w' hw'⟩, ?_⟩
    | refine Exists.intro (α := Int) q ⟨⟨by omega, hqq, by constructor <;> omega⟩, ?_⟩
  all_goals first | (exfalso; omega) | exact ⟨fun β => rfl, fun w' h => h⟩
set_option maxHeartbeats 2000000 in
set_option maxRecDepth 100000 in
theorem rday_ok (x : Tr) (k : Nat) (n : Int) (a : Tn) (w : World) (h : TrIn x w) (hk : x.T[k]? = some a) (hn : TwN a.d) (hb : -9000000000000 ≤ n ∧ n ≤ 9000000000000) :
    Calls Try.prog 39 #[x.v, iv k, iv n] w fun e w' => e = .returned (iv (dyO a.d n)) ∧ Below w.heap.size w w' := by
  have hTi := h.ti a (List.mem_of_getElem? hk)
  have hT := h.t
  have htl := h.tl
  obtain ⟨days, shift, size, to, tc, T, lo, lc, L⟩ := x
  obtain ⟨oo, oc, ro, rc, O, s1, s2, pay, lot, rent, R, cold, cut⟩ := a
  dsimp only at hT hk htl
  obtain ⟨-, h2, -, h4⟩ := hTi
  have hp := hn.p
  have hc := hn.c
  have hkc := hn.k
  have hr := hn.r.2
  have hpc := hn.pc
  dsimp only at h2 h4 hp hc hkc hr hpc ⊢
  have hkl := (List.getElem?_eq_some_iff.1 hk).1
  obtain ⟨_, ta, rfl, _⟩ := hT.ptr (by omega)
  have e9 := fun (w' : World) hw' => rd_ati (hT.below (w' := w') hw') hk
  refine calls_val env mixed Try.func39 has39 Try.ntmps39 [.agg #[iv days, iv shift, iv size, .slice (some ta) T.length tc, .slice lo L.length lc], iv k, iv n] (by simp) ?_
  unfold dyO rvB
  obtain ⟨q, hq⟩ : ∃ q, (pay * (1000 - cut)).tdiv 1000 = q := ⟨_, rfl⟩
  have hqb : 0 ≤ q ∧ q ≤ 1000000 := by
    rw [Int.tdiv_eq_ediv_of_nonneg hpc.1] at hq
    omega
  dsimp only
  rw [hq]
  repeat'
   conv => whnf
   first
    | refine zA ?_ | refine zB ?_ | refine zC ?_ | refine zD ?_ | refine zE ?_ | refine zF ?_ | refine zG ?_ | refine zH ?_ | refine zJ ?_ | refine zI ?_ | refine splT ?_ | refine splF ?_ | refine splNot ?_
    | ((first | refine splIn (fun hc => ?_) (fun hc => ?_) | refine splD (fun hc => ?_) (fun hc => ?_) | refine splE (fun hc => ?_) (fun hc => ?_) | refine splNE (fun hc => ?_) (fun hc => ?_)) <;> first | (exfalso; omega) | (exfalso; dsimp only at hc; omega) | skip)
    | refine Exists.intro (α := List Value) [.slice oo O.length oc, iv s1, iv s2, iv pay, iv lot, iv rent, .slice ro R.length rc, iv cold, iv cut] ⟨⟨rfl, fun w' hw' => e9 w' hw'⟩, ?_⟩
  all_goals first | (exfalso; omega) | skip
  refine loopE (fun i : Nat => [(2, .v (iv n)), (7, .ptr 1 0), (8, .v (iv i))]) (fun _ => [(1, .cells [.v (.slice oo O.length oc), .v (iv s1), .v (iv s2), .v (iv pay), .v (iv lot), .v (iv rent), .v (.slice ro R.length rc), .v (iv cold), .v (iv cut)] 69)])
    (fun i => i ≤ R.length ∧ ((R.take i).any fun r => inB n r.1 (r.2 + cold)) = false) (fun i => R.length - i) 0 ⟨Nat.zero_le _, rfl⟩ ⟨rfl, rfl, rfl, trivial⟩ ⟨rfl, trivial⟩ (fun _ => ⟨rfl, rfl⟩) ?_
  intro i ⟨hi, hall⟩
  rcases Nat.lt_or_ge i R.length with hil | hil
  · obtain ⟨⟨r1, r2⟩, hx⟩ : ∃ b, R[i]? = some b := ⟨_, List.getElem?_eq_getElem hil⟩
    obtain ⟨_, ad, rfl, _⟩ := h2.ptr (by omega)
    have e0 := fun (w' : World) hw' => rd_fldz (h2.below (w' := w') hw') hx _ rfl 0 (iv r1) rfl
    have e1 := fun (w' : World) hw' => rd_fldz (h2.below (w' := w') hw') hx _ rfl 1 (iv r2) rfl
    have ht := any_take (p := fun r : Int × Int => inB n r.1 (r.2 + cold)) hx
    rw [hall, Bool.false_or] at ht
    have hrb := hr _ (List.mem_of_getElem? hx)
    have hyes := any_yes (p := fun r : Int × Int => inB n r.1 (r.2 + cold)) hx
    dsimp only at hrb ht hyes
    have h37 := fun w' : World => In_ok n r1 (r2 + cold) w'
    obtain ⟨v, hv⟩ : ∃ v, inB n r1 (r2 + cold) = v := ⟨_, rfl⟩
    rw [hv] at ht hyes h37
    cases v with
    | false =>
      repeat'
       conv => whnf
       first
        | refine zA ?_ | refine zB ?_ | refine zC ?_ | refine zD ?_ | refine zE ?_ | refine zF ?_ | refine zG ?_ | refine zH ?_ | refine zJ ?_ | refine zI ?_ | refine splT ?_ | refine splF ?_ | refine splNot ?_
        | ((first | refine splIn (fun hc => ?_) (fun hc => ?_) | refine splD (fun hc => ?_) (fun hc => ?_) | refine splE (fun hc => ?_) (fun hc => ?_) | refine splNE (fun hc => ?_) (fun hc => ?_)) <;> first | (exfalso; omega) | (exfalso; dsimp only at hc; omega) | skip)
        | refine Exists.intro (α := List Value) [iv r1] ⟨⟨rfl, fun w' hw' => e0 w' hw'⟩, ?_⟩
        | refine Exists.intro (α := List Value) [iv r2] ⟨⟨rfl, fun w' hw' => e1 w' hw'⟩, ?_⟩
        | ((with_reducible show CallEv _ _ 37 _ _ _ _ _); refine callE (k := 37) (fun β w' hbw => h37 w') ?_)
      all_goals first | (exfalso; omega) | exact ⟨i + 1, ⟨by omega, ht⟩, by omega, Ent.weak rfl ⟨rfl, rfl, rfl, trivial⟩ ⟨rfl, trivial⟩ fun _ h => h⟩
    | true =>
      rw [hyes rfl, if_pos rfl]
      repeat'
       conv => whnf
       first
        | refine zA ?_ | refine zB ?_ | refine zC ?_ | refine zD ?_ | refine zE ?_ | refine zF ?_ | refine zG ?_ | refine zH ?_ | refine zJ ?_ | refine zI ?_ | refine splT ?_ | refine splF ?_ | refine splNot ?_
        | ((first | refine splIn (fun hc => ?_) (fun hc => ?_) | refine splD (fun hc => ?_) (fun hc => ?_) | refine splE (fun hc => ?_) (fun hc => ?_) | refine splNE (fun hc => ?_) (fun hc => ?_)) <;> first | (exfalso; omega) | (exfalso; dsimp only at hc; omega) | skip)
        | refine Exists.intro (α := List Value) [iv r1] ⟨⟨rfl, fun w' hw' => e0 w' hw'⟩, ?_⟩
        | refine Exists.intro (α := List Value) [iv r2] ⟨⟨rfl, fun w' hw' => e1 w' hw'⟩, ?_⟩
        | ((with_reducible show CallEv _ _ 37 _ _ _ _ _); refine callE (k := 37) (fun β w' hbw => h37 w') ?_)
        | refine Exists.intro (α := Int) q ⟨⟨by omega, hq, by constructor <;> omega⟩, ?_⟩
      all_goals first | (exfalso; omega) | exact ⟨fun β => rfl, fun w' h => h⟩
  · rw [List.take_of_length_le hil] at hall
    rw [hall, if_neg (by decide)]
    repeat'
     conv => whnf
     first
      | refine zA ?_ | refine zB ?_ | refine zC ?_ | refine zD ?_ | refine zE ?_ | refine zF ?_ | refine zG ?_ | refine zH ?_ | refine zJ ?_ | refine zI ?_ | refine splT ?_ | refine splF ?_ | refine splNot ?_
      | ((first | refine splIn (fun hc => ?_) (fun hc => ?_) | refine splD (fun hc => ?_) (fun hc => ?_) | refine splE (fun hc => ?_) (fun hc => ?_) | refine splNE (fun hc => ?_) (fun hc => ?_)) <;> first | (exfalso; omega) | (exfalso; dsimp only at hc; omega) | skip)
    all_goals first | (exfalso; omega) | exact ⟨fun β => rfl, fun w' h => h⟩
set_option maxHeartbeats 8000000 in
set_option maxRecDepth 100000 in
theorem RouteDays_ok (x : Tr) (f t k n : Int) (w : World) (h : TrI0 x w) : Calls Try.prog 7 #[x.v, iv f, iv t, iv k, iv n] w fun e w' => e = .returned (.bool true) ∧ Below w.heap.size w w' := by
  have h17 := fun w' hb => Small_ok x w' (h.below hb)
  have h22 := fun w' hb => Right_ok x w' (h.below hb)
  have hlen : x.d.T.length = x.T.length := List.length_map ..
  cases hsm : smB x.d with
  | false =>
    rw [hsm] at h17
    clear h hlen
    obtain ⟨days, shift, size, to, tc, T, lo, lc, L⟩ := x
    refine calls_val env mixed Try.func7 has7 Try.ntmps7 [.agg #[iv days, iv shift, iv size, .slice to T.length tc, .slice lo L.length lc], iv f, iv t, iv k, iv n] (by simp) ?_
    repeat'
     conv => whnf
     first
      | refine zA ?_ | refine zB ?_ | refine zC ?_ | refine zD ?_ | refine zE ?_ | refine zF ?_ | refine zG ?_ | refine zH ?_ | refine zJ ?_ | refine zI ?_ | refine splT ?_ | refine splF ?_ | refine splNot ?_
      | ((first | refine splIn (fun hc => ?_) (fun hc => ?_) | refine splD (fun hc => ?_) (fun hc => ?_) | refine splE (fun hc => ?_) (fun hc => ?_) | refine splNE (fun hc => ?_) (fun hc => ?_)) <;> first | (exfalso; omega) | (exfalso; dsimp only at hc; omega) | skip)
      | ((with_reducible show CallEv _ _ 17 _ _ _ _ _); refine callE (k := 17) (fun β w' hbw => h17 w' (by first | exact hbw | exact hbw.1 | exact hbw.1.1 | exact hbw.1.1.1 | exact hbw.1.1.1.1 | exact hbw.1.1.1.1.1 | exact hbw.1.1.1.1.1.1 | exact hbw.1.1.1.1.1.1.1 | exact hbw.1.1.1.1.1.1.1.1 | exact hbw.1.1.1.1.1.1.1.1.1 | exact hbw.1.1.1.1.1.1.1.1.1.1 | exact hbw.1.1.1.1.1.1.1.1.1.1.1 | exact hbw.1.1.1.1.1.1.1.1.1.1.1.1 | exact hbw.1.1.1.1.1.1.1.1.1.1.1.1.1)) ?_)
      | ((with_reducible show CallEv _ _ 19 _ _ _ _ _); refine callE (k := 19) (fun β w' hbw => awake_ok w') ?_)
    all_goals first | (exfalso; omega) | exact ⟨fun β => rfl, fun w' h => (by first | exact h | exact h.1 | exact h.1.1 | exact h.1.1.1 | exact h.1.1.1.1 | exact h.1.1.1.1.1 | exact h.1.1.1.1.1.1 | exact h.1.1.1.1.1.1.1 | exact h.1.1.1.1.1.1.1.1 | exact h.1.1.1.1.1.1.1.1.1 | exact h.1.1.1.1.1.1.1.1.1.1 | exact h.1.1.1.1.1.1.1.1.1.1.1 | exact h.1.1.1.1.1.1.1.1.1.1.1.1 | exact h.1.1.1.1.1.1.1.1.1.1.1.1.1)⟩
  | true =>
    rw [hsm] at h17
    have hB := smB_b hsm
    have hI := h.b hB
    have hT := fun w' hb => Tour_ok x w' (hI.below hb) hB
    cases hto : toB x.d with
    | false =>
      rw [hto] at h22
      have h35 : ∀ y w', TrIn y w' ∧ y.d = x.d → Calls Try.prog 35 #[y.v, iv f, iv t] w' fun e w2 => e = .returned (.tuple #[iv 0, iv 1]) ∧ Below w'.heap.size w' w2 := fun y w' hy => by
        have := Lost_ok y f t w' hy.1
        rw [hy.2, lostV, hto, if_neg (by decide)] at this
        exact this
      have h34 : ∀ y w', TrIn y w' ∧ y.d = x.d → Calls Try.prog 34 #[y.v, iv k, iv n] w' fun e w2 => e = .returned (.tuple #[iv 0, iv 1]) ∧ Below w'.heap.size w' w2 := fun y w' hy => by
        have := Day_ok y k n w' hy.1
        rw [hy.2, dayV, hto, if_neg (by decide)] at this
        exact this
      have h36 : ∀ y w', TrIn y w' ∧ y.d = x.d → Calls Try.prog 36 #[y.v] w' fun e w2 => e = .returned (iv 1) ∧ Below w'.heap.size w' w2 := fun y w' hy => by
        have := CheckTour_ok y w' hy.1
        rw [hy.2, hto, if_neg (by decide)] at this
        exact this
      clear h hlen hI hB
      obtain ⟨days, shift, size, to, tc, T, lo, lc, L⟩ := x
      refine calls_val env mixed Try.func7 has7 Try.ntmps7 [.agg #[iv days, iv shift, iv size, .slice to T.length tc, .slice lo L.length lc], iv f, iv t, iv k, iv n] (by simp) ?_
      repeat'
       conv => whnf
       first
        | refine zA ?_ | refine zB ?_ | refine zC ?_ | refine zD ?_ | refine zE ?_ | refine zF ?_ | refine zG ?_ | refine zH ?_ | refine zJ ?_ | refine zI ?_ | refine splT ?_ | refine splF ?_ | refine splNot ?_
        | ((first | refine splIn (fun hc => ?_) (fun hc => ?_) | refine splD (fun hc => ?_) (fun hc => ?_) | refine splE (fun hc => ?_) (fun hc => ?_) | refine splNE (fun hc => ?_) (fun hc => ?_)) <;> first | (exfalso; omega) | (exfalso; dsimp only at hc; omega) | skip)
        | ((with_reducible show CallEv _ _ 17 _ _ _ _ _); refine callE (k := 17) (fun β w' hbw => h17 w' (by first | exact hbw | exact hbw.1 | exact hbw.1.1 | exact hbw.1.1.1 | exact hbw.1.1.1.1 | exact hbw.1.1.1.1.1 | exact hbw.1.1.1.1.1.1 | exact hbw.1.1.1.1.1.1.1 | exact hbw.1.1.1.1.1.1.1.1 | exact hbw.1.1.1.1.1.1.1.1.1 | exact hbw.1.1.1.1.1.1.1.1.1.1 | exact hbw.1.1.1.1.1.1.1.1.1.1.1 | exact hbw.1.1.1.1.1.1.1.1.1.1.1.1 | exact hbw.1.1.1.1.1.1.1.1.1.1.1.1.1)) ?_)
        | ((with_reducible show CallEv _ _ 19 _ _ _ _ _); refine callE (k := 19) (fun β w' hbw => awake_ok w') ?_)
        | ((with_reducible show CallEv _ _ 21 _ _ _ _ _); refine callF [] (fun y : Tr => y.v) (fun y w2 => TrIn y w2 ∧ y.d = Tr.d ⟨days, shift, size, to, tc, T, lo, lc, L⟩) (fun β w' _ hbw => hT w' (by first | exact hbw | exact hbw.1 | exact hbw.1.1 | exact hbw.1.1.1 | exact hbw.1.1.1.1 | exact hbw.1.1.1.1.1 | exact hbw.1.1.1.1.1.1 | exact hbw.1.1.1.1.1.1.1 | exact hbw.1.1.1.1.1.1.1.1 | exact hbw.1.1.1.1.1.1.1.1.1 | exact hbw.1.1.1.1.1.1.1.1.1.1 | exact hbw.1.1.1.1.1.1.1.1.1.1.1 | exact hbw.1.1.1.1.1.1.1.1.1.1.1.1 | exact hbw.1.1.1.1.1.1.1.1.1.1.1.1.1)) ?_; intro y)
        | ((with_reducible show CallEv _ _ 35 _ _ _ _ _); refine callE (k := 35) (fun β w' hbw => h35 y w' hbw.2) ?_)
        | ((with_reducible show CallEv _ _ 34 _ _ _ _ _); refine callE (k := 34) (fun β w' hbw => h34 y w' hbw.2) ?_)
        | ((with_reducible show CallEv _ _ 22 _ _ _ _ _); refine callE (k := 22) (fun β w' hbw => h22 w' (by first | exact hbw | exact hbw.1 | exact hbw.1.1 | exact hbw.1.1.1 | exact hbw.1.1.1.1 | exact hbw.1.1.1.1.1 | exact hbw.1.1.1.1.1.1 | exact hbw.1.1.1.1.1.1.1 | exact hbw.1.1.1.1.1.1.1.1 | exact hbw.1.1.1.1.1.1.1.1.1 | exact hbw.1.1.1.1.1.1.1.1.1.1 | exact hbw.1.1.1.1.1.1.1.1.1.1.1 | exact hbw.1.1.1.1.1.1.1.1.1.1.1.1 | exact hbw.1.1.1.1.1.1.1.1.1.1.1.1.1)) ?_)
        | ((with_reducible show CallEv _ _ 36 _ _ _ _ _); refine callE (k := 36) (fun β w' hbw => h36 y w' hbw.2) ?_)
        | ((with_reducible show CallEv _ _ 37 _ _ _ _ _); refine callE (k := 37) (fun β w' hbw => In_ok _ _ _ w') ?_)
      all_goals first | (exfalso; omega) | exact ⟨fun β => rfl, fun w' h => (by first | exact h | exact h.1 | exact h.1.1 | exact h.1.1.1 | exact h.1.1.1.1 | exact h.1.1.1.1.1 | exact h.1.1.1.1.1.1 | exact h.1.1.1.1.1.1.1 | exact h.1.1.1.1.1.1.1.1 | exact h.1.1.1.1.1.1.1.1.1 | exact h.1.1.1.1.1.1.1.1.1.1 | exact h.1.1.1.1.1.1.1.1.1.1.1 | exact h.1.1.1.1.1.1.1.1.1.1.1.1 | exact h.1.1.1.1.1.1.1.1.1.1.1.1.1)⟩
    | true =>
      rw [hto] at h22
      have hn := toB_n hto
      have hday := hn.d
      have hnT := hn.n
      rw [hlen] at hnT
      have h36 : ∀ y w', TrIn y w' ∧ y.d = x.d → Calls Try.prog 36 #[y.v] w' fun e w2 => e = .returned (iv 0) ∧ Below w'.heap.size w' w2 := fun y w' hy => by
        have := CheckTour_ok y w' hy.1
        rw [hy.2, hto, if_pos rfl] at this
        exact this
      have h38 := fun (h1 : 0 ≤ f ∧ f < x.T.length) (h2 : 0 ≤ t ∧ t < x.T.length) w' hb => rlost_ok x f.toNat t.toNat w' (hI.below hb) hn (by omega) (by omega)
      have h39 := fun (h1 : 1 ≤ k ∧ k < x.T.length) (h2 : 0 ≤ n ∧ n ≤ x.days - 1) a (ha : x.T[k.toNat]? = some a) w' hb => rday_ok x k.toNat n a w' (hI.below hb) ha (TwN.of (hn.t k.toNat (by omega) a.d (by rw [List.getElem?_map, ha]; rfl))) (by have : x.d.days = x.days := rfl; omega)
      have h35 : ∀ y w', TrIn y w' ∧ y.d = x.d → Calls Try.prog 35 #[y.v, iv f, iv t] w' fun e w2 => e = .returned (.tuple #[iv (lostV x.d f t).1, iv (lostV x.d f t).2]) ∧ Below w'.heap.size w' w2 := fun y w' hy => by
        have := Lost_ok y f t w' hy.1
        rw [hy.2] at this
        exact this
      have h34 : ∀ y w', TrIn y w' ∧ y.d = x.d → Calls Try.prog 34 #[y.v, iv k, iv n] w' fun e w2 => e = .returned (.tuple #[iv (dayV x.d k n).1, iv (dayV x.d k n).2]) ∧ Below w'.heap.size w' w2 := fun y w' hy => by
        have := Day_ok y k n w' hy.1
        rw [hy.2] at this
        exact this
      have hdx : x.d.days = x.days := rfl
      simp only [lostV, hto, if_true, hlen] at h35
      simp only [dayV, hto, if_true, hlen, hdx] at h34
      rw [hdx] at hday
      have hA : ∀ (p : Prop) [Decidable p] (b : Bool), (b = true ↔ p) → b = decide p := fun p _ b hb => by rw [Bool.eq_iff_iff, hb, decide_eq_true_iff]
      have iA : (inB f 0 ((x.T.length : Int) - 1) && inB t 0 ((x.T.length : Int) - 1)) = true ↔ ((0 ≤ f ∧ f < x.T.length) ∧ (0 ≤ t ∧ t < x.T.length)) := by simp only [inB, Bool.and_eq_true, decide_eq_true_eq]; omega
      have iB : (inB k 1 ((x.T.length : Int) - 1) && inB n 0 (x.days - 1)) = true ↔ ((1 ≤ k ∧ k < x.T.length) ∧ (0 ≤ n ∧ n ≤ x.days - 1)) := by simp only [inB, Bool.and_eq_true, decide_eq_true_eq]; omega
      by_cases cA : ((0 ≤ f ∧ f < x.T.length) ∧ (0 ≤ t ∧ t < x.T.length))
      · have h38' := h38 cA.1 cA.2
        rw [Int.toNat_of_nonneg cA.1.1, Int.toNat_of_nonneg cA.2.1] at h38'
        rw [if_pos (iA.2 cA)] at h35
        generalize lsO x.d f.toNat t.toNat = ls at *
        by_cases cB : ((1 ≤ k ∧ k < x.T.length) ∧ (0 ≤ n ∧ n ≤ x.days - 1))
        · obtain ⟨a, ha⟩ : ∃ a, x.T[k.toNat]? = some a := ⟨_, List.getElem?_eq_getElem (by omega)⟩
          have h39' := h39 cB.1 cB.2 a ha
          rw [Int.toNat_of_nonneg (by omega)] at h39'
          have hda : x.d.T[k.toNat]? = some a.d := by rw [List.getElem?_map, ha]; rfl
          rw [if_pos (iB.2 cB), hda] at h34
          dsimp only [Option.elim] at h34
          generalize dyO a.d n = dv at *
          clear hI h hn hB hA iA iB
          obtain ⟨days, shift, size, to, tc, T, lo, lc, L⟩ := x
          dsimp only at hnT hday cA cB
          refine calls_val env mixed Try.func7 has7 Try.ntmps7 [.agg #[iv days, iv shift, iv size, .slice to T.length tc, .slice lo L.length lc], iv f, iv t, iv k, iv n] (by simp) ?_
          repeat'
           conv => whnf
           first
            | refine zA ?_ | refine zB ?_ | refine zC ?_ | refine zD ?_ | refine zE ?_ | refine zF ?_ | refine zG ?_ | refine zH ?_ | refine zJ ?_ | refine zI ?_ | refine splT ?_ | refine splF ?_ | refine splNot ?_
            | ((first | refine splIn (fun hc => ?_) (fun hc => ?_) | refine splD (fun hc => ?_) (fun hc => ?_) | refine splE (fun hc => ?_) (fun hc => ?_) | refine splNE (fun hc => ?_) (fun hc => ?_)) <;> first | (exfalso; omega) | (exfalso; dsimp only at hc; omega) | skip)
            | ((with_reducible show CallEv _ _ 17 _ _ _ _ _); refine callE (k := 17) (fun β w' hbw => h17 w' (by first | exact hbw | exact hbw.1 | exact hbw.1.1 | exact hbw.1.1.1 | exact hbw.1.1.1.1 | exact hbw.1.1.1.1.1 | exact hbw.1.1.1.1.1.1 | exact hbw.1.1.1.1.1.1.1 | exact hbw.1.1.1.1.1.1.1.1 | exact hbw.1.1.1.1.1.1.1.1.1 | exact hbw.1.1.1.1.1.1.1.1.1.1 | exact hbw.1.1.1.1.1.1.1.1.1.1.1 | exact hbw.1.1.1.1.1.1.1.1.1.1.1.1 | exact hbw.1.1.1.1.1.1.1.1.1.1.1.1.1)) ?_)
            | ((with_reducible show CallEv _ _ 19 _ _ _ _ _); refine callE (k := 19) (fun β w' hbw => awake_ok w') ?_)
            | ((with_reducible show CallEv _ _ 21 _ _ _ _ _); refine callF [] (fun y : Tr => y.v) (fun y w2 => TrIn y w2 ∧ y.d = Tr.d ⟨days, shift, size, to, tc, T, lo, lc, L⟩) (fun β w' _ hbw => hT w' (by first | exact hbw | exact hbw.1 | exact hbw.1.1 | exact hbw.1.1.1 | exact hbw.1.1.1.1 | exact hbw.1.1.1.1.1 | exact hbw.1.1.1.1.1.1 | exact hbw.1.1.1.1.1.1.1 | exact hbw.1.1.1.1.1.1.1.1 | exact hbw.1.1.1.1.1.1.1.1.1 | exact hbw.1.1.1.1.1.1.1.1.1.1 | exact hbw.1.1.1.1.1.1.1.1.1.1.1 | exact hbw.1.1.1.1.1.1.1.1.1.1.1.1 | exact hbw.1.1.1.1.1.1.1.1.1.1.1.1.1)) ?_; intro y)
            | ((with_reducible show CallEv _ _ 35 _ _ _ _ _); refine callE (k := 35) (fun β w' hbw => h35 y w' hbw.2) ?_)
            | ((with_reducible show CallEv _ _ 34 _ _ _ _ _); refine callE (k := 34) (fun β w' hbw => h34 y w' hbw.2) ?_)
            | ((with_reducible show CallEv _ _ 22 _ _ _ _ _); refine callE (k := 22) (fun β w' hbw => h22 w' (by first | exact hbw | exact hbw.1 | exact hbw.1.1 | exact hbw.1.1.1 | exact hbw.1.1.1.1 | exact hbw.1.1.1.1.1 | exact hbw.1.1.1.1.1.1 | exact hbw.1.1.1.1.1.1.1 | exact hbw.1.1.1.1.1.1.1.1 | exact hbw.1.1.1.1.1.1.1.1.1 | exact hbw.1.1.1.1.1.1.1.1.1.1 | exact hbw.1.1.1.1.1.1.1.1.1.1.1 | exact hbw.1.1.1.1.1.1.1.1.1.1.1.1 | exact hbw.1.1.1.1.1.1.1.1.1.1.1.1.1)) ?_)
            | ((with_reducible show CallEv _ _ 36 _ _ _ _ _); refine callE (k := 36) (fun β w' hbw => h36 y w' hbw.2) ?_)
            | ((with_reducible show CallEv _ _ 37 _ _ _ _ _); refine callE (k := 37) (fun β w' hbw => In_ok _ _ _ w') ?_)
            | ((with_reducible show CallEv _ _ 38 _ _ _ _ _); refine callE (k := 38) (fun β w' hbw => h38' w' (by first | exact hbw | exact hbw.1 | exact hbw.1.1 | exact hbw.1.1.1 | exact hbw.1.1.1.1 | exact hbw.1.1.1.1.1 | exact hbw.1.1.1.1.1.1 | exact hbw.1.1.1.1.1.1.1 | exact hbw.1.1.1.1.1.1.1.1 | exact hbw.1.1.1.1.1.1.1.1.1 | exact hbw.1.1.1.1.1.1.1.1.1.1 | exact hbw.1.1.1.1.1.1.1.1.1.1.1 | exact hbw.1.1.1.1.1.1.1.1.1.1.1.1 | exact hbw.1.1.1.1.1.1.1.1.1.1.1.1.1)) ?_)
            | ((with_reducible show CallEv _ _ 39 _ _ _ _ _); refine callE (k := 39) (fun β w' hbw => h39' w' (by first | exact hbw | exact hbw.1 | exact hbw.1.1 | exact hbw.1.1.1 | exact hbw.1.1.1.1 | exact hbw.1.1.1.1.1 | exact hbw.1.1.1.1.1.1 | exact hbw.1.1.1.1.1.1.1 | exact hbw.1.1.1.1.1.1.1.1 | exact hbw.1.1.1.1.1.1.1.1.1 | exact hbw.1.1.1.1.1.1.1.1.1.1 | exact hbw.1.1.1.1.1.1.1.1.1.1.1 | exact hbw.1.1.1.1.1.1.1.1.1.1.1.1 | exact hbw.1.1.1.1.1.1.1.1.1.1.1.1.1)) ?_)
          all_goals first | (exfalso; omega) | exact ⟨fun β => rfl, fun w' h => (by first | exact h | exact h.1 | exact h.1.1 | exact h.1.1.1 | exact h.1.1.1.1 | exact h.1.1.1.1.1 | exact h.1.1.1.1.1.1 | exact h.1.1.1.1.1.1.1 | exact h.1.1.1.1.1.1.1.1 | exact h.1.1.1.1.1.1.1.1.1 | exact h.1.1.1.1.1.1.1.1.1.1 | exact h.1.1.1.1.1.1.1.1.1.1.1 | exact h.1.1.1.1.1.1.1.1.1.1.1.1 | exact h.1.1.1.1.1.1.1.1.1.1.1.1.1)⟩
        · rw [if_neg (fun hc => cB (iB.1 hc))] at h34
          clear hI h hn hB hA iA iB
          obtain ⟨days, shift, size, to, tc, T, lo, lc, L⟩ := x
          dsimp only at hnT hday cA cB
          refine calls_val env mixed Try.func7 has7 Try.ntmps7 [.agg #[iv days, iv shift, iv size, .slice to T.length tc, .slice lo L.length lc], iv f, iv t, iv k, iv n] (by simp) ?_
          repeat'
           conv => whnf
           first
            | refine zA ?_ | refine zB ?_ | refine zC ?_ | refine zD ?_ | refine zE ?_ | refine zF ?_ | refine zG ?_ | refine zH ?_ | refine zJ ?_ | refine zI ?_ | refine splT ?_ | refine splF ?_ | refine splNot ?_
            | ((first | refine splIn (fun hc => ?_) (fun hc => ?_) | refine splD (fun hc => ?_) (fun hc => ?_) | refine splE (fun hc => ?_) (fun hc => ?_) | refine splNE (fun hc => ?_) (fun hc => ?_)) <;> first | (exfalso; omega) | (exfalso; dsimp only at hc; omega) | skip)
            | ((with_reducible show CallEv _ _ 17 _ _ _ _ _); refine callE (k := 17) (fun β w' hbw => h17 w' (by first | exact hbw | exact hbw.1 | exact hbw.1.1 | exact hbw.1.1.1 | exact hbw.1.1.1.1 | exact hbw.1.1.1.1.1 | exact hbw.1.1.1.1.1.1 | exact hbw.1.1.1.1.1.1.1 | exact hbw.1.1.1.1.1.1.1.1 | exact hbw.1.1.1.1.1.1.1.1.1 | exact hbw.1.1.1.1.1.1.1.1.1.1 | exact hbw.1.1.1.1.1.1.1.1.1.1.1 | exact hbw.1.1.1.1.1.1.1.1.1.1.1.1 | exact hbw.1.1.1.1.1.1.1.1.1.1.1.1.1)) ?_)
            | ((with_reducible show CallEv _ _ 19 _ _ _ _ _); refine callE (k := 19) (fun β w' hbw => awake_ok w') ?_)
            | ((with_reducible show CallEv _ _ 21 _ _ _ _ _); refine callF [] (fun y : Tr => y.v) (fun y w2 => TrIn y w2 ∧ y.d = Tr.d ⟨days, shift, size, to, tc, T, lo, lc, L⟩) (fun β w' _ hbw => hT w' (by first | exact hbw | exact hbw.1 | exact hbw.1.1 | exact hbw.1.1.1 | exact hbw.1.1.1.1 | exact hbw.1.1.1.1.1 | exact hbw.1.1.1.1.1.1 | exact hbw.1.1.1.1.1.1.1 | exact hbw.1.1.1.1.1.1.1.1 | exact hbw.1.1.1.1.1.1.1.1.1 | exact hbw.1.1.1.1.1.1.1.1.1.1 | exact hbw.1.1.1.1.1.1.1.1.1.1.1 | exact hbw.1.1.1.1.1.1.1.1.1.1.1.1 | exact hbw.1.1.1.1.1.1.1.1.1.1.1.1.1)) ?_; intro y)
            | ((with_reducible show CallEv _ _ 35 _ _ _ _ _); refine callE (k := 35) (fun β w' hbw => h35 y w' hbw.2) ?_)
            | ((with_reducible show CallEv _ _ 34 _ _ _ _ _); refine callE (k := 34) (fun β w' hbw => h34 y w' hbw.2) ?_)
            | ((with_reducible show CallEv _ _ 22 _ _ _ _ _); refine callE (k := 22) (fun β w' hbw => h22 w' (by first | exact hbw | exact hbw.1 | exact hbw.1.1 | exact hbw.1.1.1 | exact hbw.1.1.1.1 | exact hbw.1.1.1.1.1 | exact hbw.1.1.1.1.1.1 | exact hbw.1.1.1.1.1.1.1 | exact hbw.1.1.1.1.1.1.1.1 | exact hbw.1.1.1.1.1.1.1.1.1 | exact hbw.1.1.1.1.1.1.1.1.1.1 | exact hbw.1.1.1.1.1.1.1.1.1.1.1 | exact hbw.1.1.1.1.1.1.1.1.1.1.1.1 | exact hbw.1.1.1.1.1.1.1.1.1.1.1.1.1)) ?_)
            | ((with_reducible show CallEv _ _ 36 _ _ _ _ _); refine callE (k := 36) (fun β w' hbw => h36 y w' hbw.2) ?_)
            | ((with_reducible show CallEv _ _ 37 _ _ _ _ _); refine callE (k := 37) (fun β w' hbw => In_ok _ _ _ w') ?_)
            | ((with_reducible show CallEv _ _ 38 _ _ _ _ _); refine callE (k := 38) (fun β w' hbw => h38' w' (by first | exact hbw | exact hbw.1 | exact hbw.1.1 | exact hbw.1.1.1 | exact hbw.1.1.1.1 | exact hbw.1.1.1.1.1 | exact hbw.1.1.1.1.1.1 | exact hbw.1.1.1.1.1.1.1 | exact hbw.1.1.1.1.1.1.1.1 | exact hbw.1.1.1.1.1.1.1.1.1 | exact hbw.1.1.1.1.1.1.1.1.1.1 | exact hbw.1.1.1.1.1.1.1.1.1.1.1 | exact hbw.1.1.1.1.1.1.1.1.1.1.1.1 | exact hbw.1.1.1.1.1.1.1.1.1.1.1.1.1)) ?_)
          all_goals first | (exfalso; omega) | exact ⟨fun β => rfl, fun w' h => (by first | exact h | exact h.1 | exact h.1.1 | exact h.1.1.1 | exact h.1.1.1.1 | exact h.1.1.1.1.1 | exact h.1.1.1.1.1.1 | exact h.1.1.1.1.1.1.1 | exact h.1.1.1.1.1.1.1.1 | exact h.1.1.1.1.1.1.1.1.1 | exact h.1.1.1.1.1.1.1.1.1.1 | exact h.1.1.1.1.1.1.1.1.1.1.1 | exact h.1.1.1.1.1.1.1.1.1.1.1.1 | exact h.1.1.1.1.1.1.1.1.1.1.1.1.1)⟩
      · rw [if_neg (fun hc => cA (iA.1 hc))] at h35
        by_cases cB : ((1 ≤ k ∧ k < x.T.length) ∧ (0 ≤ n ∧ n ≤ x.days - 1))
        · obtain ⟨a, ha⟩ : ∃ a, x.T[k.toNat]? = some a := ⟨_, List.getElem?_eq_getElem (by omega)⟩
          have h39' := h39 cB.1 cB.2 a ha
          rw [Int.toNat_of_nonneg (by omega)] at h39'
          have hda : x.d.T[k.toNat]? = some a.d := by rw [List.getElem?_map, ha]; rfl
          rw [if_pos (iB.2 cB), hda] at h34
          dsimp only [Option.elim] at h34
          generalize dyO a.d n = dv at *
          clear hI h hn hB hA iA iB
          obtain ⟨days, shift, size, to, tc, T, lo, lc, L⟩ := x
          dsimp only at hnT hday cA cB
          refine calls_val env mixed Try.func7 has7 Try.ntmps7 [.agg #[iv days, iv shift, iv size, .slice to T.length tc, .slice lo L.length lc], iv f, iv t, iv k, iv n] (by simp) ?_
          repeat'
           conv => whnf
           first
            | refine zA ?_ | refine zB ?_ | refine zC ?_ | refine zD ?_ | refine zE ?_ | refine zF ?_ | refine zG ?_ | refine zH ?_ | refine zJ ?_ | refine zI ?_ | refine splT ?_ | refine splF ?_ | refine splNot ?_
            | ((first | refine splIn (fun hc => ?_) (fun hc => ?_) | refine splD (fun hc => ?_) (fun hc => ?_) | refine splE (fun hc => ?_) (fun hc => ?_) | refine splNE (fun hc => ?_) (fun hc => ?_)) <;> first | (exfalso; omega) | (exfalso; dsimp only at hc; omega) | skip)
            | ((with_reducible show CallEv _ _ 17 _ _ _ _ _); refine callE (k := 17) (fun β w' hbw => h17 w' (by first | exact hbw | exact hbw.1 | exact hbw.1.1 | exact hbw.1.1.1 | exact hbw.1.1.1.1 | exact hbw.1.1.1.1.1 | exact hbw.1.1.1.1.1.1 | exact hbw.1.1.1.1.1.1.1 | exact hbw.1.1.1.1.1.1.1.1 | exact hbw.1.1.1.1.1.1.1.1.1 | exact hbw.1.1.1.1.1.1.1.1.1.1 | exact hbw.1.1.1.1.1.1.1.1.1.1.1 | exact hbw.1.1.1.1.1.1.1.1.1.1.1.1 | exact hbw.1.1.1.1.1.1.1.1.1.1.1.1.1)) ?_)
            | ((with_reducible show CallEv _ _ 19 _ _ _ _ _); refine callE (k := 19) (fun β w' hbw => awake_ok w') ?_)
            | ((with_reducible show CallEv _ _ 21 _ _ _ _ _); refine callF [] (fun y : Tr => y.v) (fun y w2 => TrIn y w2 ∧ y.d = Tr.d ⟨days, shift, size, to, tc, T, lo, lc, L⟩) (fun β w' _ hbw => hT w' (by first | exact hbw | exact hbw.1 | exact hbw.1.1 | exact hbw.1.1.1 | exact hbw.1.1.1.1 | exact hbw.1.1.1.1.1 | exact hbw.1.1.1.1.1.1 | exact hbw.1.1.1.1.1.1.1 | exact hbw.1.1.1.1.1.1.1.1 | exact hbw.1.1.1.1.1.1.1.1.1 | exact hbw.1.1.1.1.1.1.1.1.1.1 | exact hbw.1.1.1.1.1.1.1.1.1.1.1 | exact hbw.1.1.1.1.1.1.1.1.1.1.1.1 | exact hbw.1.1.1.1.1.1.1.1.1.1.1.1.1)) ?_; intro y)
            | ((with_reducible show CallEv _ _ 35 _ _ _ _ _); refine callE (k := 35) (fun β w' hbw => h35 y w' hbw.2) ?_)
            | ((with_reducible show CallEv _ _ 34 _ _ _ _ _); refine callE (k := 34) (fun β w' hbw => h34 y w' hbw.2) ?_)
            | ((with_reducible show CallEv _ _ 22 _ _ _ _ _); refine callE (k := 22) (fun β w' hbw => h22 w' (by first | exact hbw | exact hbw.1 | exact hbw.1.1 | exact hbw.1.1.1 | exact hbw.1.1.1.1 | exact hbw.1.1.1.1.1 | exact hbw.1.1.1.1.1.1 | exact hbw.1.1.1.1.1.1.1 | exact hbw.1.1.1.1.1.1.1.1 | exact hbw.1.1.1.1.1.1.1.1.1 | exact hbw.1.1.1.1.1.1.1.1.1.1 | exact hbw.1.1.1.1.1.1.1.1.1.1.1 | exact hbw.1.1.1.1.1.1.1.1.1.1.1.1 | exact hbw.1.1.1.1.1.1.1.1.1.1.1.1.1)) ?_)
            | ((with_reducible show CallEv _ _ 36 _ _ _ _ _); refine callE (k := 36) (fun β w' hbw => h36 y w' hbw.2) ?_)
            | ((with_reducible show CallEv _ _ 37 _ _ _ _ _); refine callE (k := 37) (fun β w' hbw => In_ok _ _ _ w') ?_)
            | ((with_reducible show CallEv _ _ 39 _ _ _ _ _); refine callE (k := 39) (fun β w' hbw => h39' w' (by first | exact hbw | exact hbw.1 | exact hbw.1.1 | exact hbw.1.1.1 | exact hbw.1.1.1.1 | exact hbw.1.1.1.1.1 | exact hbw.1.1.1.1.1.1 | exact hbw.1.1.1.1.1.1.1 | exact hbw.1.1.1.1.1.1.1.1 | exact hbw.1.1.1.1.1.1.1.1.1 | exact hbw.1.1.1.1.1.1.1.1.1.1 | exact hbw.1.1.1.1.1.1.1.1.1.1.1 | exact hbw.1.1.1.1.1.1.1.1.1.1.1.1 | exact hbw.1.1.1.1.1.1.1.1.1.1.1.1.1)) ?_)
          all_goals first | (exfalso; omega) | exact ⟨fun β => rfl, fun w' h => (by first | exact h | exact h.1 | exact h.1.1 | exact h.1.1.1 | exact h.1.1.1.1 | exact h.1.1.1.1.1 | exact h.1.1.1.1.1.1 | exact h.1.1.1.1.1.1.1 | exact h.1.1.1.1.1.1.1.1 | exact h.1.1.1.1.1.1.1.1.1 | exact h.1.1.1.1.1.1.1.1.1.1 | exact h.1.1.1.1.1.1.1.1.1.1.1 | exact h.1.1.1.1.1.1.1.1.1.1.1.1 | exact h.1.1.1.1.1.1.1.1.1.1.1.1.1)⟩
        · rw [if_neg (fun hc => cB (iB.1 hc))] at h34
          clear hI h hn hB hA iA iB
          obtain ⟨days, shift, size, to, tc, T, lo, lc, L⟩ := x
          dsimp only at hnT hday cA cB
          refine calls_val env mixed Try.func7 has7 Try.ntmps7 [.agg #[iv days, iv shift, iv size, .slice to T.length tc, .slice lo L.length lc], iv f, iv t, iv k, iv n] (by simp) ?_
          repeat'
           conv => whnf
           first
            | refine zA ?_ | refine zB ?_ | refine zC ?_ | refine zD ?_ | refine zE ?_ | refine zF ?_ | refine zG ?_ | refine zH ?_ | refine zJ ?_ | refine zI ?_ | refine splT ?_ | refine splF ?_ | refine splNot ?_
            | ((first | refine splIn (fun hc => ?_) (fun hc => ?_) | refine splD (fun hc => ?_) (fun hc => ?_) | refine splE (fun hc => ?_) (fun hc => ?_) | refine splNE (fun hc => ?_) (fun hc => ?_)) <;> first | (exfalso; omega) | (exfalso; dsimp only at hc; omega) | skip)
            | ((with_reducible show CallEv _ _ 17 _ _ _ _ _); refine callE (k := 17) (fun β w' hbw => h17 w' (by first | exact hbw | exact hbw.1 | exact hbw.1.1 | exact hbw.1.1.1 | exact hbw.1.1.1.1 | exact hbw.1.1.1.1.1 | exact hbw.1.1.1.1.1.1 | exact hbw.1.1.1.1.1.1.1 | exact hbw.1.1.1.1.1.1.1.1 | exact hbw.1.1.1.1.1.1.1.1.1 | exact hbw.1.1.1.1.1.1.1.1.1.1 | exact hbw.1.1.1.1.1.1.1.1.1.1.1 | exact hbw.1.1.1.1.1.1.1.1.1.1.1.1 | exact hbw.1.1.1.1.1.1.1.1.1.1.1.1.1)) ?_)
            | ((with_reducible show CallEv _ _ 19 _ _ _ _ _); refine callE (k := 19) (fun β w' hbw => awake_ok w') ?_)
            | ((with_reducible show CallEv _ _ 21 _ _ _ _ _); refine callF [] (fun y : Tr => y.v) (fun y w2 => TrIn y w2 ∧ y.d = Tr.d ⟨days, shift, size, to, tc, T, lo, lc, L⟩) (fun β w' _ hbw => hT w' (by first | exact hbw | exact hbw.1 | exact hbw.1.1 | exact hbw.1.1.1 | exact hbw.1.1.1.1 | exact hbw.1.1.1.1.1 | exact hbw.1.1.1.1.1.1 | exact hbw.1.1.1.1.1.1.1 | exact hbw.1.1.1.1.1.1.1.1 | exact hbw.1.1.1.1.1.1.1.1.1 | exact hbw.1.1.1.1.1.1.1.1.1.1 | exact hbw.1.1.1.1.1.1.1.1.1.1.1 | exact hbw.1.1.1.1.1.1.1.1.1.1.1.1 | exact hbw.1.1.1.1.1.1.1.1.1.1.1.1.1)) ?_; intro y)
            | ((with_reducible show CallEv _ _ 35 _ _ _ _ _); refine callE (k := 35) (fun β w' hbw => h35 y w' hbw.2) ?_)
            | ((with_reducible show CallEv _ _ 34 _ _ _ _ _); refine callE (k := 34) (fun β w' hbw => h34 y w' hbw.2) ?_)
            | ((with_reducible show CallEv _ _ 22 _ _ _ _ _); refine callE (k := 22) (fun β w' hbw => h22 w' (by first | exact hbw | exact hbw.1 | exact hbw.1.1 | exact hbw.1.1.1 | exact hbw.1.1.1.1 | exact hbw.1.1.1.1.1 | exact hbw.1.1.1.1.1.1 | exact hbw.1.1.1.1.1.1.1 | exact hbw.1.1.1.1.1.1.1.1 | exact hbw.1.1.1.1.1.1.1.1.1 | exact hbw.1.1.1.1.1.1.1.1.1.1 | exact hbw.1.1.1.1.1.1.1.1.1.1.1 | exact hbw.1.1.1.1.1.1.1.1.1.1.1.1 | exact hbw.1.1.1.1.1.1.1.1.1.1.1.1.1)) ?_)
            | ((with_reducible show CallEv _ _ 36 _ _ _ _ _); refine callE (k := 36) (fun β w' hbw => h36 y w' hbw.2) ?_)
            | ((with_reducible show CallEv _ _ 37 _ _ _ _ _); refine callE (k := 37) (fun β w' hbw => In_ok _ _ _ w') ?_)
          all_goals first | (exfalso; omega) | exact ⟨fun β => rfl, fun w' h => (by first | exact h | exact h.1 | exact h.1.1 | exact h.1.1.1 | exact h.1.1.1.1 | exact h.1.1.1.1.1 | exact h.1.1.1.1.1.1 | exact h.1.1.1.1.1.1.1 | exact h.1.1.1.1.1.1.1.1 | exact h.1.1.1.1.1.1.1.1.1 | exact h.1.1.1.1.1.1.1.1.1.1 | exact h.1.1.1.1.1.1.1.1.1.1.1 | exact h.1.1.1.1.1.1.1.1.1.1.1.1 | exact h.1.1.1.1.1.1.1.1.1.1.1.1.1)⟩
end Go.Proofs.Ythfabodamhdhaaa
