/- Days lost and what a day brings, by the reference. -/
import Derived.Test.YthfabodamhdhaaaTC
namespace Go.Proofs.Ythfabodamhdhaaa
open Go Tx Go.RowKit
set_option linter.unusedSimpArgs false
set_option linter.unusedVariables false
set_option maxHeartbeats 1000000 in
set_option maxRecDepth 100000 in
theorem rlost_ok (x : Tr) (f t : Nat) (w : World) (h : TrIn x w) (hn : ToN x.d) (hf : f < x.T.length) (ht : t < x.T.length) :
 Calls Try.prog 38 #[x.v, iv f, iv t] w fun e w' => e = .returned (iv (lsO x.d f t)) ∧ Below w.heap.size w w' := by
 obtain ⟨days, shift, size, to, tc, T, lo, lc, L⟩ := x
 obtain ⟨h1, h2, h3, h4, htl, hll, hlr, -⟩ := h
 have hs := hn.s
 have hlg := hn.leg f t
 have hls := hn.lost f t
 have hl := hn.l
 have hn9 := hn.n
 have hr9 := hn.lr
 dsimp only [Tr.d] at h1 h2 h3 h4 htl hll hlr hf ht hs hl hn9 hr9 ⊢
 simp only [List.length_map] at hl hn9 hr9
 refine calls_val env mixed Try.func38 has38 Try.ntmps38 [.agg #[iv days, iv shift, iv size, .slice to T.length tc, .slice lo L.length lc], iv f, iv t] (by simp) ?_
 obtain ⟨⟨ro, rc, r⟩, hr⟩ : ∃ r, L[f]? = some r := ⟨_, List.getElem?_eq_getElem (by omega)⟩
 have hrl := hr9 r (List.mem_of_getElem? (i := f) (by rw [List.getElem?_map, hr]; rfl))
 obtain ⟨⟨p1, p2⟩, hp⟩ : ∃ p, r[t]? = some p := ⟨_, List.getElem?_eq_getElem (by omega)⟩
 have hrd := h4 _ (List.mem_of_getElem? hr)
 dsimp only at hrd
 obtain ⟨_, la, rfl, _⟩ := h3.ptr (by omega)
 obtain ⟨_, ra, rfl, _⟩ := hrd.ptr (by omega)
 have hlgo : lgO (Tr.d ⟨days, shift, size, to, tc, T, some la, lc, L⟩) f t = (p1, p2) := by
  simp only [lgO, Tr.d, List.getElem?_map, hr, Option.map_some, Option.getD_some, hp]
 have e1 := fun (w' : World) hw' => rd_ati (h3.below (w' := w') hw') hr
 have e2 := fun (w' : World) hw' => rd_fld (hrd.below (w' := w') hw') hp 0 (iv p1) rfl
 have hv : lsO (Tr.d ⟨days, shift, size, to, tc, T, some la, lc, L⟩) f t = imax 0 ((p1 + shift - 1).tdiv shift - 1) := by unfold lsO; rw [hlgo]
 rw [hlgo] at hlg
 have hq : 0 ≤ (p1 + shift - 1).tdiv shift ∧ (p1 + shift - 1).tdiv shift ≤ 300 := by
  rw [hv, imax_eq] at hls
  have := Int.tdiv_nonneg (a := p1 + shift - 1) (b := shift) (by omega) (by omega)
  omega
 rw [hv]
 generalize hqq : (p1 + shift - 1).tdiv shift = q at *
 repeat'
  conv => whnf
  first
   | refine zA ?_ | refine zB ?_ | refine zC ?_ | refine zD ?_ | refine zE ?_ | refine zF ?_ | refine zG ?_ | refine zH ?_ | refine zJ ?_ | refine zI ?_ | refine splT ?_ | refine splF ?_ | refine splNot ?_
   | ((first | refine splIn ?_ ?_ | refine splD ?_ ?_ | refine splE ?_ ?_ | refine splNE ?_ ?_) <;> intro hc <;> first | (exfalso; omega) | (exfalso; dsimp only at hc; omega) | skip)
   | refine Exists.intro (α := List Value) [.slice (some ra) r.length rc] ⟨⟨rfl, fun w' hw' => e1 w' hw'⟩, ?_⟩
   | refine Exists.intro (α := List Value) [iv p1] ⟨⟨rfl, fun w' hw' => e2 w' hw'⟩, ?_⟩
   | refine Exists.intro (α := Int) q ⟨⟨by omega, hqq, by constructor <;> omega⟩, ?_⟩
 all_goals first | (exfalso; omega) | exact ⟨fun β => rfl, fun w' h => h⟩
set_option maxHeartbeats 2000000 in
set_option maxRecDepth 100000 in
theorem rday_ok (x : Tr) (k : Nat) (n : Int) (a : Tn) (w : World) (h : TrIn x w) (hk : x.T[k]? = some a) (hn : TwN a.d) (hb : -9000000000000 ≤ n ∧ n ≤ 9000000000000) :
 Calls Try.prog 39 #[x.v, iv k, iv n] w fun e w' => e = .returned (iv (dyO a.d n)) ∧ Below w.heap.size w w' := by
 have hTi := h.ti a (List.mem_of_getElem? hk)
 have hT := h.t
 have htl := h.tl
 obtain ⟨days, shift, size, to, tc, T, lo, lc, L⟩ := x
 obtain ⟨oo, oc, ro, rc, O, s1, s2, pay, lot, rent, R, cold, cut⟩ := a
 dsimp only at hT hk htl
 obtain ⟨-, h2, -, h4⟩ := hTi
 have hp := hn.p
 have hc := hn.c
 have hkc := hn.k
 have hr := hn.r.2
 have hpc := hn.pc
 dsimp only at h2 h4 hp hc hkc hr hpc ⊢
 have hkl := (List.getElem?_eq_some_iff.1 hk).1
 obtain ⟨_, ta, rfl, _⟩ := hT.ptr (by omega)
 have e9 := fun (w' : World) hw' => rd_ati (hT.below (w' := w') hw') hk
 refine calls_val env mixed Try.func39 has39 Try.ntmps39 [.agg #[iv days, iv shift, iv size, .slice (some ta) T.length tc, .slice lo L.length lc], iv k, iv n] (by simp) ?_
 unfold dyO rvB
 obtain ⟨q, hq⟩ : ∃ q, (pay * (1000 - cut)).tdiv 1000 = q := ⟨_, rfl⟩
 have hqb : 0 ≤ q ∧ q ≤ 1000000 := by
  rw [Int.tdiv_eq_ediv_of_nonneg hpc.1] at hq
  omega
 dsimp only
 rw [hq]
 repeat'
  conv => whnf
  first
   | refine zA ?_ | refine zB ?_ | refine zC ?_ | refine zD ?_ | refine zE ?_ | refine zF ?_ | refine zG ?_ | refine zH ?_ | refine zJ ?_ | refine zI ?_ | refine splT ?_ | refine splF ?_ | refine splNot ?_
   | ((first | refine splIn ?_ ?_ | refine splD ?_ ?_ | refine splE ?_ ?_ | refine splNE ?_ ?_) <;> intro hc <;> first | (exfalso; omega) | (exfalso; dsimp only at hc; omega) | skip)
   | refine Exists.intro (α := List Value) [.slice oo O.length oc, iv s1, iv s2, iv pay, iv lot, iv rent, .slice ro R.length rc, iv cold, iv cut] ⟨⟨rfl, fun w' hw' => e9 w' hw'⟩, ?_⟩
 all_goals first | (exfalso; omega) | skip
 refine loopE (fun i : Nat => [(2, .v (iv n)), (7, .ptr 1 0), (8, .v (iv i))]) (fun _ => [(1, .cells [.v (.slice oo O.length oc), .v (iv s1), .v (iv s2), .v (iv pay), .v (iv lot), .v (iv rent), .v (.slice ro R.length rc), .v (iv cold), .v (iv cut)] 69)])
  (fun i => i ≤ R.length ∧ ((R.take i).any fun r => inB n r.1 (r.2 + cold)) = false) (fun i => R.length - i) 0 ⟨Nat.zero_le _, rfl⟩ ⟨rfl, rfl, rfl, trivial⟩ ⟨rfl, trivial⟩ (fun _ => ⟨rfl, rfl⟩) ?_
 intro i ⟨hi, hall⟩
 rcases Nat.lt_or_ge i R.length with hil | hil
 · obtain ⟨⟨r1, r2⟩, hx⟩ : ∃ b, R[i]? = some b := ⟨_, List.getElem?_eq_getElem hil⟩
   obtain ⟨_, ad, rfl, _⟩ := h2.ptr (by omega)
   have e0 := fun (w' : World) hw' => rd_fldz (h2.below (w' := w') hw') hx _ rfl 0 (iv r1) rfl
   have e1 := fun (w' : World) hw' => rd_fldz (h2.below (w' := w') hw') hx _ rfl 1 (iv r2) rfl
   have ht := any_take (p := fun r : Int × Int => inB n r.1 (r.2 + cold)) hx
   rw [hall, Bool.false_or] at ht
   have hrb := hr _ (List.mem_of_getElem? hx)
   have hyes := any_yes (p := fun r : Int × Int => inB n r.1 (r.2 + cold)) hx
   dsimp only at hrb ht hyes
   have h37 := fun w' : World => In_ok n r1 (r2 + cold) w'
   obtain ⟨v, hv⟩ : ∃ v, inB n r1 (r2 + cold) = v := ⟨_, rfl⟩
   rw [hv] at ht hyes h37
   cases v with
   | false =>
    repeat'
     conv => whnf
     first
      | refine zA ?_ | refine zB ?_ | refine zC ?_ | refine zD ?_ | refine zE ?_ | refine zF ?_ | refine zG ?_ | refine zH ?_ | refine zJ ?_ | refine zI ?_ | refine splT ?_ | refine splF ?_ | refine splNot ?_
      | ((first | refine splIn ?_ ?_ | refine splD ?_ ?_ | refine splE ?_ ?_ | refine splNE ?_ ?_) <;> intro hc <;> first | (exfalso; omega) | (exfalso; dsimp only at hc; omega) | skip)
      | refine Exists.intro (α := List Value) [iv r1] ⟨⟨rfl, fun w' hw' => e0 w' hw'⟩, ?_⟩
      | refine Exists.intro (α := List Value) [iv r2] ⟨⟨rfl, fun w' hw' => e1 w' hw'⟩, ?_⟩
      | ((with_reducible show CallEv _ _ 37 _ _ _ _ _); refine callE (k := 37) (fun β w' hbw => h37 w') ?_)
    all_goals first | (exfalso; omega) | exact ⟨i + 1, ⟨by omega, ht⟩, by omega, Ent.weak rfl ⟨rfl, rfl, rfl, trivial⟩ ⟨rfl, trivial⟩ fun _ h => h⟩
   | true =>
    rw [hyes rfl, if_pos rfl]
    repeat'
     conv => whnf
     first
      | refine zA ?_ | refine zB ?_ | refine zC ?_ | refine zD ?_ | refine zE ?_ | refine zF ?_ | refine zG ?_ | refine zH ?_ | refine zJ ?_ | refine zI ?_ | refine splT ?_ | refine splF ?_ | refine splNot ?_
      | ((first | refine splIn ?_ ?_ | refine splD ?_ ?_ | refine splE ?_ ?_ | refine splNE ?_ ?_) <;> intro hc <;> first | (exfalso; omega) | (exfalso; dsimp only at hc; omega) | skip)
      | refine Exists.intro (α := List Value) [iv r1] ⟨⟨rfl, fun w' hw' => e0 w' hw'⟩, ?_⟩
      | refine Exists.intro (α := List Value) [iv r2] ⟨⟨rfl, fun w' hw' => e1 w' hw'⟩, ?_⟩
      | ((with_reducible show CallEv _ _ 37 _ _ _ _ _); refine callE (k := 37) (fun β w' hbw => h37 w') ?_)
      | refine Exists.intro (α := Int) q ⟨⟨by omega, hq, by constructor <;> omega⟩, ?_⟩
    all_goals first | (exfalso; omega) | exact ⟨fun β => rfl, fun w' h => h⟩
 · rw [List.take_of_length_le hil] at hall
   rw [hall, if_neg (by decide)]
   repeat'
    conv => whnf
    first
     | refine zA ?_ | refine zB ?_ | refine zC ?_ | refine zD ?_ | refine zE ?_ | refine zF ?_ | refine zG ?_ | refine zH ?_ | refine zJ ?_ | refine zI ?_ | refine splT ?_ | refine splF ?_ | refine splNot ?_
     | ((first | refine splIn ?_ ?_ | refine splD ?_ ?_ | refine splE ?_ ?_ | refine splNE ?_ ?_) <;> intro hc <;> first | (exfalso; omega) | (exfalso; dsimp only at hc; omega) | skip)
   all_goals first | (exfalso; omega) | exact ⟨fun β => rfl, fun w' h => h⟩
end Go.Proofs.Ythfabodamhdhaaa
