/- A tour that is right: what the function returns; what is known of its numbers. -/
import Derived.Test.YthfabodamhdhaaaRI
namespace Go.Proofs.Ythfabodamhdhaaa
open Go Tx Go.RowKit
set_option linter.unusedSimpArgs false
set_option linter.unusedVariables false
theorem toB_n {x : To} (h : toB x = true) : ToN x := by
 simp only [toB, inB, Bool.and_eq_true, decide_eq_true_eq, List.all_eq_true, List.mem_range] at h
 obtain ⟨⟨h1, h2, h3, h4, h5⟩, ⟨h6, h7⟩, h8⟩ := h
 refine ⟨by omega, by omega, by omega, by omega, h5, fun r hr => ?_, fun k hk t ht => ?_⟩
 · obtain ⟨i, hi, rfl⟩ := List.mem_iff_getElem.1 hr
   have := h8 i hi
   rw [List.getElem?_eq_getElem hi] at this
   simp only [Option.any_some, lgB, inB, Bool.and_eq_true, decide_eq_true_eq, List.all_eq_true] at this
   exact ⟨this.1, fun p hp => by have := this.2.2 p hp; omega⟩
 · refine h7 t ?_
   rw [List.mem_iff_getElem?]
   exact ⟨k - 1, by rw [List.getElem?_drop, show 1 + (k - 1) = k from by omega]; exact ht⟩
theorem all_take {α : Type} {p : α → Bool} {L : List α} {k : Nat} {x : α} (h : L[k]? = some x) : (L.take (k + 1)).all p = ((L.take k).all p && p x) := by
 rw [List.take_add_one, h]; simp
theorem all_no {α : Type} {p : α → Bool} {L : List α} {k : Nat} {x : α} (h : L[k]? = some x) (hx : p x = false) : L.all p = false := by
 rw [List.all_eq_false]; exact ⟨x, List.mem_of_getElem? h, by simp [hx]⟩
namespace Tx
theorem Rd.dropP {α : Type} {sz : Nat} {f : α → List Value} {ad : Addr} {n c : Nat} {L : List α} {w : World} (h : Rd sz f (.slice (some ad) n c) L w) (k c' : Nat) : Rd sz f (.slice (some (ad.add (k * sz))) (L.drop k).length c') (L.drop k) w :=
 .inr ⟨_, _, rfl, fun i b hi j v hv => by
  rw [List.getElem?_drop] at hi
  have := rd_at h hi j v hv
  rwa [show ((ad.add (k * sz)).add (i * sz)) = ad.add ((k + i) * sz) from by rw [Addr.add_add, Nat.add_mul]]⟩
end Tx
set_option maxHeartbeats 4000000 in
set_option maxRecDepth 100000 in
theorem valid_ok (x : Tr) (w : World) (h : TrIn x w) : Calls Try.prog 56 #[x.v] w fun e w' => e = .returned (.bool (toB x.d)) ∧ Below w.heap.size w w' := by
 obtain ⟨days, shift, size, to, tc, T, lo, lc, L⟩ := x
 obtain ⟨hT, hTi, hL, hLi, htl, hll, hlr, htc⟩ := h
 dsimp only at hT hTi hL hLi htl hll hlr htc ⊢
 refine calls_val env mixed Try.func56 has56 Try.ntmps56 [.agg #[iv days, iv shift, iv size, .slice to T.length tc, .slice lo L.length lc]] (by simp) ?_
 have hq : toB (Tr.d ⟨days, shift, size, to, tc, T, lo, lc, L⟩) = ((inB days 1 60 && (inB shift 1 24 && (inB size 0 100000 && (inB T.length 2 9 && decide ((L.length : Int) = T.length))))) &&
  (((T[0]?).any (fun t => quB t.d) && (T.drop 1).all (fun t => twB days t.d)) && (List.all (List.range L.length) fun i => ((L[i]?).map Lr.L).any (lgB T.length i)))) := by
  simp only [toB, Tr.d, List.length_map, List.getElem?_map, Option.any_map, ← List.map_drop, List.all_map, Int.ofNat_inj]
  rfl
 rw [hq]
 clear hq
 by_cases hA : (1 ≤ days ∧ days ≤ 60) ∧ (1 ≤ shift ∧ shift ≤ 24) ∧ (0 ≤ size ∧ size ≤ 100000) ∧ (2 ≤ T.length ∧ T.length ≤ 9) ∧ L.length = T.length
 · obtain ⟨hd, hs, hz, hn, hl⟩ := hA
   rw [show (inB days 1 60 && (inB shift 1 24 && (inB size 0 100000 && (inB T.length 2 9 && decide ((L.length : Int) = T.length))))) = true from by
    simp only [inB, Bool.and_eq_true, decide_eq_true_eq]; omega, Bool.true_and]
   obtain ⟨t0, ht0⟩ : ∃ t, T[0]? = some t := ⟨_, List.getElem?_eq_getElem (by omega)⟩
   obtain ⟨_, ad, rfl, _⟩ := hT.ptr (by omega)
   have e0 := fun (w' : World) hw' => rd_atz (hT.below (w' := w') hw') ht0 (0 : Int) rfl
   have h91 := fun w' hb => quarters_ok t0 w' ((hTi t0 (List.mem_of_getElem? ht0)).below hb)
   rw [ht0, Option.any_some]
   obtain ⟨oo, oc, ro, rc, O, s1, s2, pay, lot, rent, R, cold, cut⟩ := t0
   dsimp only at h91 e0 ⊢
   obtain ⟨vq, hvq⟩ : ∃ v, quB ⟨O, s1, s2, pay, lot, rent, R, cold, cut⟩ = v := ⟨_, rfl⟩
   rw [hvq] at h91 ⊢
   cases vq with
   | false =>
    repeat'
     conv => whnf
     first
      | refine zA ?_ | refine zB ?_ | refine zC ?_ | refine zD ?_ | refine zE ?_ | refine zF ?_ | refine zG ?_ | refine zH ?_ | refine zJ ?_ | refine zI ?_ | refine splT ?_ | refine splF ?_ | refine splNot ?_
      | ((first | refine splIn ?_ ?_ | refine splD ?_ ?_ | refine splE ?_ ?_ | refine splNE ?_ ?_) <;> intro hc <;> first | (exfalso; omega) | (exfalso; dsimp only at hc; omega) | skip)
      | ((with_reducible show CallEv _ _ 70 _ _ _ _ _); refine callE (k := 70) (fun β w' hbw => within_ok _ _ _ _) ?_)
      | refine Exists.intro (α := List Value) [.slice oo O.length oc, iv s1, iv s2, iv pay, iv lot, iv rent, .slice ro R.length rc, iv cold, iv cut] ⟨⟨rfl, fun w' hw' => e0 w' hw'⟩, ?_⟩
      | ((with_reducible show CallEv _ _ 91 _ _ _ _ _); refine callE (k := 91) (fun β w' hbw => h91 _ hbw) ?_)
    all_goals first | (exfalso; omega) | exact ⟨fun β => rfl, fun w' h => h⟩
   | true =>
    rw [Bool.true_and]
    obtain ⟨vl, hvl⟩ : ∃ v, (List.all (List.range L.length) fun i => ((L[i]?).map Lr.L).any (lgB T.length i)) = v := ⟨_, rfl⟩
    rw [hvl]
    generalize hW : Value.bool _ = W
    have hW' : W = Value.bool ((((T.drop 1).drop 0).all fun t => twB days t.d) && vl) := hW.symm
    clear hW
    repeat'
     conv => whnf
     first
      | refine zA ?_ | refine zB ?_ | refine zC ?_ | refine zD ?_ | refine zE ?_ | refine zF ?_ | refine zG ?_ | refine zH ?_ | refine zJ ?_ | refine zI ?_ | refine splT ?_ | refine splF ?_ | refine splNot ?_
      | ((first | refine splIn ?_ ?_ | refine splD ?_ ?_ | refine splE ?_ ?_ | refine splNE ?_ ?_) <;> intro hc <;> first | (exfalso; omega) | (exfalso; dsimp only at hc; omega) | skip)
      | ((with_reducible show CallEv _ _ 70 _ _ _ _ _); refine callE (k := 70) (fun β w' hbw => within_ok _ _ _ _) ?_)
      | refine Exists.intro (α := List Value) [.slice oo O.length oc, iv s1, iv s2, iv pay, iv lot, iv rent, .slice ro R.length rc, iv cold, iv cut] ⟨⟨rfl, fun w' hw' => e0 w' hw'⟩, ?_⟩
      | ((with_reducible show CallEv _ _ 91 _ _ _ _ _); refine callE (k := 91) (fun β w' hbw => h91 _ hbw) ?_)
      | refine slLo env (z := 1) rfl rfl rfl rfl (by omega) (by omega) rfl ?_
      | ((with_reducible show CallEv _ _ 92 _ _ _ _ _); refine callI env mixed 1000 [1,3,43] Try.func92 has92 Try.ntmps92 (Nat.le_of_ble_eq_true rfl) rfl rfl rfl ?_)
      | ((with_reducible show CallEv _ _ 134 _ _ _ _ _); refine callI env mixed 2000 [] Try.func134 has134 Try.ntmps134 (Nat.le_of_ble_eq_true rfl) rfl rfl rfl ?_)
      | ((with_reducible show CallEv _ _ 163 _ _ _ _ _); refine callI env mixed 3000 [] Try.func163 has163 Try.ntmps163 (Nat.le_of_ble_eq_true rfl) rfl rfl rfl ?_)
    all_goals first | (exfalso; omega) | skip
    have hTT := fun (w' : World) hw' => Rd.dropP (hT.below (w' := w') hw') 1 (tc - 1)
    have hTm : ∀ t ∈ T.drop 1, t ∈ T := fun t ht => List.mem_of_mem_drop ht
    have hTl : (T.drop 1).length = T.length - 1 := List.length_drop ..
    generalize T.drop 1 = TT at *
    have had : ad.add (1 * ti57.size) = ad.add (1 * 9) := rfl
    generalize ad.add (1 * ti57.size) = ad1 at *
    subst had
    refine loopE (fun k : Nat => [(0, .v (.slice (some (ad.add (1 * 9))) (T.length - 1) (tc - 1))), (1, .fn (.func 135) [.ptr 1 0]), (7, .v (iv (T.length - 1 : Nat))), (8, .v (iv k))]) (fun _ => [(1, .cells [.fn (.func 93) [.ptr 0 0]] 165), (0, .cells [.v (iv days), .v (iv shift), .v (iv size), .v (.slice (some ad) T.length tc), .v (.slice lo L.length lc)] 35)]) (fun k => k ≤ T.length - 1 ∧ W = Value.bool (((TT.drop k).all fun t => twB days t.d) && vl)) (fun k => T.length - k) 0 ⟨Nat.zero_le _, hW'⟩ ⟨rfl, rfl, rfl, rfl, trivial⟩ ⟨rfl, rfl, trivial⟩ (fun _ => ⟨rfl, rfl⟩) ?_
    clear hW'
    intro k ⟨hk, hW⟩
    rcases Nat.lt_or_ge k (T.length - 1) with hkl | hkl
    · obtain ⟨t, ht⟩ : ∃ t, TT[k]? = some t := ⟨_, List.getElem?_eq_getElem (by omega)⟩
      have e1 := fun (w' : World) hw' => rd_ati (hTT w' hw') ht
      have h94 := fun w' hb => town_ok t days w' ((hTi t (hTm t (List.mem_of_getElem? ht))).below hb) hd
      obtain ⟨v, hv⟩ : ∃ v, twB days t.d = v := ⟨_, rfl⟩
      have hdk : ((TT.drop k).all fun t => twB days t.d) = (v && ((TT.drop (k + 1)).all fun t => twB days t.d)) := by
       obtain ⟨hkk, e⟩ := List.getElem?_eq_some_iff.1 ht
       rw [List.drop_eq_getElem_cons hkk, e, List.all_cons, hv]
      rw [hdk] at hW
      rw [hv] at h94
      obtain ⟨oo', oc', ro', rc', O', s1', s2', pay', lot', rent', R', cold', cut'⟩ := t
      cases v with
      | true =>
       rw [Bool.true_and] at hW
       repeat'
        conv => whnf
        first
         | refine zA ?_ | refine zB ?_ | refine zC ?_ | refine zD ?_ | refine zE ?_ | refine zF ?_ | refine zG ?_ | refine zH ?_ | refine zJ ?_ | refine zI ?_ | refine splT ?_ | refine splF ?_ | refine splNot ?_
         | ((first | refine splIn ?_ ?_ | refine splD ?_ ?_ | refine splE ?_ ?_ | refine splNE ?_ ?_) <;> intro hc <;> first | (exfalso; omega) | (exfalso; dsimp only at hc; omega) | skip)
         | refine Exists.intro (α := List Value) [.slice oo' O'.length oc', iv s1', iv s2', iv pay', iv lot', iv rent', .slice ro' R'.length rc', iv cold', iv cut'] ⟨⟨rfl, fun w' hw' => e1 w' hw'⟩, ?_⟩
         | ((with_reducible show CallEv _ _ 135 _ _ _ _ _); refine callI env mixed 4000 [0,1,5,7,8] Try.func135 has135 Try.ntmps135 (Nat.le_of_ble_eq_true rfl) rfl rfl rfl ?_)
         | ((with_reducible show CallEv _ _ 93 _ _ _ _ _); refine callI env mixed 5000 [] Try.func93 has93 Try.ntmps93 (Nat.le_of_ble_eq_true rfl) rfl rfl rfl ?_)
         | ((with_reducible show CallEv _ _ 94 _ _ _ _ _); refine callE (k := 94) (fun β w' hbw => h94 _ hbw) ?_)
       all_goals first | (exfalso; omega) | exact ⟨k + 1, ⟨by omega, hW⟩, by omega, Ent.weak rfl ⟨rfl, rfl, rfl, rfl, trivial⟩ ⟨rfl, rfl, trivial⟩ fun _ h => h⟩
      | false =>
       rw [Bool.false_and, Bool.false_and] at hW
       subst hW
       repeat'
        conv => whnf
        first
         | refine zA ?_ | refine zB ?_ | refine zC ?_ | refine zD ?_ | refine zE ?_ | refine zF ?_ | refine zG ?_ | refine zH ?_ | refine zJ ?_ | refine zI ?_ | refine splT ?_ | refine splF ?_ | refine splNot ?_
         | ((first | refine splIn ?_ ?_ | refine splD ?_ ?_ | refine splE ?_ ?_ | refine splNE ?_ ?_) <;> intro hc <;> first | (exfalso; omega) | (exfalso; dsimp only at hc; omega) | skip)
         | refine Exists.intro (α := List Value) [.slice oo' O'.length oc', iv s1', iv s2', iv pay', iv lot', iv rent', .slice ro' R'.length rc', iv cold', iv cut'] ⟨⟨rfl, fun w' hw' => e1 w' hw'⟩, ?_⟩
         | ((with_reducible show CallEv _ _ 135 _ _ _ _ _); refine callI env mixed 4000 [0,1,5,7,8] Try.func135 has135 Try.ntmps135 (Nat.le_of_ble_eq_true rfl) rfl rfl rfl ?_)
         | ((with_reducible show CallEv _ _ 93 _ _ _ _ _); refine callI env mixed 5000 [] Try.func93 has93 Try.ntmps93 (Nat.le_of_ble_eq_true rfl) rfl rfl rfl ?_)
         | ((with_reducible show CallEv _ _ 94 _ _ _ _ _); refine callE (k := 94) (fun β w' hbw => h94 _ hbw) ?_)
       all_goals first | (exfalso; omega) | exact ⟨fun β => rfl, fun w' h => h⟩
    · obtain rfl : k = T.length - 1 := by omega
      rw [List.drop_of_length_le (by omega), List.all_nil, Bool.true_and] at hW
      subst hW
      clear hTT
      conv => whnf
      repeat'
       conv => whnf
       first
        | refine zA ?_ | refine zB ?_ | refine zC ?_ | refine zD ?_ | refine zE ?_ | refine zF ?_ | refine zG ?_ | refine zH ?_ | refine zJ ?_ | refine zI ?_ | refine splT ?_ | refine splF ?_ | refine splNot ?_
        | ((first | refine splIn ?_ ?_ | refine splD ?_ ?_ | refine splE ?_ ?_ | refine splNE ?_ ?_) <;> intro hc <;> first | (exfalso; omega) | (exfalso; dsimp only at hc; omega) | skip)
      all_goals first | (exfalso; omega) | skip
      refine loopE (fun i : Nat => [(1, .ptr 0 0), (3, .v (iv T.length)), (52, .v (.slice lo L.length lc)), (53, .v (iv L.length)), (54, .v (iv i))]) (fun _ => [(0, .cells [.v (iv days), .v (iv shift), .v (iv size), .v (.slice (some ad) T.length tc), .v (.slice lo L.length lc)] 35)]) (fun i => i ≤ L.length ∧ ((List.range i).all fun i => ((L[i]?).map Lr.L).any (lgB T.length i)) = true) (fun i => L.length - i) 0 ⟨Nat.zero_le _, rfl⟩ ⟨rfl, rfl, rfl, rfl, rfl, trivial⟩ ⟨rfl, trivial⟩ (fun _ => ⟨rfl, rfl⟩) ?_
      intro i ⟨hi, hall⟩
      rcases Nat.lt_or_ge i L.length with hil | hil
      · obtain ⟨⟨ro, rc, row⟩, hr⟩ : ∃ r, L[i]? = some r := ⟨_, List.getElem?_eq_getElem hil⟩
        obtain ⟨_, la, rfl, _⟩ := hL.ptr (by omega)
        have e2 := fun (w' : World) hw' => rd_ati (hL.below (w' := w') hw') hr
        have hrd := hLi _ (List.mem_of_getElem? hr)
        have hrl := hlr _ (List.mem_of_getElem? hr)
        dsimp only at hrd hrl
        have hp : ((L[i]?).map Lr.L).any (lgB T.length i) = lgB T.length i row := by rw [hr]; rfl
        have hsu : ((List.range (i + 1)).all fun i => ((L[i]?).map Lr.L).any (lgB T.length i)) = lgB T.length i row := by
         rw [List.range_succ, List.all_append, hall, ← hp]; simp
        have hno : lgB T.length i row = false → vl = false := fun h => by
         rw [← hvl, List.all_eq_false]
         exact ⟨i, List.mem_range.2 hil, by rw [hp, h]; decide⟩
        by_cases hrn : row.length = T.length
        · obtain ⟨⟨p1, p2⟩, hpp⟩ : ∃ p, row[i]? = some p := ⟨_, List.getElem?_eq_getElem (by omega)⟩
          obtain ⟨_, ra, rfl, _⟩ := hrd.ptr (by omega)
          have e3 := fun (w' : World) hw' => rd_ati (hrd.below (w' := w') hw') hpp
          have h95 := fun w' hb => all96_ok row (some ra) rc w' (hrd.below hb) hrl
          obtain ⟨va, hva⟩ : ∃ v, row.all (fun x : Int × Int => inB x.1 0 200 && inB x.2 0 1000000) = v := ⟨_, rfl⟩
          obtain ⟨q, hq⟩ : ∃ q, (!(p1 == 0 && p2 == 0)) = q := ⟨_, rfl⟩
          rw [hva] at h95
          have hlg : lgB T.length i row = (!q && va) := by
           unfold lgB
           rw [decide_eq_true hrn, Bool.true_and, hva, hpp, ← hq, Bool.not_not]
           congr 1
           rw [Bool.eq_iff_iff]; simp
          rw [hlg] at hsu hno
          cases q with
          | true =>
           rw [hno rfl]
           repeat'
            conv => whnf
            first
             | refine zA ?_ | refine zB ?_ | refine zC ?_ | refine zD ?_ | refine zE ?_ | refine zF ?_ | refine zG ?_ | refine zH ?_ | refine zJ ?_ | refine zI ?_ | refine splT ?_ | refine splF ?_ | refine splNot ?_
             | ((first | refine splIn ?_ ?_ | refine splD ?_ ?_ | refine splE ?_ ?_ | refine splNE ?_ ?_) <;> intro hc <;> first | (exfalso; omega) | (exfalso; dsimp only at hc; omega) | skip)
             | refine Exists.intro (α := List Value) [.slice (some ra) row.length rc] ⟨⟨rfl, fun w' hw' => e2 w' hw'⟩, ?_⟩
             | refine Exists.intro (α := List Value) [iv p1, iv p2] ⟨⟨rfl, fun w' hw' => e3 w' hw'⟩, ?_⟩
             | refine neqE60 hq ?_
             | ((with_reducible show CallEv _ _ 95 _ _ _ _ _); refine callE (k := 95) (fun β w' hbw => h95 _ hbw) ?_)
           all_goals first | (exfalso; omega) | exact ⟨fun β => rfl, fun w' h => h⟩
          | false =>
           cases va with
           | true =>
            repeat'
             conv => whnf
             first
              | refine zA ?_ | refine zB ?_ | refine zC ?_ | refine zD ?_ | refine zE ?_ | refine zF ?_ | refine zG ?_ | refine zH ?_ | refine zJ ?_ | refine zI ?_ | refine splT ?_ | refine splF ?_ | refine splNot ?_
              | ((first | refine splIn ?_ ?_ | refine splD ?_ ?_ | refine splE ?_ ?_ | refine splNE ?_ ?_) <;> intro hc <;> first | (exfalso; omega) | (exfalso; dsimp only at hc; omega) | skip)
              | refine Exists.intro (α := List Value) [.slice (some ra) row.length rc] ⟨⟨rfl, fun w' hw' => e2 w' hw'⟩, ?_⟩
              | refine Exists.intro (α := List Value) [iv p1, iv p2] ⟨⟨rfl, fun w' hw' => e3 w' hw'⟩, ?_⟩
              | refine neqE60 hq ?_
              | ((with_reducible show CallEv _ _ 95 _ _ _ _ _); refine callE (k := 95) (fun β w' hbw => h95 _ hbw) ?_)
            all_goals first | (exfalso; omega) | exact ⟨i + 1, ⟨by omega, hsu⟩, by omega, Ent.weak rfl ⟨rfl, rfl, rfl, rfl, rfl, trivial⟩ ⟨rfl, trivial⟩ fun _ h => h⟩
           | false =>
            rw [hno rfl]
            repeat'
             conv => whnf
             first
              | refine zA ?_ | refine zB ?_ | refine zC ?_ | refine zD ?_ | refine zE ?_ | refine zF ?_ | refine zG ?_ | refine zH ?_ | refine zJ ?_ | refine zI ?_ | refine splT ?_ | refine splF ?_ | refine splNot ?_
              | ((first | refine splIn ?_ ?_ | refine splD ?_ ?_ | refine splE ?_ ?_ | refine splNE ?_ ?_) <;> intro hc <;> first | (exfalso; omega) | (exfalso; dsimp only at hc; omega) | skip)
              | refine Exists.intro (α := List Value) [.slice (some ra) row.length rc] ⟨⟨rfl, fun w' hw' => e2 w' hw'⟩, ?_⟩
              | refine Exists.intro (α := List Value) [iv p1, iv p2] ⟨⟨rfl, fun w' hw' => e3 w' hw'⟩, ?_⟩
              | refine neqE60 hq ?_
              | ((with_reducible show CallEv _ _ 95 _ _ _ _ _); refine callE (k := 95) (fun β w' hbw => h95 _ hbw) ?_)
            all_goals first | (exfalso; omega) | exact ⟨fun β => rfl, fun w' h => h⟩
        · rw [hno (by unfold lgB; rw [decide_eq_false hrn]; rfl)]
          repeat'
           conv => whnf
           first
            | refine zA ?_ | refine zB ?_ | refine zC ?_ | refine zD ?_ | refine zE ?_ | refine zF ?_ | refine zG ?_ | refine zH ?_ | refine zJ ?_ | refine zI ?_ | refine splT ?_ | refine splF ?_ | refine splNot ?_
            | ((first | refine splIn ?_ ?_ | refine splD ?_ ?_ | refine splE ?_ ?_ | refine splNE ?_ ?_) <;> intro hc <;> first | (exfalso; omega) | (exfalso; dsimp only at hc; omega) | skip)
            | refine Exists.intro (α := List Value) [.slice ro row.length rc] ⟨⟨rfl, fun w' hw' => e2 w' hw'⟩, ?_⟩
          all_goals first | (exfalso; omega) | exact ⟨fun β => rfl, fun w' h => h⟩
      · obtain rfl : i = L.length := by omega
        have hvt : vl = true := by rw [← hvl]; exact hall
        rw [hvt]
        repeat'
         conv => whnf
         first
          | refine zA ?_ | refine zB ?_ | refine zC ?_ | refine zD ?_ | refine zE ?_ | refine zF ?_ | refine zG ?_ | refine zH ?_ | refine zJ ?_ | refine zI ?_ | refine splT ?_ | refine splF ?_ | refine splNot ?_
          | ((first | refine splIn ?_ ?_ | refine splD ?_ ?_ | refine splE ?_ ?_ | refine splNE ?_ ?_) <;> intro hc <;> first | (exfalso; omega) | (exfalso; dsimp only at hc; omega) | skip)
        all_goals first | (exfalso; omega) | exact ⟨fun β => rfl, fun w' h => h⟩
 · rw [show (inB days 1 60 && (inB shift 1 24 && (inB size 0 100000 && (inB T.length 2 9 && decide ((L.length : Int) = T.length))))) = false from by
    rw [Bool.eq_false_iff]; simp only [inB, ne_eq, Bool.and_eq_true, decide_eq_true_eq]; omega, Bool.false_and]
   repeat'
    conv => whnf
    first
     | refine zA ?_ | refine zB ?_ | refine zC ?_ | refine zD ?_ | refine zE ?_ | refine zF ?_ | refine zG ?_ | refine zH ?_ | refine zJ ?_ | refine zI ?_ | refine splT ?_ | refine splF ?_ | refine splNot ?_
     | ((first | refine splIn ?_ ?_ | refine splD ?_ ?_ | refine splE ?_ ?_ | refine splNE ?_ ?_) <;> intro hc <;> first | (exfalso; omega) | (exfalso; dsimp only at hc; omega) | skip)
     | ((with_reducible show CallEv _ _ 70 _ _ _ _ _); refine callE (k := 70) (fun β w' hbw => within_ok _ _ _ _) ?_)
   all_goals first | (exfalso; omega) | exact ⟨fun β => rfl, fun w' h => h⟩
end Go.Proofs.Ythfabodamhdhaaa
