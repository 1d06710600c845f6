/- Part 4 of the proof: texts merged. -/
import Derived.Test.YthfabodamhdhaaaQDc
import Derived.Laws.OwnMore
namespace Go.Proofs.Ythfabodamhdhaaa
open Go Tx Go.RowKit
set_option linter.unusedSimpArgs false
set_option linter.unusedVariables false
theorem toB_n {x : To} (h : toB x = true) : ToN x := by
 simp only [toB, inB, Bool.and_eq_true, decide_eq_true_eq, List.all_eq_true, List.mem_range] at h
 obtain ⟨⟨h1, h2, h3, h4, h5⟩, ⟨h6, h7⟩, h8⟩ := h
 refine ⟨by omega, by omega, by omega, by omega, h5, fun r hr => ?_, fun k hk t ht => ?_⟩
 · obtain ⟨i, hi, rfl⟩ := List.mem_iff_getElem.1 hr
   have := h8 i hi
   rw [List.getElem?_eq_getElem hi] at this
   simp only [Option.any_some, lgB, inB, Bool.and_eq_true, decide_eq_true_eq, List.all_eq_true] at this
   exact ⟨this.1, fun p hp => by have := this.2.2 p hp; omega⟩
 · refine h7 t ?_
   rw [List.mem_iff_getElem?]
   exact ⟨k - 1, by rw [List.getElem?_drop, show 1 + (k - 1) = k from by omega]; exact ht⟩
theorem all_take {α : Type} {p : α → Bool} {L : List α} {k : Nat} {x : α} (h : L[k]? = some x) : (L.take (k + 1)).all p = ((L.take k).all p && p x) := by
 rw [List.take_add_one, h]; simp
theorem all_no {α : Type} {p : α → Bool} {L : List α} {k : Nat} {x : α} (h : L[k]? = some x) (hx : p x = false) : L.all p = false := by
 rw [List.all_eq_false]; exact ⟨x, List.mem_of_getElem? h, by simp [hx]⟩
namespace Tx
theorem Rd.dropP {α : Type} {sz : Nat} {f : α → List Value} {ad : Addr} {n c : Nat} {L : List α} {w : World} (h : Rd sz f (.slice (some ad) n c) L w) (k c' : Nat) : Rd sz f (.slice (some (ad.add (k * sz))) (L.drop k).length c') (L.drop k) w :=
 .inr ⟨_, _, rfl, fun i b hi j v hv => by
  rw [List.getElem?_drop] at hi
  have := rd_at h hi j v hv
  rwa [show ((ad.add (k * sz)).add (i * sz)) = ad.add ((k + i) * sz) from by rw [Addr.add_add, Nat.add_mul]]⟩
end Tx
set_option maxHeartbeats 4000000 in
set_option maxRecDepth 100000 in
theorem valid_ok (x : Tr) (w : World) (h : TrIn x w) : Calls Try.prog 56 #[x.v] w fun e w' => e = .returned (.bool (toB x.d)) ∧ Below w.heap.size w w' := by
 obtain ⟨days, shift, size, to, tc, T, lo, lc, L⟩ := x
 obtain ⟨hT, hTi, hL, hLi, htl, hll, hlr, htc⟩ := h
 dsimp only at hT hTi hL hLi htl hll hlr htc ⊢
 refine calls_val env mixed Try.func56 has56 Try.ntmps56 [.agg #[iv days, iv shift, iv size, .slice to T.length tc, .slice lo L.length lc]] (by simp) ?_
 have hq : toB (Tr.d ⟨days, shift, size, to, tc, T, lo, lc, L⟩) = ((inB days 1 60 && (inB shift 1 24 && (inB size 0 100000 && (inB T.length 2 9 && decide ((L.length : Int) = T.length))))) &&
  (((T[0]?).any (fun t => quB t.d) && (T.drop 1).all (fun t => twB days t.d)) && (List.all (List.range L.length) fun i => ((L[i]?).map Lr.L).any (lgB T.length i)))) := by
  simp only [toB, Tr.d, List.length_map, List.getElem?_map, Option.any_map, ← List.map_drop, List.all_map, Int.ofNat_inj]
  rfl
 rw [hq]
 clear hq
 by_cases hA : (1 ≤ days ∧ days ≤ 60) ∧ (1 ≤ shift ∧ shift ≤ 24) ∧ (0 ≤ size ∧ size ≤ 100000) ∧ (2 ≤ T.length ∧ T.length ≤ 9) ∧ L.length = T.length
 · obtain ⟨hd, hs, hz, hn, hl⟩ := hA
   rw [show (inB days 1 60 && (inB shift 1 24 && (inB size 0 100000 && (inB T.length 2 9 && decide ((L.length : Int) = T.length))))) = true from by
    simp only [inB, Bool.and_eq_true, decide_eq_true_eq]; omega, Bool.true_and]
   obtain ⟨t0, ht0⟩ : ∃ t, T[0]? = some t := ⟨_, List.getElem?_eq_getElem (by omega)⟩
   obtain ⟨_, ad, rfl, _⟩ := hT.ptr (by omega)
   have e0 := fun (w' : World) hw' => rd_atz (hT.below (w' := w') hw') ht0 (0 : Int) rfl
   have h91 := fun w' hb => quarters_ok t0 w' ((hTi t0 (List.mem_of_getElem? ht0)).below hb)
   rw [ht0, Option.any_some]
   obtain ⟨oo, oc, ro, rc, O, s1, s2, pay, lot, rent, R, cold, cut⟩ := t0
   dsimp only at h91 e0 ⊢
   obtain ⟨vq, hvq⟩ : ∃ v, quB ⟨O, s1, s2, pay, lot, rent, R, cold, cut⟩ = v := ⟨_, rfl⟩
   rw [hvq] at h91 ⊢
   cases vq with
   | false =>
    repeat'
     conv => whnf
     first
      | refine zA ?_ | refine zB ?_ | refine zC ?_ | refine zD ?_ | refine zE ?_ | refine zF ?_ | refine zG ?_ | refine zH ?_ | refine zJ ?_ | refine zI ?_ | refine splT ?_ | refine splF ?_ | refine splNot ?_
      | ((first | refine splIn ?_ ?_ | refine splD ?_ ?_ | refine splE ?_ ?_ | refine splNE ?_ ?_) <;> intro hc <;> first | (exfalso; omega) | (exfalso; dsimp only at hc; omega) | skip)
      | ((with_reducible show CallEv _ _ 70 _ _ _ _ _); refine callE (k := 70) (fun β w' hbw => within_ok _ _ _ _) ?_)
      | refine Exists.intro (α := List Value) [.slice oo O.length oc, iv s1, iv s2, iv pay, iv lot, iv rent, .slice ro R.length rc, iv cold, iv cut] ⟨⟨rfl, fun w' hw' => e0 w' hw'⟩, ?_⟩
      | ((with_reducible show CallEv _ _ 91 _ _ _ _ _); refine callE (k := 91) (fun β w' hbw => h91 _ hbw) ?_)
    all_goals first | (exfalso; omega) | exact ⟨fun β => rfl, fun w' h => h⟩
   | true =>
    rw [Bool.true_and]
    obtain ⟨vl, hvl⟩ : ∃ v, (List.all (List.range L.length) fun i => ((L[i]?).map Lr.L).any (lgB T.length i)) = v := ⟨_, rfl⟩
    rw [hvl]
    generalize hW : Value.bool _ = W
    have hW' : W = Value.bool ((((T.drop 1).drop 0).all fun t => twB days t.d) && vl) := hW.symm
    clear hW
    repeat'
     conv => whnf
     first
      | refine zA ?_ | refine zB ?_ | refine zC ?_ | refine zD ?_ | refine zE ?_ | refine zF ?_ | refine zG ?_ | refine zH ?_ | refine zJ ?_ | refine zI ?_ | refine splT ?_ | refine splF ?_ | refine splNot ?_
      | ((first | refine splIn ?_ ?_ | refine splD ?_ ?_ | refine splE ?_ ?_ | refine splNE ?_ ?_) <;> intro hc <;> first | (exfalso; omega) | (exfalso; dsimp only at hc; omega) | skip)
      | ((with_reducible show CallEv _ _ 70 _ _ _ _ _); refine callE (k := 70) (fun β w' hbw => within_ok _ _ _ _) ?_)
      | refine Exists.intro (α := List Value) [.slice oo O.length oc, iv s1, iv s2, iv pay, iv lot, iv rent, .slice ro R.length rc, iv cold, iv cut] ⟨⟨rfl, fun w' hw' => e0 w' hw'⟩, ?_⟩
      | ((with_reducible show CallEv _ _ 91 _ _ _ _ _); refine callE (k := 91) (fun β w' hbw => h91 _ hbw) ?_)
      | refine slLo env (z := 1) rfl rfl rfl rfl (by omega) (by omega) rfl ?_
      | ((with_reducible show CallEv _ _ 92 _ _ _ _ _); refine callI env mixed 1000 [1,3,43] Try.func92 has92 Try.ntmps92 (Nat.le_of_ble_eq_true rfl) rfl rfl rfl ?_)
      | ((with_reducible show CallEv _ _ 134 _ _ _ _ _); refine callI env mixed 2000 [] Try.func134 has134 Try.ntmps134 (Nat.le_of_ble_eq_true rfl) rfl rfl rfl ?_)
      | ((with_reducible show CallEv _ _ 163 _ _ _ _ _); refine callI env mixed 3000 [] Try.func163 has163 Try.ntmps163 (Nat.le_of_ble_eq_true rfl) rfl rfl rfl ?_)
    all_goals first | (exfalso; omega) | skip
    have hTT := fun (w' : World) hw' => Rd.dropP (hT.below (w' := w') hw') 1 (tc - 1)
    have hTm : ∀ t ∈ T.drop 1, t ∈ T := fun t ht => List.mem_of_mem_drop ht
    have hTl : (T.drop 1).length = T.length - 1 := List.length_drop ..
    generalize T.drop 1 = TT at *
    have had : ad.add (1 * ti57.size) = ad.add (1 * 9) := rfl
    generalize ad.add (1 * ti57.size) = ad1 at *
    subst had
    refine loopE (fun k : Nat => [(0, .v (.slice (some (ad.add (1 * 9))) (T.length - 1) (tc - 1))), (1, .fn (.func 135) [.ptr 1 0]), (7, .v (iv (T.length - 1 : Nat))), (8, .v (iv k))]) (fun _ => [(1, .cells [.fn (.func 93) [.ptr 0 0]] 165), (0, .cells [.v (iv days), .v (iv shift), .v (iv size), .v (.slice (some ad) T.length tc), .v (.slice lo L.length lc)] 35)]) (fun k => k ≤ T.length - 1 ∧ W = Value.bool (((TT.drop k).all fun t => twB days t.d) && vl)) (fun k => T.length - k) 0 ⟨Nat.zero_le _, hW'⟩ ⟨rfl, rfl, rfl, rfl, trivial⟩ ⟨rfl, rfl, trivial⟩ (fun _ => ⟨rfl, rfl⟩) ?_
    clear hW'
    intro k ⟨hk, hW⟩
    rcases Nat.lt_or_ge k (T.length - 1) with hkl | hkl
    · obtain ⟨t, ht⟩ : ∃ t, TT[k]? = some t := ⟨_, List.getElem?_eq_getElem (by omega)⟩
      have e1 := fun (w' : World) hw' => rd_ati (hTT w' hw') ht
      have h94 := fun w' hb => town_ok t days w' ((hTi t (hTm t (List.mem_of_getElem? ht))).below hb) hd
      obtain ⟨v, hv⟩ : ∃ v, twB days t.d = v := ⟨_, rfl⟩
      have hdk : ((TT.drop k).all fun t => twB days t.d) = (v && ((TT.drop (k + 1)).all fun t => twB days t.d)) := by
       obtain ⟨hkk, e⟩ := List.getElem?_eq_some_iff.1 ht
       rw [List.drop_eq_getElem_cons hkk, e, List.all_cons, hv]
      rw [hdk] at hW
      rw [hv] at h94
      obtain ⟨oo', oc', ro', rc', O', s1', s2', pay', lot', rent', R', cold', cut'⟩ := t
      cases v with
      | true =>
       rw [Bool.true_and] at hW
       repeat'
        conv => whnf
        first
         | refine zA ?_ | refine zB ?_ | refine zC ?_ | refine zD ?_ | refine zE ?_ | refine zF ?_ | refine zG ?_ | refine zH ?_ | refine zJ ?_ | refine zI ?_ | refine splT ?_ | refine splF ?_ | refine splNot ?_
         | ((first | refine splIn ?_ ?_ | refine splD ?_ ?_ | refine splE ?_ ?_ | refine splNE ?_ ?_) <;> intro hc <;> first | (exfalso; omega) | (exfalso; dsimp only at hc; omega) | skip)
         | refine Exists.intro (α := List Value) [.slice oo' O'.length oc', iv s1', iv s2', iv pay', iv lot', iv rent', .slice ro' R'.length rc', iv cold', iv cut'] ⟨⟨rfl, fun w' hw' => e1 w' hw'⟩, ?_⟩
         | ((with_reducible show CallEv _ _ 135 _ _ _ _ _); refine callI env mixed 4000 [0,1,5,7,8] Try.func135 has135 Try.ntmps135 (Nat.le_of_ble_eq_true rfl) rfl rfl rfl ?_)
         | ((with_reducible show CallEv _ _ 93 _ _ _ _ _); refine callI env mixed 5000 [] Try.func93 has93 Try.ntmps93 (Nat.le_of_ble_eq_true rfl) rfl rfl rfl ?_)
         | ((with_reducible show CallEv _ _ 94 _ _ _ _ _); refine callE (k := 94) (fun β w' hbw => h94 _ hbw) ?_)
       all_goals first | (exfalso; omega) | exact ⟨k + 1, ⟨by omega, hW⟩, by omega, Ent.weak rfl ⟨rfl, rfl, rfl, rfl, trivial⟩ ⟨rfl, rfl, trivial⟩ fun _ h => h⟩
      | false =>
       rw [Bool.false_and, Bool.false_and] at hW
       subst hW
       repeat'
        conv => whnf
        first
         | refine zA ?_ | refine zB ?_ | refine zC ?_ | refine zD ?_ | refine zE ?_ | refine zF ?_ | refine zG ?_ | refine zH ?_ | refine zJ ?_ | refine zI ?_ | refine splT ?_ | refine splF ?_ | refine splNot ?_
         | ((first | refine splIn ?_ ?_ | refine splD ?_ ?_ | refine splE ?_ ?_ | refine splNE ?_ ?_) <;> intro hc <;> first | (exfalso; omega) | (exfalso; dsimp only at hc; omega) | skip)
         | refine Exists.intro (α := List Value) [.slice oo' O'.length oc', iv s1', iv s2', iv pay', iv lot', iv rent', .slice ro' R'.length rc', iv cold', iv cut'] ⟨⟨rfl, fun w' hw' => e1 w' hw'⟩, ?_⟩
         | ((with_reducible show CallEv _ _ 135 _ _ _ _ _); refine callI env mixed 4000 [0,1,5,7,8] Try.func135 has135 Try.ntmps135 (Nat.le_of_ble_eq_true rfl) rfl rfl rfl ?_)
         | ((with_reducible show CallEv _ _ 93 _ _ _ _ _); refine callI env mixed 5000 [] Try.func93 has93 Try.ntmps93 (Nat.le_of_ble_eq_true rfl) rfl rfl rfl ?_)
         | ((with_reducible show CallEv _ _ 94 _ _ _ _ _); refine callE (k := 94) (fun β w' hbw => h94 _ hbw) ?_)
       all_goals first | (exfalso; omega) | exact ⟨fun β => rfl, fun w' h => h⟩
    · obtain rfl : k = T.length - 1 := by omega
      rw [List.drop_of_length_le (by omega), List.all_nil, Bool.true_and] at hW
      subst hW
      clear hTT
      conv => whnf
      repeat'
       conv => whnf
       first
        | refine zA ?_ | refine zB ?_ | refine zC ?_ | refine zD ?_ | refine zE ?_ | refine zF ?_ | refine zG ?_ | refine zH ?_ | refine zJ ?_ | refine zI ?_ | refine splT ?_ | refine splF ?_ | refine splNot ?_
        | ((first | refine splIn ?_ ?_ | refine splD ?_ ?_ | refine splE ?_ ?_ | refine splNE ?_ ?_) <;> intro hc <;> first | (exfalso; omega) | (exfalso; dsimp only at hc; omega) | skip)
      all_goals first | (exfalso; omega) | skip
      refine loopE (fun i : Nat => [(1, .ptr 0 0), (3, .v (iv T.length)), (52, .v (.slice lo L.length lc)), (53, .v (iv L.length)), (54, .v (iv i))]) (fun _ => [(0, .cells [.v (iv days), .v (iv shift), .v (iv size), .v (.slice (some ad) T.length tc), .v (.slice lo L.length lc)] 35)]) (fun i => i ≤ L.length ∧ ((List.range i).all fun i => ((L[i]?).map Lr.L).any (lgB T.length i)) = true) (fun i => L.length - i) 0 ⟨Nat.zero_le _, rfl⟩ ⟨rfl, rfl, rfl, rfl, rfl, trivial⟩ ⟨rfl, trivial⟩ (fun _ => ⟨rfl, rfl⟩) ?_
      intro i ⟨hi, hall⟩
      rcases Nat.lt_or_ge i L.length with hil | hil
      · obtain ⟨⟨ro, rc, row⟩, hr⟩ : ∃ r, L[i]? = some r := ⟨_, List.getElem?_eq_getElem hil⟩
        obtain ⟨_, la, rfl, _⟩ := hL.ptr (by omega)
        have e2 := fun (w' : World) hw' => rd_ati (hL.below (w' := w') hw') hr
        have hrd := hLi _ (List.mem_of_getElem? hr)
        have hrl := hlr _ (List.mem_of_getElem? hr)
        dsimp only at hrd hrl
        have hp : ((L[i]?).map Lr.L).any (lgB T.length i) = lgB T.length i row := by rw [hr]; rfl
        have hsu : ((List.range (i + 1)).all fun i => ((L[i]?).map Lr.L).any (lgB T.length i)) = lgB T.length i row := by
         rw [List.range_succ, List.all_append, hall, ← hp]; simp
        have hno : lgB T.length i row = false → vl = false := fun h => by
         rw [← hvl, List.all_eq_false]
         exact ⟨i, List.mem_range.2 hil, by rw [hp, h]; decide⟩
        by_cases hrn : row.length = T.length
        · obtain ⟨⟨p1, p2⟩, hpp⟩ : ∃ p, row[i]? = some p := ⟨_, List.getElem?_eq_getElem (by omega)⟩
          obtain ⟨_, ra, rfl, _⟩ := hrd.ptr (by omega)
          have e3 := fun (w' : World) hw' => rd_ati (hrd.below (w' := w') hw') hpp
          have h95 := fun w' hb => all96_ok row (some ra) rc w' (hrd.below hb) hrl
          obtain ⟨va, hva⟩ : ∃ v, row.all (fun x : Int × Int => inB x.1 0 200 && inB x.2 0 1000000) = v := ⟨_, rfl⟩
          obtain ⟨q, hq⟩ : ∃ q, (!(p1 == 0 && p2 == 0)) = q := ⟨_, rfl⟩
          rw [hva] at h95
          have hlg : lgB T.length i row = (!q && va) := by
           unfold lgB
           rw [decide_eq_true hrn, Bool.true_and, hva, hpp, ← hq, Bool.not_not]
           congr 1
           rw [Bool.eq_iff_iff]; simp
          rw [hlg] at hsu hno
          cases q with
          | true =>
           rw [hno rfl]
           repeat'
            conv => whnf
            first
             | refine zA ?_ | refine zB ?_ | refine zC ?_ | refine zD ?_ | refine zE ?_ | refine zF ?_ | refine zG ?_ | refine zH ?_ | refine zJ ?_ | refine zI ?_ | refine splT ?_ | refine splF ?_ | refine splNot ?_
             | ((first | refine splIn ?_ ?_ | refine splD ?_ ?_ | refine splE ?_ ?_ | refine splNE ?_ ?_) <;> intro hc <;> first | (exfalso; omega) | (exfalso; dsimp only at hc; omega) | skip)
             | refine Exists.intro (α := List Value) [.slice (some ra) row.length rc] ⟨⟨rfl, fun w' hw' => e2 w' hw'⟩, ?_⟩
             | refine Exists.intro (α := List Value) [iv p1, iv p2] ⟨⟨rfl, fun w' hw' => e3 w' hw'⟩, ?_⟩
             | refine neqE60 hq ?_
             | ((with_reducible show CallEv _ _ 95 _ _ _ _ _); refine callE (k := 95) (fun β w' hbw => h95 _ hbw) ?_)
           all_goals first | (exfalso; omega) | exact ⟨fun β => rfl, fun w' h => h⟩
          | false =>
           cases va with
           | true =>
            repeat'
             conv => whnf
             first
              | refine zA ?_ | refine zB ?_ | refine zC ?_ | refine zD ?_ | refine zE ?_ | refine zF ?_ | refine zG ?_ | refine zH ?_ | refine zJ ?_ | refine zI ?_ | refine splT ?_ | refine splF ?_ | refine splNot ?_
              | ((first | refine splIn ?_ ?_ | refine splD ?_ ?_ | refine splE ?_ ?_ | refine splNE ?_ ?_) <;> intro hc <;> first | (exfalso; omega) | (exfalso; dsimp only at hc; omega) | skip)
              | refine Exists.intro (α := List Value) [.slice (some ra) row.length rc] ⟨⟨rfl, fun w' hw' => e2 w' hw'⟩, ?_⟩
              | refine Exists.intro (α := List Value) [iv p1, iv p2] ⟨⟨rfl, fun w' hw' => e3 w' hw'⟩, ?_⟩
              | refine neqE60 hq ?_
              | ((with_reducible show CallEv _ _ 95 _ _ _ _ _); refine callE (k := 95) (fun β w' hbw => h95 _ hbw) ?_)
            all_goals first | (exfalso; omega) | exact ⟨i + 1, ⟨by omega, hsu⟩, by omega, Ent.weak rfl ⟨rfl, rfl, rfl, rfl, rfl, trivial⟩ ⟨rfl, trivial⟩ fun _ h => h⟩
           | false =>
            rw [hno rfl]
            repeat'
             conv => whnf
             first
              | refine zA ?_ | refine zB ?_ | refine zC ?_ | refine zD ?_ | refine zE ?_ | refine zF ?_ | refine zG ?_ | refine zH ?_ | refine zJ ?_ | refine zI ?_ | refine splT ?_ | refine splF ?_ | refine splNot ?_
              | ((first | refine splIn ?_ ?_ | refine splD ?_ ?_ | refine splE ?_ ?_ | refine splNE ?_ ?_) <;> intro hc <;> first | (exfalso; omega) | (exfalso; dsimp only at hc; omega) | skip)
              | refine Exists.intro (α := List Value) [.slice (some ra) row.length rc] ⟨⟨rfl, fun w' hw' => e2 w' hw'⟩, ?_⟩
              | refine Exists.intro (α := List Value) [iv p1, iv p2] ⟨⟨rfl, fun w' hw' => e3 w' hw'⟩, ?_⟩
              | refine neqE60 hq ?_
              | ((with_reducible show CallEv _ _ 95 _ _ _ _ _); refine callE (k := 95) (fun β w' hbw => h95 _ hbw) ?_)
            all_goals first | (exfalso; omega) | exact ⟨fun β => rfl, fun w' h => h⟩
        · rw [hno (by unfold lgB; rw [decide_eq_false hrn]; rfl)]
          repeat'
           conv => whnf
           first
            | refine zA ?_ | refine zB ?_ | refine zC ?_ | refine zD ?_ | refine zE ?_ | refine zF ?_ | refine zG ?_ | refine zH ?_ | refine zJ ?_ | refine zI ?_ | refine splT ?_ | refine splF ?_ | refine splNot ?_
            | ((first | refine splIn ?_ ?_ | refine splD ?_ ?_ | refine splE ?_ ?_ | refine splNE ?_ ?_) <;> intro hc <;> first | (exfalso; omega) | (exfalso; dsimp only at hc; omega) | skip)
            | refine Exists.intro (α := List Value) [.slice ro row.length rc] ⟨⟨rfl, fun w' hw' => e2 w' hw'⟩, ?_⟩
          all_goals first | (exfalso; omega) | exact ⟨fun β => rfl, fun w' h => h⟩
      · obtain rfl : i = L.length := by omega
        have hvt : vl = true := by rw [← hvl]; exact hall
        rw [hvt]
        repeat'
         conv => whnf
         first
          | refine zA ?_ | refine zB ?_ | refine zC ?_ | refine zD ?_ | refine zE ?_ | refine zF ?_ | refine zG ?_ | refine zH ?_ | refine zJ ?_ | refine zI ?_ | refine splT ?_ | refine splF ?_ | refine splNot ?_
          | ((first | refine splIn ?_ ?_ | refine splD ?_ ?_ | refine splE ?_ ?_ | refine splNE ?_ ?_) <;> intro hc <;> first | (exfalso; omega) | (exfalso; dsimp only at hc; omega) | skip)
        all_goals first | (exfalso; omega) | exact ⟨fun β => rfl, fun w' h => h⟩
 · rw [show (inB days 1 60 && (inB shift 1 24 && (inB size 0 100000 && (inB T.length 2 9 && decide ((L.length : Int) = T.length))))) = false from by
    rw [Bool.eq_false_iff]; simp only [inB, ne_eq, Bool.and_eq_true, decide_eq_true_eq]; omega, Bool.false_and]
   repeat'
    conv => whnf
    first
     | refine zA ?_ | refine zB ?_ | refine zC ?_ | refine zD ?_ | refine zE ?_ | refine zF ?_ | refine zG ?_ | refine zH ?_ | refine zJ ?_ | refine zI ?_ | refine splT ?_ | refine splF ?_ | refine splNot ?_
     | ((first | refine splIn ?_ ?_ | refine splD ?_ ?_ | refine splE ?_ ?_ | refine splNE ?_ ?_) <;> intro hc <;> first | (exfalso; omega) | (exfalso; dsimp only at hc; omega) | skip)
     | ((with_reducible show CallEv _ _ 70 _ _ _ _ _); refine callE (k := 70) (fun β w' hbw => within_ok _ _ _ _) ?_)
   all_goals first | (exfalso; omega) | exact ⟨fun β => rfl, fun w' h => h⟩
end Go.Proofs.Ythfabodamhdhaaa
namespace Go.Proofs.Ythfabodamhdhaaa
open Go Tx Go.RowKit
set_option linter.unusedSimpArgs false
set_option linter.unusedVariables false
theorem played_ok (x : Tr) (n : Int) (w : World) (hl : x.T.length ≤ 1000000) : Calls Try.prog 69 #[x.v, iv n] w fun e w' => e = .returned (.bool (inB n 1 ((x.T.length : Int) - 1))) ∧ Below w.heap.size w w' := by
 obtain ⟨days, shift, size, to, tc, T, lo, lc, L⟩ := x
 dsimp only at hl ⊢
 refine calls_val env mixed Try.func69 has69 Try.ntmps69 [.agg #[iv days, iv shift, iv size, .slice to T.length tc, .slice lo L.length lc], iv n] (by simp) ?_
 have hv := fun w' => within_ok n 1 (T.length - 1) w'
 repeat'
  conv => whnf
  first
   | refine zA ?_ | refine zB ?_ | refine zC ?_ | refine zD ?_ | refine zE ?_ | refine zF ?_ | refine zG ?_ | refine zH ?_ | refine zJ ?_ | refine zI ?_ | refine splT ?_ | refine splF ?_ | refine splNot ?_
   | ((first | refine splIn ?_ ?_ | refine splD ?_ ?_ | refine splE ?_ ?_ | refine splNE ?_ ?_) <;> intro hc <;> first | (exfalso; omega) | (exfalso; dsimp only at hc; omega) | skip)
   | ((with_reducible show CallEv _ _ 70 _ _ _ _ _); refine callE (k := 70) (fun β w' hbw => hv _) ?_)
 all_goals first | (exfalso; omega) | exact ⟨fun β => rfl, fun w' h => h⟩
end Go.Proofs.Ythfabodamhdhaaa
namespace Go.Proofs.Ythfabodamhdhaaa
open Go Tx Go.RowKit
set_option linter.unusedSimpArgs false
set_option linter.unusedVariables false
def fitB (r1 r2 f l : Int) : Bool := decide (f ≤ l) && (decide (l - f < 10) && inB (l - f + 1) r1 r2)
theorem cv200 (t : Int) : RunIs Try.prog (convert 3 200 (.int .i64 t)) (.int .u64 (IntKind.u64.wrap t)) := fun w => by
 have h200 : Try.prog.underlying 200 = some (.int .u64) := by kernel_rfl
 simp [convert, Conv.intToInt, Go.run_underlying h200 w, Go.run_underlying under3 w]
theorem w64_sub (l f : Int) (h : 0 ≤ l - f ∧ l - f ≤ 18446744073709551615) : l - f = IntKind.u64.wrap (IntKind.u64.wrap l - IntKind.u64.wrap f) := by
 have e : ∀ x : Int, IntKind.u64.wrap x = x % 18446744073709551616 := fun x => by
  simp only [IntKind.wrap, IntKind.bits, IntKind.signed]; simp
 rw [e, e, e]; omega
set_option maxRecDepth 100000 in
theorem fits_ok (k f l r1 r2 : Int) (w : World) (hf : -9223372036854775808 ≤ f ∧ f ≤ 9223372036854775807) (hl : -9223372036854775808 ≤ l ∧ l ≤ 9223372036854775807) : Calls Try.prog 147 #[.agg #[iv k, iv f, iv l], .agg #[iv r1, iv r2]] w fun e w' => e = .returned (.bool (fitB r1 r2 f l)) ∧ Below w.heap.size w w' := by
 refine calls_val env mixed Try.func147 has147 Try.ntmps147 [.agg #[iv k, iv f, iv l], .agg #[iv r1, iv r2]] (by simp) ?_
 have hv := fun w' => has_ok r1 r2 (l - f + 1) w'
 have hsub := w64_sub l f
 have cl := cv200 l
 have cf := cv200 f
 generalize hul : IntKind.u64.wrap l = ul at *
 generalize huf : IntKind.u64.wrap f = uf at *
 repeat'
  conv => whnf
  first
   | refine zA ?_ | refine zB ?_ | refine zC ?_ | refine zD ?_ | refine zE ?_ | refine zF ?_ | refine zG ?_ | refine zH ?_ | refine zJ ?_ | refine zI ?_ | refine splT ?_ | refine splF ?_ | refine splNot ?_
   | ((first | refine splIn ?_ ?_ | refine splD ?_ ?_ | refine splE ?_ ?_ | refine splNE ?_ ?_) <;> intro hc <;> first | (exfalso; omega) | (exfalso; dsimp only at hc; omega) | skip)
   | refine Exists.intro (α := Value) (.int .u64 ul) ⟨cl, ?_⟩
   | refine Exists.intro (α := Value) (.int .u64 uf) ⟨cf, ?_⟩
   | refine Exists.intro (α := Int) (l - f) ⟨hsub (by omega), ?_⟩
   | ((with_reducible show CallEv _ _ 166 _ _ _ _ _); refine callE (k := 166) (fun β w' hbw => hv _) ?_)
 all_goals first | (exfalso; omega) | exact ⟨fun β => congrArg Value.bool (by simp [fitB, *]; done), fun w' h => h⟩
def licB (O : List (Int × Int)) (f l : Int) : Bool := O.any fun r => inB f r.1 r.2 && inB l r.1 r.2
set_option maxHeartbeats 2000000 in
set_option maxRecDepth 100000 in
theorem licensed_ok (t : Tn) (k f l : Int) (w : World) (h : TnIn t w) : Calls Try.prog 149 #[.agg t.cs.toArray, .agg #[iv k, iv f, iv l]] w fun e w' => e = .returned (.bool (licB t.d.O f l)) ∧ Below w.heap.size w w' := by
 obtain ⟨oo, oc, ro, rc, O, s1, s2, pay, lot, rent, R, cold, cut⟩ := t
 obtain ⟨hO, hR, hol, hrl⟩ := h
 dsimp only at hO hR hol hrl ⊢
 refine calls_val env mixed Try.func149 has149 Try.ntmps149 [.agg #[.slice oo O.length oc, iv s1, iv s2, iv pay, iv lot, iv rent, .slice ro R.length rc, iv cold, iv cut], .agg #[iv k, iv f, iv l]] (by simp) ?_
 repeat'
  conv => whnf
  first
   | refine zA ?_ | refine zB ?_ | refine zC ?_ | refine zD ?_ | refine zE ?_ | refine zF ?_ | refine zG ?_ | refine zH ?_ | refine zJ ?_ | refine zI ?_ | refine splT ?_ | refine splF ?_ | refine splNot ?_
   | ((first | refine splIn ?_ ?_ | refine splD ?_ ?_ | refine splE ?_ ?_ | refine splNE ?_ ?_) <;> intro hc <;> first | (exfalso; omega) | (exfalso; dsimp only at hc; omega) | skip)
 refine loopE (fun i : Nat => [(2, .ptr 0 0), (3, .ptr 1 0), (5, .v (.bool false)), (11, .v (.slice oo O.length oc)), (12, .v (iv O.length)), (13, .v (iv i))]) (fun _ => [(1, .cells [.v (iv k), .v (iv f), .v (iv l)] 96), (0, .cells [.v (.slice oo O.length oc), .v (iv s1), .v (iv s2), .v (iv pay), .v (iv lot), .v (iv rent), .v (.slice ro R.length rc), .v (iv cold), .v (iv cut)] 57)]) (fun i => i ≤ O.length ∧ licB (O.take i) f l = false) (fun i => O.length - i) 0 ⟨Nat.zero_le _, rfl⟩ ⟨rfl, rfl, rfl, rfl, rfl, rfl, trivial⟩ ⟨rfl, rfl, trivial⟩ (fun _ => ⟨rfl, rfl⟩) ?_
 intro i ⟨hi, hall⟩
 rcases Nat.lt_or_ge i O.length with hil | hil
 · obtain ⟨⟨r1, r2⟩, hx⟩ : ∃ b, O[i]? = some b := ⟨_, List.getElem?_eq_getElem hil⟩
   obtain ⟨_, ad, rfl, _⟩ := hO.ptr (by omega)
   have e0 := fun (w' : World) hw' => rd_ati (hO.below (w' := w') hw') hx
   have ht : licB (O.take (i + 1)) f l = (inB f r1 r2 && inB l r1 r2) := by
    unfold licB
    rw [any_take hx, show (O.take i).any (fun r => inB f r.1 r.2 && inB l r.1 r.2) = false from hall, Bool.false_or]
   have hyes : (inB f r1 r2 && inB l r1 r2) = true → licB O f l = true := fun h => any_yes (p := fun r : Int × Int => inB f r.1 r.2 && inB l r.1 r.2) hx h
   have hf := fun w' => has_ok r1 r2 f w'
   have hl := fun w' => has_ok r1 r2 l w'
   obtain ⟨b1, h1⟩ : ∃ b, inB f r1 r2 = b := ⟨_, rfl⟩
   obtain ⟨b2, h2⟩ : ∃ b, inB l r1 r2 = b := ⟨_, rfl⟩
   rw [h1, h2] at hyes ht
   rw [h1] at hf
   rw [h2] at hl
   repeat'
    conv => whnf
    first
     | refine zA ?_ | refine zB ?_ | refine zC ?_ | refine zD ?_ | refine zE ?_ | refine zF ?_ | refine zG ?_ | refine zH ?_ | refine zJ ?_ | refine zI ?_ | refine splT ?_ | refine splF ?_ | refine splNot ?_
     | ((first | refine splIn ?_ ?_ | refine splD ?_ ?_ | refine splE ?_ ?_ | refine splNE ?_ ?_) <;> intro hc <;> first | (exfalso; omega) | (exfalso; dsimp only at hc; omega) | skip)
     | refine Exists.intro (α := List Value) [iv r1, iv r2] ⟨⟨rfl, fun w' hw' => e0 w' hw'⟩, ?_⟩
   all_goals first | (exfalso; omega) | skip
   refine loopE (fun j : Nat => [(2, .ptr 0 0), (3, .ptr 1 0), (5, .v (.bool false)), (11, .v (.slice (some ad) O.length oc)), (12, .v (iv O.length)), (13, .v (iv i)), (7, .ptr 2 0), (21, .agg [.v (iv f), .v (iv l)]), (22, .v (iv j))]) (fun _ => [(2, .cells [.v (iv r1), .v (iv r2)] 55), (1, .cells [.v (iv k), .v (iv f), .v (iv l)] 96), (0, .cells [.v (.slice (some ad) O.length oc), .v (iv s1), .v (iv s2), .v (iv pay), .v (iv lot), .v (iv rent), .v (.slice ro R.length rc), .v (iv cold), .v (iv cut)] 57)]) (fun j => j ≤ 2 ∧ (1 ≤ j → b1 = true) ∧ (2 ≤ j → b2 = true)) (fun j => 2 - j) 0 ⟨by decide, by omega, by omega⟩ ⟨rfl, rfl, rfl, rfl, rfl, rfl, rfl, rfl, rfl, trivial⟩ ⟨rfl, rfl, rfl, trivial⟩ (fun _ => ⟨rfl, rfl⟩) ?_
   intro j ⟨hj, hj1, hj2⟩
   obtain rfl | rfl | rfl : j = 0 ∨ j = 1 ∨ j = 2 := by omega
   · cases b1 with
     | true =>
      repeat'
       conv => whnf
       first
        | refine zA ?_ | refine zB ?_ | refine zC ?_ | refine zD ?_ | refine zE ?_ | refine zF ?_ | refine zG ?_ | refine zH ?_ | refine zJ ?_ | refine zI ?_ | refine splT ?_ | refine splF ?_ | refine splNot ?_
        | ((first | refine splIn ?_ ?_ | refine splD ?_ ?_ | refine splE ?_ ?_ | refine splNE ?_ ?_) <;> intro hc <;> first | (exfalso; omega) | (exfalso; dsimp only at hc; omega) | skip)
        | refine idxS env rfl rfl rfl rfl (And.intro (by omega) (by omega)) rfl rfl (.inr ⟨rfl, rfl⟩) rfl ?_
        | ((with_reducible show CallEv _ _ 166 _ _ _ _ _); refine callE (k := 166) (fun β w' hbw => hf _) ?_)
      all_goals first | (exfalso; omega) | exact ⟨1, ⟨by omega, fun _ => rfl, by omega⟩, by omega, Ent.weak rfl ⟨rfl, rfl, rfl, rfl, rfl, rfl, rfl, rfl, rfl, trivial⟩ ⟨rfl, rfl, rfl, trivial⟩ fun _ h => h⟩
     | false =>
      repeat'
       conv => whnf
       first
        | refine zA ?_ | refine zB ?_ | refine zC ?_ | refine zD ?_ | refine zE ?_ | refine zF ?_ | refine zG ?_ | refine zH ?_ | refine zJ ?_ | refine zI ?_ | refine splT ?_ | refine splF ?_ | refine splNot ?_
        | ((first | refine splIn ?_ ?_ | refine splD ?_ ?_ | refine splE ?_ ?_ | refine splNE ?_ ?_) <;> intro hc <;> first | (exfalso; omega) | (exfalso; dsimp only at hc; omega) | skip)
        | refine idxS env rfl rfl rfl rfl (And.intro (by omega) (by omega)) rfl rfl (.inr ⟨rfl, rfl⟩) rfl ?_
        | ((with_reducible show CallEv _ _ 166 _ _ _ _ _); refine callE (k := 166) (fun β w' hbw => hf _) ?_)
      all_goals first | (exfalso; omega) | exact ⟨i + 1, ⟨by omega, ht⟩, by omega, Ent.weak rfl ⟨rfl, rfl, rfl, rfl, rfl, rfl, trivial⟩ ⟨rfl, rfl, trivial⟩ fun _ h => h⟩
   · obtain rfl := hj1 (by omega)
     cases b2 with
     | true =>
      repeat'
       conv => whnf
       first
        | refine zA ?_ | refine zB ?_ | refine zC ?_ | refine zD ?_ | refine zE ?_ | refine zF ?_ | refine zG ?_ | refine zH ?_ | refine zJ ?_ | refine zI ?_ | refine splT ?_ | refine splF ?_ | refine splNot ?_
        | ((first | refine splIn ?_ ?_ | refine splD ?_ ?_ | refine splE ?_ ?_ | refine splNE ?_ ?_) <;> intro hc <;> first | (exfalso; omega) | (exfalso; dsimp only at hc; omega) | skip)
        | refine idxS env rfl rfl rfl rfl (And.intro (by omega) (by omega)) rfl rfl (.inr ⟨rfl, rfl⟩) rfl ?_
        | ((with_reducible show CallEv _ _ 166 _ _ _ _ _); refine callE (k := 166) (fun β w' hbw => hl _) ?_)
      all_goals first | (exfalso; omega) | exact ⟨2, ⟨by omega, fun _ => rfl, fun _ => rfl⟩, by omega, Ent.weak rfl ⟨rfl, rfl, rfl, rfl, rfl, rfl, rfl, rfl, rfl, trivial⟩ ⟨rfl, rfl, rfl, trivial⟩ fun _ h => h⟩
     | false =>
      repeat'
       conv => whnf
       first
        | refine zA ?_ | refine zB ?_ | refine zC ?_ | refine zD ?_ | refine zE ?_ | refine zF ?_ | refine zG ?_ | refine zH ?_ | refine zJ ?_ | refine zI ?_ | refine splT ?_ | refine splF ?_ | refine splNot ?_
        | ((first | refine splIn ?_ ?_ | refine splD ?_ ?_ | refine splE ?_ ?_ | refine splNE ?_ ?_) <;> intro hc <;> first | (exfalso; omega) | (exfalso; dsimp only at hc; omega) | skip)
        | refine idxS env rfl rfl rfl rfl (And.intro (by omega) (by omega)) rfl rfl (.inr ⟨rfl, rfl⟩) rfl ?_
        | ((with_reducible show CallEv _ _ 166 _ _ _ _ _); refine callE (k := 166) (fun β w' hbw => hl _) ?_)
      all_goals first | (exfalso; omega) | exact ⟨i + 1, ⟨by omega, ht⟩, by omega, Ent.weak rfl ⟨rfl, rfl, rfl, rfl, rfl, rfl, trivial⟩ ⟨rfl, rfl, trivial⟩ fun _ h => h⟩
   · obtain rfl := hj1 (by omega)
     obtain rfl := hj2 (by omega)
     rw [hyes rfl]
     repeat'
      conv => whnf
      first
       | refine zA ?_ | refine zB ?_ | refine zC ?_ | refine zD ?_ | refine zE ?_ | refine zF ?_ | refine zG ?_ | refine zH ?_ | refine zJ ?_ | refine zI ?_ | refine splT ?_ | refine splF ?_ | refine splNot ?_
       | ((first | refine splIn ?_ ?_ | refine splD ?_ ?_ | refine splE ?_ ?_ | refine splNE ?_ ?_) <;> intro hc <;> first | (exfalso; omega) | (exfalso; dsimp only at hc; omega) | skip)
     all_goals first | (exfalso; omega) | exact ⟨fun β => rfl, fun w' h => h⟩
 · rw [List.take_of_length_le hil] at hall
   rw [hall]
   repeat'
    conv => whnf
    first
     | refine zA ?_ | refine zB ?_ | refine zC ?_ | refine zD ?_ | refine zE ?_ | refine zF ?_ | refine zG ?_ | refine zH ?_ | refine zJ ?_ | refine zI ?_ | refine splT ?_ | refine splF ?_ | refine splNot ?_
     | ((first | refine splIn ?_ ?_ | refine splD ?_ ?_ | refine splE ?_ ?_ | refine splNE ?_ ?_) <;> intro hc <;> first | (exfalso; omega) | (exfalso; dsimp only at hc; omega) | skip)
   all_goals first | (exfalso; omega) | exact ⟨fun β => rfl, fun w' h => h⟩
end Go.Proofs.Ythfabodamhdhaaa
namespace Go.Proofs.Ythfabodamhdhaaa
open Go Tx Go.RowKit
set_option linter.unusedSimpArgs false
set_option linter.unusedVariables false
abbrev spF (s : Int × Int × Int) : List Value := [iv s.1, iv s.2.1, iv s.2.2]
structure SpIn (o : Option Addr) (c : Nat) (S : List (Int × Int × Int)) (w : World) : Prop where
 r : Rd 3 spF (.slice o S.length c) S w
 l : S.length ≤ 1000000
 c : S.length ≤ c
 n : ∀ s ∈ S, (-9223372036854775808 ≤ s.2.1 ∧ s.2.1 ≤ 9223372036854775807) ∧ -9223372036854775808 ≤ s.2.2 ∧ s.2.2 ≤ 9223372036854775807
theorem SpIn.below {o : Option Addr} {c : Nat} {S : List (Int × Int × Int)} {w w' : World} (h : SpIn o c S w) (hb : Below w.heap.size w w') : SpIn o c S w' := ⟨h.r.below hb, h.l, h.c, h.n⟩
def twO (x : To) (k : Int) : Tw := (x.T[k.toNat]?).getD ⟨[], 0, 0, 0, 0, 0, [], 0, 0⟩
def ts1 (x : To) (k : Int) : Bool := !(inB k 1 ((x.T.length : Int) - 1))
def ts2 (x : To) (k : Int) : Bool := decide ((twO x k).lot < x.size)
def ts3 (x : To) (k f l : Int) : Bool := !(fitB (twO x k).s1 (twO x k).s2 f l)
def ts4 (x : To) (k f l : Int) : Bool := !(licB (twO x k).O f l)
def ts5 (S : List (Int × Int × Int)) (i : Nat) (k : Int) : Bool := (S.take i).any fun s => s.1 == k
def ts6 (x : To) (S : List (Int × Int × Int)) (i : Nat) (k f : Int) : Bool := match i with
 | 0 => decide (-1 > f - 1 - lsO x 0 k.toNat)
 | j + 1 => match S[j]? with
  | some p => inB p.1 1 ((x.T.length : Int) - 1) && decide (p.2.2 > f - 1 - lsO x p.1.toNat k.toNat)
  | none => false
def ts7 (x : To) (S : List (Int × Int × Int)) (i : Nat) (k l : Int) : Bool := decide (i + 1 = S.length) && decide (l + lsO x k.toNat 0 > x.days - 1)
theorem rd_flds {α : Type} {sz : Nat} {f : α → List Value} {ad : Addr} {n c : Nat} {L : List α} {w : World} (h : Rd sz f (.slice (some ad) n c) L w) {k : Nat} {b : α} (hk : L[k]? = some b) (z : Int) (hz : z = k) (o : Nat) (vs : List Value) (hv : ∀ j v, vs[j]? = some v → (f b)[o + j]? = some v) :
 ∀ j u, vs[j]? = some u → w.cell? (((ad.add (z.toNat * sz)).add o).add j) = some u := fun j u hu => by
 subst hz
 rw [Addr.add_add]
 exact rd_ati h hk _ _ (hv j u hu)
theorem twO_eq {x : Tr} {k : Int} {t : Tn} (h : x.T[k.toNat]? = some t) : twO x.d k = t.d := by
 simp only [twO, Tr.d, List.getElem?_map, h, Option.map_some, Option.getD_some]
section
variable (x : Tr) (o : Option Addr) (c : Nat) (S : List (Int × Int × Int)) (i : Nat) (k f l : Int) (w : World) (h : TrIn x w) (hn : ToN x.d) (hS : SpIn o c S w) (hi : S[i]? = some (k, f, l))
include h hn hS hi
set_option maxRecDepth 100000 in
theorem test1_ok : Calls Try.prog 144 #[x.v, .slice o S.length c, iv i] w fun e w' => e = .returned (.bool (ts1 x.d k)) ∧ Below w.heap.size w w' := by
 have hp := fun w' => played_ok x k w' h.tl
 have hlen : x.d.T.length = x.T.length := List.length_map ..
 unfold ts1
 rw [hlen]
 obtain ⟨days, shift, size, to, tc, T, lo, lc, L⟩ := x
 have hil : i < S.length := (List.getElem?_eq_some_iff.1 hi).1
 have hsl := hS.l
 obtain ⟨_, ad, rfl, _⟩ := hS.r.ptr (by omega)
 have e0 := fun (w' : World) hw' => rd_fld (hS.r.below (w' := w') hw') hi 0 (iv k) rfl
 obtain ⟨b, hb⟩ : ∃ b, inB k 1 ((T.length : Int) - 1) = b := ⟨_, rfl⟩
 dsimp only at hp ⊢
 rw [hb] at hp ⊢
 refine calls_val env mixed Try.func144 has144 Try.ntmps144 [.agg #[iv days, iv shift, iv size, .slice to T.length tc, .slice lo L.length lc], .slice (some ad) S.length c, iv i] (by simp) ?_
 cases b
 all_goals skip
 repeat'
  conv => whnf
  first
   | refine zA ?_ | refine zB ?_ | refine zC ?_ | refine zD ?_ | refine zE ?_ | refine zF ?_ | refine zG ?_ | refine zH ?_ | refine zJ ?_ | refine zI ?_ | refine splT ?_ | refine splF ?_ | refine splNot ?_
   | ((first | refine splIn ?_ ?_ | refine splD ?_ ?_ | refine splE ?_ ?_ | refine splNE ?_ ?_) <;> intro hc <;> first | (exfalso; omega) | (exfalso; dsimp only at hc; omega) | skip)
   | refine Exists.intro (α := List Value) [iv k] ⟨⟨rfl, fun w' hw' => e0 w' hw'⟩, ?_⟩
   | ((with_reducible show CallEv _ _ 69 _ _ _ _ _); refine callE (k := 69) (fun β w' hbw => hp _) ?_)
 all_goals first | (exfalso; omega) | exact ⟨fun β => rfl, fun w' h => h⟩
set_option maxHeartbeats 1000000 in
set_option maxRecDepth 100000 in
theorem test2_ok (hk : 1 ≤ k ∧ k < x.T.length) : Calls Try.prog 145 #[x.v, .slice o S.length c, iv i] w fun e w' => e = .returned (.bool (ts2 x.d k)) ∧ Below w.heap.size w w' := by
 obtain ⟨t, ht⟩ : ∃ t, x.T[k.toNat]? = some t := ⟨_, List.getElem?_eq_getElem (by omega)⟩
 have htw := twO_eq (x := x) ht
 have hti := h.ti t (List.mem_of_getElem? ht)
 have hkz : k = k.toNat := by omega
 unfold ts2
 rw [htw]
 obtain ⟨days, shift, size, to, tc, T, lo, lc, L⟩ := x
 have hT := h.t
 obtain ⟨oo, oc, ro, rc, O, s1, s2, pay, lot, rent, R, cold, cut⟩ := t
 have hil : i < S.length := (List.getElem?_eq_some_iff.1 hi).1
 have hsl := hS.l
 have htl := h.tl
 dsimp only at hT htl hk ht ⊢
 obtain ⟨_, ad, rfl, _⟩ := hS.r.ptr (by omega)
 obtain ⟨_, ta, rfl, _⟩ := hT.ptr (by omega)
 have e0 := fun (w' : World) hw' => rd_fld (hS.r.below (w' := w') hw') hi 0 (iv k) rfl
 have e1 := fun (w' : World) hw' => rd_fldz (hT.below (w' := w') hw') ht k hkz 4 (iv lot) rfl
 have e2 := fun (w' : World) hw' => rd_ati (hS.r.below (w' := w') hw') hi
 have e3 := fun (w' : World) hw' => rd_flds (hT.below (w' := w') hw') ht k hkz 1 [iv s1, iv s2] (fun j v hj => by
  match j, hj with
  | 0, hj => exact hj
  | 1, hj => exact hj)
 have e4 := fun (w' : World) hw' => rd_atz (hT.below (w' := w') hw') ht k hkz
 refine calls_val env mixed Try.func145 has145 Try.ntmps145 [.agg #[iv days, iv shift, iv size, .slice (some ta) T.length tc, .slice lo L.length lc], .slice (some ad) S.length c, iv i] (by simp) ?_
 repeat'
  conv => whnf
  first
   | refine zA ?_ | refine zB ?_ | refine zC ?_ | refine zD ?_ | refine zE ?_ | refine zF ?_ | refine zG ?_ | refine zH ?_ | refine zJ ?_ | refine zI ?_ | refine splT ?_ | refine splF ?_ | refine splNot ?_
   | ((first | refine splIn ?_ ?_ | refine splD ?_ ?_ | refine splE ?_ ?_ | refine splNE ?_ ?_) <;> intro hc <;> first | (exfalso; omega) | (exfalso; dsimp only at hc; omega) | skip)
   | refine Exists.intro (α := List Value) [iv k] ⟨⟨rfl, fun w' hw' => e0 w' hw'⟩, ?_⟩
   | refine Exists.intro (α := List Value) [iv lot] ⟨⟨rfl, fun w' hw' => e1 w' hw'⟩, ?_⟩
 all_goals first | (exfalso; omega) | exact ⟨fun β => rfl, fun w' h => h⟩
set_option maxHeartbeats 1000000 in
set_option maxRecDepth 100000 in
theorem test3_ok (hk : 1 ≤ k ∧ k < x.T.length) : Calls Try.prog 146 #[x.v, .slice o S.length c, iv i] w fun e w' => e = .returned (.bool (ts3 x.d k f l)) ∧ Below w.heap.size w w' := by
 obtain ⟨t, ht⟩ : ∃ t, x.T[k.toNat]? = some t := ⟨_, List.getElem?_eq_getElem (by omega)⟩
 have htw := twO_eq (x := x) ht
 have hti := h.ti t (List.mem_of_getElem? ht)
 have hkz : k = k.toNat := by omega
 unfold ts3
 rw [htw]
 have hnb := hS.n _ (List.mem_of_getElem? hi)
 have h147 := fun w' => fits_ok k f l t.d.s1 t.d.s2 w' (by have := hnb.1; dsimp only at this; omega) (by have := hnb.2; dsimp only at this; omega)
 obtain ⟨b, hb⟩ : ∃ b, fitB t.d.s1 t.d.s2 f l = b := ⟨_, rfl⟩
 rw [hb] at h147 ⊢
 obtain ⟨days, shift, size, to, tc, T, lo, lc, L⟩ := x
 have hT := h.t
 obtain ⟨oo, oc, ro, rc, O, s1, s2, pay, lot, rent, R, cold, cut⟩ := t
 have hil : i < S.length := (List.getElem?_eq_some_iff.1 hi).1
 have hsl := hS.l
 have htl := h.tl
 dsimp only at hT htl hk ht ⊢
 obtain ⟨_, ad, rfl, _⟩ := hS.r.ptr (by omega)
 obtain ⟨_, ta, rfl, _⟩ := hT.ptr (by omega)
 have e0 := fun (w' : World) hw' => rd_fld (hS.r.below (w' := w') hw') hi 0 (iv k) rfl
 have e1 := fun (w' : World) hw' => rd_fldz (hT.below (w' := w') hw') ht k hkz 4 (iv lot) rfl
 have e2 := fun (w' : World) hw' => rd_ati (hS.r.below (w' := w') hw') hi
 have e3 := fun (w' : World) hw' => rd_flds (hT.below (w' := w') hw') ht k hkz 1 [iv s1, iv s2] (fun j v hj => by
  match j, hj with
  | 0, hj => exact hj
  | 1, hj => exact hj)
 have e4 := fun (w' : World) hw' => rd_atz (hT.below (w' := w') hw') ht k hkz
 refine calls_val env mixed Try.func146 has146 Try.ntmps146 [.agg #[iv days, iv shift, iv size, .slice (some ta) T.length tc, .slice lo L.length lc], .slice (some ad) S.length c, iv i] (by simp) ?_
 cases b
 all_goals skip
 repeat'
  conv => whnf
  first
   | refine zA ?_ | refine zB ?_ | refine zC ?_ | refine zD ?_ | refine zE ?_ | refine zF ?_ | refine zG ?_ | refine zH ?_ | refine zJ ?_ | refine zI ?_ | refine splT ?_ | refine splF ?_ | refine splNot ?_
   | ((first | refine splIn ?_ ?_ | refine splD ?_ ?_ | refine splE ?_ ?_ | refine splNE ?_ ?_) <;> intro hc <;> first | (exfalso; omega) | (exfalso; dsimp only at hc; omega) | skip)
   | refine Exists.intro (α := List Value) [iv k] ⟨⟨rfl, fun w' hw' => e0 w' hw'⟩, ?_⟩
   | refine Exists.intro (α := List Value) [iv k, iv f, iv l] ⟨⟨rfl, fun w' hw' => e2 w' hw'⟩, ?_⟩
   | refine Exists.intro (α := List Value) [iv s1, iv s2] ⟨⟨rfl, fun w' hw' => e3 w' hw'⟩, ?_⟩
   | ((with_reducible show CallEv _ _ 147 _ _ _ _ _); refine callE (k := 147) (fun β w' hbw => h147 _) ?_)
 all_goals first | (exfalso; omega) | exact ⟨fun β => rfl, fun w' h => h⟩
set_option maxHeartbeats 1000000 in
set_option maxRecDepth 100000 in
theorem test4_ok (hk : 1 ≤ k ∧ k < x.T.length) : Calls Try.prog 148 #[x.v, .slice o S.length c, iv i] w fun e w' => e = .returned (.bool (ts4 x.d k f l)) ∧ Below w.heap.size w w' := by
 obtain ⟨t, ht⟩ : ∃ t, x.T[k.toNat]? = some t := ⟨_, List.getElem?_eq_getElem (by omega)⟩
 have htw := twO_eq (x := x) ht
 have hti := h.ti t (List.mem_of_getElem? ht)
 have hkz : k = k.toNat := by omega
 unfold ts4
 rw [htw]
 have h149 := fun w' hb => licensed_ok t k f l w' (hti.below hb)
 obtain ⟨b, hb⟩ : ∃ b, licB t.d.O f l = b := ⟨_, rfl⟩
 rw [hb] at h149 ⊢
 obtain ⟨days, shift, size, to, tc, T, lo, lc, L⟩ := x
 have hT := h.t
 obtain ⟨oo, oc, ro, rc, O, s1, s2, pay, lot, rent, R, cold, cut⟩ := t
 have hil : i < S.length := (List.getElem?_eq_some_iff.1 hi).1
 have hsl := hS.l
 have htl := h.tl
 dsimp only at hT htl hk ht ⊢
 obtain ⟨_, ad, rfl, _⟩ := hS.r.ptr (by omega)
 obtain ⟨_, ta, rfl, _⟩ := hT.ptr (by omega)
 have e0 := fun (w' : World) hw' => rd_fld (hS.r.below (w' := w') hw') hi 0 (iv k) rfl
 have e1 := fun (w' : World) hw' => rd_fldz (hT.below (w' := w') hw') ht k hkz 4 (iv lot) rfl
 have e2 := fun (w' : World) hw' => rd_ati (hS.r.below (w' := w') hw') hi
 have e3 := fun (w' : World) hw' => rd_flds (hT.below (w' := w') hw') ht k hkz 1 [iv s1, iv s2] (fun j v hj => by
  match j, hj with
  | 0, hj => exact hj
  | 1, hj => exact hj)
 have e4 := fun (w' : World) hw' => rd_atz (hT.below (w' := w') hw') ht k hkz
 refine calls_val env mixed Try.func148 has148 Try.ntmps148 [.agg #[iv days, iv shift, iv size, .slice (some ta) T.length tc, .slice lo L.length lc], .slice (some ad) S.length c, iv i] (by simp) ?_
 cases b
 all_goals skip
 repeat'
  conv => whnf
  first
   | refine zA ?_ | refine zB ?_ | refine zC ?_ | refine zD ?_ | refine zE ?_ | refine zF ?_ | refine zG ?_ | refine zH ?_ | refine zJ ?_ | refine zI ?_ | refine splT ?_ | refine splF ?_ | refine splNot ?_
   | ((first | refine splIn ?_ ?_ | refine splD ?_ ?_ | refine splE ?_ ?_ | refine splNE ?_ ?_) <;> intro hc <;> first | (exfalso; omega) | (exfalso; dsimp only at hc; omega) | skip)
   | refine Exists.intro (α := List Value) [iv k] ⟨⟨rfl, fun w' hw' => e0 w' hw'⟩, ?_⟩
   | refine Exists.intro (α := List Value) [iv k, iv f, iv l] ⟨⟨rfl, fun w' hw' => e2 w' hw'⟩, ?_⟩
   | refine Exists.intro (α := List Value) [.slice oo O.length oc, iv s1, iv s2, iv pay, iv lot, iv rent, .slice ro R.length rc, iv cold, iv cut] ⟨⟨rfl, fun w' hw' => e4 w' hw'⟩, ?_⟩
   | ((with_reducible show CallEv _ _ 149 _ _ _ _ _); refine callE (k := 149) (fun β w' hbw => h149 _ hbw) ?_)
 all_goals first | (exfalso; omega) | exact ⟨fun β => rfl, fun w' h => h⟩
set_option maxHeartbeats 1000000 in
set_option maxRecDepth 100000 in
theorem test5_ok : Calls Try.prog 150 #[x.v, .slice o S.length c, iv i] w fun e w' => e = .returned (.bool (ts5 S i k)) ∧ Below w.heap.size w w' := by
 obtain ⟨days, shift, size, to, tc, T, lo, lc, L⟩ := x
 have hil : i < S.length := (List.getElem?_eq_some_iff.1 hi).1
 have hsl := hS.l
 have hsc := hS.c
 obtain ⟨_, ad, rfl, _⟩ := hS.r.ptr (by omega)
 have e0 := fun (w' : World) hw' => rd_fld (hS.r.below (w' := w') hw') hi 0 (iv k) rfl
 refine calls_val env mixed Try.func150 has150 Try.ntmps150 [.agg #[iv days, iv shift, iv size, .slice to T.length tc, .slice lo L.length lc], .slice (some ad) S.length c, iv i] (by simp) ?_
 repeat'
  conv => whnf
  first
   | refine zA ?_ | refine zB ?_ | refine zC ?_ | refine zD ?_ | refine zE ?_ | refine zF ?_ | refine zG ?_ | refine zH ?_ | refine zJ ?_ | refine zI ?_ | refine splT ?_ | refine splF ?_ | refine splNot ?_
   | ((first | refine splIn ?_ ?_ | refine splD ?_ ?_ | refine splE ?_ ?_ | refine splNE ?_ ?_) <;> intro hc <;> first | (exfalso; omega) | (exfalso; dsimp only at hc; omega) | skip)
   | refine slHi env (z := i) rfl rfl rfl rfl (by omega) rfl ?_
   | ((with_reducible show CallEv _ _ 151 _ _ _ _ _); refine callI env mixed 1000 [] Try.func151 has151 Try.ntmps151 (Nat.le_of_ble_eq_true rfl) rfl rfl rfl ?_)
   | ((with_reducible show CallEv _ _ 167 _ _ _ _ _); refine callI env mixed 2000 [] Try.func167 has167 Try.ntmps167 (Nat.le_of_ble_eq_true rfl) rfl rfl rfl ?_)
 all_goals first | (exfalso; omega) | skip
 refine loopE (fun j : Nat => [(0, .v (.slice (some ad) i c)), (1, .fn (.func 152) [.ptr 1 0, .ptr 2 0]), (7, .v (iv i)), (8, .v (iv j))]) (fun _ => [(0, .cells [.v (iv days), .v (iv shift), .v (iv size), .v (.slice to T.length tc), .v (.slice lo L.length lc)] 35), (1, .cells [.v (.slice (some ad) S.length c)] 28), (2, .cells [.v (iv i)] 3)]) (fun j => j ≤ i ∧ ((S.take j).any fun s => s.1 == k) = false) (fun j => i - j) 0 ⟨Nat.zero_le _, rfl⟩ ⟨rfl, rfl, rfl, rfl, trivial⟩ ⟨rfl, rfl, rfl, trivial⟩ (fun _ => ⟨rfl, rfl⟩) ?_
 intro j ⟨hj, hall⟩
 rcases Nat.lt_or_ge j i with hji | hji
 · obtain ⟨⟨k', f', l'⟩, hx⟩ : ∃ s, S[j]? = some s := ⟨_, List.getElem?_eq_getElem (by omega)⟩
   have e1 := fun (w' : World) hw' => rd_ati (hS.r.below (w' := w') hw') hx
   have ht := any_take (p := fun s : Int × Int × Int => s.1 == k) hx
   rw [hall, Bool.false_or] at ht
   dsimp only at ht
   by_cases hkk : k' = k
   · have hyes : ts5 S i k = true := by
      unfold ts5
      rw [List.any_eq_true]
      exact ⟨(k', f', l'), List.mem_of_getElem? (i := j) (by rw [List.getElem?_take, if_pos hji]; exact hx), by simp [hkk]⟩
     rw [hyes]
     repeat'
      conv => whnf
      first
       | refine zA ?_ | refine zB ?_ | refine zC ?_ | refine zD ?_ | refine zE ?_ | refine zF ?_ | refine zG ?_ | refine zH ?_ | refine zJ ?_ | refine zI ?_ | refine splT ?_ | refine splF ?_ | refine splNot ?_
       | ((first | refine splIn ?_ ?_ | refine splD ?_ ?_ | refine splE ?_ ?_ | refine splNE ?_ ?_) <;> intro hc <;> first | (exfalso; omega) | (exfalso; dsimp only at hc; omega) | skip)
       | refine Exists.intro (α := List Value) [iv k', iv f', iv l'] ⟨⟨rfl, fun w' hw' => e1 w' hw'⟩, ?_⟩
       | ((with_reducible show CallEv _ _ 152 _ _ _ _ _); refine callI env mixed 4000 [0,1,5,7,8] Try.func152 has152 Try.ntmps152 (Nat.le_of_ble_eq_true rfl) rfl rfl rfl ?_)
       | refine Exists.intro (α := List Value) [iv k] ⟨⟨rfl, fun w' hw' => e0 w' hw'⟩, ?_⟩
     all_goals first | (exfalso; omega) | exact ⟨fun β => rfl, fun w' h => h⟩
   · rw [show (k' == k) = false from by simp [hkk]] at ht
     repeat'
      conv => whnf
      first
       | refine zA ?_ | refine zB ?_ | refine zC ?_ | refine zD ?_ | refine zE ?_ | refine zF ?_ | refine zG ?_ | refine zH ?_ | refine zJ ?_ | refine zI ?_ | refine splT ?_ | refine splF ?_ | refine splNot ?_
       | ((first | refine splIn ?_ ?_ | refine splD ?_ ?_ | refine splE ?_ ?_ | refine splNE ?_ ?_) <;> intro hc <;> first | (exfalso; omega) | (exfalso; dsimp only at hc; omega) | skip)
       | refine Exists.intro (α := List Value) [iv k', iv f', iv l'] ⟨⟨rfl, fun w' hw' => e1 w' hw'⟩, ?_⟩
       | ((with_reducible show CallEv _ _ 152 _ _ _ _ _); refine callI env mixed 4000 [0,1,5,7,8] Try.func152 has152 Try.ntmps152 (Nat.le_of_ble_eq_true rfl) rfl rfl rfl ?_)
       | refine Exists.intro (α := List Value) [iv k] ⟨⟨rfl, fun w' hw' => e0 w' hw'⟩, ?_⟩
     all_goals first | (exfalso; omega) | exact ⟨j + 1, ⟨by omega, ht⟩, by omega, Ent.weak rfl ⟨rfl, rfl, rfl, rfl, trivial⟩ ⟨rfl, rfl, rfl, trivial⟩ fun _ h => h⟩
 · obtain rfl : j = i := by omega
   rw [show ts5 S j k = false from hall]
   repeat'
    conv => whnf
    first
     | refine zA ?_ | refine zB ?_ | refine zC ?_ | refine zD ?_ | refine zE ?_ | refine zF ?_ | refine zG ?_ | refine zH ?_ | refine zJ ?_ | refine zI ?_ | refine splT ?_ | refine splF ?_ | refine splNot ?_
     | ((first | refine splIn ?_ ?_ | refine splD ?_ ?_ | refine splE ?_ ?_ | refine splNE ?_ ?_) <;> intro hc <;> first | (exfalso; omega) | (exfalso; dsimp only at hc; omega) | skip)
   all_goals first | (exfalso; omega) | exact ⟨fun β => rfl, fun w' h => h⟩
set_option maxHeartbeats 1000000 in
set_option maxRecDepth 100000 in
theorem test6_ok (hk : 1 ≤ k ∧ k < x.T.length) (hf : 0 ≤ f ∧ f ≤ 59) : Calls Try.prog 153 #[x.v, .slice o S.length c, iv i] w fun e w' => e = .returned (.bool (ts6 x.d S i k f)) ∧ Below w.heap.size w w' := by
 have hnb := hS.n _ (List.mem_of_getElem? hi)
 have hil : i < S.length := (List.getElem?_eq_some_iff.1 hi).1
 have hsl := hS.l
 have htl := h.tl
 have hlen : x.d.T.length = x.T.length := List.length_map ..
 have h72 := fun (p : Int) (hp : 0 ≤ p ∧ p < x.T.length) w' hb => lost_ok x p.toNat k.toNat w' (h.below hb) hn (by omega) (by omega)
 have hls := fun p => hn.lost p k.toNat
 have hp := fun p w' => played_ok x p w' h.tl
 have hkz : (k.toNat : Int) = k := by omega
 rw [hkz] at h72
 obtain ⟨_, ad, rfl, _⟩ := hS.r.ptr (by omega)
 have e0 := fun (w' : World) hw' => rd_fld (hS.r.below (w' := w') hw') hi 0 (iv k) rfl
 have e1 := fun (w' : World) hw' => rd_fld (hS.r.below (w' := w') hw') hi 1 (iv f) rfl
 dsimp only at hnb
 cases i with
 | zero =>
  have h72' := h72 0 (by omega)
  have hl0 := hls (0 : Int).toNat
  show Calls Try.prog 153 _ w fun e w' => e = .returned (.bool (decide (-1 > f - 1 - lsO x.d (0 : Int).toNat k.toNat))) ∧ _
  generalize lsO x.d (0 : Int).toNat k.toNat = g at *
  clear h72 hls
  obtain ⟨days, shift, size, to, tc, T, lo, lc, L⟩ := x
  have hd : ∀ v, v = decide (-1 > f - 1 - g) → decide (-1 > f - 1 - g) = v := fun v h => h.symm
  refine calls_val env mixed Try.func153 has153 Try.ntmps153 [.agg #[iv days, iv shift, iv size, .slice to T.length tc, .slice lo L.length lc], .slice (some ad) S.length c, iv (0 : Nat)] (by simp) ?_
  repeat'
   conv => whnf
   first
    | refine zA ?_ | refine zB ?_ | refine zC ?_ | refine zD ?_ | refine zE ?_ | refine zF ?_ | refine zG ?_ | refine zH ?_ | refine zJ ?_ | refine zI ?_ | refine splT ?_ | refine splF ?_ | refine splNot ?_
    | ((first | refine splIn ?_ ?_ | refine splD ?_ ?_ | refine splE ?_ ?_ | refine splNE ?_ ?_) <;> intro hc <;> first | (exfalso; omega) | (exfalso; dsimp only at hc; omega) | skip)
    | refine Exists.intro (α := List Value) [iv k] ⟨⟨rfl, fun w' hw' => e0 w' hw'⟩, ?_⟩
    | refine Exists.intro (α := List Value) [iv f] ⟨⟨rfl, fun w' hw' => e1 w' hw'⟩, ?_⟩
    | ((with_reducible show CallEv _ _ 72 _ _ _ _ _); refine callE (k := 72) (fun β w' hbw => h72' _ hbw) ?_)
  all_goals first | (exfalso; omega) | exact ⟨fun β => rfl, fun w' h => h⟩
 | succ j =>
  obtain ⟨⟨p, q, r⟩, hx⟩ : ∃ s, S[j]? = some s := ⟨_, List.getElem?_eq_getElem (by omega)⟩
  have hnp := (hS.n _ (List.mem_of_getElem? hx)).2
  dsimp only at hnp
  have e2 := fun (w' : World) hw' => rd_atz (hS.r.below (w' := w') hw') hx (((j + 1 : Nat) : Int) - 1) (by omega)
  simp only [ts6, hx, hlen]
  have hpp := hp p
  obtain ⟨b, hb⟩ : ∃ b, inB p 1 ((x.T.length : Int) - 1) = b := ⟨_, rfl⟩
  rw [hb] at hpp ⊢
  cases b with
  | false =>
   clear h72 hls hp
   obtain ⟨days, shift, size, to, tc, T, lo, lc, L⟩ := x
   refine calls_val env mixed Try.func153 has153 Try.ntmps153 [.agg #[iv days, iv shift, iv size, .slice to T.length tc, .slice lo L.length lc], .slice (some ad) S.length c, iv (j + 1 : Nat)] (by simp) ?_
   repeat'
    conv => whnf
    first
     | refine zA ?_ | refine zB ?_ | refine zC ?_ | refine zD ?_ | refine zE ?_ | refine zF ?_ | refine zG ?_ | refine zH ?_ | refine zJ ?_ | refine zI ?_ | refine splT ?_ | refine splF ?_ | refine splNot ?_
     | ((first | refine splIn ?_ ?_ | refine splD ?_ ?_ | refine splE ?_ ?_ | refine splNE ?_ ?_) <;> intro hc <;> first | (exfalso; omega) | (exfalso; dsimp only at hc; omega) | skip)
     | refine Exists.intro (α := List Value) [iv p, iv q, iv r] ⟨⟨rfl, fun w' hw' => e2 w' hw'⟩, ?_⟩
     | ((with_reducible show CallEv _ _ 69 _ _ _ _ _); refine callE (k := 69) (fun β w' hbw => hpp _) ?_)
   all_goals first | (exfalso; omega) | exact ⟨fun β => rfl, fun w' h => h⟩
  | true =>
   simp only [inB, Bool.and_eq_true, decide_eq_true_eq] at hb
   have h72' := h72 p (by omega)
   have hl0 := hls p.toNat
   have hpz : (p.toNat : Int) = p := by omega
   rw [hpz] at h72'
   generalize lsO x.d p.toNat k.toNat = g at *
   clear h72 hls hp
   obtain ⟨days, shift, size, to, tc, T, lo, lc, L⟩ := x
   refine calls_val env mixed Try.func153 has153 Try.ntmps153 [.agg #[iv days, iv shift, iv size, .slice to T.length tc, .slice lo L.length lc], .slice (some ad) S.length c, iv (j + 1 : Nat)] (by simp) ?_
   repeat'
    conv => whnf
    first
     | refine zA ?_ | refine zB ?_ | refine zC ?_ | refine zD ?_ | refine zE ?_ | refine zF ?_ | refine zG ?_ | refine zH ?_ | refine zJ ?_ | refine zI ?_ | refine splT ?_ | refine splF ?_ | refine splNot ?_
     | ((first | refine splIn ?_ ?_ | refine splD ?_ ?_ | refine splE ?_ ?_ | refine splNE ?_ ?_) <;> intro hc <;> first | (exfalso; omega) | (exfalso; dsimp only at hc; omega) | skip)
     | refine Exists.intro (α := List Value) [iv p, iv q, iv r] ⟨⟨rfl, fun w' hw' => e2 w' hw'⟩, ?_⟩
     | ((with_reducible show CallEv _ _ 69 _ _ _ _ _); refine callE (k := 69) (fun β w' hbw => hpp _) ?_)
     | refine Exists.intro (α := List Value) [iv k] ⟨⟨rfl, fun w' hw' => e0 w' hw'⟩, ?_⟩
     | refine Exists.intro (α := List Value) [iv f] ⟨⟨rfl, fun w' hw' => e1 w' hw'⟩, ?_⟩
     | ((with_reducible show CallEv _ _ 72 _ _ _ _ _); refine callE (k := 72) (fun β w' hbw => h72' _ hbw) ?_)
   all_goals first | (exfalso; omega) | exact ⟨fun β => rfl, fun w' h => h⟩
set_option maxHeartbeats 1000000 in
set_option maxRecDepth 100000 in
theorem test7_ok (hk : 1 ≤ k ∧ k < x.T.length) (hl : 0 ≤ l ∧ l ≤ 59) : Calls Try.prog 154 #[x.v, .slice o S.length c, iv i] w fun e w' => e = .returned (.bool (ts7 x.d S i k l)) ∧ Below w.heap.size w w' := by
 have hnb := hS.n _ (List.mem_of_getElem? hi)
 have hil : i < S.length := (List.getElem?_eq_some_iff.1 hi).1
 have hsl := hS.l
 have htl := h.tl
 have hd := hn.d
 have h72 := fun w' hb => lost_ok x k.toNat 0 w' (h.below hb) hn (by omega) (by omega)
 have hls := hn.lost k.toNat 0
 have hkz : (k.toNat : Int) = k := by omega
 rw [hkz] at h72
 obtain ⟨_, ad, rfl, _⟩ := hS.r.ptr (by omega)
 have e0 := fun (w' : World) hw' => rd_fld (hS.r.below (w' := w') hw') hi 0 (iv k) rfl
 have e1 := fun (w' : World) hw' => rd_fld (hS.r.below (w' := w') hw') hi 2 (iv l) rfl
 dsimp only at hnb
 unfold ts7
 generalize lsO x.d k.toNat 0 = g at *
 have hdx : x.d.days = x.days := rfl
 rw [hdx] at hd ⊢
 obtain ⟨days, shift, size, to, tc, T, lo, lc, L⟩ := x
 dsimp only at hd ⊢
 refine calls_val env mixed Try.func154 has154 Try.ntmps154 [.agg #[iv days, iv shift, iv size, .slice to T.length tc, .slice lo L.length lc], .slice (some ad) S.length c, iv i] (by simp) ?_
 by_cases hq : i + 1 = S.length
 · rw [decide_eq_true hq, Bool.true_and]
   repeat'
    conv => whnf
    first
     | refine zA ?_ | refine zB ?_ | refine zC ?_ | refine zD ?_ | refine zE ?_ | refine zF ?_ | refine zG ?_ | refine zH ?_ | refine zJ ?_ | refine zI ?_ | refine splT ?_ | refine splF ?_ | refine splNot ?_
     | ((first | refine splIn ?_ ?_ | refine splD ?_ ?_ | refine splE ?_ ?_ | refine splNE ?_ ?_) <;> intro hc <;> first | (exfalso; omega) | (exfalso; dsimp only at hc; omega) | skip)
     | refine Exists.intro (α := List Value) [iv k] ⟨⟨rfl, fun w' hw' => e0 w' hw'⟩, ?_⟩
     | refine Exists.intro (α := List Value) [iv l] ⟨⟨rfl, fun w' hw' => e1 w' hw'⟩, ?_⟩
     | ((with_reducible show CallEv _ _ 72 _ _ _ _ _); refine callE (k := 72) (fun β w' hbw => h72 _ hbw) ?_)
   all_goals first | (exfalso; omega) | exact ⟨fun β => rfl, fun w' h => h⟩
 · rw [decide_eq_false hq, Bool.false_and]
   repeat'
    conv => whnf
    first
     | refine zA ?_ | refine zB ?_ | refine zC ?_ | refine zD ?_ | refine zE ?_ | refine zF ?_ | refine zG ?_ | refine zH ?_ | refine zJ ?_ | refine zI ?_ | refine splT ?_ | refine splF ?_ | refine splNot ?_
     | ((first | refine splIn ?_ ?_ | refine splD ?_ ?_ | refine splE ?_ ?_ | refine splNE ?_ ?_) <;> intro hc <;> first | (exfalso; omega) | (exfalso; dsimp only at hc; omega) | skip)
     | refine Exists.intro (α := List Value) [iv k] ⟨⟨rfl, fun w' hw' => e0 w' hw'⟩, ?_⟩
     | refine Exists.intro (α := List Value) [iv l] ⟨⟨rfl, fun w' hw' => e1 w' hw'⟩, ?_⟩
     | ((with_reducible show CallEv _ _ 72 _ _ _ _ _); refine callE (k := 72) (fun β w' hbw => h72 _ hbw) ?_)
   all_goals first | (exfalso; omega) | exact ⟨fun β => rfl, fun w' h => h⟩
end
end Go.Proofs.Ythfabodamhdhaaa
namespace Go.Proofs.Ythfabodamhdhaaa.Tx
open Go Go.RowKit
set_option linter.unusedSimpArgs false
set_option linter.unusedVariables false
theorem beqF {a b : Nat} (h : a ≠ b) : Nat.beq a b = false := by
 cases hb : Nat.beq a b with
 | false => rfl
 | true => exact absurd (Nat.eq_of_beq_eq_true hb) h
theorem callN {P : Program} {σ : Sg} {k : Nat} {args : List SV} {rs : List Nat} {K : Ef → Prop} {KF : Option KT} (nb : Nat) (rb : List Nat) (V : SV) (l : List SV) (ty : TypeId)
 (hB : efB σ ⟨V, [nb], [(nb, .cells l ty)], [], rb⟩ = true)
 (h : ∀ β w, (∀ i ∈ rb, ∀ b, lk σ.m i = some b → b.ok β w (β i)) → σ.h w → Calls P k (SV.cs β args).toArray w fun e w' => ∃ b, e = .returned (V.c fun i => bif Nat.beq i nb then b else β i) ∧ w.heap.size ≤ b ∧ Below w.heap.size w w' ∧
  (Blk.cells l ty).ok (fun i => bif Nat.beq i nb then b else β i) w' b)
 (hK : K ⟨V, [nb], [(nb, .cells l ty)], rs, rb⟩) : CallEv P σ k args (efB σ) rs K KF :=
 .mk ⟨V, [nb], [(nb, .cells l ty)], [], rb⟩ hB (fun β w h1 _ hst => (h β w h1 (hst w (Chg.refl _ _))).mono fun e w' ⟨b, he, hb, hB, ho⟩ => by
  have e1 : Nat.beq nb nb = true := Nat.beq_refl nb
  refine ⟨_, he, ?_, ⟨hB.os, hB.tape, hB.output, hB.size, fun i hi _ => hB.block i hi⟩, ?_, ?_, ?_⟩
  · intro i hi
    have h1 : ¬ i = nb := fun e => hi (by simp [e])
    simp only [beqF h1, cond_false]
  · intro i bk hm
    simp only [List.mem_singleton, Prod.mk.injEq] at hm
    obtain ⟨rfl, rfl⟩ := hm
    simp only [e1, cond_true]
    exact ho
  · intro i hi hl
    obtain ⟨bk, hm, _⟩ := hl
    simp only [List.mem_singleton, Prod.mk.injEq] at hm
    obtain ⟨rfl, _⟩ := hm
    simp only [e1, cond_true]
    exact .inl hb
  · intro i hi j hj hl hl' hne
    obtain ⟨bk, hm, _⟩ := hl
    obtain ⟨bk', hm', _⟩ := hl'
    simp only [List.mem_singleton, Prod.mk.injEq] at hm hm'
    exact absurd (hm.1.trans hm'.1.symm) hne) hK
theorem slHiS {P : Program} (T : Env P) {dst : Option Tmp} {ty : TypeId} {pos : String} {after : Array Edge} {gd : Option (Nat × Bool)} {gs : List Nat} {σ : Sg} {K : Ef → Prop} {KF : Option KT} {t e n c z i o : Nat} {x hi : Operand} {k : IntKind}
 {sz : Nat} {zr : List Value} {by_ : Nat} {ti : TI} (hx : gv σ x = some (.sl i o n c)) (hl : gv σ hi = some (.v (.int k z))) (ht : T.ty t = some ⟨sz, zr, by_, .slice e⟩) (he : T.ty e = some ti) (hc : z ≤ c)
 (hB : efB σ ⟨.sl i o z c, [], [], gs ++ (os x ++ os hi), []⟩ = true) (hK : K ⟨.sl i o z c, [], [], gs ++ (os x ++ os hi), []⟩) : OpEvS P ⟨dst, .slice t x none (some hi) none, ty, pos, after, gd⟩ gs σ K KF := by
 refine .mk _ hB (fun k hk => by simp [hk]) rfl (runOK_pure fun β a w hss => ?_) hK
 have e1 := gv_eval hss hx (fun k hk => by simp [hk])
 have e2 := gv_eval hss hl (fun k hk => by simp [hk])
 have hu := under_slice (T.tok t _ ht) rfl
 have hel : P.elem t = e := by simp [Program.elem, hu]
 have hu' : P.underlying t = some (.slice (P.elem t)) := by rw [hel]; exact hu
 have hsz := (T.tok e ti he).run_sizeOf w
 simp only [execOp, Option.map_some, Option.map_none, e1, e2, SV.c, Sem.run_bind, Sem.run_pure, Result.andThen_ok]
 rw [run_sliceAt_slice w t _ _ _ _ hu', run_slice_h w t _ _ _ hu' _ _ (by omega) (by omega), hel, hsz]
 simp only [Result.andThen_ok, sliced, Int.toNat_natCast, Option.map_some, Nat.zero_mul, Nat.sub_zero]
 have h0 : (⟨β i, o, none⟩ : Addr).add 0 = ⟨β i, o, none⟩ := by simp [Addr.add]
 rw [h0, ite_self]
end Go.Proofs.Ythfabodamhdhaaa.Tx
namespace Go.Proofs.Ythfabodamhdhaaa
open Go Tx Go.RowKit
set_option linter.unusedSimpArgs false
set_option linter.unusedVariables false
abbrev tsF (p : Nat × Nat) : List Value := [.int .u8 p.1, .func (.func p.2) #[] #[]]
def TS : List (Nat × Nat) := [(1, 144), (2, 145), (3, 146), (4, 148), (5, 150), (6, 153), (7, 154)]
def tsA (x : To) (S : List (Int × Int × Int)) (i : Nat) (k f l : Int) : List Bool := [ts1 x k, ts2 x k, ts3 x k f l, ts4 x k f l, ts5 S i k, ts6 x S i k f, ts7 x S i k l]
def fstT : List Bool → Nat → Nat
 | [], _ => 0
 | b :: r, n => if b = true then n + 1 else fstT r (n + 1)
def fltO (x : To) (S : List (Int × Int × Int)) (i : Nat) (k f l : Int) (m : Nat) : Nat := fstT ((tsA x S i k f l).take m) 0
theorem fstT_yes : ∀ {L : List Bool} {j n : Nat}, (∀ i, i < j → L[i]? = some false) → L[j]? = some true → fstT L n = n + j + 1
 | b :: r, 0, n, _, h => by
  simp only [List.getElem?_cons_zero, Option.some.injEq] at h
  rw [fstT, if_pos h]
 | b :: r, j + 1, n, h1, h => by
  have h0 := h1 0 (by omega)
  simp only [List.getElem?_cons_zero, Option.some.injEq] at h0
  subst h0
  rw [fstT, if_neg (by decide), fstT_yes (j := j) (fun i hi => by simpa using h1 (i + 1) (by omega)) (by simpa using h)]
  omega
theorem fstT_no : ∀ {L : List Bool} {n : Nat}, (∀ i, i < L.length → L[i]? = some false) → fstT L n = 0
 | [], _, _ => rfl
 | b :: r, n, h1 => by
  have h0 := h1 0 (by simp)
  simp only [List.getElem?_cons_zero, Option.some.injEq] at h0
  subst h0
  rw [fstT, if_neg (by decide)]
  exact fstT_no fun i hi => by simpa using h1 (i + 1) (by simp; omega)
theorem fltO_le (x : To) (S : List (Int × Int × Int)) (i : Nat) (k f l : Int) (m : Nat) : fltO x S i k f l m ≤ 7 := by
 have : ∀ (L : List Bool) (n : Nat), fstT L n ≤ n + L.length := by
  intro L
  induction L with
  | nil => intro n; simp [fstT]
  | cons b r ih =>
   intro n
   have := ih (n + 1)
   rw [fstT]
   split <;> simp only [List.length_cons] <;> omega
 have h := this ((tsA x S i k f l).take m) 0
 have h2 : ((tsA x S i k f l).take m).length ≤ 7 := by rw [List.length_take]; exact Nat.min_le_right _ _
 unfold fltO; omega
theorem lic_bd {x : To} (hn : ToN x) {k f l : Int} (h1 : 1 ≤ k ∧ k < x.T.length) (h4 : ts4 x k f l = false) : (0 ≤ f ∧ f ≤ 59) ∧ 0 ≤ l ∧ l ≤ 59 := by
 simp only [ts4, Bool.not_eq_false', licB, List.any_eq_true, inB, Bool.and_eq_true, decide_eq_true_eq] at h4
 obtain ⟨r, hr, h5⟩ := h4
 obtain ⟨t, ht⟩ : ∃ t, x.T[k.toNat]? = some t := ⟨_, List.getElem?_eq_getElem (by omega)⟩
 have htw : twO x k = t := by simp [twO, ht]
 rw [htw] at hr
 have hb := hn.t k.toNat (by omega) t ht
 have hd := hn.d
 have hop : ∀ (O : List (Int × Int)) (last : Int), apB x.days last O = true → -1 ≤ last → ∀ r ∈ O, 0 ≤ r.1 ∧ r.2 ≤ x.days - 1 := by
  intro O
  induction O with
  | nil => intro _ _ _ r hr; cases hr
  | cons q O ih =>
   intro last h hl r hr
   simp only [apB, Bool.and_eq_true, decide_eq_true_eq] at h
   rcases List.mem_cons.1 hr with rfl | hr
   · omega
   · exact ih q.2 h.2 (by omega) r hr
 simp only [twB, Bool.and_eq_true] at hb
 have h6 := hop t.O (-1) hb.2.1 (by omega) r hr
 omega
set_option maxHeartbeats 4000000 in
set_option maxRecDepth 100000 in
theorem fault_ok (x : Tr) (o : Option Addr) (c : Nat) (S : List (Int × Int × Int)) (i : Nat) (k f l : Int) (ta : Addr) (tac m : Nat) (w : World) (h : TrIn x w) (hn : ToN x.d) (hS : SpIn o c S w) (hi : S[i]? = some (k, f, l)) (hm : m ≤ 7)
 (hr : ∀ j p, j < m → TS[j]? = some p → ∀ q v, (tsF p)[q]? = some v → w.cell? ((ta.add (j * 2)).add q) = some v) :
 Calls Try.prog 108 #[x.v, .slice o S.length c, iv i, .slice (some ta) m tac] w fun e w' => e = .returned (.int .u8 (fltO x.d S i k f l m)) ∧ Below w.heap.size w w' := by
 have hlen : x.d.T.length = x.T.length := List.length_map ..
 have e0 : ∀ (j a b : Nat), j < m → TS[j]? = some (a, b) → ∀ (w' : World), Below w.heap.size w w' → ∀ q v, [Value.int .u8 a, Value.func (.func b) #[] #[]][q]? = some v → w'.cell? ((ta.add ((j : Int).toNat * 2)).add q) = some v := fun j a b hj hp w' hb q v hv => by
  rw [Int.toNat_natCast]
  exact ext_below hb (hr j _ hj hp q v hv)
 refine calls_val env mixed Try.func108 has108 Try.ntmps108 [.agg #[iv x.days, iv x.shift, iv x.size, .slice x.to x.T.length x.tc, .slice x.lo x.L.length x.lc], .slice o S.length c, iv i, .slice (some ta) m tac] (by simp) ?_
 repeat'
  conv => whnf
  first
   | refine zA ?_ | refine zB ?_ | refine zC ?_ | refine zD ?_ | refine zE ?_ | refine zF ?_ | refine zG ?_ | refine zH ?_ | refine zJ ?_ | refine zI ?_ | refine splT ?_ | refine splF ?_ | refine splNot ?_
   | ((first | refine splIn ?_ ?_ | refine splD ?_ ?_ | refine splE ?_ ?_ | refine splNE ?_ ?_) <;> intro hc <;> first | (exfalso; omega) | (exfalso; dsimp only at hc; omega) | skip)
 refine loopE (fun j : Nat => [(1, .v (.slice o S.length c)), (2, .v (iv i)), (4, .ptr 0 0), (8, .v (.int .u8 0)), (11, .v (.slice (some ta) m tac)), (12, .v (iv m)), (13, .v (iv j))]) (fun _ => [(0, .cells [.v (iv x.days), .v (iv x.shift), .v (iv x.size), .v (.slice x.to x.T.length x.tc), .v (.slice x.lo x.L.length x.lc)] 35)]) (fun j => j ≤ m ∧ ∀ j', j' < j → (tsA x.d S i k f l)[j']? = some false) (fun j => m - j) 0 ⟨Nat.zero_le _, fun j' hj' => by omega⟩ ⟨rfl, rfl, rfl, rfl, rfl, rfl, rfl, trivial⟩ ⟨rfl, trivial⟩ (fun _ => ⟨rfl, rfl⟩) ?_
 intro j ⟨hj, hall⟩
 rcases Nat.lt_or_ge j m with hlt | hge
 · obtain rfl | rfl | rfl | rfl | rfl | rfl | rfl : j = 0 ∨ j = 1 ∨ j = 2 ∨ j = 3 ∨ j = 4 ∨ j = 5 ∨ j = 6 := by omega
   · -- test 1
     have e1 := fun w' hw' => e0 0 1 144 hlt rfl w' hw'
     have ht := fun w' hb => test1_ok x o c S i k f l w' (h.below hb) hn (hS.below hb) hi
     obtain ⟨b, hb0⟩ : ∃ b, ts1 x.d k = b := ⟨_, rfl⟩
     rw [hb0] at ht
     have hb : (tsA x.d S i k f l)[0]? = some b := by rw [← hb0]; rfl
     cases b with
     | false =>
      have hall' : ∀ j', j' < 0 + 1 → (tsA x.d S i k f l)[j']? = some false := fun j' hj' => by
       rcases (by omega : j' = 0 ∨ j' < 0) with rfl | h
       · exact hb
       · exact hall j' h
      clear hall hn
      obtain ⟨days, shift, size, to, tc, T, lo, lc, L⟩ := x
      repeat'
       conv => whnf
       first
        | refine zA ?_ | refine zB ?_ | refine zC ?_ | refine zD ?_ | refine zE ?_ | refine zF ?_ | refine zG ?_ | refine zH ?_ | refine zJ ?_ | refine zI ?_ | refine splT ?_ | refine splF ?_ | refine splNot ?_
        | ((first | refine splIn ?_ ?_ | refine splD ?_ ?_ | refine splE ?_ ?_ | refine splNE ?_ ?_) <;> intro hc <;> first | (exfalso; omega) | (exfalso; dsimp only at hc; omega) | skip)
        | refine Exists.intro (α := List Value) [.int .u8 (1 : Nat), .func (.func 144) #[] #[]] ⟨⟨rfl, fun w' hw' => e1 w' hw'⟩, ?_⟩
        | ((with_reducible show CallEv _ _ 144 _ _ _ _ _); refine callE (k := 144) (fun β w' hbw => ht _ hbw) ?_)
      all_goals first | (exfalso; omega) | exact ⟨0 + 1, ⟨by omega, hall'⟩, by omega, Ent.weak rfl ⟨rfl, rfl, rfl, rfl, rfl, rfl, rfl, trivial⟩ ⟨rfl, trivial⟩ fun _ h => h⟩
     | true =>
      have hv : fltO x.d S i k f l m = 1 := by
       unfold fltO
       rw [fstT_yes (j := 0) (fun i' hi' => by rw [List.getElem?_take, if_pos (by omega)]; exact hall i' hi') (by rw [List.getElem?_take, if_pos (by omega)]; exact hb)]
      rw [hv]
      clear hall hn hv
      obtain ⟨days, shift, size, to, tc, T, lo, lc, L⟩ := x
      repeat'
       conv => whnf
       first
        | refine zA ?_ | refine zB ?_ | refine zC ?_ | refine zD ?_ | refine zE ?_ | refine zF ?_ | refine zG ?_ | refine zH ?_ | refine zJ ?_ | refine zI ?_ | refine splT ?_ | refine splF ?_ | refine splNot ?_
        | ((first | refine splIn ?_ ?_ | refine splD ?_ ?_ | refine splE ?_ ?_ | refine splNE ?_ ?_) <;> intro hc <;> first | (exfalso; omega) | (exfalso; dsimp only at hc; omega) | skip)
        | refine Exists.intro (α := List Value) [.int .u8 (1 : Nat), .func (.func 144) #[] #[]] ⟨⟨rfl, fun w' hw' => e1 w' hw'⟩, ?_⟩
        | ((with_reducible show CallEv _ _ 144 _ _ _ _ _); refine callE (k := 144) (fun β w' hbw => ht _ hbw) ?_)
      all_goals first | (exfalso; omega) | exact ⟨fun β => rfl, fun w' h => h⟩
   · -- test 2
     have e1 := fun w' hw' => e0 1 2 145 hlt rfl w' hw'
     have hkk : 1 ≤ k ∧ k < x.T.length := by
      have h0 := hall 0 (by omega)
      simp only [tsA, List.getElem?_cons_zero, Option.some.injEq, ts1, hlen, inB, Bool.not_eq_false', Bool.and_eq_true, decide_eq_true_eq] at h0
      omega
     have ht := fun w' hb => test2_ok x o c S i k f l w' (h.below hb) hn (hS.below hb) hi hkk
     obtain ⟨b, hb0⟩ : ∃ b, ts2 x.d k = b := ⟨_, rfl⟩
     rw [hb0] at ht
     have hb : (tsA x.d S i k f l)[1]? = some b := by rw [← hb0]; rfl
     cases b with
     | false =>
      have hall' : ∀ j', j' < 1 + 1 → (tsA x.d S i k f l)[j']? = some false := fun j' hj' => by
       rcases (by omega : j' = 1 ∨ j' < 1) with rfl | h
       · exact hb
       · exact hall j' h
      clear hall hn
      obtain ⟨days, shift, size, to, tc, T, lo, lc, L⟩ := x
      repeat'
       conv => whnf
       first
        | refine zA ?_ | refine zB ?_ | refine zC ?_ | refine zD ?_ | refine zE ?_ | refine zF ?_ | refine zG ?_ | refine zH ?_ | refine zJ ?_ | refine zI ?_ | refine splT ?_ | refine splF ?_ | refine splNot ?_
        | ((first | refine splIn ?_ ?_ | refine splD ?_ ?_ | refine splE ?_ ?_ | refine splNE ?_ ?_) <;> intro hc <;> first | (exfalso; omega) | (exfalso; dsimp only at hc; omega) | skip)
        | refine Exists.intro (α := List Value) [.int .u8 (2 : Nat), .func (.func 145) #[] #[]] ⟨⟨rfl, fun w' hw' => e1 w' hw'⟩, ?_⟩
        | ((with_reducible show CallEv _ _ 145 _ _ _ _ _); refine callE (k := 145) (fun β w' hbw => ht _ hbw) ?_)
      all_goals first | (exfalso; omega) | exact ⟨1 + 1, ⟨by omega, hall'⟩, by omega, Ent.weak rfl ⟨rfl, rfl, rfl, rfl, rfl, rfl, rfl, trivial⟩ ⟨rfl, trivial⟩ fun _ h => h⟩
     | true =>
      have hv : fltO x.d S i k f l m = 2 := by
       unfold fltO
       rw [fstT_yes (j := 1) (fun i' hi' => by rw [List.getElem?_take, if_pos (by omega)]; exact hall i' hi') (by rw [List.getElem?_take, if_pos (by omega)]; exact hb)]
      rw [hv]
      clear hall hn hv
      obtain ⟨days, shift, size, to, tc, T, lo, lc, L⟩ := x
      repeat'
       conv => whnf
       first
        | refine zA ?_ | refine zB ?_ | refine zC ?_ | refine zD ?_ | refine zE ?_ | refine zF ?_ | refine zG ?_ | refine zH ?_ | refine zJ ?_ | refine zI ?_ | refine splT ?_ | refine splF ?_ | refine splNot ?_
        | ((first | refine splIn ?_ ?_ | refine splD ?_ ?_ | refine splE ?_ ?_ | refine splNE ?_ ?_) <;> intro hc <;> first | (exfalso; omega) | (exfalso; dsimp only at hc; omega) | skip)
        | refine Exists.intro (α := List Value) [.int .u8 (2 : Nat), .func (.func 145) #[] #[]] ⟨⟨rfl, fun w' hw' => e1 w' hw'⟩, ?_⟩
        | ((with_reducible show CallEv _ _ 145 _ _ _ _ _); refine callE (k := 145) (fun β w' hbw => ht _ hbw) ?_)
      all_goals first | (exfalso; omega) | exact ⟨fun β => rfl, fun w' h => h⟩
   · -- test 3
     have e1 := fun w' hw' => e0 2 3 146 hlt rfl w' hw'
     have hkk : 1 ≤ k ∧ k < x.T.length := by
      have h0 := hall 0 (by omega)
      simp only [tsA, List.getElem?_cons_zero, Option.some.injEq, ts1, hlen, inB, Bool.not_eq_false', Bool.and_eq_true, decide_eq_true_eq] at h0
      omega
     have ht := fun w' hb => test3_ok x o c S i k f l w' (h.below hb) hn (hS.below hb) hi hkk
     obtain ⟨b, hb0⟩ : ∃ b, ts3 x.d k f l = b := ⟨_, rfl⟩
     rw [hb0] at ht
     have hb : (tsA x.d S i k f l)[2]? = some b := by rw [← hb0]; rfl
     cases b with
     | false =>
      have hall' : ∀ j', j' < 2 + 1 → (tsA x.d S i k f l)[j']? = some false := fun j' hj' => by
       rcases (by omega : j' = 2 ∨ j' < 2) with rfl | h
       · exact hb
       · exact hall j' h
      clear hall hn
      obtain ⟨days, shift, size, to, tc, T, lo, lc, L⟩ := x
      repeat'
       conv => whnf
       first
        | refine zA ?_ | refine zB ?_ | refine zC ?_ | refine zD ?_ | refine zE ?_ | refine zF ?_ | refine zG ?_ | refine zH ?_ | refine zJ ?_ | refine zI ?_ | refine splT ?_ | refine splF ?_ | refine splNot ?_
        | ((first | refine splIn ?_ ?_ | refine splD ?_ ?_ | refine splE ?_ ?_ | refine splNE ?_ ?_) <;> intro hc <;> first | (exfalso; omega) | (exfalso; dsimp only at hc; omega) | skip)
        | refine Exists.intro (α := List Value) [.int .u8 (3 : Nat), .func (.func 146) #[] #[]] ⟨⟨rfl, fun w' hw' => e1 w' hw'⟩, ?_⟩
        | ((with_reducible show CallEv _ _ 146 _ _ _ _ _); refine callE (k := 146) (fun β w' hbw => ht _ hbw) ?_)
      all_goals first | (exfalso; omega) | exact ⟨2 + 1, ⟨by omega, hall'⟩, by omega, Ent.weak rfl ⟨rfl, rfl, rfl, rfl, rfl, rfl, rfl, trivial⟩ ⟨rfl, trivial⟩ fun _ h => h⟩
     | true =>
      have hv : fltO x.d S i k f l m = 3 := by
       unfold fltO
       rw [fstT_yes (j := 2) (fun i' hi' => by rw [List.getElem?_take, if_pos (by omega)]; exact hall i' hi') (by rw [List.getElem?_take, if_pos (by omega)]; exact hb)]
      rw [hv]
      clear hall hn hv
      obtain ⟨days, shift, size, to, tc, T, lo, lc, L⟩ := x
      repeat'
       conv => whnf
       first
        | refine zA ?_ | refine zB ?_ | refine zC ?_ | refine zD ?_ | refine zE ?_ | refine zF ?_ | refine zG ?_ | refine zH ?_ | refine zJ ?_ | refine zI ?_ | refine splT ?_ | refine splF ?_ | refine splNot ?_
        | ((first | refine splIn ?_ ?_ | refine splD ?_ ?_ | refine splE ?_ ?_ | refine splNE ?_ ?_) <;> intro hc <;> first | (exfalso; omega) | (exfalso; dsimp only at hc; omega) | skip)
        | refine Exists.intro (α := List Value) [.int .u8 (3 : Nat), .func (.func 146) #[] #[]] ⟨⟨rfl, fun w' hw' => e1 w' hw'⟩, ?_⟩
        | ((with_reducible show CallEv _ _ 146 _ _ _ _ _); refine callE (k := 146) (fun β w' hbw => ht _ hbw) ?_)
      all_goals first | (exfalso; omega) | exact ⟨fun β => rfl, fun w' h => h⟩
   · -- test 4
     have e1 := fun w' hw' => e0 3 4 148 hlt rfl w' hw'
     have hkk : 1 ≤ k ∧ k < x.T.length := by
      have h0 := hall 0 (by omega)
      simp only [tsA, List.getElem?_cons_zero, Option.some.injEq, ts1, hlen, inB, Bool.not_eq_false', Bool.and_eq_true, decide_eq_true_eq] at h0
      omega
     have ht := fun w' hb => test4_ok x o c S i k f l w' (h.below hb) hn (hS.below hb) hi hkk
     obtain ⟨b, hb0⟩ : ∃ b, ts4 x.d k f l = b := ⟨_, rfl⟩
     rw [hb0] at ht
     have hb : (tsA x.d S i k f l)[3]? = some b := by rw [← hb0]; rfl
     cases b with
     | false =>
      have hall' : ∀ j', j' < 3 + 1 → (tsA x.d S i k f l)[j']? = some false := fun j' hj' => by
       rcases (by omega : j' = 3 ∨ j' < 3) with rfl | h
       · exact hb
       · exact hall j' h
      clear hall hn
      obtain ⟨days, shift, size, to, tc, T, lo, lc, L⟩ := x
      repeat'
       conv => whnf
       first
        | refine zA ?_ | refine zB ?_ | refine zC ?_ | refine zD ?_ | refine zE ?_ | refine zF ?_ | refine zG ?_ | refine zH ?_ | refine zJ ?_ | refine zI ?_ | refine splT ?_ | refine splF ?_ | refine splNot ?_
        | ((first | refine splIn ?_ ?_ | refine splD ?_ ?_ | refine splE ?_ ?_ | refine splNE ?_ ?_) <;> intro hc <;> first | (exfalso; omega) | (exfalso; dsimp only at hc; omega) | skip)
        | refine Exists.intro (α := List Value) [.int .u8 (4 : Nat), .func (.func 148) #[] #[]] ⟨⟨rfl, fun w' hw' => e1 w' hw'⟩, ?_⟩
        | ((with_reducible show CallEv _ _ 148 _ _ _ _ _); refine callE (k := 148) (fun β w' hbw => ht _ hbw) ?_)
      all_goals first | (exfalso; omega) | exact ⟨3 + 1, ⟨by omega, hall'⟩, by omega, Ent.weak rfl ⟨rfl, rfl, rfl, rfl, rfl, rfl, rfl, trivial⟩ ⟨rfl, trivial⟩ fun _ h => h⟩
     | true =>
      have hv : fltO x.d S i k f l m = 4 := by
       unfold fltO
       rw [fstT_yes (j := 3) (fun i' hi' => by rw [List.getElem?_take, if_pos (by omega)]; exact hall i' hi') (by rw [List.getElem?_take, if_pos (by omega)]; exact hb)]
      rw [hv]
      clear hall hn hv
      obtain ⟨days, shift, size, to, tc, T, lo, lc, L⟩ := x
      repeat'
       conv => whnf
       first
        | refine zA ?_ | refine zB ?_ | refine zC ?_ | refine zD ?_ | refine zE ?_ | refine zF ?_ | refine zG ?_ | refine zH ?_ | refine zJ ?_ | refine zI ?_ | refine splT ?_ | refine splF ?_ | refine splNot ?_
        | ((first | refine splIn ?_ ?_ | refine splD ?_ ?_ | refine splE ?_ ?_ | refine splNE ?_ ?_) <;> intro hc <;> first | (exfalso; omega) | (exfalso; dsimp only at hc; omega) | skip)
        | refine Exists.intro (α := List Value) [.int .u8 (4 : Nat), .func (.func 148) #[] #[]] ⟨⟨rfl, fun w' hw' => e1 w' hw'⟩, ?_⟩
        | ((with_reducible show CallEv _ _ 148 _ _ _ _ _); refine callE (k := 148) (fun β w' hbw => ht _ hbw) ?_)
      all_goals first | (exfalso; omega) | exact ⟨fun β => rfl, fun w' h => h⟩
   · -- test 5
     have e1 := fun w' hw' => e0 4 5 150 hlt rfl w' hw'
     have hkk : 1 ≤ k ∧ k < x.T.length := by
      have h0 := hall 0 (by omega)
      simp only [tsA, List.getElem?_cons_zero, Option.some.injEq, ts1, hlen, inB, Bool.not_eq_false', Bool.and_eq_true, decide_eq_true_eq] at h0
      omega
     have ht := fun w' hb => test5_ok x o c S i k f l w' (h.below hb) hn (hS.below hb) hi
     obtain ⟨b, hb0⟩ : ∃ b, ts5 S i k = b := ⟨_, rfl⟩
     rw [hb0] at ht
     have hb : (tsA x.d S i k f l)[4]? = some b := by rw [← hb0]; rfl
     cases b with
     | false =>
      have hall' : ∀ j', j' < 4 + 1 → (tsA x.d S i k f l)[j']? = some false := fun j' hj' => by
       rcases (by omega : j' = 4 ∨ j' < 4) with rfl | h
       · exact hb
       · exact hall j' h
      clear hall hn
      obtain ⟨days, shift, size, to, tc, T, lo, lc, L⟩ := x
      repeat'
       conv => whnf
       first
        | refine zA ?_ | refine zB ?_ | refine zC ?_ | refine zD ?_ | refine zE ?_ | refine zF ?_ | refine zG ?_ | refine zH ?_ | refine zJ ?_ | refine zI ?_ | refine splT ?_ | refine splF ?_ | refine splNot ?_
        | ((first | refine splIn ?_ ?_ | refine splD ?_ ?_ | refine splE ?_ ?_ | refine splNE ?_ ?_) <;> intro hc <;> first | (exfalso; omega) | (exfalso; dsimp only at hc; omega) | skip)
        | refine Exists.intro (α := List Value) [.int .u8 (5 : Nat), .func (.func 150) #[] #[]] ⟨⟨rfl, fun w' hw' => e1 w' hw'⟩, ?_⟩
        | ((with_reducible show CallEv _ _ 150 _ _ _ _ _); refine callE (k := 150) (fun β w' hbw => ht _ hbw) ?_)
      all_goals first | (exfalso; omega) | exact ⟨4 + 1, ⟨by omega, hall'⟩, by omega, Ent.weak rfl ⟨rfl, rfl, rfl, rfl, rfl, rfl, rfl, trivial⟩ ⟨rfl, trivial⟩ fun _ h => h⟩
     | true =>
      have hv : fltO x.d S i k f l m = 5 := by
       unfold fltO
       rw [fstT_yes (j := 4) (fun i' hi' => by rw [List.getElem?_take, if_pos (by omega)]; exact hall i' hi') (by rw [List.getElem?_take, if_pos (by omega)]; exact hb)]
      rw [hv]
      clear hall hn hv
      obtain ⟨days, shift, size, to, tc, T, lo, lc, L⟩ := x
      repeat'
       conv => whnf
       first
        | refine zA ?_ | refine zB ?_ | refine zC ?_ | refine zD ?_ | refine zE ?_ | refine zF ?_ | refine zG ?_ | refine zH ?_ | refine zJ ?_ | refine zI ?_ | refine splT ?_ | refine splF ?_ | refine splNot ?_
        | ((first | refine splIn ?_ ?_ | refine splD ?_ ?_ | refine splE ?_ ?_ | refine splNE ?_ ?_) <;> intro hc <;> first | (exfalso; omega) | (exfalso; dsimp only at hc; omega) | skip)
        | refine Exists.intro (α := List Value) [.int .u8 (5 : Nat), .func (.func 150) #[] #[]] ⟨⟨rfl, fun w' hw' => e1 w' hw'⟩, ?_⟩
        | ((with_reducible show CallEv _ _ 150 _ _ _ _ _); refine callE (k := 150) (fun β w' hbw => ht _ hbw) ?_)
      all_goals first | (exfalso; omega) | exact ⟨fun β => rfl, fun w' h => h⟩
   · -- test 6
     have e1 := fun w' hw' => e0 5 6 153 hlt rfl w' hw'
     have hkk : 1 ≤ k ∧ k < x.T.length := by
      have h0 := hall 0 (by omega)
      simp only [tsA, List.getElem?_cons_zero, Option.some.injEq, ts1, hlen, inB, Bool.not_eq_false', Bool.and_eq_true, decide_eq_true_eq] at h0
      omega
     have hlb := lic_bd hn (k := k) (f := f) (l := l) (by rw [hlen]; exact hkk) (by
      have h3 := hall 3 (by omega)
      simp only [tsA, List.getElem?_cons_succ, List.getElem?_cons_zero, Option.some.injEq] at h3
      exact h3)
     have ht := fun w' hb => test6_ok x o c S i k f l w' (h.below hb) hn (hS.below hb) hi hkk hlb.1
     obtain ⟨b, hb0⟩ : ∃ b, ts6 x.d S i k f = b := ⟨_, rfl⟩
     rw [hb0] at ht
     have hb : (tsA x.d S i k f l)[5]? = some b := by rw [← hb0]; rfl
     cases b with
     | false =>
      have hall' : ∀ j', j' < 5 + 1 → (tsA x.d S i k f l)[j']? = some false := fun j' hj' => by
       rcases (by omega : j' = 5 ∨ j' < 5) with rfl | h
       · exact hb
       · exact hall j' h
      clear hall hn
      obtain ⟨days, shift, size, to, tc, T, lo, lc, L⟩ := x
      repeat'
       conv => whnf
       first
        | refine zA ?_ | refine zB ?_ | refine zC ?_ | refine zD ?_ | refine zE ?_ | refine zF ?_ | refine zG ?_ | refine zH ?_ | refine zJ ?_ | refine zI ?_ | refine splT ?_ | refine splF ?_ | refine splNot ?_
        | ((first | refine splIn ?_ ?_ | refine splD ?_ ?_ | refine splE ?_ ?_ | refine splNE ?_ ?_) <;> intro hc <;> first | (exfalso; omega) | (exfalso; dsimp only at hc; omega) | skip)
        | refine Exists.intro (α := List Value) [.int .u8 (6 : Nat), .func (.func 153) #[] #[]] ⟨⟨rfl, fun w' hw' => e1 w' hw'⟩, ?_⟩
        | ((with_reducible show CallEv _ _ 153 _ _ _ _ _); refine callE (k := 153) (fun β w' hbw => ht _ hbw) ?_)
      all_goals first | (exfalso; omega) | exact ⟨5 + 1, ⟨by omega, hall'⟩, by omega, Ent.weak rfl ⟨rfl, rfl, rfl, rfl, rfl, rfl, rfl, trivial⟩ ⟨rfl, trivial⟩ fun _ h => h⟩
     | true =>
      have hv : fltO x.d S i k f l m = 6 := by
       unfold fltO
       rw [fstT_yes (j := 5) (fun i' hi' => by rw [List.getElem?_take, if_pos (by omega)]; exact hall i' hi') (by rw [List.getElem?_take, if_pos (by omega)]; exact hb)]
      rw [hv]
      clear hall hn hv
      obtain ⟨days, shift, size, to, tc, T, lo, lc, L⟩ := x
      repeat'
       conv => whnf
       first
        | refine zA ?_ | refine zB ?_ | refine zC ?_ | refine zD ?_ | refine zE ?_ | refine zF ?_ | refine zG ?_ | refine zH ?_ | refine zJ ?_ | refine zI ?_ | refine splT ?_ | refine splF ?_ | refine splNot ?_
        | ((first | refine splIn ?_ ?_ | refine splD ?_ ?_ | refine splE ?_ ?_ | refine splNE ?_ ?_) <;> intro hc <;> first | (exfalso; omega) | (exfalso; dsimp only at hc; omega) | skip)
        | refine Exists.intro (α := List Value) [.int .u8 (6 : Nat), .func (.func 153) #[] #[]] ⟨⟨rfl, fun w' hw' => e1 w' hw'⟩, ?_⟩
        | ((with_reducible show CallEv _ _ 153 _ _ _ _ _); refine callE (k := 153) (fun β w' hbw => ht _ hbw) ?_)
      all_goals first | (exfalso; omega) | exact ⟨fun β => rfl, fun w' h => h⟩
   · -- test 7
     have e1 := fun w' hw' => e0 6 7 154 hlt rfl w' hw'
     have hkk : 1 ≤ k ∧ k < x.T.length := by
      have h0 := hall 0 (by omega)
      simp only [tsA, List.getElem?_cons_zero, Option.some.injEq, ts1, hlen, inB, Bool.not_eq_false', Bool.and_eq_true, decide_eq_true_eq] at h0
      omega
     have hlb := lic_bd hn (k := k) (f := f) (l := l) (by rw [hlen]; exact hkk) (by
      have h3 := hall 3 (by omega)
      simp only [tsA, List.getElem?_cons_succ, List.getElem?_cons_zero, Option.some.injEq] at h3
      exact h3)
     have ht := fun w' hb => test7_ok x o c S i k f l w' (h.below hb) hn (hS.below hb) hi hkk hlb.2
     obtain ⟨b, hb0⟩ : ∃ b, ts7 x.d S i k l = b := ⟨_, rfl⟩
     rw [hb0] at ht
     have hb : (tsA x.d S i k f l)[6]? = some b := by rw [← hb0]; rfl
     cases b with
     | false =>
      have hall' : ∀ j', j' < 6 + 1 → (tsA x.d S i k f l)[j']? = some false := fun j' hj' => by
       rcases (by omega : j' = 6 ∨ j' < 6) with rfl | h
       · exact hb
       · exact hall j' h
      clear hall hn
      obtain ⟨days, shift, size, to, tc, T, lo, lc, L⟩ := x
      repeat'
       conv => whnf
       first
        | refine zA ?_ | refine zB ?_ | refine zC ?_ | refine zD ?_ | refine zE ?_ | refine zF ?_ | refine zG ?_ | refine zH ?_ | refine zJ ?_ | refine zI ?_ | refine splT ?_ | refine splF ?_ | refine splNot ?_
        | ((first | refine splIn ?_ ?_ | refine splD ?_ ?_ | refine splE ?_ ?_ | refine splNE ?_ ?_) <;> intro hc <;> first | (exfalso; omega) | (exfalso; dsimp only at hc; omega) | skip)
        | refine Exists.intro (α := List Value) [.int .u8 (7 : Nat), .func (.func 154) #[] #[]] ⟨⟨rfl, fun w' hw' => e1 w' hw'⟩, ?_⟩
        | ((with_reducible show CallEv _ _ 154 _ _ _ _ _); refine callE (k := 154) (fun β w' hbw => ht _ hbw) ?_)
      all_goals first | (exfalso; omega) | exact ⟨6 + 1, ⟨by omega, hall'⟩, by omega, Ent.weak rfl ⟨rfl, rfl, rfl, rfl, rfl, rfl, rfl, trivial⟩ ⟨rfl, trivial⟩ fun _ h => h⟩
     | true =>
      have hv : fltO x.d S i k f l m = 7 := by
       unfold fltO
       rw [fstT_yes (j := 6) (fun i' hi' => by rw [List.getElem?_take, if_pos (by omega)]; exact hall i' hi') (by rw [List.getElem?_take, if_pos (by omega)]; exact hb)]
      rw [hv]
      clear hall hn hv
      obtain ⟨days, shift, size, to, tc, T, lo, lc, L⟩ := x
      repeat'
       conv => whnf
       first
        | refine zA ?_ | refine zB ?_ | refine zC ?_ | refine zD ?_ | refine zE ?_ | refine zF ?_ | refine zG ?_ | refine zH ?_ | refine zJ ?_ | refine zI ?_ | refine splT ?_ | refine splF ?_ | refine splNot ?_
        | ((first | refine splIn ?_ ?_ | refine splD ?_ ?_ | refine splE ?_ ?_ | refine splNE ?_ ?_) <;> intro hc <;> first | (exfalso; omega) | (exfalso; dsimp only at hc; omega) | skip)
        | refine Exists.intro (α := List Value) [.int .u8 (7 : Nat), .func (.func 154) #[] #[]] ⟨⟨rfl, fun w' hw' => e1 w' hw'⟩, ?_⟩
        | ((with_reducible show CallEv _ _ 154 _ _ _ _ _); refine callE (k := 154) (fun β w' hbw => ht _ hbw) ?_)
      all_goals first | (exfalso; omega) | exact ⟨fun β => rfl, fun w' h => h⟩
 · obtain rfl : j = m := by omega
   have hv : fltO x.d S i k f l j = 0 := by
    unfold fltO
    refine fstT_no fun i' hi' => ?_
    rw [List.length_take] at hi'
    rw [List.getElem?_take, if_pos (by omega)]
    exact hall i' (by omega)
   rw [hv]
   clear hall hn hv
   obtain ⟨days, shift, size, to, tc, T, lo, lc, L⟩ := x
   repeat'
    conv => whnf
    first
     | refine zA ?_ | refine zB ?_ | refine zC ?_ | refine zD ?_ | refine zE ?_ | refine zF ?_ | refine zG ?_ | refine zH ?_ | refine zJ ?_ | refine zI ?_ | refine splT ?_ | refine splF ?_ | refine splNot ?_
     | ((first | refine splIn ?_ ?_ | refine splD ?_ ?_ | refine splE ?_ ?_ | refine splNE ?_ ?_) <;> intro hc <;> first | (exfalso; omega) | (exfalso; dsimp only at hc; omega) | skip)
   all_goals first | (exfalso; omega) | exact ⟨fun β => rfl, fun w' h => h⟩
abbrev tsL : List SV := [.v (.int .u8 1), .v (.func (.func 144) #[] #[]), .v (.int .u8 2), .v (.func (.func 145) #[] #[]), .v (.int .u8 3), .v (.func (.func 146) #[] #[]), .v (.int .u8 4), .v (.func (.func 148) #[] #[]), .v (.int .u8 5), .v (.func (.func 150) #[] #[]), .v (.int .u8 6), .v (.func (.func 153) #[] #[]), .v (.int .u8 7), .v (.func (.func 154) #[] #[])]
theorem tests_ok (w : World) : Calls Try.prog 109 #[] w fun e w' => ∃ b, e = .returned (.slice (some ⟨b, 0, none⟩) 7 7) ∧ w.heap.size ≤ b ∧ Below w.heap.size w w' ∧ ∀ β, (Blk.cells tsL 192).ok β w' b := by
 refine calls_fam2 env mixed Try.func109 has109 Try.ntmps109 [] (by simp) ?_
 repeat'
  conv => whnf
  first
   | refine zA ?_ | refine zB ?_ | refine zC ?_ | refine zD ?_ | refine zE ?_ | refine zF ?_ | refine zG ?_ | refine zH ?_ | refine zJ ?_ | refine zI ?_ | refine splT ?_ | refine splF ?_ | refine splNot ?_
   | ((first | refine splIn ?_ ?_ | refine splD ?_ ?_ | refine splE ?_ ?_ | refine splNE ?_ ?_) <;> intro hc <;> first | (exfalso; omega) | (exfalso; dsimp only at hc; omega) | skip)
 exact ⟨fun w' h => h, fun β w' hB hB2 hblk => ⟨β 0, rfl, (hblk 0 _ rfl rfl).1, hB2, fun _ => (hblk 0 _ rfl rfl).2⟩⟩
theorem ts_hr {b m : Nat} {β : Nat → Nat} {w : World} (h : (Blk.cells tsL 192).ok β w b) : ∀ j p, j < m → TS[j]? = some p → ∀ q v, (tsF p)[q]? = some v → w.cell? (((⟨b, 0, none⟩ : Addr).add (j * 2)).add q) = some v := fun j p _ hp => by
 have h2 : w.heap[b]? = some (.cells (TS.flatMap tsF).toArray 192 (0, 0)) := h
 exact rd_at (Rd.of_cells (f := tsF) (sz := 2) (c := 7) (fun _ => rfl) rfl h2) hp
set_option maxHeartbeats 1000000 in
set_option maxRecDepth 100000 in
theorem alone_ok (x : Tr) (k f l : Int) (w : World) (h : TrIn x w) (hn : ToN x.d) (hb : (-1000000000 ≤ f ∧ f ≤ 1000000000) ∧ -1000000000 ≤ l ∧ l ≤ 1000000000) :
 Calls Try.prog 115 #[x.v, .agg #[iv k, iv f, iv l]] w fun e w' => e = .returned (.bool (decide (fltO x.d [(k, f, l)] 0 k f l 4 = 0))) ∧ Below w.heap.size w w' := by
 have hfl := fltO_le x.d [(k, f, l)] 0 k f l 4
 have h108 := fun (w' : World) (hw' : Below w.heap.size w w') (so bt : Nat) (h1 : w'.heap[so]? = some (.cells [iv k, iv f, iv l].toArray 96 (0, 0))) (β : Nat → Nat) (h2 : (Blk.cells tsL 192).ok β w' bt) =>
  fault_ok x (some ⟨so, 0, none⟩) 1 [(k, f, l)] 0 k f l ⟨bt, 0, none⟩ 7 4 w' (h.below hw') hn ⟨Rd.of_cells (f := spF) (sz := 3) (bs := [(k, f, l)]) (c := 1) (fun _ => rfl) rfl h1, by simp, by simp, fun s hs => by rw [List.mem_singleton.1 hs]; dsimp only; omega⟩ rfl (by decide) (ts_hr h2)
 generalize fltO x.d [(k, f, l)] 0 k f l 4 = F at *
 refine calls_val env mixed Try.func115 has115 Try.ntmps115 [.agg #[iv x.days, iv x.shift, iv x.size, .slice x.to x.T.length x.tc, .slice x.lo x.L.length x.lc], .agg #[iv k, iv f, iv l]] (by simp) ?_
 clear hn h
 obtain ⟨days, shift, size, to, tc, T, lo, lc, L⟩ := x
 repeat'
  conv => whnf
  first
   | refine zA ?_ | refine zB ?_ | refine zC ?_ | refine zD ?_ | refine zE ?_ | refine zF ?_ | refine zG ?_ | refine zH ?_ | refine zJ ?_ | refine zI ?_ | refine splT ?_ | refine splF ?_ | refine splNot ?_
   | ((first | refine splIn ?_ ?_ | refine splD ?_ ?_ | refine splE ?_ ?_ | refine splNE ?_ ?_) <;> intro hc <;> first | (exfalso; omega) | (exfalso; dsimp only at hc; omega) | skip)
   | ((with_reducible show CallEv _ _ 109 _ _ _ _ _); refine callN 3 [] (.sl 3 0 7 7) tsL 192 rfl (fun β w' _ hbw => (tests_ok w').mono fun e w2 ⟨b, h1, h2, h3, h4⟩ => ⟨b, h1, h2, h3, h4 _⟩) ?_)
   | refine slHiS env (z := 4) rfl rfl rfl rfl (by omega) rfl ?_
   | ((with_reducible show CallEv _ _ 108 _ _ _ _ _); refine callM [2, 3] (fun β w' hbk hbw => h108 w' hbw (β 2) (β 3) (hbk 2 (by simp) _ rfl) β (hbk 3 (by simp) _ rfl)) ?_)
 all_goals first | (exfalso; omega) | exact ⟨fun β => congrArg Value.bool (by rw [Bool.eq_iff_iff, beq_iff_eq, decide_eq_true_eq]; omega), fun w' h => h⟩
end Go.Proofs.Ythfabodamhdhaaa
namespace Go.Proofs.Ythfabodamhdhaaa.Tx
open Go Go.RowKit
set_option linter.unusedSimpArgs false
set_option linter.unusedVariables false
theorem lts_set {n : Nat} {s : SV} (hs : s.lt n = true) : ∀ {l : List SV} {i : Nat}, SV.lts n l = true → SV.lts n (l.set i s) = true
 | [], _, h => h
 | a :: r, 0, h => by
  simp only [SV.lts, Bool.and_eq_true, List.set_cons_zero] at h ⊢
  exact ⟨hs, h.2⟩
 | a :: r, i + 1, h => by
  simp only [SV.lts, Bool.and_eq_true, List.set_cons_succ] at h ⊢
  exact ⟨h.1, lts_set hs h.2⟩
theorem cs_set (β : Nat → Nat) (s : SV) : ∀ (l : List SV) (i : Nat), SV.cs β (l.set i s) = (SV.cs β l).set i (s.c β) := fun l i => by
 rw [SV.cs_eq, SV.cs_eq, List.map_set]
theorem ldM {P : Program} (T : Env P) {dst : Option Tmp} {ty : TypeId} {pos : String} {after : Array Edge} {gd : Option (Nat × Bool)} {gs : List Nat} {σ : Sg} {K : Ef → Prop} {t i o j n e : Nat} {x : Operand} {xs : List SV} {ti : TI} (s : SV)
 (hx : gv σ x = some (.ptr i o)) (hm : lk σ.m i = some (.mix j n 1 [] xs e)) (ht : T.ty t = some ti) (hsz : ti.size = 1) (hag : ti.kind.agg = false) (hs : xs[o]? = some s) (hlt : SV.lt σ.nb s = true)
 (hK : K ⟨s, [], [], gs ++ os x, [i]⟩) : OpEv P ⟨dst, .load t x, ty, pos, after, gd⟩ gs σ K := by
 refine .mk ⟨s, [], [], gs ++ os x, [i]⟩ (by simp [efB, eqs, modsLt, oldB, keysB, nodupB, hlt]) (fun k hk => by simp [hk]) rfl (runOK_pure fun β a w hss => ?_) hK
 have htok := T.tok t ti ht
 have e1 := gv_eval hss hx (fun k hk => by simp [hk])
 have e2 : w.ownsRow 0 e 1 (.slice (some ⟨β i, 0, none⟩) n (β j)) n (SV.cs β xs) := by
  have := hss.m i (by simp) _ hm
  simpa [Blk.ok] using this
 have e3 := run_loadVar_cells (P := P) htok (β := β) (w := w) (ad := ⟨β i, o, none⟩) (l := [s]) (s := s) (by rw [hsz]; rfl) (fun q v hv => by
  rw [own_add]
  have hv' : (SV.cs β xs)[o + q]? = some v := by
   match q, hv with
   | 0, hv =>
    rw [cs_getElem?, Nat.add_zero, hs]
    simpa [SV.cs] using hv
  have := e2.cells (g := β i) rfl _ _ hv'
  rw [own_add, Nat.zero_add] at this
  exact this) (.inr ⟨hag, rfl⟩)
 simp [execOp, Instr.loadAt, Instr.sureAddr, e1, SV.c, e3]
theorem stM {P : Program} (T : Env P) {dst : Option Tmp} {ty : TypeId} {pos : String} {after : Array Edge} {gd : Option (Nat × Bool)} {gs : List Nat} {σ : Sg} {K : Ef → Prop} {t i o j n e : Nat} {x y : Operand} {xs : List SV} {ti : TI} (s : SV)
 (hx : gv σ x = some (.ptr i o)) (hy : gv σ y = some s) (hm : lk σ.m i = some (.mix j n 1 [] xs e)) (ht : T.ty t = some ti) (hsz : ti.size = 1) (hcl : s.cells = [s]) (ho1 : ones s.cells = true) (ho : o < xs.length)
 (hi : Nat.blt i σ.nb = true) (hj : Nat.blt j σ.nb = true) (hls : SV.lts σ.nb xs = true) (hlt : SV.lt σ.nb s = true)
 (hK : K ⟨.v undef, [], [(i, .mix j n 1 [] (xs.set o s) e)], gs ++ (os x ++ os y), [i]⟩) : OpEv P ⟨dst, .store t x y, ty, pos, after, gd⟩ gs σ K := by
 refine .mk ⟨.v undef, [], [(i, .mix j n 1 [] (xs.set o s) e)], gs ++ (os x ++ os y), [i]⟩ (by simp [efB, eqs, modsLt, oldB, keysB, nodupB, hi, hj, Blk.lt, lts_set hlt hls, hm, Blk.live, SV.lt, nin]) (fun k hk => by simp [hk]) rfl (fun β a w hs => ?_) hK
 have htok := T.tok t ti ht
 have e1 := gv_eval hs hx (fun k hk => by simp [hk])
 have e2 := gv_eval hs hy (fun k hk => by simp [hk])
 have e3 : w.ownsRow 0 e 1 (.slice (some ⟨β i, 0, none⟩) n (β j)) n (SV.cs β xs) := by
  have := hs.m i (by simp) _ hm
  simpa [Blk.ok] using this
 have hlenx := e3.1
 rcases e3.2 with ⟨h', _⟩ | ⟨g, cap, cur, q0, q1, q2, q3, q4, q5, q6⟩
 · cases h'
 simp only [Value.slice.injEq, Option.some.injEq, Addr.mk.injEq, and_true, true_and] at q0
 obtain ⟨rfl, rfl⟩ := q0
 have hzc : (s.c β).cells = (SV.cs β s.cells).toArray := by rw [← SV.cells_c]
 have hcs : SV.cs β s.cells = [s.c β] := by rw [hcl]; rfl
 have hxl : (SV.cs β xs).length ≤ cur.size := by
  have := congrArg List.length q6
  rw [List.length_take, Array.length_toList] at this
  omega
 have hcl' : (SV.cs β xs).length = xs.length := by rw [SV.cs_eq, List.length_map]
 have hrun := run_storeCells_at (P := P) (β i) o e (SV.cs β s.cells) 0 cur w q2 (by rw [hcs]; simp only [List.length_singleton]; omega) (ones_c β ho1)
 have hszc : (s.c β).cells.size = ti.size := by rw [hzc, hcs, hsz]; rfl
 refine ⟨β, w.setRow (β i) (cur.toList.take (o + 0) ++ SV.cs β s.cells ++ cur.toList.drop (o + 0 + (SV.cs β s.cells).length)).toArray, ?_, .inr ⟨?_, rfl⟩⟩
 · refine ⟨fun _ _ => rfl, ⟨rfl, rfl, rfl, by simp [World.setRow], fun b hb hX => ?_⟩, fun q b hq => ?_, fun q hq => (by cases hq), fun q hq => (by cases hq)⟩
   · have hne : β i ≠ b := fun e => hX ⟨i, _, List.mem_singleton.2 rfl, by simp, e⟩
     simp only [World.setRow, Array.getElem?_modify]
     rw [if_neg hne]
   · simp only [List.mem_singleton, Prod.mk.injEq] at hq
     obtain ⟨rfl, rfl⟩ := hq
     have hoc : o < cur.toList.length := by rw [Array.length_toList]; omega
     have hc' : cur.toList.take (o + 0) ++ SV.cs β s.cells ++ cur.toList.drop (o + 0 + (SV.cs β s.cells).length) = cur.toList.set o (s.c β) := by
      rw [hcs, List.set_eq_take_append_cons_drop, if_pos hoc]
      simp
     rw [hc']
     show World.ownsRow _ 0 e 1 (.slice (some ⟨β q, 0, none⟩) n (β j)) n ([] ++ SV.cs β (xs.set o s))
     rw [List.nil_append, cs_set]
     refine ⟨by rw [List.length_set]; exact hlenx, .inr ⟨_, _, _, rfl, q1, setRow_heap w _ cur _ e _ q2, q3, q4, ?_, ?_⟩⟩
     · rw [List.size_toArray, List.length_set, Array.length_toList]; exact q5
     · rw [← q6, List.take_set]
 · simp only [execOp, Instr.storeAt, Instr.sureAddr, e1, e2, SV.c, Sem.run_bind, Sem.run_pure, Result.andThen_ok, storeVar, htok.run_sizeOf w, hszc, ne_eq, not_true_eq_false, if_false]
   rw [hzc]
   simp only [hrun, Result.andThen_ok]
def GEqR (ρ : Nat → Nat) : List (Nat × SV) → Prop
 | [] => True
 | (_, s) :: r => (∀ β : Nat → Nat, s.c (fun i => β (ρ i)) = s.c β) ∧ GEqR ρ r
theorem GEqR.get {ρ : Nat → Nat} : ∀ {l : List (Nat × SV)}, GEqR ρ l → ∀ k s, lk l k = some s → ∀ β : Nat → Nat, s.c (fun i => β (ρ i)) = s.c β
 | (j, x) :: r, ha, k, s, h => by
  simp only [lk] at h
  cases hb : Nat.beq k j with
  | true => rw [hb, cond_true, Option.some.injEq] at h; subst h; exact ha.1
  | false => rw [hb, cond_false] at h; exact ha.2.get k s h
theorem Dis.mk4 {α : Type} {nt nb nb' : Nat} {t : List (Nat × SV)} {m : List (Nat × Blk)} {h : World → Prop} {z : Gz} (ρ : Nat → Nat) (L : List Nat) {t' : α → List (Nat × SV)} {m' : α → List (Nat × Blk)} {h' : α → World → Prop} {pre : α → Prop} {w0 : World}
 (hz : GEqR ρ z.g) (hL : ∀ i ∈ L, ∃ b, lk m i = some b ∧ b.live = true) (hbel : ∀ w, h w → Below w0.heap.size w0 w)
 (hx : ∀ β w, (∀ i b, lk m i = some b → b.ok β w (β i)) → h w → (∀ i b, lk m i = some b → b.live = true → w0.heap.size ≤ β i) →
  ∃ x, pre x ∧ TEqR ρ β t (t' x) ∧ MEqR ρ L β m (m' x) ∧ injR ρ (m' x) = true ∧ ∀ w2, h w2 → (∀ i ∈ L, ∀ b, lk m i = some b → b.ok β w2 (β i)) → h' x w2) :
 Dis ⟨nt, t, m, nb, h, z⟩ (fun x => ⟨nt, t' x, m' x, nb', h' x, z⟩) pre := by
 unfold Dis
 rintro X a w ⟨β, D, hs⟩
 have hmem := hs.mem
 obtain ⟨x, hp, ht, hm, hinj, hh⟩ := hx β w hs.m (hs.h w (Chg.refl _ _)) (fun i b hi hl => Nat.le_of_not_lt fun hlt => hmem.out i b hi hl (hmem.old hbel hlt))
 have hLc : ∀ i ∈ L, ∃ o, w.heap[β i]? = some o ∧ IsMem o := fun i hi => by
  obtain ⟨b, h1, h2⟩ := hL i hi
  exact Blk.ok_cells h2 (hs.m i b h1)
 have hno : ∀ (d : Nat) (o : Obj), w.heap[d]? = some o → Other o → ¬ ∃ i ∈ L, β i = d := by
  rintro d o h1 h2 ⟨i, hi, rfl⟩
  obtain ⟨o3, h3, h4⟩ := hLc i hi
  rw [h1] at h3
  cases h3
  exact h2 h4
 refine ⟨x, hp, fun i => β (ρ i), fun b => D b ∨ ∃ i ∈ L, β i = b, ?_, hs.size, ?_, ?_, ?_, ?_, ?_, ?_, ?_⟩
 · obtain ⟨l, l1, l2, l3⟩ := hs.defers
   refine ⟨l, l1, l2, fun d hd => ⟨(l3 d hd).1, ?_, (l3 d hd).2.2⟩⟩
   rintro (h1 | h1)
   · exact (l3 d hd).2.1 h1
   · exact hno d _ (l3 d hd).1 (fun h => h) h1
 · intro k s hk
   obtain ⟨s', h1, h2⟩ := ht.get k s hk
   rw [← h2]; exact hs.t k s' h1
 · intro i b hi
   obtain ⟨_, b', h1, _, h2⟩ := hm.get i b hi
   exact h2 _ _ (hs.m _ b' h1)
 · intro i j bi bj hi hj h1 h2 hne
   obtain ⟨_, b', hi', l1, _⟩ := hm.get i bi hi
   obtain ⟨_, b2', hj', l2, _⟩ := hm.get j bj hj
   exact hs.inj _ _ _ _ hi' hj' (l1 h1) (l2 h2) (injR_spec hinj i j (lk_key hi) (lk_key hj) hne)
 · intro i b hi hl
   obtain ⟨hn, b', hi', l1, _⟩ := hm.get i b hi
   rintro (h1 | ⟨j, hj, h1⟩)
   · exact hs.out _ _ hi' (l1 hl) h1
   · obtain ⟨bj, h2, h3⟩ := hL j hj
     refine hs.inj j _ _ _ h2 hi' h3 (l1 hl) (fun e => ?_) h1
     subst e
     exact nin_iff.1 hn hj
 · rintro b (h1 | ⟨j, hj, rfl⟩)
   · exact hs.dlt b h1
   · obtain ⟨o3, h3, _⟩ := hLc j hj
     exact (Array.getElem?_eq_some_iff.1 h3).1
 · intro w2 hc
   refine hh w2 (hs.h w2 ⟨hc.os, hc.tape, hc.output, hc.size, fun b hb hd => hc.same b hb fun h1 => hd fun h2 => h1 (.inl h2)⟩) fun i hi b hb => ?_
   obtain ⟨o3, h3, _⟩ := hLc i hi
   exact Blk.keep_at (hc.same _ (Array.getElem?_eq_some_iff.1 h3).1 fun h1 => h1 (.inr ⟨i, hi, rfl⟩)) (hs.m i b hb)
 · refine ⟨fun k s hk => (hs.amb.g k s hk).trans (hz.get k s hk β).symm, fun p hp' => ⟨(hs.amb.la p hp').1, ?_⟩, hs.amb.lq, hs.amb.dep, hs.amb.nd, fun d hd => ⟨(hs.amb.pr d hd).1, ?_⟩⟩
   · rintro (h1 | h1)
     · exact (hs.amb.la p hp').2 h1
     · obtain ⟨st, pd, h2⟩ := (hs.amb.la p hp').1
       exact hno _ _ h2 (fun h => h) h1
   · rintro (h1 | h1)
     · exact (hs.amb.pr d hd).2 h1
     · exact hno _ _ (hs.amb.pr d hd).1 (fun h => h) h1
theorem lk_app2 {α : Type} {i : Nat} {x : α} : ∀ {l l' : List (Nat × α)}, lk (l ++ l') i = some x → lk l i = some x ∨ (lk l i = none ∧ lk l' i = some x)
 | [], l', h => .inr ⟨rfl, h⟩
 | (j, a) :: r, l', h => by
  simp only [List.cons_append, lk] at h ⊢
  cases hb : Nat.beq i j with
  | true => rw [hb] at h; exact .inl h
  | false => rw [hb] at h; exact lk_app2 (l := r) h
theorem callFR {P : Program} {nt nb : Nat} {t : List (Nat × SV)} {m : List (Nat × Blk)} {h0 : World → Prop} {z : Gz} {k : Nat} {args : List SV} {B : Ef → Bool} {rs : List Nat} {K : Ef → Prop} {ks : KT} (rb : List Nat) {α : Type} (r : Nat) (V : SV) (m1 : α → List (Nat × Blk)) (hx : α → World → Prop)
 (hm1 : ∀ x i b, lk (m1 x) i = some b → nb ≤ i ∧ i < nb + r ∧ b.lt (nb + r) = true ∧ b.live = true) (hV : V.lt (nb + r) = true)
 (h : ∀ β w, (∀ i ∈ rb, ∀ b, lk m i = some b → b.ok β w (β i)) → h0 w → Calls P k (SV.cs β args).toArray w fun e w' => ∃ (x : α) (γ : Nat → Nat), e = .returned (V.c γ) ∧ (∀ i, i < nb → γ i = β i) ∧ Below w.heap.size w w' ∧
  (∀ i b, lk (m1 x) i = some b → w.heap.size ≤ γ i ∧ b.ok γ w' (γ i)) ∧ (∀ i j bi bj, lk (m1 x) i = some bi → lk (m1 x) j = some bj → i ≠ j → γ i ≠ γ j) ∧
  ∀ w2, w'.heap.size ≤ w2.heap.size → (∀ c, w.heap.size ≤ c → c < w'.heap.size → (∀ i b, lk (m1 x) i = some b → γ i ≠ c) → w2.heap[c]? = w'.heap[c]?) → hx x w2)
 (hK : ∀ x, ks V ⟨nt, t, m1 x ++ m, nb + r, fun w => h0 w ∧ hx x w, z⟩) : CallEv P ⟨nt, t, m, nb, h0, z⟩ k args B rs K (some ks) :=
 .st ks rfl fun X β D a w hok hs => (h β w (fun i _ b hb => hs.m i b hb) (hs.h w (Chg.refl _ _))).mono fun e w' ⟨x, γ, he, hlow, hB, hown, hinj, hst⟩ => by
  have hold : ∀ i bk, lk m i = some bk → bk.live = true → β i < w.heap.size := fun i bk hi hl => Blk.ok_lt hl (hs.m i bk hi)
  have hnl : ∀ i bk, lk (m1 x) i = some bk → γ i < w'.heap.size := fun i bk hi => Blk.ok_lt (hm1 x i bk hi).2.2.2 (hown i bk hi).2
  have hlk : ∀ i bk, lk (m1 x ++ m) i = some bk → lk (m1 x) i = some bk ∨ (i < nb ∧ lk m i = some bk) := fun i bk hi => by
   rcases lk_app2 hi with h1 | ⟨_, h2⟩
   · exact .inl h1
   · exact .inr ⟨(hok.wf.m i bk h2).1, h2⟩
  refine ⟨V, _, γ, fun c => D c ∨ (w.heap.size ≤ c ∧ c < w'.heap.size ∧ ∀ i b, lk (m1 x) i = some b → γ i ≠ c), ?_, hK x, hV, ⟨⟨fun k s hk => ?_, fun k s hk => ?_, fun i bk hi => ?_⟩, hok.lt⟩, rfl, ?_⟩
  · exact he
  · exact SV.lt_mono (Nat.le_add_right nb r) s (hok.wf.t k s hk)
  · exact SV.lt_mono (Nat.le_add_right nb r) s (hok.wf.g k s hk)
  · rcases hlk i bk hi with h1 | ⟨_, h2⟩
    · exact ⟨(hm1 x i bk h1).2.1, (hm1 x i bk h1).2.2.1⟩
    · exact ⟨Nat.lt_of_lt_of_le (hok.wf.m i bk h2).1 (Nat.le_add_right nb r), Blk.lt_mono (Nat.le_add_right nb r) bk (hok.wf.m i bk h2).2⟩
  · refine ⟨?_, hs.size, fun k s hk => (hs.t k s hk).trans (SV.c_lt hlow s (hok.wf.t k s hk)).symm, fun i bk hi => ?_, fun i j bi bj hi hj li lj hne => ?_, fun i bk hi hl hD => ?_, fun c hc => ?_, fun w2 hc => ?_, ?_⟩
    · obtain ⟨l, l1, l2, l3⟩ := hs.defers
      exact ⟨l, l1, l2, fun d hd => ⟨(hB.block _ (Array.getElem?_eq_some_iff.1 (l3 d hd).1).1).trans (l3 d hd).1, fun hD => by
       rcases hD with hD | hD
       · exact (l3 d hd).2.1 hD
       · have := (Array.getElem?_eq_some_iff.1 (l3 d hd).1).1; omega, (l3 d hd).2.2⟩⟩
    · rcases hlk i bk hi with h1 | ⟨hlt, h2⟩
      · exact (hown i bk h1).2
      · rw [hlow i hlt]
        exact Blk.ok_nm hlow bk (hok.wf.m i bk h2).2 (Blk.ok_congr (fr := []) (fun _ _ => rfl) bk (Blk.av_nil bk) (fun hl => hB.block _ (hold i bk h2 hl)) (hs.m i bk h2))
    · rcases hlk i bi hi with h1 | ⟨hlt, h2⟩ <;> rcases hlk j bj hj with h1' | ⟨hlt', h2'⟩
      · exact hinj i j bi bj h1 h1' hne
      · rw [hlow j hlt']; have := hold j bj h2' lj; have := (hown i bi h1).1; omega
      · rw [hlow i hlt]; have := hold i bi h2 li; have := (hown j bj h1').1; omega
      · rw [hlow i hlt, hlow j hlt']; exact hs.inj i j bi bj h2 h2' li lj hne
    · rcases hlk i bk hi with h1 | ⟨hlt, h2⟩
      · rcases hD with hD | hD
        · have := hs.dlt _ hD; have := (hown i bk h1).1; omega
        · exact hD.2.2 i bk h1 rfl
      · rw [hlow i hlt] at hD
        rcases hD with hD | hD
        · exact hs.out i bk h2 hl hD
        · have := hold i bk h2 hl; omega
    · rcases hc with hc | hc
      · exact Nat.lt_of_lt_of_le (hs.dlt c hc) hB.size
      · exact hc.2.1
    · refine ⟨hs.h w2 ⟨hc.os.trans hB.os, hc.tape.trans hB.tape, hc.output.trans hB.output, Nat.le_trans hB.size hc.size, fun c hcl hn => ?_⟩, hst w2 hc.size fun c h1 h3 h2 => hc.same c h3 fun hn => hn (.inr ⟨h1, h3, h2⟩)⟩
      rw [hc.same c (Nat.lt_of_lt_of_le hcl hB.size) (fun hn2 => hn2 (.inl (Classical.byContradiction fun hD => hn hD)))]
      exact hB.block c hcl
    · refine hs.amb.keep (fun k s hk => SV.c_lt hlow s (hok.wf.g k s hk)) (fun c o hco _ => (hB.block c (Array.getElem?_eq_some_iff.1 hco).1).trans hco) (fun c hcl hD => ?_)
      rcases hD with hD | hD
      · exact hD
      · omega
end Go.Proofs.Ythfabodamhdhaaa.Tx
namespace Go.Proofs.Ythfabodamhdhaaa
open Go Tx Go.RowKit
set_option linter.unusedSimpArgs false
set_option linter.unusedVariables false
abbrev Tr.l (x : Tr) : List SV := [.v (iv x.days), .v (iv x.shift), .v (iv x.size), .v (.slice x.to x.T.length x.tc), .v (.slice x.lo x.L.length x.lc)]
abbrev stB (x : Tr) (k d : Int) (nb : Nat) : List (Nat × Blk) := [(nb, .cells x.l 35), (nb + 1, .cells [.v (iv k)] 3), (nb + 2, .cells [.v (iv d)] 3)]
theorem stops_ok (x : Tr) (k d : Int) (w : World) : Calls Try.prog 83 #[x.v, iv k, iv d] w fun e w' => ∃ β : Nat → Nat, e = .returned ((SV.fn (.func 114) [.ptr 0 0, .ptr 1 0, .ptr 2 0]).c β) ∧ Below w.heap.size w w' ∧
 (∀ i b, lk (stB x k d 0) i = some b → w.heap.size ≤ β i ∧ b.ok β w' (β i)) ∧ ∀ i j, i < 3 → j < 3 → i ≠ j → β i ≠ β j := by
 refine calls_fam3 env mixed Try.func83 has83 Try.ntmps83 [.agg #[iv x.days, iv x.shift, iv x.size, .slice x.to x.T.length x.tc, .slice x.lo x.L.length x.lc], iv k, iv d] (by simp) ?_
 obtain ⟨days, shift, size, to, tc, T, lo, lc, L⟩ := x
 repeat'
  conv => whnf
  first
   | refine zA ?_ | refine zB ?_ | refine zC ?_ | refine zD ?_ | refine zE ?_ | refine zF ?_ | refine zG ?_ | refine zH ?_ | refine zJ ?_ | refine zI ?_ | refine splT ?_ | refine splF ?_ | refine splNot ?_
   | ((first | refine splIn ?_ ?_ | refine splD ?_ ?_ | refine splE ?_ ?_ | refine splNE ?_ ?_) <;> intro hc <;> first | (exfalso; omega) | (exfalso; dsimp only at hc; omega) | skip)
 refine ⟨fun w' h => h, fun β w' hB hB2 hblk hinj => ⟨β, rfl, hB2, fun i b hi => ?_, fun i j hi hj hne => ?_⟩⟩
 · have hm := lk_mem hi
   simp only [stB, List.mem_cons, Prod.mk.injEq, List.not_mem_nil, or_false] at hm
   rcases hm with ⟨rfl, rfl⟩ | ⟨rfl, rfl⟩ | ⟨rfl, rfl⟩
   · exact hblk 0 _ rfl rfl
   · exact hblk 1 _ rfl rfl
   · exact hblk 2 _ rfl rfl
 · rcases (by omega : i = 0 ∨ i = 1 ∨ i = 2) with rfl | rfl | rfl <;> rcases (by omega : j = 0 ∨ j = 1 ∨ j = 2) with rfl | rfl | rfl <;> first | exact absurd rfl hne | exact hinj _ _ _ _ rfl rfl rfl rfl (by decide)
theorem stops_R (x : Tr) (k d : Int) (nb : Nat) (β : Nat → Nat) (w : World) : Calls Try.prog 83 #[x.v, iv k, iv d] w fun e w' => ∃ γ : Nat → Nat, e = .returned ((SV.fn (.func 114) [.ptr nb 0, .ptr (nb + 1) 0, .ptr (nb + 2) 0]).c γ) ∧ (∀ i, i ∉ [nb, nb + 1, nb + 2] → γ i = β i) ∧ Below w.heap.size w w' ∧
 (∀ i b, (i, b) ∈ stB x k d nb → w.heap.size ≤ γ i ∧ b.ok γ w' (γ i)) ∧ ∀ i b j b', (i, b) ∈ stB x k d nb → (j, b') ∈ stB x k d nb → i ≠ j → γ i ≠ γ j := by
 refine (stops_ok x k d w).mono fun e w' ⟨δ, h1, h2, h3, h4⟩ => ?_
 let γ : Nat → Nat := fun i => if i = nb then δ 0 else if i = nb + 1 then δ 1 else if i = nb + 2 then δ 2 else β i
 have g0 : γ nb = δ 0 := if_pos rfl
 have g1 : γ (nb + 1) = δ 1 := by show (if nb + 1 = nb then _ else if nb + 1 = nb + 1 then _ else _) = _; rw [if_neg (by omega), if_pos rfl]
 have g2 : γ (nb + 2) = δ 2 := by show (if nb + 2 = nb then _ else if nb + 2 = nb + 1 then _ else if nb + 2 = nb + 2 then _ else _) = _; rw [if_neg (by omega), if_neg (by omega), if_pos rfl]
 refine ⟨γ, ?_, fun i hi => ?_, h2, fun i b hm => ?_, fun i b j b' hm hm' hne => ?_⟩
 · rw [h1]
   simp only [SV.c, SV.cs, g0, g1, g2]
 · simp only [List.mem_cons, List.not_mem_nil, or_false, not_or] at hi
   show (if i = nb then _ else if i = nb + 1 then _ else if i = nb + 2 then _ else _) = _
   rw [if_neg hi.1, if_neg hi.2.1, if_neg hi.2.2]
 · simp only [stB, List.mem_cons, Prod.mk.injEq, List.not_mem_nil, or_false] at hm
   rcases hm with ⟨rfl, rfl⟩ | ⟨rfl, rfl⟩ | ⟨rfl, rfl⟩
   · rw [g0]; exact h3 0 _ rfl
   · rw [g1]; exact h3 1 _ rfl
   · rw [g2]; exact h3 2 _ rfl
 · simp only [stB, List.mem_cons, Prod.mk.injEq, List.not_mem_nil, or_false] at hm hm'
   rcases hm with ⟨rfl, rfl⟩ | ⟨rfl, rfl⟩ | ⟨rfl, rfl⟩ <;> rcases hm' with ⟨rfl, rfl⟩ | ⟨rfl, rfl⟩ | ⟨rfl, rfl⟩ <;> first | exact absurd rfl hne | (simp only [g0, g1, g2]; exact h4 _ _ (by decide) (by decide) (by decide))
def aloB (x : To) (a d l : Int) : Bool := decide (fltO x [(a, d, l)] 0 a d l 4 = 0)
def ALp (x : To) (a d : Nat) : Nat → List Nat
 | 0 => []
 | j + 1 => if aloB x a d ((d : Int) + ((twO x a).s1 + j) - 1) = true then ALp x a d j ++ [((d : Int) + ((twO x a).s1 + j) - 1).toNat] else ALp x a d j
def ALO (x : To) (a d : Nat) : List Nat := if a = 0 then [] else ALp x a d ((twO x a).s2 - (twO x a).s1 + 1).toNat
theorem ALp_len (x : To) (a d : Nat) : ∀ j, (ALp x a d j).length ≤ j
 | 0 => Nat.le_refl _
 | j + 1 => by
  have ih := ALp_len x a d j
  simp only [ALp]
  split
  · simp; omega
  · omega
theorem ALp_mem (x : To) (a d : Nat) : ∀ j, ∀ l ∈ ALp x a d j, ∃ i, i < j ∧ l = ((d : Int) + ((twO x a).s1 + i) - 1).toNat ∧ aloB x a d ((d : Int) + ((twO x a).s1 + i) - 1) = true
 | 0, _, h => by cases h
 | j + 1, l, h => by
  simp only [ALp] at h
  split at h
  · rename_i hb
    rcases List.mem_append.1 h with h | h
    · obtain ⟨i, h1, h2⟩ := ALp_mem x a d j l h
      exact ⟨i, by omega, h2⟩
    · rw [List.mem_singleton] at h
      exact ⟨j, by omega, h, hb⟩
  · obtain ⟨i, h1, h2⟩ := ALp_mem x a d j l h
    exact ⟨i, by omega, h2⟩
theorem fstT_zero : ∀ {L : List Bool} {n : Nat}, fstT L n = 0 → ∀ b ∈ L, b = false
 | b :: r, n, h, c, hc => by
  rw [fstT] at h
  split at h
  · omega
  · rename_i hb
    rcases List.mem_cons.1 hc with rfl | hc
    · simpa using hb
    · exact fstT_zero h c hc
theorem apB_le {days : Int} : ∀ {O : List (Int × Int)} {last : Int}, apB days last O = true → ∀ r ∈ O, r.2 ≤ days - 1
 | r :: O, last, h, q, hq => by
  simp only [apB, Bool.and_eq_true, decide_eq_true_eq] at h
  rcases List.mem_cons.1 hq with rfl | hq
  · exact h.1.2.2
  · exact apB_le h.2 q hq
theorem alo_last {x : To} (hn : ToN x) {a : Nat} (h1 : 1 ≤ a) (h2 : a < x.T.length) {d l : Int} (h : aloB x a d l = true) : l ≤ x.days - 1 := by
 unfold aloB fltO at h
 have h4 := fstT_zero (of_decide_eq_true h) (ts4 x a d l) (by simp [tsA])
 simp only [ts4, Bool.not_eq_false', licB, List.any_eq_true, inB, Bool.and_eq_true, decide_eq_true_eq] at h4
 obtain ⟨r, hr, h5⟩ := h4
 obtain ⟨t, ht⟩ : ∃ t, x.T[a]? = some t := ⟨_, List.getElem?_eq_getElem h2⟩
 have htw : twO x a = t := by simp [twO, ht]
 rw [htw] at hr
 have hb := hn.t a h1 t ht
 simp only [twB, Bool.and_eq_true] at hb
 have := apB_le hb.2.1 r hr
 omega
theorem twN_of {x : To} (hn : ToN x) {a : Nat} (h1 : 1 ≤ a) (h2 : a < x.T.length) : TwN (twO x a) := by
 obtain ⟨t, ht⟩ : ∃ t, x.T[a]? = some t := ⟨_, List.getElem?_eq_getElem h2⟩
 have htw : twO x a = t := by simp [twO, ht]
 rw [htw]
 exact TwN.of (hn.t a h1 t ht)
theorem ALO_ok {x : To} (hn : ToN x) : AlOk x (ALO x) := fun a d h1 h2 l hl => by
 have hs := (twN_of hn h1 h2).s
 unfold ALO at hl
 rw [if_neg (by omega)] at hl
 obtain ⟨i, h3, h4, h5⟩ := ALp_mem x a d _ l hl
 have h6 := alo_last hn h1 h2 h5
 omega
theorem ALO_len {x : To} (hn : ToN x) (a d : Nat) : (ALO x a d).length ≤ 10 := by
 unfold ALO
 split
 · simp
 · rename_i h1
   rcases Nat.lt_or_ge a x.T.length with h2 | h2
   · have hs := (twN_of hn (by omega) h2).s
     have := ALp_len x a d ((twO x a).s2 - (twO x a).s1 + 1).toNat
     omega
   · have htw : twO x a = ⟨[], 0, 0, 0, 0, 0, [], 0, 0⟩ := by
      have : x.T[a]? = none := List.getElem?_eq_none h2
      simp [twO, this]
     have := ALp_len x a d ((twO x a).s2 - (twO x a).s1 + 1).toNat
     rw [htw] at this ⊢
     simp only at this ⊢
     omega
end Go.Proofs.Ythfabodamhdhaaa
namespace Go.Proofs.Ythfabodamhdhaaa
open Go Tx Go.RowKit
set_option linter.unusedSimpArgs false
set_option linter.unusedVariables false
structure Rw5 where
 b : Nat
 c : Nat
 ls : List (Option Addr × Nat)
def LOk (m : Nat) (a d : Nat) (L : List Nat) (y : Option Addr × Nat) (w : World) : Prop := (y = (none, 0) ∧ L = []) ∨ ∃ b, y.1 = some ⟨b, 0, none⟩ ∧ m ≤ b ∧ w.ownsRow 0 96 3 (.slice (some ⟨b, 0, none⟩) L.length y.2) L.length (L.flatMap (slF a d))
def lsV (AL : Nat → List Nat) (days : Nat) (E : List (Option Addr × Nat)) : List Value := (E.mapIdx fun d y => Value.slice y.1 (AL d).length y.2) ++ List.replicate (days - E.length) (.slice none 0 0)
def RwOk (m : Nat) (AL : Nat → List Nat) (days a : Nat) (r : Rw5) (w : World) : Prop := m ≤ r.b ∧ r.ls.length = days ∧ w.ownsRow 0 28 1 (.slice (some ⟨r.b, 0, none⟩) days r.c) days (lsV AL days r.ls) ∧ ∀ d y, r.ls[d]? = some y → LOk m a d (AL d) y w
def rwV (days n : Nat) (D : List Rw5) : List Value := (D.map fun r => Value.slice (some ⟨r.b, 0, none⟩) days r.c) ++ List.replicate (n - D.length) (.slice none 0 0)
def TbOk (m : Nat) (x : To) (D : List Rw5) (w : World) : Prop := ∀ a r, D[a]? = some r → RwOk m (ALO x a) x.days.toNat a r w
theorem lsV_nil (AL : Nat → List Nat) (days : Nat) : lsV AL days [] = (List.replicate days [Value.slice none 0 0]).flatten := by
 simp only [lsV, List.mapIdx_nil, List.nil_append, List.length_nil, Nat.sub_zero]
 induction days with
 | zero => rfl
 | succ n ih => rw [List.replicate_succ, List.replicate_succ, List.flatten_cons, ← ih]; rfl
theorem rwV_nil (days n : Nat) : rwV days n [] = (List.replicate n [Value.slice none 0 0]).flatten := by
 simp only [rwV, List.map_nil, List.nil_append, List.length_nil, Nat.sub_zero]
 induction n with
 | zero => rfl
 | succ n ih => rw [List.replicate_succ, List.replicate_succ, List.flatten_cons, ← ih]; rfl
theorem lsV_rep {AL : Nat → List Nat} {n : Nat} (h : ∀ d, AL d = []) : lsV AL n (List.replicate n (none, 0)) = lsV AL n [] := by
 simp only [lsV, List.mapIdx_nil, List.nil_append, List.length_nil, Nat.sub_zero, List.length_replicate, Nat.sub_self, List.replicate_zero, List.append_nil]
 refine List.ext_getElem? fun i => ?_
 rw [List.getElem?_mapIdx, List.getElem?_replicate, List.getElem?_replicate]
 split <;> simp [h]
theorem TbOk.snoc {m : Nat} {x : To} {D : List Rw5} {r : Rw5} {w : World} (h : TbOk m x D w) (hr : RwOk m (ALO x D.length) x.days.toNat D.length r w) : TbOk m x (D ++ [r]) w := fun a q hq => by
 rcases Nat.lt_or_ge a D.length with hlt | hge
 · rw [List.getElem?_append_left hlt] at hq
   exact h a q hq
 · rw [List.getElem?_append_right hge] at hq
   have ha : a = D.length := by
    have := (List.getElem?_eq_some_iff.1 hq).1
    simp only [List.length_singleton] at this
    omega
   subst ha
   simp only [Nat.sub_self, List.getElem?_cons_zero, Option.some.injEq] at hq
   subst hq
   exact hr
theorem rwV_set {nd n : Nat} {D : List Rw5} (r : Rw5) (h : D.length < n) : (rwV nd n D).set D.length (.slice (some ⟨r.b, 0, none⟩) nd r.c) = rwV nd n (D ++ [r]) := by
 simp only [rwV, List.map_append, List.map_cons, List.map_nil, List.length_append, List.length_singleton]
 rw [List.set_append_right _ _ (by simp), List.length_map, Nat.sub_self, show n - D.length = (n - (D.length + 1)) + 1 from by omega, List.replicate_succ, List.set_cons_zero, List.append_assoc]
 rfl
theorem rwV_len {nd n : Nat} {D : List Rw5} (h : D.length ≤ n) : (rwV nd n D).length = n := by simp [rwV]; omega
abbrev rowX (V : List Value) (i : Nat) (s : SV) : List SV := (V.map SV.v).set i s
theorem rowX_at {V : List Value} {i : Nat} {s : SV} (h : i < V.length) : (rowX V i s)[i]? = some s := by
 rw [List.getElem?_set_self (by rw [List.length_map]; exact h)]
theorem rowX_set (V : List Value) (i : Nat) (s s' : SV) : (rowX V i s).set i s' = rowX V i s' := List.set_set ..
theorem rowX_self {V : List Value} {i : Nat} {v : Value} (h : V[i]? = some v) : rowX V i (.v v) = V.map SV.v := by
 refine List.ext_getElem? fun j => ?_
 rw [List.getElem?_set]
 split
 · rename_i e
   subst e
   rw [List.getElem?_map, h, List.length_map, if_pos (List.getElem?_eq_some_iff.1 h).1]; rfl
 · rfl
theorem rens_map (ρ : Nat → Nat) : ∀ V : List Value, SV.rens ρ (V.map SV.v) = V.map SV.v
 | [] => rfl
 | v :: V => by simp only [List.map_cons, SV.rens, SV.ren, rens_map ρ V]
theorem rens_set (ρ : Nat → Nat) (s : SV) : ∀ (l : List SV) (i : Nat), SV.rens ρ (l.set i s) = (SV.rens ρ l).set i (s.ren ρ)
 | [], _ => rfl
 | a :: l, 0 => rfl
 | a :: l, i + 1 => by simp only [List.set_cons_succ, SV.rens, rens_set ρ s l i]
theorem rens_rowX (ρ : Nat → Nat) (V : List Value) (i : Nat) (s : SV) : SV.rens ρ (rowX V i s) = rowX V i (s.ren ρ) := by rw [rens_set, rens_map]
theorem ren6 {nd i : Nat} {V : List Value} (a : Nat) (L : List Nat) : Blk.ren (rho [(12, 17), (13, 18)]) (.mix 7 nd 1 [] (rowX V i (oSV 12 13 (a :: L))) 28) = .mix 7 nd 1 [] (rowX V i (.os 17 18 (L.length + 1))) 28 := by
 simp only [Blk.ren, rens_rowX]; rfl
theorem ren1 {nd n i : Nat} {V : List Value} : Blk.ren (rho [(12, 17), (13, 18)]) (.mix 2 n 1 [] (rowX V i (.os 6 7 nd)) 168) = .mix 2 n 1 [] (rowX V i (.os 6 7 nd)) 168 := by
 simp only [Blk.ren, rens_rowX]; rfl
theorem ltsX {n : Nat} {V : List Value} {i : Nat} {s : SV} (h : SV.lt n s = true) : SV.lts n (rowX V i s) = true := lts_set h (lts_v _ _)
theorem lsV_len {AL : Nat → List Nat} {days : Nat} {E : List (Option Addr × Nat)} (h : E.length ≤ days) : (lsV AL days E).length = days := by simp [lsV]; omega
theorem lsV_at {AL : Nat → List Nat} {days : Nat} {E : List (Option Addr × Nat)} (h : E.length < days) : (lsV AL days E)[E.length]? = some (.slice none 0 0) := by
 simp only [lsV]
 rw [List.getElem?_append_right (by simp), List.length_mapIdx, Nat.sub_self, List.getElem?_replicate, if_pos (by omega)]
theorem lsV_set {AL : Nat → List Nat} {days : Nat} {E : List (Option Addr × Nat)} (y : Option Addr × Nat) (h : E.length < days) : (lsV AL days E).set E.length (.slice y.1 (AL E.length).length y.2) = lsV AL days (E ++ [y]) := by
 simp only [lsV, List.length_append, List.length_singleton]
 rw [List.set_append_right _ _ (by simp), List.length_mapIdx, Nat.sub_self, show days - E.length = (days - (E.length + 1)) + 1 from by omega, List.replicate_succ, List.set_cons_zero, List.mapIdx_append]
 simp
theorem ls_conv {AL : Nat → List Nat} {nd : Nat} {E : List (Option Addr × Nat)} {s : SV} {y : Option Addr × Nat} {β : Nat → Nat} {w : World} {b : Nat} (hl : E.length < nd) (hs : s.c β = .slice y.1 (AL E.length).length y.2) (h : (Blk.mix 7 nd 1 [] (rowX (lsV AL nd E) E.length s) 28).ok β w b) :
 (Blk.mix 7 nd 1 [] ((lsV AL nd (E ++ [y])).map SV.v) 28).ok (fun i => β (id i)) w b := by
 simp only [Blk.ok, cs_v, cs_set] at h ⊢
 rw [← lsV_set y hl, ← hs]
 exact h
theorem ls_snoc {m a : Nat} {AL : Nat → List Nat} {E : List (Option Addr × Nat)} {y : Option Addr × Nat} {w : World} (h : ∀ d z, E[d]? = some z → LOk m a d (AL d) z w) (hy : LOk m a E.length (AL E.length) y w) : ∀ d z, (E ++ [y])[d]? = some z → LOk m a d (AL d) z w := fun d z hz => by
 rcases Nat.lt_or_ge d E.length with hlt | hge
 · rw [List.getElem?_append_left hlt] at hz
   exact h d z hz
 · rw [List.getElem?_append_right hge] at hz
   have hd : d = E.length := by
    have := (List.getElem?_eq_some_iff.1 hz).1
    simp only [List.length_singleton] at this
    omega
   subst hd
   simp only [Nat.sub_self, List.getElem?_cons_zero, Option.some.injEq] at hz
   subst hz
   exact hy
theorem tb_conv {nd n : Nat} {D : List Rw5} {r : Rw5} {β : Nat → Nat} {w : World} {y : Nat} (hl : D.length < n) (hb : r.b = β 6) (hc : r.c = β 7) (h : (Blk.mix 2 n 1 [] (((rwV nd n D).map SV.v).set ((D.length : Int).toNat * ti168.size) (.os 6 7 nd)) 168).ok β w y) :
 (Blk.mix 2 n 1 [] ((rwV nd n (D ++ [r])).map SV.v) 168).ok (fun i => β (id i)) w y := by
 have e : (D.length : Int).toNat * ti168.size = D.length := by rw [Int.toNat_natCast]; exact Nat.mul_one _
 rw [e] at h
 simp only [Blk.ok, cs_v, cs_set] at h ⊢
 rw [← rwV_set r hl, hb, hc]
 exact h
theorem own_heap {w : World} {b n c sz ty : Nat} {xs : List Value} (h : w.ownsRow 0 ty sz (.slice (some ⟨b, 0, none⟩) n c) n xs) : ∃ cur, w.heap[b]? = some (.cells cur ty (0, 0)) := by
 rcases h.2 with ⟨h', _⟩ | ⟨g, cap, cur, q0, q1, q2, _⟩
 · cases h'
 · simp only [Value.slice.injEq, Option.some.injEq, Addr.mk.injEq, and_true, true_and] at q0
   obtain ⟨rfl, rfl⟩ := q0
   exact ⟨cur, q2⟩
theorem own_keep {w w2 : World} {b n c sz ty : Nat} {xs : List Value} (h : w.ownsRow 0 ty sz (.slice (some ⟨b, 0, none⟩) n c) n xs) (e : w2.heap[b]? = w.heap[b]?) : w2.ownsRow 0 ty sz (.slice (some ⟨b, 0, none⟩) n c) n xs := by
 have := Blk.keep_at (β := fun _ => c) (b := b) (k := .own 0 n sz xs ty) e h
 exact this
theorem TbOk.keep {m : Nat} {x : To} {D : List Rw5} {w w2 : World} (h : TbOk m x D w) (hs : ∀ c cur ty, m ≤ c → w.heap[c]? = some (.cells cur ty (0, 0)) → ty = 28 ∨ ty = 96 → w2.heap[c]? = w.heap[c]?) : TbOk m x D w2 := fun a r hr => by
 obtain ⟨h1, h2, h3, h4⟩ := h a r hr
 refine ⟨h1, h2, ?_, fun d y hy => ?_⟩
 · obtain ⟨cur, hc⟩ := own_heap h3
   exact own_keep h3 (hs _ cur 28 h1 hc (.inl rfl))
 · rcases h4 d y hy with h5 | ⟨b, h5, h6, h7⟩
   · exact .inl h5
   · obtain ⟨cur, hc⟩ := own_heap h7
     exact .inr ⟨b, h5, h6, own_keep h7 (hs _ cur 96 h6 hc (.inr rfl))⟩
def alp (b : Nat) (D : List Rw5) : Alp where
 aa := ⟨b, 0, none⟩
 ra a := match D[a]? with | some r => (⟨r.b, 0, none⟩, r.c) | none => (⟨0, 0, none⟩, 0)
 so a d := match D[a]? with | some r => (r.ls[d]?).getD (none, 0) | none => (none, 0)
theorem al_in {x : To} {m b c : Nat} {D : List Rw5} {w : World} (hD : D.length = x.T.length) (hT : w.ownsRow 0 168 1 (.slice (some ⟨b, 0, none⟩) x.T.length c) x.T.length (rwV x.days.toNat x.T.length D)) (hTb : TbOk m x D w) : AlIn x (ALO x) (alp b D) w := fun a h1 h2 => by
 obtain ⟨r, hr⟩ : ∃ r, D[a]? = some r := ⟨_, List.getElem?_eq_getElem (by omega)⟩
 obtain ⟨q1, q2, q3, q4⟩ := hTb a r hr
 have e1 : (alp b D).ra a = (⟨r.b, 0, none⟩, r.c) := by simp only [alp, hr]
 have e2 : ∀ d, (alp b D).so a d = (r.ls[d]?).getD (none, 0) := fun d => by simp only [alp, hr]
 rw [e1]
 refine ⟨?_, fun d hd => ?_⟩
 · have hv : (rwV x.days.toNat x.T.length D)[a]? = some (.slice (some ⟨r.b, 0, none⟩) x.days.toNat r.c) := by
    simp only [rwV]
    rw [List.getElem?_append_left (by rw [List.length_map]; omega), List.getElem?_map, hr]; rfl
   have := hT.cells (g := b) rfl _ _ hv
   rw [own_add, Nat.zero_add] at this
   show w.cell? ((⟨b, 0, none⟩ : Addr).add (a * 1)) = _
   rw [own_add, Nat.zero_add, Nat.mul_one]
   exact this
 · obtain ⟨y, hy⟩ : ∃ y, r.ls[d]? = some y := ⟨_, List.getElem?_eq_getElem (by omega)⟩
   rw [e2, hy, Option.getD_some]
   refine ⟨?_, ?_⟩
   · have hv : (lsV (ALO x a) x.days.toNat r.ls)[d]? = some (.slice y.1 (ALO x a d).length y.2) := by
      simp only [lsV]
      rw [List.getElem?_append_left (by rw [List.length_mapIdx]; omega), List.getElem?_mapIdx, hy]; rfl
     have := q3.cells (g := r.b) rfl _ _ hv
     rw [own_add, Nat.zero_add] at this
     show w.cell? ((⟨r.b, 0, none⟩ : Addr).add (d * 1)) = _
     rw [own_add, Nat.zero_add, Nat.mul_one]
     exact this
   · rcases q4 d y hy with ⟨rfl, h5⟩ | ⟨g, h5, h6, h7⟩
     · rw [h5]; exact .inl ⟨rfl, rfl⟩
     · rw [h5]
       exact Rd.of_owns (sz := 3) (f := slF a d) (fun _ => rfl) rfl rfl h7
set_option maxHeartbeats 4000000 in
set_option maxRecDepth 100000 in
theorem plan_ok (x : Tr) (w : World) (h : TrIn x w) (hn : ToN x.d) : Calls Try.prog 57 #[x.v] w fun e w' => ∃ (aa : Alp) (an ac b1 b2 : Nat) (β : Nat → Nat), e = .returned (.pointer (some ⟨β 2, 0, none⟩)) ∧ an = x.T.length ∧ Below w.heap.size w w' ∧ PS x (ALO x.d) aa an ac b1 b2 β w' ∧ (∀ i, i < 6 → w.heap.size ≤ β i) ∧
 ∀ w2, w'.heap.size ≤ w2.heap.size → (∀ c, w.heap.size ≤ c → c < w'.heap.size → (∀ i, i < 6 → β i ≠ c) → w2.heap[c]? = w'.heap[c]?) → AlIn x.d (ALO x.d) aa w2 := by
 have hday := hn.d
 have hnT := hn.n
 have hnd : ∃ nd : Nat, x.days = nd := ⟨x.days.toNat, by simp only [Tr.d] at hday; omega⟩
 obtain ⟨days, shift, size, to, tc, T, lo, lc, L⟩ := x
 obtain ⟨nd, hnd⟩ := hnd
 dsimp only at hnd
 subst hnd
 simp only [Tr.d, List.length_map] at hday hnT
 obtain ⟨_, ta, rfl, _⟩ := h.t.ptr (by show 1 ≤ T.length; omega)
 refine calls_fam3 env mixed Try.func57 has57 Try.ntmps57 [.agg #[iv nd, iv shift, iv size, .slice (some ta) T.length tc, .slice lo L.length lc]] (by simp) ?_
 repeat'
  conv => whnf
  first
   | refine zA ?_ | refine zB ?_ | refine zC ?_ | refine zD ?_ | refine zE ?_ | refine zF ?_ | refine zG ?_ | refine zH ?_ | refine zJ ?_ | refine zI ?_ | refine splT ?_ | refine splF ?_ | refine splNot ?_
   | ((first | refine splIn ?_ ?_ | refine splD ?_ ?_ | refine splE ?_ ?_ | refine splNE ?_ ?_) <;> intro hc <;> first | (exfalso; omega) | (exfalso; dsimp only at hc; omega) | skip)
   | refine mkO env 1 T.length (rwV nd T.length []) rfl rfl rfl (by decide) rfl (by omega) (by decide) (rwV_nil _ _) rfl ?_
 refine loopD 5 (fun D : List Rw5 => [(1, .ptr 0 0), (3, .ptr 4 0), (17, .v (iv T.length)), (18, .v (iv D.length))]) (fun D => [(0, .cells [.v (iv nd), .v (iv shift), .v (iv size), .v (.slice (some ta) T.length tc), .v (.slice lo L.length lc)] 35), (1, .mix 2 T.length 1 [] ((rwV nd T.length D).map SV.v) 168), (3, .cells [.v (iv nd), .v (iv shift), .v (iv size), .v (.slice (some ta) T.length tc), .v (.slice lo L.length lc), .os 1 2 T.length, .v Value.nilFunc, .v Value.nilFunc] 122), (4, .cells [.ptr 3 0] 114)])
  (fun D w' => Below w.heap.size w w' ∧ TbOk w.heap.size (Tr.d ⟨(nd : Int), shift, size, some ta, tc, T, lo, lc, L⟩) D w') (fun D => D.length ≤ T.length) (fun D => T.length - D.length)
  (Dis.mk3 (w0 := w) id [] rfl (fun i hi => by cases hi) (fun w' h => h) (fun β w1 hok hw1 hge => ⟨[], Nat.zero_le _, ⟨⟨_, rfl, rfl⟩, ⟨_, rfl, rfl⟩, ⟨_, rfl, rfl⟩, ⟨_, rfl, rfl⟩, trivial⟩, ⟨⟨rfl, _, rfl, fun _ => rfl, fun w2 y hy => hy⟩, ⟨rfl, _, rfl, fun _ => rfl, fun w2 y hy => by simp only [Blk.ok, cs_v] at hy ⊢; exact hy⟩, ⟨rfl, _, rfl, fun _ => rfl, fun w2 y hy => hy⟩, ⟨rfl, _, rfl, fun _ => rfl, fun w2 y hy => hy⟩, trivial⟩, rfl, fun w2 hw2 _ => ⟨hw2, fun a r hr => by cases hr⟩⟩))
  (fun D hD => ⟨rfl, by simp only [mB, Blk.lt, lts_v]; rfl⟩) ?_
 intro D hD
 rcases Nat.lt_or_ge D.length T.length with hkl | hkl
 · have hVl := rwV_len (nd := nd) (n := T.length) hD
   repeat'
    conv => whnf
    first
     | refine zA ?_ | refine zB ?_ | refine zC ?_ | refine zD ?_ | refine zE ?_ | refine zF ?_ | refine zG ?_ | refine zH ?_ | refine zJ ?_ | refine zI ?_ | refine splT ?_ | refine splF ?_ | refine splNot ?_
     | ((first | refine splIn ?_ ?_ | refine splD ?_ ?_ | refine splE ?_ ?_ | refine splNE ?_ ?_) <;> intro hc <;> first | (exfalso; omega) | (exfalso; dsimp only at hc; omega) | skip)
     | refine nilE rfl rfl ?_
     | refine mkO env 6 nd (lsV (ALO (Tr.d ⟨(nd : Int), shift, size, some ta, tc, T, lo, lc, L⟩) D.length) nd []) rfl rfl rfl (by decide) rfl (by omega) (by decide) (lsV_nil _ _) rfl ?_
     | refine Tx.stM env (.os 6 7 nd) rfl rfl rfl rfl rfl rfl rfl (by rw [List.length_map, hVl, Int.toNat_natCast]; show D.length * 1 < _; omega) rfl rfl (lts_v _ _) rfl ?_
     | ((with_reducible show CallEv _ _ 83 _ _ _ _ _); refine callR [8, 9, 10] [] (stB ⟨(nd : Int), shift, size, some ta, tc, T, lo, lc, L⟩ D.length 0 8) (.fn (.func 114) [.ptr 8 0, .ptr 9 0, .ptr 10 0]) rfl (fun i b hm => by simp only [stB, List.mem_cons, Prod.mk.injEq, List.not_mem_nil, or_false] at hm ⊢; omega) (fun β w' _ hbw => stops_R ⟨(nd : Int), shift, size, some ta, tc, T, lo, lc, L⟩ D.length 0 8 β w') ?_)
   · have hD0 : D.length = 0 := by omega
     refine Dis.mk3 (w0 := w) id [6] rfl (fun i hi => by rw [List.mem_singleton] at hi; subst hi; exact ⟨_, rfl, rfl⟩) (fun w' h => h.1) (fun β w1 hok hw1 hge => ⟨D ++ [⟨β 6, β 7, List.replicate nd (none, 0)⟩], ⟨by simp; omega, by simp; omega⟩, ⟨⟨_, rfl, rfl⟩, ⟨_, rfl, rfl⟩, ⟨_, rfl, rfl⟩, ⟨_, rfl, by rw [List.length_append, Int.natCast_add]; rfl⟩, trivial⟩, ⟨⟨rfl, _, rfl, fun _ => rfl, fun w2 y hy => hy⟩, ⟨rfl, _, rfl, fun _ => rfl, fun w2 y hy => tb_conv hkl rfl rfl hy⟩, ⟨rfl, _, rfl, fun _ => rfl, fun w2 y hy => hy⟩, ⟨rfl, _, rfl, fun _ => rfl, fun w2 y hy => hy⟩, trivial⟩, rfl, fun w2 hw2 hLo => ⟨hw2.1, hw2.2.snoc ⟨hge 6 _ rfl rfl, List.length_replicate .., ?_, fun d y hy => ?_⟩⟩⟩)
     · have hAL : ∀ d, ALO (Tr.d ⟨(nd : Int), shift, size, some ta, tc, T, lo, lc, L⟩) D.length d = [] := fun d => by unfold ALO; rw [if_pos hD0]
       show World.ownsRow _ 0 28 1 _ nd (lsV (ALO (Tr.d ⟨(nd : Int), shift, size, some ta, tc, T, lo, lc, L⟩) D.length) nd (List.replicate nd (none, 0)))
       rw [lsV_rep hAL]
       exact hLo 6 (by simp) _ rfl
     · have hAL : ∀ d, ALO (Tr.d ⟨(nd : Int), shift, size, some ta, tc, T, lo, lc, L⟩) D.length d = [] := fun d => by unfold ALO; rw [if_pos hD0]
       rw [List.getElem?_replicate] at hy
       split at hy
       · simp only [Option.some.injEq] at hy
         exact .inl ⟨hy.symm, hAL d⟩
       · cases hy
   · have hDn : 1 ≤ D.length := by omega
     have htn := twN_of hn hDn (by simp only [Tr.d, List.length_map]; exact hkl)
     obtain ⟨t, ht⟩ : ∃ t, T[D.length]? = some t := ⟨_, List.getElem?_eq_getElem hkl⟩
     have htw : twO (Tr.d ⟨(nd : Int), shift, size, some ta, tc, T, lo, lc, L⟩) D.length = t.d := twO_eq (x := ⟨(nd : Int), shift, size, some ta, tc, T, lo, lc, L⟩) (k := D.length) ht
     have hT := h.t
     dsimp only at hT
     have hAL0 : ∀ f, ALO (Tr.d ⟨(nd : Int), shift, size, some ta, tc, T, lo, lc, L⟩) D.length f = ALp (Tr.d ⟨(nd : Int), shift, size, some ta, tc, T, lo, lc, L⟩) D.length f ((twO (Tr.d ⟨(nd : Int), shift, size, some ta, tc, T, lo, lc, L⟩) D.length).s2 - (twO (Tr.d ⟨(nd : Int), shift, size, some ta, tc, T, lo, lc, L⟩) D.length).s1 + 1).toNat := fun f => by unfold ALO; rw [if_neg (by omega)]
     have hALs : ∀ f j, ALp (Tr.d ⟨(nd : Int), shift, size, some ta, tc, T, lo, lc, L⟩) D.length f (j + 1) = if aloB (Tr.d ⟨(nd : Int), shift, size, some ta, tc, T, lo, lc, L⟩) D.length f ((f : Int) + ((twO (Tr.d ⟨(nd : Int), shift, size, some ta, tc, T, lo, lc, L⟩) D.length).s1 + j) - 1) = true then ALp (Tr.d ⟨(nd : Int), shift, size, some ta, tc, T, lo, lc, L⟩) D.length f j ++ [((f : Int) + ((twO (Tr.d ⟨(nd : Int), shift, size, some ta, tc, T, lo, lc, L⟩) D.length).s1 + j) - 1).toNat] else ALp (Tr.d ⟨(nd : Int), shift, size, some ta, tc, T, lo, lc, L⟩) D.length f j := fun f j => rfl
     rw [htw] at hAL0 hALs htn
     obtain ⟨oo, oc, ro, rc, O, s1, s2, pay, lot, rent, R, cold, cut⟩ := t
     have hs := htn.s
     dsimp only at hs hAL0 hALs
     have e3 := fun (w' : World) (hw' : Below w.heap.size w w') => rd_flds (hT.below (w' := w') hw') ht (D.length : Int) rfl 1 [iv s1, iv s2] (fun j v hj => by
      match j, hj with
      | 0, hj => exact hj
      | 1, hj => exact hj)
     have hsT : (rowX (rwV nd T.length D) ((D.length : Int).toNat * ti168.size) (.os 6 7 nd))[(D.length : Int).toNat * ti168.size]? = some (.os 6 7 nd) := rowX_at (by rw [hVl, Int.toNat_natCast]; show D.length * 1 < _; omega)
     conv => whnf
     refine rf_inline env mixed 1000 [1, 3, 4, 17, 18] Try.func114 has114 Try.ntmps114 rfl rfl (by decide) rfl rfl ?_
     intro lp asg bdy hasg hbdy
     repeat'
      conv => whnf
      first
       | refine zA ?_ | refine zB ?_ | refine zC ?_ | refine zD ?_ | refine zE ?_ | refine zF ?_ | refine zG ?_ | refine zH ?_ | refine zJ ?_ | refine zI ?_ | refine splT ?_ | refine splF ?_ | refine splNot ?_
       | ((first | refine splIn ?_ ?_ | refine splD ?_ ?_ | refine splE ?_ ?_ | refine splNE ?_ ?_) <;> intro hc <;> first | (exfalso; omega) | (exfalso; dsimp only at hc; omega) | skip)
       | refine Exists.intro (α := List Value) [iv s1, iv s2] ⟨⟨rfl, fun w' hw' => e3 w' hw'.1⟩, ?_⟩
     all_goals first | (exfalso; omega) | skip
     refine loopD 12 (fun E : List (Option Addr × Nat) => [(0, .v (.func (.yield lp) #[] #[])), (1, .ptr 8 0), (2, .ptr 9 0), (5, .ptr 11 0), (6, .v (iv E.length))]) (fun E => [(0, .cells [.v (iv nd), .v (iv shift), .v (iv size), .v (.slice (some ta) T.length tc), .v (.slice lo L.length lc)] 35), (1, .mix 2 T.length 1 [] (rowX (rwV nd T.length D) ((D.length : Int).toNat * ti168.size) (.os 6 7 nd)) 168), (3, .cells [.v (iv nd), .v (iv shift), .v (iv size), .v (.slice (some ta) T.length tc), .v (.slice lo L.length lc), .os 1 2 T.length, .v Value.nilFunc, .v Value.nilFunc] 122), (4, .cells [.ptr 3 0] 114), (5, .cells [.v (iv D.length)] 3), (6, .mix 7 nd 1 [] ((lsV (ALO (Tr.d ⟨(nd : Int), shift, size, some ta, tc, T, lo, lc, L⟩) D.length) nd E).map SV.v) 28), (8, .cells [.v (iv nd), .v (iv shift), .v (iv size), .v (.slice (some ta) T.length tc), .v (.slice lo L.length lc)] 35), (9, .cells [.v (iv D.length)] 3), (10, .cells [.v (iv 0)] 3), (11, .cells [.v (iv s1), .v (iv s2)] 55)])
      (fun E w' => (Below w.heap.size w w' ∧ TbOk w.heap.size (Tr.d ⟨(nd : Int), shift, size, some ta, tc, T, lo, lc, L⟩) D w') ∧ ∀ d y, E[d]? = some y → LOk w.heap.size D.length d ((ALO (Tr.d ⟨(nd : Int), shift, size, some ta, tc, T, lo, lc, L⟩) D.length) d) y w') (fun E => E.length ≤ nd) (fun E => nd - E.length)
      (Dis.mk4 (w0 := w) id [] ⟨fun β => rfl, fun β => rfl, fun β => rfl, fun β => rfl, fun β => rfl, trivial⟩ (fun i hi => by cases hi) (fun w' h => h.1) (fun β w1 hok hw1 hge => ⟨[], Nat.zero_le _, ⟨⟨_, rfl, rfl⟩, ⟨_, rfl, rfl⟩, ⟨_, rfl, rfl⟩, ⟨_, rfl, rfl⟩, ⟨_, rfl, rfl⟩, trivial⟩,
       ⟨⟨rfl, _, rfl, fun _ => rfl, fun w2 y hy => hy⟩, ⟨rfl, _, rfl, fun _ => rfl, fun w2 y hy => hy⟩, ⟨rfl, _, rfl, fun _ => rfl, fun w2 y hy => hy⟩, ⟨rfl, _, rfl, fun _ => rfl, fun w2 y hy => hy⟩, ⟨rfl, _, rfl, fun _ => rfl, fun w2 y hy => hy⟩, ⟨rfl, _, rfl, fun _ => rfl, fun w2 y hy => by simp only [Blk.ok, cs_v] at hy ⊢; exact hy⟩, ⟨rfl, _, rfl, fun _ => rfl, fun w2 y hy => hy⟩, ⟨rfl, _, rfl, fun _ => rfl, fun w2 y hy => hy⟩, ⟨rfl, _, rfl, fun _ => rfl, fun w2 y hy => hy⟩, ⟨rfl, _, rfl, fun _ => rfl, fun w2 y hy => hy⟩, trivial⟩, rfl, fun w2 hw2 _ => ⟨hw2, fun d y hd => by cases hd⟩⟩))
      (fun E _ => ⟨rfl, by simp only [mB, Blk.lt, lts_v, lts_set (s := .os 6 7 nd) (n := 12) rfl (lts_v _ _)]; rfl⟩) ?_
     intro E hE
     have e28 : (E.length : Int).toNat * ti28.size = E.length := by rw [Int.toNat_natCast]; exact Nat.mul_one _
     have hEl := lsV_len (AL := (ALO (Tr.d ⟨(nd : Int), shift, size, some ta, tc, T, lo, lc, L⟩) D.length)) hE
     rcases Nat.lt_or_ge E.length nd with hlt | hge
     · have hAE := hAL0 E.length
       have hAs := hALs E.length
       obtain ⟨N, hN⟩ : ∃ N, (s2 - s1 + 1).toNat = N := ⟨_, rfl⟩
       rw [hN] at hAE
       repeat'
        conv => whnf
        first
         | refine zA ?_ | refine zB ?_ | refine zC ?_ | refine zD ?_ | refine zE ?_ | refine zF ?_ | refine zG ?_ | refine zH ?_ | refine zJ ?_ | refine zI ?_ | refine splT ?_ | refine splF ?_ | refine splNot ?_
         | ((first | refine splIn ?_ ?_ | refine splD ?_ ?_ | refine splE ?_ ?_ | refine splNE ?_ ?_) <;> intro hc <;> first | (exfalso; omega) | (exfalso; dsimp only at hc; omega) | skip)
       all_goals first | (exfalso; omega) | skip
       refine loopN 14 (fun j : Nat => [(0, .v (.func (.yield lp) #[] #[])), (1, .ptr 8 0), (2, .ptr 9 0), (5, .ptr 11 0), (6, .v (iv E.length)), (7, .v (iv (s1 + (j : Nat))))]) (fun j => (0, .cells [.v (iv nd), .v (iv shift), .v (iv size), .v (.slice (some ta) T.length tc), .v (.slice lo L.length lc)] 35) :: (1, .mix 2 T.length 1 [] (rowX (rwV nd T.length D) ((D.length : Int).toNat * ti168.size) (.os 6 7 nd)) 168) :: (3, .cells [.v (iv nd), .v (iv shift), .v (iv size), .v (.slice (some ta) T.length tc), .v (.slice lo L.length lc), .os 1 2 T.length, .v Value.nilFunc, .v Value.nilFunc] 122) :: (4, .cells [.ptr 3 0] 114) :: (5, .cells [.v (iv D.length)] 3) :: (6, .mix 7 nd 1 [] (rowX (lsV (ALO (Tr.d ⟨(nd : Int), shift, size, some ta, tc, T, lo, lc, L⟩) D.length) nd E) E.length (oSV 12 13 (ALp (Tr.d ⟨(nd : Int), shift, size, some ta, tc, T, lo, lc, L⟩) D.length E.length j))) 28) :: (8, .cells [.v (iv nd), .v (iv shift), .v (iv size), .v (.slice (some ta) T.length tc), .v (.slice lo L.length lc)] 35) :: (9, .cells [.v (iv D.length)] 3) :: (10, .cells [.v (iv 0)] 3) :: (11, .cells [.v (iv s1), .v (iv s2)] 55) :: oM 12 13 3 (slF D.length E.length) 96 (ALp (Tr.d ⟨(nd : Int), shift, size, some ta, tc, T, lo, lc, L⟩) D.length E.length j)) (fun j => j ≤ N) (fun j => N - j) 0 (Nat.zero_le _) ⟨rfl, rfl, rfl, rfl, rfl, by rw [Int.natCast_zero, Int.add_zero]; rfl, trivial⟩ ⟨rfl, rfl, rfl, rfl, rfl, by (show _ = some (Blk.mix 7 nd 1 [] (rowX _ _ (.v (.slice none 0 0))) 28)); rw [rowX_self (lsV_at hlt)]; rfl, rfl, rfl, rfl, rfl, trivial⟩
        (fun j _ => by
         cases (ALp (Tr.d ⟨(nd : Int), shift, size, some ta, tc, T, lo, lc, L⟩) D.length E.length j) with
         | nil => exact ⟨rfl, by simp only [mB, Blk.lt, ltsX (show SV.lt 14 (.os 6 7 nd) = true from rfl), ltsX (show SV.lt 14 (oSV 12 13 ([] : List Nat)) = true from rfl)]; rfl⟩
         | cons c C => exact ⟨rfl, by simp only [mB, Blk.lt, ltsX (show SV.lt 14 (.os 6 7 nd) = true from rfl), ltsX (show SV.lt 14 (oSV 12 13 (c :: C)) = true from rfl)]; rfl⟩) ?_
       intro j hj
       rcases Nat.lt_or_ge j N with hjN | hjN
       · have hCn := hAs j
         obtain ⟨lN, hlN⟩ : ∃ lN : Nat, ((E.length : Int) + (s1 + (j : Int)) - 1) = lN := ⟨(((E.length : Int) + (s1 + (j : Int)) - 1)).toNat, by omega⟩
         have h115 := fun w' hb => alone_ok ⟨(nd : Int), shift, size, some ta, tc, T, lo, lc, L⟩ D.length E.length ((E.length : Int) + (s1 + (j : Int)) - 1) w' (h.below hb) hn ⟨by omega, by omega⟩
         have hba : decide (fltO (Tr.d ⟨(nd : Int), shift, size, some ta, tc, T, lo, lc, L⟩) [((D.length : Int), (E.length : Int), ((E.length : Int) + (s1 + (j : Int)) - 1))] 0 D.length E.length ((E.length : Int) + (s1 + (j : Int)) - 1) 4 = 0) = aloB (Tr.d ⟨(nd : Int), shift, size, some ta, tc, T, lo, lc, L⟩) D.length E.length ((E.length : Int) + (s1 + (j : Int)) - 1) := rfl
         obtain ⟨b, hb⟩ : ∃ b, aloB (Tr.d ⟨(nd : Int), shift, size, some ta, tc, T, lo, lc, L⟩) D.length E.length ((E.length : Int) + (s1 + (j : Int)) - 1) = b := ⟨_, rfl⟩
         rw [hb] at hCn hba
         simp only [hba] at h115
         have hsj : s1 + ((j + 1 : Nat) : Int) = s1 + (j : Int) + 1 := by omega
         have hCl := ALp_len (Tr.d ⟨(nd : Int), shift, size, some ta, tc, T, lo, lc, L⟩) D.length E.length j
         generalize (ALp (Tr.d ⟨(nd : Int), shift, size, some ta, tc, T, lo, lc, L⟩) D.length E.length j) = C at *
         cases b with
         | false =>
          rw [if_neg (by decide)] at hCn
          cases C with
          | nil =>
           repeat'
            conv => whnf
            first
             | refine zA ?_ | refine zB ?_ | refine zC ?_ | refine zD ?_ | refine zE ?_ | refine zF ?_ | refine zG ?_ | refine zH ?_ | refine zJ ?_ | refine zI ?_ | refine splT ?_ | refine splF ?_ | refine splNot ?_
             | ((first | refine splIn ?_ ?_ | refine splD ?_ ?_ | refine splE ?_ ?_ | refine splNE ?_ ?_) <;> intro hc <;> first | (exfalso; omega) | (exfalso; dsimp only at hc; omega) | skip)
             | ((with_reducible show CallEv _ _ 115 _ _ _ _ _); refine callE (k := 115) (fun β w' hbw => h115 w' hbw.1.1) ?_)
           all_goals first | (exfalso; omega) | exact ⟨j + 1, by omega, by omega, Ent.weak rfl ⟨rfl, rfl, rfl, rfl, rfl, by rw [hsj]; rfl, trivial⟩ (by rw [hCn]; exact ⟨rfl, rfl, rfl, rfl, rfl, rfl, rfl, rfl, rfl, rfl, trivial⟩) fun _ h => h⟩
          | cons c C =>
           repeat'
            conv => whnf
            first
             | refine zA ?_ | refine zB ?_ | refine zC ?_ | refine zD ?_ | refine zE ?_ | refine zF ?_ | refine zG ?_ | refine zH ?_ | refine zJ ?_ | refine zI ?_ | refine splT ?_ | refine splF ?_ | refine splNot ?_
             | ((first | refine splIn ?_ ?_ | refine splD ?_ ?_ | refine splE ?_ ?_ | refine splNE ?_ ?_) <;> intro hc <;> first | (exfalso; omega) | (exfalso; dsimp only at hc; omega) | skip)
             | ((with_reducible show CallEv _ _ 115 _ _ _ _ _); refine callE (k := 115) (fun β w' hbw => h115 w' hbw.1.1) ?_)
           all_goals first | (exfalso; omega) | exact ⟨j + 1, by omega, by omega, Ent.weak rfl ⟨rfl, rfl, rfl, rfl, rfl, by rw [hsj]; rfl, trivial⟩ (by rw [hCn]; exact ⟨rfl, rfl, rfl, rfl, rfl, rfl, rfl, rfl, rfl, rfl, rfl, trivial⟩) fun _ h => h⟩
         | true =>
          rw [if_pos rfl] at hCn
          cases C with
          | nil =>
           have hlt0 : (((E.length : Int) + (s1 + (j : Int)) - 1)).toNat = lN := by omega
           rw [hlt0] at hCn
           repeat'
            conv => whnf
            first
             | refine zA ?_ | refine zB ?_ | refine zC ?_ | refine zD ?_ | refine zE ?_ | refine zF ?_ | refine zG ?_ | refine zH ?_ | refine zJ ?_ | refine zI ?_ | refine splT ?_ | refine splF ?_ | refine splNot ?_
             | ((first | refine splIn ?_ ?_ | refine splD ?_ ?_ | refine splE ?_ ?_ | refine splNE ?_ ?_) <;> intro hc <;> first | (exfalso; omega) | (exfalso; dsimp only at hc; omega) | skip)
             | ((with_reducible show CallEv _ _ 115 _ _ _ _ _); refine callE (k := 115) (fun β w' hbw => h115 w' hbw.1.1) ?_)
             | refine And.intro (a := (_ : List _) = [] ∧ (_ : List _) = []) ⟨rfl, rfl⟩ ?_
             | refine yield_inline env mixed 0 2000 [3, 4] [0, 1, 2, 5, 6, 7, 41] rfl rfl rfl rfl rfl rfl rfl ?_
             | refine vc_eq env hasg ?_
             | refine vc_eq env hbdy ?_
             | refine nilE rfl rfl ?_
             | refine Tx.ldM env (.os 6 7 nd) rfl rfl rfl rfl rfl hsT rfl ?_
             | refine Tx.ldM env (.v (.slice none 0 0)) rfl rfl rfl rfl rfl (by rw [e28]; exact rowX_at (by rw [hEl]; omega)) rfl ?_
             | refine Tx.stM env (.os 17 18 (0 + 1)) rfl rfl rfl rfl rfl rfl rfl (by rw [e28, List.length_set, List.length_map, hEl]; omega) rfl rfl (ltsX rfl) rfl ?_
           all_goals first | (exfalso; omega) | exact ⟨j + 1, by omega, by omega, Ent.ren (rho [(12, 17), (13, 18)]) rfl (by rw [hCn]; rfl) ⟨rfl, rfl, rfl, rfl, rfl, by rw [hsj]; rfl, trivial⟩ (by
            rw [hCn]
            exact ⟨rfl, by rw [ren1]; rfl, rfl, rfl, rfl, by (
             show _ = some (Blk.ren _ (Blk.mix 7 nd 1 [] (rowX (lsV (ALO (Tr.d ⟨(nd : Int), shift, size, some ta, tc, T, lo, lc, L⟩) D.length) nd E) E.length (oSV 12 13 [lN])) 28))
             rw [ren6]
             show some (Blk.mix 7 nd 1 [] ((rowX (lsV (ALO (Tr.d ⟨(nd : Int), shift, size, some ta, tc, T, lo, lc, L⟩) D.length) nd E) E.length (oSV 12 13 ([] : List Nat))).set ((E.length : Int).toNat * ti28.size) (.os 17 18 (0 + 1))) 28) = _
             rw [e28, rowX_set]; rfl), rfl, rfl, rfl, rfl, by (
             show some (Blk.own 18 (0 + 1) 3 ([] ++ [iv D.length, iv E.length, iv ((E.length : Int) + (s1 + (j : Int)) - 1)]) 96) = _
             rw [hlN]; rfl), trivial⟩) fun _ h => h⟩
          | cons c C =>
           have hlt0 : (((E.length : Int) + (s1 + (j : Int)) - 1)).toNat = lN := by omega
           rw [hlt0] at hCn
           simp only [List.length_cons] at hCl
           repeat'
            conv => whnf
            first
             | refine zA ?_ | refine zB ?_ | refine zC ?_ | refine zD ?_ | refine zE ?_ | refine zF ?_ | refine zG ?_ | refine zH ?_ | refine zJ ?_ | refine zI ?_ | refine splT ?_ | refine splF ?_ | refine splNot ?_
             | ((first | refine splIn ?_ ?_ | refine splD ?_ ?_ | refine splE ?_ ?_ | refine splNE ?_ ?_) <;> intro hc <;> first | (exfalso; omega) | (exfalso; dsimp only at hc; omega) | skip)
             | ((with_reducible show CallEv _ _ 115 _ _ _ _ _); refine callE (k := 115) (fun β w' hbw => h115 w' hbw.1.1) ?_)
             | refine And.intro (a := (_ : List _) = [] ∧ (_ : List _) = []) ⟨rfl, rfl⟩ ?_
             | refine yield_inline env mixed 0 2000 [3, 4] [0, 1, 2, 5, 6, 7, 41] rfl rfl rfl rfl rfl rfl rfl ?_
             | refine vc_eq env hasg ?_
             | refine vc_eq env hbdy ?_
             | refine nilE rfl rfl ?_
             | refine Tx.ldM env (.os 6 7 nd) rfl rfl rfl rfl rfl hsT rfl ?_
             | refine Tx.ldM env (.os 12 13 (C.length + 1)) rfl rfl rfl rfl rfl (by rw [e28]; exact rowX_at (by rw [hEl]; omega)) rfl ?_
             | refine Tx.stM env (.os 17 18 (C.length + 1 + 1)) rfl rfl rfl rfl rfl rfl rfl (by rw [e28, List.length_set, List.length_map, hEl]; omega) rfl rfl (ltsX rfl) rfl ?_
           all_goals first | (exfalso; omega) | exact ⟨j + 1, by omega, by omega, Ent.ren (rho [(12, 17), (13, 18)]) rfl (by rw [hCn]; rfl) ⟨rfl, rfl, rfl, rfl, rfl, by rw [hsj]; rfl, trivial⟩ (by
            rw [hCn]
            exact ⟨rfl, by rw [ren1]; rfl, rfl, rfl, rfl, by (
             show _ = some (Blk.ren _ (Blk.mix 7 nd 1 [] (rowX (lsV (ALO (Tr.d ⟨(nd : Int), shift, size, some ta, tc, T, lo, lc, L⟩) D.length) nd E) E.length (oSV 12 13 (c :: (C ++ [lN])))) 28))
             rw [ren6, List.length_append]
             show some (Blk.mix 7 nd 1 [] ((rowX (lsV (ALO (Tr.d ⟨(nd : Int), shift, size, some ta, tc, T, lo, lc, L⟩) D.length) nd E) E.length (oSV 12 13 (c :: C))).set ((E.length : Int).toNat * ti28.size) (.os 17 18 (C.length + 1 + 1))) 28) = _
             rw [e28, rowX_set]; rfl), rfl, rfl, rfl, rfl, by (
             show some (Blk.own 18 (C.length + 1 + 1) 3 (((c :: C).flatMap (slF D.length E.length)) ++ [iv D.length, iv E.length, iv ((E.length : Int) + (s1 + (j : Int)) - 1)]) 96) = some (Blk.own 18 ((C ++ [lN]).length + 1) 3 ((c :: C ++ [lN]).flatMap (slF D.length E.length)) 96)
             rw [hlN, List.length_append, List.flatMap_append]; rfl), trivial⟩) fun _ h => h⟩
       · obtain rfl : j = N := by omega
         rw [← hAE]
         have hmx : (fun d => (ALO (Tr.d ⟨(nd : Int), shift, size, some ta, tc, T, lo, lc, L⟩) D.length) d) = (ALO (Tr.d ⟨(nd : Int), shift, size, some ta, tc, T, lo, lc, L⟩) D.length) := rfl
         cases hC : (ALO (Tr.d ⟨(nd : Int), shift, size, some ta, tc, T, lo, lc, L⟩) D.length) E.length with
         | nil =>
          repeat'
           conv => whnf
           first
            | refine zA ?_ | refine zB ?_ | refine zC ?_ | refine zD ?_ | refine zE ?_ | refine zF ?_ | refine zG ?_ | refine zH ?_ | refine zJ ?_ | refine zI ?_ | refine splT ?_ | refine splF ?_ | refine splNot ?_
            | ((first | refine splIn ?_ ?_ | refine splD ?_ ?_ | refine splE ?_ ?_ | refine splNE ?_ ?_) <;> intro hc <;> first | (exfalso; omega) | (exfalso; dsimp only at hc; omega) | skip)
          all_goals first | (exfalso; omega) | skip
          refine Dis.mk4 (w0 := w) id [] ⟨fun β => rfl, fun β => rfl, fun β => rfl, fun β => rfl, fun β => rfl, trivial⟩ (fun i hi => by cases hi) (fun w' h => h.1.1) (fun β w1 hok hw1 hge => ⟨E ++ [(none, 0)], ⟨by simp; omega, by simp; omega⟩, ⟨⟨_, rfl, rfl⟩, ⟨_, rfl, rfl⟩, ⟨_, rfl, rfl⟩, ⟨_, rfl, rfl⟩, ⟨_, rfl, by rw [List.length_append, Int.natCast_add]; rfl⟩, trivial⟩,
           ⟨⟨rfl, _, rfl, fun _ => rfl, fun w2 y hy => hy⟩, ⟨rfl, _, rfl, fun _ => rfl, fun w2 y hy => hy⟩, ⟨rfl, _, rfl, fun _ => rfl, fun w2 y hy => hy⟩, ⟨rfl, _, rfl, fun _ => rfl, fun w2 y hy => hy⟩, ⟨rfl, _, rfl, fun _ => rfl, fun w2 y hy => hy⟩, ⟨rfl, _, rfl, fun _ => rfl, fun w2 y hy => ls_conv hlt (by rw [hC]; rfl) hy⟩, ⟨rfl, _, rfl, fun _ => rfl, fun w2 y hy => hy⟩, ⟨rfl, _, rfl, fun _ => rfl, fun w2 y hy => hy⟩, ⟨rfl, _, rfl, fun _ => rfl, fun w2 y hy => hy⟩, ⟨rfl, _, rfl, fun _ => rfl, fun w2 y hy => hy⟩, trivial⟩, rfl, fun w2 hw2 _ => ⟨hw2.1, ls_snoc hw2.2 (.inl ⟨rfl, hC⟩)⟩⟩)
         | cons c C =>
          repeat'
           conv => whnf
           first
            | refine zA ?_ | refine zB ?_ | refine zC ?_ | refine zD ?_ | refine zE ?_ | refine zF ?_ | refine zG ?_ | refine zH ?_ | refine zJ ?_ | refine zI ?_ | refine splT ?_ | refine splF ?_ | refine splNot ?_
            | ((first | refine splIn ?_ ?_ | refine splD ?_ ?_ | refine splE ?_ ?_ | refine splNE ?_ ?_) <;> intro hc <;> first | (exfalso; omega) | (exfalso; dsimp only at hc; omega) | skip)
          all_goals first | (exfalso; omega) | skip
          refine Dis.mk4 (w0 := w) id [12] ⟨fun β => rfl, fun β => rfl, fun β => rfl, fun β => rfl, fun β => rfl, trivial⟩ (fun i hi => by rw [List.mem_singleton] at hi; subst hi; exact ⟨_, rfl, rfl⟩) (fun w' h => h.1.1) (fun β w1 hok hw1 hge => ⟨E ++ [(some ⟨β 12, 0, none⟩, β 13)], ⟨by simp; omega, by simp; omega⟩, ⟨⟨_, rfl, rfl⟩, ⟨_, rfl, rfl⟩, ⟨_, rfl, rfl⟩, ⟨_, rfl, rfl⟩, ⟨_, rfl, by rw [List.length_append, Int.natCast_add]; rfl⟩, trivial⟩,
           ⟨⟨rfl, _, rfl, fun _ => rfl, fun w2 y hy => hy⟩, ⟨rfl, _, rfl, fun _ => rfl, fun w2 y hy => hy⟩, ⟨rfl, _, rfl, fun _ => rfl, fun w2 y hy => hy⟩, ⟨rfl, _, rfl, fun _ => rfl, fun w2 y hy => hy⟩, ⟨rfl, _, rfl, fun _ => rfl, fun w2 y hy => hy⟩, ⟨rfl, _, rfl, fun _ => rfl, fun w2 y hy => ls_conv hlt (by rw [hC]; rfl) hy⟩, ⟨rfl, _, rfl, fun _ => rfl, fun w2 y hy => hy⟩, ⟨rfl, _, rfl, fun _ => rfl, fun w2 y hy => hy⟩, ⟨rfl, _, rfl, fun _ => rfl, fun w2 y hy => hy⟩, ⟨rfl, _, rfl, fun _ => rfl, fun w2 y hy => hy⟩, trivial⟩, rfl, fun w2 hw2 hLo => ⟨hw2.1, ls_snoc hw2.2 (.inr ⟨β 12, rfl, hge 12 _ rfl rfl, by rw [hC]; exact hLo 12 (by simp) _ rfl⟩)⟩⟩)
     · have hEn : E.length = nd := by omega
       repeat'
        conv => whnf
        first
         | refine zA ?_ | refine zB ?_ | refine zC ?_ | refine zD ?_ | refine zE ?_ | refine zF ?_ | refine zG ?_ | refine zH ?_ | refine zJ ?_ | refine zI ?_ | refine splT ?_ | refine splF ?_ | refine splNot ?_
         | ((first | refine splIn ?_ ?_ | refine splD ?_ ?_ | refine splE ?_ ?_ | refine splNE ?_ ?_) <;> intro hc <;> first | (exfalso; omega) | (exfalso; dsimp only at hc; omega) | skip)
       all_goals first | (exfalso; omega) | skip
       refine Dis.mk3 (w0 := w) id [6] rfl (fun i hi => by rw [List.mem_singleton] at hi; subst hi; exact ⟨_, rfl, rfl⟩) (fun w' h => h.1.1) (fun β w1 hok hw1 hge => ⟨D ++ [⟨β 6, β 7, E⟩], ⟨by simp; omega, by simp; omega⟩, ⟨⟨_, rfl, rfl⟩, ⟨_, rfl, rfl⟩, ⟨_, rfl, rfl⟩, ⟨_, rfl, by rw [List.length_append, Int.natCast_add]; rfl⟩, trivial⟩, ⟨⟨rfl, _, rfl, fun _ => rfl, fun w2 y hy => hy⟩, ⟨rfl, _, rfl, fun _ => rfl, fun w2 y hy => tb_conv hkl rfl rfl hy⟩, ⟨rfl, _, rfl, fun _ => rfl, fun w2 y hy => hy⟩, ⟨rfl, _, rfl, fun _ => rfl, fun w2 y hy => hy⟩, trivial⟩, rfl, fun w2 hw2 hLo => ⟨hw2.1.1, hw2.1.2.snoc ⟨hge 6 _ rfl rfl, hEn, ?_, hw2.2⟩⟩⟩)
       have := hLo 6 (by simp) _ rfl
       simp only [Blk.ok, cs_v] at this
       exact this
 · skip
   repeat'
    conv => whnf
    first
     | refine zA ?_ | refine zB ?_ | refine zC ?_ | refine zD ?_ | refine zE ?_ | refine zF ?_ | refine zG ?_ | refine zH ?_ | refine zJ ?_ | refine zI ?_ | refine splT ?_ | refine splF ?_ | refine splNot ?_
     | ((first | refine splIn ?_ ?_ | refine splD ?_ ?_ | refine splE ?_ ?_ | refine splNE ?_ ?_) <;> intro hc <;> first | (exfalso; omega) | (exfalso; dsimp only at hc; omega) | skip)
     | ((with_reducible show OpEvS _ ⟨some 61, _, _, _, _, _⟩ _ _ _ _); refine mkMapS (k := 118) (stD (hmO (Tr.d ⟨(nd : Int), shift, size, some ta, tc, T, lo, lc, L⟩) (ALO (Tr.d ⟨(nd : Int), shift, size, some ta, tc, T, lo, lc, L⟩)))) ?_; intro b1)
     | ((with_reducible show OpEvS _ ⟨some 62, _, _, _, _, _⟩ _ _ _ _); refine mkMapS (k := 118) (stD (bgO (Tr.d ⟨(nd : Int), shift, size, some ta, tc, T, lo, lc, L⟩) (ALO (Tr.d ⟨(nd : Int), shift, size, some ta, tc, T, lo, lc, L⟩)))) ?_; intro b2)
     | refine nilE rfl rfl ?_
   all_goals first | (exfalso; omega) | skip
   have hDl : D.length = T.length := by omega
   refine ⟨fun w' h => h.1, fun β w' hB hB2 hblk hinj => ?_⟩
   let γ : Nat → Nat := fun i => match i with | 0 => β 4 | 1 => β 7 | 2 => β 3 | 3 => β 8 | 4 => β 5 | 5 => β 6 | _ => 0
   have hT1 : w'.ownsRow 0 168 1 (.slice (some ⟨β 1, 0, none⟩) T.length (β 2)) T.length (rwV nd T.length D) := by
    have := (hblk 1 _ rfl rfl).2
    simp only [Blk.ok, cs_v] at this
    exact this
   have hty : ∀ i, i < 6 → ∀ cur ty, w'.heap[γ i]? = some (.cells cur ty (0, 0)) → ty = 114 ∨ ty = 169 ∨ ty = 122 := fun i hi cur ty hc => by
    rcases (by omega : i = 0 ∨ i = 1 ∨ i = 2 ∨ i = 3 ∨ i = 4 ∨ i = 5) with rfl | rfl | rfl | rfl | rfl | rfl
    · have h1 : w'.heap[β 4]? = _ := (hblk 4 _ rfl rfl).2
      have h2 : w'.heap[β 4]? = _ := hc
      rw [h1] at h2; cases h2; exact .inl rfl
    · have h1 : w'.heap[β 7]? = _ := (hblk 7 _ rfl rfl).2
      have h2 : w'.heap[β 7]? = _ := hc
      rw [h1] at h2; cases h2; exact .inr (.inl rfl)
    · have h1 : w'.heap[β 3]? = _ := (hblk 3 _ rfl rfl).2
      have h2 : w'.heap[β 3]? = _ := hc
      rw [h1] at h2; cases h2; exact .inr (.inr rfl)
    · have h1 : w'.heap[β 8]? = _ := (hblk 8 _ rfl rfl).2
      have h2 : w'.heap[β 8]? = _ := hc
      rw [h1] at h2; cases h2; exact .inr (.inl rfl)
    · have h1 := (hblk 5 _ rfl rfl).2
      have h2 : w'.heap[β 5]? = _ := hc
      obtain ⟨h3, o, h4, h5, h6⟩ := h1
      rw [h2, Option.some.injEq] at h4
      subst h4
      exact h6.elim
    · have h1 := (hblk 6 _ rfl rfl).2
      have h2 : w'.heap[β 6]? = _ := hc
      obtain ⟨h3, o, h4, h5, h6⟩ := h1
      rw [h2, Option.some.injEq] at h4
      subst h4
      exact h6.elim
   have hij : ∀ i, i < 6 → γ i ≠ β 1 := fun i hi => by
    rcases (by omega : i = 0 ∨ i = 1 ∨ i = 2 ∨ i = 3 ∨ i = 4 ∨ i = 5) with rfl | rfl | rfl | rfl | rfl | rfl <;> exact hinj _ 1 _ _ rfl rfl rfl rfl (by decide)
   refine ⟨alp (β 1) D, T.length, β 2, b1, b2, γ, rfl, rfl, hB2, ⟨fun i b hi => ?_, fun i j hi hj hne => ?_⟩, fun i hi => ?_, fun w2 hs hk => ?_⟩
   · have hm := lk_mem hi
     simp only [MB, List.mem_cons, Prod.mk.injEq, List.not_mem_nil, or_false] at hm
     rcases hm with ⟨rfl, rfl⟩ | ⟨rfl, rfl⟩ | ⟨rfl, rfl⟩ | ⟨rfl, rfl⟩ | ⟨rfl, rfl⟩ | ⟨rfl, rfl⟩
     · exact (hblk 5 _ rfl rfl).2
     · exact (hblk 6 _ rfl rfl).2
     · exact (hblk 4 _ rfl rfl).2
     · exact (hblk 7 _ rfl rfl).2
     · exact (hblk 3 _ rfl rfl).2
     · exact (hblk 8 _ rfl rfl).2
   · rcases (by omega : i = 0 ∨ i = 1 ∨ i = 2 ∨ i = 3 ∨ i = 4 ∨ i = 5) with rfl | rfl | rfl | rfl | rfl | rfl <;> rcases (by omega : j = 0 ∨ j = 1 ∨ j = 2 ∨ j = 3 ∨ j = 4 ∨ j = 5) with rfl | rfl | rfl | rfl | rfl | rfl <;> first | exact absurd rfl hne | exact hinj _ _ _ _ rfl rfl rfl rfl (by decide)
   · rcases (by omega : i = 0 ∨ i = 1 ∨ i = 2 ∨ i = 3 ∨ i = 4 ∨ i = 5) with rfl | rfl | rfl | rfl | rfl | rfl <;> exact (hblk _ _ rfl rfl).1
   · have hx : (Tr.d ⟨(nd : Int), shift, size, some ta, tc, T, lo, lc, L⟩).T.length = T.length := List.length_map ..
     have hd' : (Tr.d ⟨(nd : Int), shift, size, some ta, tc, T, lo, lc, L⟩).days.toNat = nd := Int.toNat_natCast nd
     refine al_in (m := w.heap.size) (c := β 2) (by rw [hx]; exact hDl) ?_ (TbOk.keep hB.2 fun c cur ty h1 h2 h3 => hk c h1 (Array.getElem?_eq_some_iff.1 h2).1 fun i hi e => ?_)
     · rw [hx, hd']
       refine own_keep hT1 (hk _ (hblk 1 _ rfl rfl).1 ?_ fun i hi => hij i hi)
       obtain ⟨cur, hc⟩ := own_heap hT1
       exact (Array.getElem?_eq_some_iff.1 hc).1
     · subst e
       rcases hty i hi cur ty h2 with rfl | rfl | rfl <;> rcases h3 with h3 | h3 <;> exact absurd h3 (by decide)
end Go.Proofs.Ythfabodamhdhaaa
namespace Go.Proofs.Ythfabodamhdhaaa.Tx
open Go Go.RowKit
set_option linter.unusedSimpArgs false
set_option linter.unusedVariables false
theorem calls_WSV {P : Program} (T : Env P) (hm : P.follows .mixedOrders = true) {k : Nat} {fn : Func} {c : Code} (hfn : P.funcs[k]? = some fn) (hb : fn.body = some c) {nt : Nat} (hnt : fn.ntmps = nt) (args : List SV) (m0 m1 : List (Nat × Blk)) (nb0 : Nat) (v : Value)
 (hlen : args.length ≤ nt) (hargs : SV.lts nb0 args = true) (hm0 : mB nb0 m0 = true) (hm1 : mB nb0 m1 = true) (hlive : ∀ i b, lk m0 i = some b → b.live = true)
 {Hp : World → Prop} (hvc : ∀ h : World → Prop, (∀ w', h w' → Hp w') → VC P c ⟨nt, slotsOf 0 args, m0, nb0, h, ⟨pinG nb0, [], 0⟩⟩ (endΦ T fn fun s σ => (∀ β, s.c β = v) ∧ MSub σ.m m1 ∧ (∀ w', σ.h w' → h w') ∧ σ.z.g = pinG nb0))
 {β : Nat → Nat} {w : World} (hok : ∀ i b, lk m0 i = some b → b.ok β w (β i)) (hinj : ∀ i j bi bj, lk m0 i = some bi → lk m0 j = some bj → i ≠ j → β i ≠ β j) (hst : ∀ w', Chg (fun b => ∃ i bk, lk m0 i = some bk ∧ β i = b) w w' → Hp w') :
 Calls P k (SV.cs β args).toArray w fun e w' => e = .returned v ∧ Chg (fun b => ∃ i bk, lk m0 i = some bk ∧ β i = b) w w' ∧ ∀ i b, lk m1 i = some b → b.ok β w' (β i) := by
 have hmk := okB (nt := 0) (t := []) (m := m0) (nb := nb0) (h := fun _ => True) (z := ⟨[], [], 0⟩) rfl hm0 rfl
 have hm1k := okB (nt := 0) (t := []) (m := m1) (nb := nb0) (h := fun _ => True) (z := ⟨[], [], 0⟩) rfl hm1 rfl
 let D : Nat → Prop := fun b => b < w.heap.size ∧ ¬ ∃ i bk, lk m0 i = some bk ∧ β i = b
 let h0 : World → Prop := fun w' => Chg (fun b => ∃ i bk, lk m0 i = some bk ∧ β i = b) w w'
 let X : Cx := ⟨fun k => .pointer (some ⟨β k, 0, none⟩), [], []⟩
 have hmem : Mem ⟨nt, slotsOf 0 args, m0, nb0, h0, ⟨pinG nb0, [], 0⟩⟩ β D w :=
  ⟨hok, fun i j bi bj h1 h2 _ _ hne => hinj i j bi bj h1 h2 hne, fun i b hi _ hD => hD.2 ⟨i, b, hi, rfl⟩, fun b hD => hD.1,
   fun w' hc => ⟨hc.os, hc.tape, hc.output, hc.size, fun b hb hX => hc.same b hb (fun hD => hD ⟨hb, hX⟩)⟩⟩
 have hamb : Amb X ⟨pinG nb0, [], 0⟩ β D w :=
  ⟨fun k s hk => by rw [(pinG_all hk).2]; rfl, fun p hp => (by cases hp), fun i e hi => (by simp [lk] at hi), rfl, List.nodup_nil, fun d hd => (by cases hd)⟩
 have hg0 : ∀ k s, lk (pinG nb0) k = some s → s.lt nb0 = true := fun k s hk => by
  obtain ⟨h1, h2⟩ := pinG_all hk
  subst h2
  simp only [SV.lt, Nat.blt_eq]; exact h1
 refine (calls_VC T hm hfn hb hnt (args := args) (m0 := m0) (nb0 := nb0) (h := h0) (z0 := ⟨pinG nb0, [], 0⟩) hlen hargs hmk.wf.m hg0 (hvc h0 hst) X hamb hmem).mono fun e w' ⟨s, σ', β', D', he, ⟨h1, h2, h3, h4⟩, h5, h6, h7, h8⟩ => ?_
 have hpin : ∀ i, i < nb0 → β' i = β i := fun i hi => by
  have := h8.g i (.ptr i 0) (by rw [h4]; exact pinG_lk hi)
  simp only [X, SV.c, Value.pointer.injEq, Option.some.injEq, Addr.mk.injEq] at this
  exact this.1.symm
 refine ⟨by rw [he, h1], h3 w' (h7.h w' (Chg.refl _ _)), fun i b hi => ?_⟩
 obtain ⟨q1, q2⟩ := hm1k.wf.m i b hi
 have := h7.m i b (h2.get i b hi)
 rw [hpin i q1] at this
 exact Blk.ok_nm (fun j hj => (hpin j hj).symm) b q2 this
end Go.Proofs.Ythfabodamhdhaaa.Tx
namespace Go.Proofs.Ythfabodamhdhaaa
open Go Tx Go.RowKit
set_option linter.unusedSimpArgs false
set_option linter.unusedVariables false
def spI (x : To) (S a : Nat) (tot : Int) (t f l : Nat) : Bool := decide (gnO x t f l - csO x a t + hmO x (ALO x) (S ||| 2 ^ t) t (l + 1) = tot)
def spE (x : To) (S a d : Nat) (tot : Int) : Bool := (decide (S = 0) && decide (tot = 0)) || (decide (S ≠ 0) && (decide (lsO x a 0 + d ≤ x.days) && decide (tot = -csO x a 0)))
def spT (x : To) (S a d : Nat) (tot : Int) (t : Nat) : Option (Nat × Nat × Nat) := if S.testBit t = true then none else
 (List.range (x.days.toNat - (d + lsN x a t))).findSome? fun q => ((ALO x t (d + lsN x a t + q)).find? (spI x S a tot t (d + lsN x a t + q))).map fun l => (t, d + lsN x a t + q, l)
def spO (x : To) (S a d : Nat) : Option (Nat × Nat × Nat) := if spE x S a d (hmO x (ALO x) S a d) = true then none else (List.range (x.T.length - 1)).findSome? fun i => spT x S a d (hmO x (ALO x) S a d) (i + 1)
def spV : Option (Nat × Nat × Nat) → Value
 | some s => .tuple #[.agg #[iv s.1, iv s.2.1, iv s.2.2], .bool true]
 | none => .tuple #[.agg #[iv 0, iv 0, iv 0], .bool false]
theorem fs_yes {α : Type} {g : Nat → Option α} {n k : Nat} {v : α} (h : ∀ i, i < k → g i = none) (hk : k < n) (hv : g k = some v) : (List.range n).findSome? g = some v := by
 obtain ⟨m, rfl⟩ : ∃ m, n = k + (m + 1) := ⟨n - k - 1, by omega⟩
 rw [List.range_add, List.findSome?_append]
 have h1 : (List.range k).findSome? g = none := List.findSome?_eq_none_iff.2 fun i hi => h i (List.mem_range.1 hi)
 rw [h1, Option.none_or, List.range_succ_eq_map, List.map_cons, List.findSome?_cons, Nat.add_zero, hv]
theorem fs_no {α : Type} {g : Nat → Option α} {n : Nat} (h : ∀ i, i < n → g i = none) : (List.range n).findSome? g = none := List.findSome?_eq_none_iff.2 fun i hi => h i (List.mem_range.1 hi)
theorem ALp_pre (x : To) (a d : Nat) {j : Nat} : ∀ m, ∃ r, ALp x a d (j + m) = ALp x a d j ++ r
 | 0 => ⟨[], by simp⟩
 | m + 1 => by
  obtain ⟨r, h⟩ := ALp_pre x a d (j := j) m
  show ∃ r, ALp x a d (j + m + 1) = _
  simp only [ALp]
  split
  · exact ⟨r ++ [((d : Int) + ((twO x a).s1 + (j + m : Nat)) - 1).toNat], by rw [h, List.append_assoc]⟩
  · exact ⟨r, h⟩
theorem find_yes {x : To} {a d j N l : Nat} {p : Nat → Bool} (h0 : (ALp x a d j).find? p = none) (hs : ALp x a d (j + 1) = ALp x a d j ++ [l]) (hj : j < N) (hp : p l = true) : (ALp x a d N).find? p = some l := by
 obtain ⟨r, hr⟩ := ALp_pre x a d (j := j + 1) (N - (j + 1))
 rw [show j + 1 + (N - (j + 1)) = N from by omega] at hr
 rw [hr, hs, List.append_assoc, List.find?_append, h0, Option.none_or]
 simp [hp]
section
variable {x : Tr} {AL : Nat → Nat → List Nat} {aa : Alp} {an ac b1 b2 : Nat}
theorem calls_PV {k : Nat} {fn : Func} {c : Code} (hfn : Try.prog.funcs[k]? = some fn) (hb : fn.body = some c) {nt : Nat} (hnt : fn.ntmps = nt) (args : List SV) (v : Value) (hlen : args.length ≤ nt) (hargs : SV.lts 6 args = true)
 (hvc : ∀ h : World → Prop, (∀ w', h w' → Hp x AL aa w') → VC Try.prog c ⟨nt, slotsOf 0 args, MB x AL aa an ac b1 b2, 6, h, ⟨pinG 6, [], 0⟩⟩ (endΦ env fn fun s σ => (∀ β, s.c β = v) ∧ MSub σ.m (MB x AL aa an ac b1 b2) ∧ (∀ w', σ.h w' → h w') ∧ σ.z.g = pinG 6))
 {β : Nat → Nat} {w : World} (hp : PS x AL aa an ac b1 b2 β w) (hst : ∀ w', Chg (fun b => ∃ i, i < 6 ∧ β i = b) w w' → Hp x AL aa w') :
 Calls Try.prog k (SV.cs β args).toArray w fun e w' => e = .returned v ∧ Chg (fun b => b = b1 ∨ b = b2) w w' ∧ PS x AL aa an ac b1 b2 β w' := by
 refine (calls_WSV env mixed hfn hb hnt args (MB x AL aa an ac b1 b2) (MB x AL aa an ac b1 b2) 6 v hlen hargs rfl rfl (fun i b h => (lkMB h).2) (Hp := Hp x AL aa) hvc hp.o (fun i j bi bj hi hj hne => hp.inj i j (lkMB hi).1 (lkMB hj).1 hne) (fun w' hc => hst w' ⟨hc.os, hc.tape, hc.output, hc.size, fun b hbl hn => hc.same b hbl fun ⟨i, bk, h1, h2⟩ => hn ⟨i, (lkMB h1).1, h2⟩⟩)).mono
  fun e w' ⟨h1, h2, h3⟩ => ⟨h1, ⟨h2.os, h2.tape, h2.output, h2.size, fun b hbl hn => ?_⟩, ⟨h3, hp.inj⟩⟩
 by_cases hex : ∃ i bk, lk (MB x AL aa an ac b1 b2) i = some bk ∧ β i = b
 · obtain ⟨i, bk, hi, rfl⟩ := hex
   have q1 := hp.o i bk hi
   have q2 := h3 i bk hi
   have hm := lk_mem hi
   simp only [MB, List.mem_cons, Prod.mk.injEq, List.not_mem_nil, or_false] at hm
   rcases hm with ⟨rfl, rfl⟩ | ⟨rfl, rfl⟩ | ⟨rfl, rfl⟩ | ⟨rfl, rfl⟩ | ⟨rfl, rfl⟩ | ⟨rfl, rfl⟩
   · exact absurd (.inl q1.1) hn
   · exact absurd (.inr q1.1) hn
   all_goals (simp only [Blk.ok] at q1 q2; rw [q1, q2])
 · exact h2.same b hbl hex
end
set_option maxHeartbeats 4000000 in
set_option maxRecDepth 100000 in
theorem step_ok (x : Tr) (aa : Alp) (an ac b1 b2 : Nat) (S a d : Nat) (han : an = x.T.length) (hn : ToN x.d) (hS : S < 512) (ha : a < x.T.length) (hd : d ≤ 100) (β : Nat → Nat) (w : World) (hp : PS x (ALO x.d) aa an ac b1 b2 β w)
 (hst : ∀ w', Chg (fun b => ∃ i, i < 6 ∧ β i = b) w w' → Hp x (ALO x.d) aa w') :
 Calls Try.prog 58 #[.pointer (some ⟨β 2, 0, none⟩), stK S a d] w fun e w' => e = .returned (spV (spO x.d S a d)) ∧ Chg (fun b => b = b1 ∨ b = b2) w w' ∧ PS x (ALO x.d) aa an ac b1 b2 β w' := by
 have hw0 := hst w (Chg.refl _ _)
 have hA := ALO_ok hn
 have hPA := plan_all (x := x) (AL := ALO x.d) (aa := aa) (ac := ac) (b1 := b1) (b2 := b2) han hn hA (ALO_len hn)
 have hH0 := (hPA _ S hS rfl).1 a d ha hd
 have hbd0 := hmO_bd hn hA S a d
 have h72 := fun w' (h : Hp x (ALO x.d) aa w') => lost_ok x a 0 w' h.1 hn ha (by have := hn.n; simp [Tr.d] at this; omega)
 have hls := hn.lost a
 have hlg := hn.leg a
 have hday := hn.d
 have hnT := hn.n
 have hlT := hn.l
 have hlr := hn.lr
 have hmS : (x.d.T.length) = x.T.length := List.length_map ..
 obtain ⟨days, shift, size, to, tc, T, lo, lc, L⟩ := x
 dsimp only [Tr.d] at hnT hlT hlr hday
 dsimp only at ha han
 simp only [List.length_map] at hnT hlT hlr
 have hrowL : ∃ ra rc row, L[a]? = some ⟨some ra, rc, row⟩ ∧ row.length = T.length ∧ lo ≠ none ∧ to ≠ none ∧ ∀ w', Hp ⟨days, shift, size, to, tc, T, lo, lc, L⟩ (ALO (Tr.d ⟨days, shift, size, to, tc, T, lo, lc, L⟩)) aa w' → Rd 2 prF (.slice (some ra) T.length rc) row w' := by
  obtain ⟨⟨ro, rc, row⟩, hr⟩ : ∃ r, L[a]? = some r := ⟨_, List.getElem?_eq_getElem (by omega)⟩
  have hrl := (hlr row (List.mem_of_getElem? (i := a) (by rw [List.getElem?_map, hr]; rfl))).1
  have h1 := hw0.1.li _ (List.mem_of_getElem? hr)
  dsimp only at h1
  obtain ⟨_, ra, rfl, _⟩ := h1.ptr (show 1 ≤ row.length by omega)
  obtain ⟨_, la, rfl, _⟩ := hw0.1.l.ptr (show 1 ≤ L.length by omega)
  obtain ⟨_, ta, rfl, _⟩ := hw0.1.t.ptr (show 1 ≤ T.length by omega)
  refine ⟨ra, rc, row, hr, hrl, by simp, by simp, fun w' h => ?_⟩
  have := h.1.li _ (List.mem_of_getElem? hr)
  dsimp only at this
  rwa [hrl] at this
 obtain ⟨ra, rc, row, hrow, hrl, hlo, hto, hrd⟩ := hrowL
 obtain ⟨la, rfl⟩ := Option.ne_none_iff_exists'.1 hlo
 obtain ⟨ta, rfl⟩ := Option.ne_none_iff_exists'.1 hto
 have eL : ∀ w', Hp ⟨days, shift, size, some ta, tc, T, some la, lc, L⟩ (ALO (Tr.d ⟨days, shift, size, some ta, tc, T, some la, lc, L⟩)) aa w' → ∀ j v, [Value.slice (some ra) T.length rc][j]? = some v → w'.cell? ((la.add ((a : Int).toNat * 1)).add j) = some v := fun w' h => by
  have := rd_ati h.1.l hrow
  rw [show Lr.cs (⟨some ra, rc, row⟩ : Lr) = [Value.slice (some ra) T.length rc] from by show [Value.slice _ row.length _] = _; rw [hrl]] at this
  exact this
 have ec : ∀ (t : Nat), t < T.length → ∃ c, row[t]? = some c ∧ lgO (Tr.d ⟨days, shift, size, some ta, tc, T, some la, lc, L⟩) a t = c := fun t ht => by
  obtain ⟨c, hc⟩ : ∃ c, row[t]? = some c := ⟨_, List.getElem?_eq_getElem (by omega)⟩
  exact ⟨c, hc, by simp only [lgO, Tr.d, List.getElem?_map, hrow, Option.map_some, Option.getD_some, hc]⟩
 obtain ⟨⟨q1, q2⟩, hq, hq0⟩ := ec 0 (by omega)
 have hlq := hlg 0
 rw [hq0] at hlq
 have hcq : csO (Tr.d ⟨days, shift, size, some ta, tc, T, some la, lc, L⟩) a 0 = q2 := by unfold csO; rw [hq0]
 have eq0 : ∀ w', Hp ⟨days, shift, size, some ta, tc, T, some la, lc, L⟩ (ALO (Tr.d ⟨days, shift, size, some ta, tc, T, some la, lc, L⟩)) aa w' → ∀ j v, [iv q2][j]? = some v → w'.cell? (((ra.add ((0 : Int).toNat * 2)).add 1).add j) = some v := fun w' h => rd_fldz (hrd w' h) hq 0 rfl 1 (iv q2) rfl
 have hsE : spE (Tr.d ⟨days, shift, size, some ta, tc, T, some la, lc, L⟩) S a d (hmO (Tr.d ⟨days, shift, size, some ta, tc, T, some la, lc, L⟩) (ALO (Tr.d ⟨days, shift, size, some ta, tc, T, some la, lc, L⟩)) S a d) = ((decide (S = 0) && decide (hmO (Tr.d ⟨days, shift, size, some ta, tc, T, some la, lc, L⟩) (ALO (Tr.d ⟨days, shift, size, some ta, tc, T, some la, lc, L⟩)) S a d = 0)) || (decide (S ≠ 0) && (decide (lsO (Tr.d ⟨days, shift, size, some ta, tc, T, some la, lc, L⟩) a 0 + d ≤ days) && decide (hmO (Tr.d ⟨days, shift, size, some ta, tc, T, some la, lc, L⟩) (ALO (Tr.d ⟨days, shift, size, some ta, tc, T, some la, lc, L⟩)) S a d = -q2)))) := by unfold spE; rw [hcq]
 have hspO : spO (Tr.d ⟨days, shift, size, some ta, tc, T, some la, lc, L⟩) S a d = if spE (Tr.d ⟨days, shift, size, some ta, tc, T, some la, lc, L⟩) S a d (hmO (Tr.d ⟨days, shift, size, some ta, tc, T, some la, lc, L⟩) (ALO (Tr.d ⟨days, shift, size, some ta, tc, T, some la, lc, L⟩)) S a d) = true then none else (List.range (T.length - 1)).findSome? fun i => spT (Tr.d ⟨days, shift, size, some ta, tc, T, some la, lc, L⟩) S a d (hmO (Tr.d ⟨days, shift, size, some ta, tc, T, some la, lc, L⟩) (ALO (Tr.d ⟨days, shift, size, some ta, tc, T, some la, lc, L⟩)) S a d) (i + 1) := by unfold spO; rw [hmS]
 rw [hspO]
 clear hspO
 obtain ⟨tot, htot⟩ : ∃ tot, hmO (Tr.d ⟨days, shift, size, some ta, tc, T, some la, lc, L⟩) (ALO (Tr.d ⟨days, shift, size, some ta, tc, T, some la, lc, L⟩)) S a d = tot := ⟨_, rfl⟩
 have hl0 := hls 0
 generalize hg0 : lsO (Tr.d ⟨days, shift, size, some ta, tc, T, some la, lc, L⟩) a 0 = g0 at *
 refine calls_PV Try.func58 has58 Try.ntmps58 [.ptr 2 0, .v (stK S a d)] _ (by simp) rfl (fun h hh => ?_) hp hst
 have hH0t := hH0
 unfold HomeC at hH0t
 rw [htot] at hH0t
 unfold MB
 dsimp only
 rw [htot] at hsE hbd0 ⊢
 refine VC.cutE env mixed 3 11 (fun _ : Unit => [(2, .ptr 6 0), (3, .ptr 7 0), (4, .ptr 8 0), (5, .ptr 9 0), (6, .ptr 10 0)]) (fun _ => [(4, .obj b1 (MpOk Try.prog 118 (stD (hmO (Tr.d ⟨days, shift, size, some ta, tc, T, some la, lc, L⟩) (ALO (Tr.d ⟨days, shift, size, some ta, tc, T, some la, lc, L⟩)))))), (5, .obj b2 (MpOk Try.prog 118 (stD (bgO (Tr.d ⟨days, shift, size, some ta, tc, T, some la, lc, L⟩) (ALO (Tr.d ⟨days, shift, size, some ta, tc, T, some la, lc, L⟩)))))), (0, .cells [.ptr 2 0] 114), (1, .cells [.v (.map (some b1))] 169), (2, .cells [.v (iv days), .v (iv shift), .v (iv size), .v (.slice (some ta) T.length tc), .v (.slice (some la) L.length lc), .v (.slice (some aa.aa) an ac), .fn (.func 97) [.ptr 1 0, .ptr 0 0], .fn (.func 100) [.ptr 0 0, .ptr 3 0]] 122), (3, .cells [.v (.map (some b2))] 169), (6, .cells [.ptr 2 0] 114), (7, .cells [.v (.int .u64 S), .v (iv a), .v (iv d)] 118), (8, .cells [.v (iv 0), .v (iv 0), .v (iv 0)] 96), (9, .cells [.v (.bool false)] 4), (10, .cells [.v (iv tot)] 3)]) (fun _ => spE (Tr.d ⟨days, shift, size, some ta, tc, T, some la, lc, L⟩) S a d tot = false) (fun _ _ => ⟨rfl, rfl⟩) ?_ ?_
 · by_cases hE : spE (Tr.d ⟨days, shift, size, some ta, tc, T, some la, lc, L⟩) S a d tot = true
   · rw [if_pos hE]
     have hE2 : (S = 0 ∧ tot = 0) ∨ (S ≠ 0 ∧ (g0 + d ≤ days ∧ tot = -q2)) := by
      rw [hsE] at hE
      simp only [Bool.or_eq_true, Bool.and_eq_true, decide_eq_true_eq] at hE
      exact hE
     repeat'
      conv => whnf
      first
       | refine zA ?_ | refine zB ?_ | refine zC ?_ | refine zD ?_ | refine zE ?_ | refine zF ?_ | refine zG ?_ | refine zH ?_ | refine zJ ?_ | refine zI ?_ | refine splT ?_ | refine splF ?_ | refine splNot ?_
       | ((first | refine splIn ?_ ?_ | refine splD ?_ ?_ | refine splE ?_ ?_ | refine splNE ?_ ?_) <;> intro hc <;> first | (exfalso; omega) | (exfalso; dsimp only at hc; omega) | skip)
       | refine nilE rfl rfl ?_
       | ((with_reducible show CallEv _ _ 97 _ _ _ _ _); refine callWR [0, 1, 2, 3, 4, 5] [(4, .obj b1 (MpOk Try.prog 118 (stD (hmO (Tr.d ⟨days, shift, size, some ta, tc, T, some la, lc, L⟩) (ALO (Tr.d ⟨days, shift, size, some ta, tc, T, some la, lc, L⟩)))))), (5, .obj b2 (MpOk Try.prog 118 (stD (bgO (Tr.d ⟨days, shift, size, some ta, tc, T, some la, lc, L⟩) (ALO (Tr.d ⟨days, shift, size, some ta, tc, T, some la, lc, L⟩))))))] (iv tot) rfl (fun β w' h1 h2 hs2 => (hH0t β w' (PS.of (x := ⟨days, shift, size, some ta, tc, T, some la, lc, L⟩) (AL := (ALO (Tr.d ⟨days, shift, size, some ta, tc, T, some la, lc, L⟩))) (aa := aa) (an := an) (ac := ac) (b1 := b1) (b2 := b2) (six rfl rfl rfl rfl rfl rfl) h1 h2) (fun w2 hc => hh w2 (hs2 w2 (chg_six (x := ⟨days, shift, size, some ta, tc, T, some la, lc, L⟩) (AL := (ALO (Tr.d ⟨days, shift, size, some ta, tc, T, some la, lc, L⟩))) (aa := aa) (an := an) (ac := ac) (b1 := b1) (b2 := b2) (six rfl rfl rfl rfl rfl rfl) hc)))).mono fun e w2 ⟨e1, e2, e3⟩ => ⟨e1, (PS.of (x := ⟨days, shift, size, some ta, tc, T, some la, lc, L⟩) (AL := (ALO (Tr.d ⟨days, shift, size, some ta, tc, T, some la, lc, L⟩))) (aa := aa) (an := an) (ac := ac) (b1 := b1) (b2 := b2) (six rfl rfl rfl rfl rfl rfl) h1 h2).chg e2, e3.out⟩) ?_)
       | ((with_reducible show CallEv _ _ 72 _ _ _ _ _); refine callE (k := 72) (fun β w' hbw => h72 w' (hh w' hbw)) ?_)
       | refine Exists.intro (α := List Value) [.slice (some ra) T.length rc] ⟨⟨rfl, fun w' hw' => eL w' (hh w' hw')⟩, ?_⟩
       | refine Exists.intro (α := List Value) [iv q2] ⟨⟨rfl, fun w' hw' => eq0 w' (hh w' hw')⟩, ?_⟩
     all_goals first | (exfalso; omega) | exact ⟨fun β => rfl, ⟨rfl, rfl, rfl, rfl, rfl, rfl, trivial⟩, fun w' h => h, rfl⟩
   · have hE2 : ¬ ((S = 0 ∧ tot = 0) ∨ (S ≠ 0 ∧ (g0 + d ≤ days ∧ tot = -q2))) := fun hc => hE (by
      rw [hsE]
      simp only [Bool.or_eq_true, Bool.and_eq_true, decide_eq_true_eq]
      exact hc)
     rw [if_neg hE]
     repeat'
      conv => whnf
      first
       | refine zA ?_ | refine zB ?_ | refine zC ?_ | refine zD ?_ | refine zE ?_ | refine zF ?_ | refine zG ?_ | refine zH ?_ | refine zJ ?_ | refine zI ?_ | refine splT ?_ | refine splF ?_ | refine splNot ?_
       | ((first | refine splIn ?_ ?_ | refine splD ?_ ?_ | refine splE ?_ ?_ | refine splNE ?_ ?_) <;> intro hc <;> first | (exfalso; omega) | (exfalso; dsimp only at hc; omega) | skip)
       | refine nilE rfl rfl ?_
       | ((with_reducible show CallEv _ _ 97 _ _ _ _ _); refine callWR [0, 1, 2, 3, 4, 5] [(4, .obj b1 (MpOk Try.prog 118 (stD (hmO (Tr.d ⟨days, shift, size, some ta, tc, T, some la, lc, L⟩) (ALO (Tr.d ⟨days, shift, size, some ta, tc, T, some la, lc, L⟩)))))), (5, .obj b2 (MpOk Try.prog 118 (stD (bgO (Tr.d ⟨days, shift, size, some ta, tc, T, some la, lc, L⟩) (ALO (Tr.d ⟨days, shift, size, some ta, tc, T, some la, lc, L⟩))))))] (iv tot) rfl (fun β w' h1 h2 hs2 => (hH0t β w' (PS.of (x := ⟨days, shift, size, some ta, tc, T, some la, lc, L⟩) (AL := (ALO (Tr.d ⟨days, shift, size, some ta, tc, T, some la, lc, L⟩))) (aa := aa) (an := an) (ac := ac) (b1 := b1) (b2 := b2) (six rfl rfl rfl rfl rfl rfl) h1 h2) (fun w2 hc => hh w2 (hs2 w2 (chg_six (x := ⟨days, shift, size, some ta, tc, T, some la, lc, L⟩) (AL := (ALO (Tr.d ⟨days, shift, size, some ta, tc, T, some la, lc, L⟩))) (aa := aa) (an := an) (ac := ac) (b1 := b1) (b2 := b2) (six rfl rfl rfl rfl rfl rfl) hc)))).mono fun e w2 ⟨e1, e2, e3⟩ => ⟨e1, (PS.of (x := ⟨days, shift, size, some ta, tc, T, some la, lc, L⟩) (AL := (ALO (Tr.d ⟨days, shift, size, some ta, tc, T, some la, lc, L⟩))) (aa := aa) (an := an) (ac := ac) (b1 := b1) (b2 := b2) (six rfl rfl rfl rfl rfl rfl) h1 h2).chg e2, e3.out⟩) ?_)
       | ((with_reducible show CallEv _ _ 72 _ _ _ _ _); refine callE (k := 72) (fun β w' hbw => h72 w' (hh w' hbw)) ?_)
       | refine Exists.intro (α := List Value) [.slice (some ra) T.length rc] ⟨⟨rfl, fun w' hw' => eL w' (hh w' hw')⟩, ?_⟩
       | refine Exists.intro (α := List Value) [iv q2] ⟨⟨rfl, fun w' hw' => eq0 w' (hh w' hw')⟩, ?_⟩
     all_goals first | (exfalso; omega) | exact ⟨rfl, (), Bool.eq_false_iff.2 hE, Ent.weak rfl ⟨rfl, rfl, rfl, rfl, rfl, trivial⟩ ⟨rfl, rfl, rfl, rfl, rfl, rfl, rfl, rfl, rfl, rfl, rfl, trivial⟩ fun _ h => h⟩
 · intro _ hE
   rw [if_neg (by rw [hE]; decide)]
   refine VC.of env mixed ?_
   have hgb := fun (t f l : Nat) (h1 : 1 ≤ t) (hl : f ≤ l ∧ l < f + 10) => gn_bd hn (a := t) (d := f) (l := l) h1 hl
   have h99 := fun t ht w' b (h : Hp ⟨days, shift, size, some ta, tc, T, some la, lc, L⟩ (ALO (Tr.d ⟨days, shift, size, some ta, tc, T, some la, lc, L⟩)) aa w') hc => next_ok ⟨days, shift, size, some ta, tc, T, some la, lc, L⟩ S a d t b w' h.1 hn ha ht (by omega) hc
   have hTi := fun w' (h : Hp ⟨days, shift, size, some ta, tc, T, some la, lc, L⟩ (ALO (Tr.d ⟨days, shift, size, some ta, tc, T, some la, lc, L⟩)) aa w') => h.1.t
   repeat'
    conv => whnf
    first
     | refine zA ?_ | refine zB ?_ | refine zC ?_ | refine zD ?_ | refine zE ?_ | refine zF ?_ | refine zG ?_ | refine zH ?_ | refine zJ ?_ | refine zI ?_ | refine splT ?_ | refine splF ?_ | refine splNot ?_
     | ((first | refine splIn ?_ ?_ | refine splD ?_ ?_ | refine splE ?_ ?_ | refine splNE ?_ ?_) <;> intro hc <;> first | (exfalso; omega) | (exfalso; dsimp only at hc; omega) | skip)
   all_goals first | (exfalso; omega) | skip
   refine loopN 12 (fun i : Nat => [(2, .ptr 6 0), (3, .ptr 7 0), (4, .ptr 8 0), (5, .ptr 9 0), (6, .ptr 10 0), (7, .ptr 11 0)]) (fun i => [(4, .obj b1 (MpOk Try.prog 118 (stD (hmO (Tr.d ⟨days, shift, size, some ta, tc, T, some la, lc, L⟩) (ALO (Tr.d ⟨days, shift, size, some ta, tc, T, some la, lc, L⟩)))))), (5, .obj b2 (MpOk Try.prog 118 (stD (bgO (Tr.d ⟨days, shift, size, some ta, tc, T, some la, lc, L⟩) (ALO (Tr.d ⟨days, shift, size, some ta, tc, T, some la, lc, L⟩)))))), (0, .cells [.ptr 2 0] 114), (1, .cells [.v (.map (some b1))] 169), (2, .cells [.v (iv days), .v (iv shift), .v (iv size), .v (.slice (some ta) T.length tc), .v (.slice (some la) L.length lc), .v (.slice (some aa.aa) an ac), .fn (.func 97) [.ptr 1 0, .ptr 0 0], .fn (.func 100) [.ptr 0 0, .ptr 3 0]] 122), (3, .cells [.v (.map (some b2))] 169), (6, .cells [.ptr 2 0] 114), (7, .cells [.v (.int .u64 S), .v (iv a), .v (iv d)] 118), (8, .cells [.v (iv 0), .v (iv 0), .v (iv 0)] 96), (9, .cells [.v (.bool false)] 4), (10, .cells [.v (iv tot)] 3), (11, .cells [.v (iv (i + 1 : Nat))] 3)]) (fun i => i ≤ T.length - 1 ∧ ∀ i', i' < i → spT (Tr.d ⟨days, shift, size, some ta, tc, T, some la, lc, L⟩) S a d tot (i' + 1) = none) (fun i => T.length - 1 - i) 0 ⟨Nat.zero_le _, fun i' h => by omega⟩ ⟨rfl, rfl, rfl, rfl, rfl, rfl, trivial⟩ ⟨rfl, rfl, rfl, rfl, rfl, rfl, rfl, rfl, rfl, rfl, rfl, rfl, trivial⟩ (fun _ _ => ⟨rfl, rfl⟩) ?_
   intro i ⟨hi, hall⟩
   rcases Nat.lt_or_ge i (T.length - 1) with hil | hil
   · have hsr := sh_r (t := i + 1) hS (by omega)
     have hal := and_l (t := i + 1) hS
     cases hbt : S.testBit (i + 1) with
     | true =>
      have hno : spT (Tr.d ⟨days, shift, size, some ta, tc, T, some la, lc, L⟩) S a d tot (i + 1) = none := by unfold spT; rw [if_pos hbt]
      rw [show btI S (i + 1) = 1 from by unfold btI; rw [hbt]; rfl] at hal
      generalize ((S >>> (i + 1) : Nat) : Int) = SH at *
      repeat'
       conv => whnf
       first
        | refine zA ?_ | refine zB ?_ | refine zC ?_ | refine zD ?_ | refine zE ?_ | refine zF ?_ | refine zG ?_ | refine zH ?_ | refine zJ ?_ | refine zI ?_ | refine splT ?_ | refine splF ?_ | refine splNot ?_
        | ((first | refine splIn ?_ ?_ | refine splD ?_ ?_ | refine splE ?_ ?_ | refine splNE ?_ ?_) <;> intro hc <;> first | (exfalso; omega) | (exfalso; dsimp only at hc; omega) | skip)
        | refine Exists.intro (α := Value) (.int .u64 (i + 1 : Nat)) ⟨cvU (i + 1) (by omega), ?_⟩
        | refine Exists.intro (α := Int) SH ⟨⟨by omega, hsr.symm⟩, ?_⟩
        | refine Exists.intro (α := Int) 1 ⟨hal.symm, ?_⟩
        | refine nilE rfl rfl ?_
      all_goals first | (exfalso; omega) | exact ⟨i + 1, ⟨by omega, fun i' h => by rcases (by omega : i' < i ∨ i' = i) with h | rfl; exact hall i' h; exact hno⟩, by omega, Ent.ren (rho [(11, 12)]) rfl rfl ⟨rfl, rfl, rfl, rfl, rfl, rfl, trivial⟩ ⟨rfl, rfl, rfl, rfl, rfl, rfl, rfl, rfl, rfl, rfl, rfl, rfl, trivial⟩ fun _ h => h⟩
     | false =>
      rw [show btI S (i + 1) = 0 from by unfold btI; rw [hbt]; rfl] at hal
      obtain ⟨⟨p1, p2⟩, hpr, hpl⟩ := ec (i + 1) (by omega)
      have hlp := hlg (i + 1)
      rw [hpl] at hlp
      have hcp : csO (Tr.d ⟨days, shift, size, some ta, tc, T, some la, lc, L⟩) a (i + 1) = p2 := by unfold csO; rw [hpl]
      have ep : ∀ w', Hp ⟨days, shift, size, some ta, tc, T, some la, lc, L⟩ (ALO (Tr.d ⟨days, shift, size, some ta, tc, T, some la, lc, L⟩)) aa w' → ∀ j v, [iv p2][j]? = some v → w'.cell? (((ra.add (((i + 1 : Nat) : Int).toNat * 2)).add 1).add j) = some v := fun w' h => rd_fldz (hrd w' h) hpr _ rfl 1 (iv p2) rfl
      have hlsn := lsN_le hn a (i + 1)
      have hspT : spT (Tr.d ⟨days, shift, size, some ta, tc, T, some la, lc, L⟩) S a d tot (i + 1) = (List.range (days.toNat - (d + lsN (Tr.d ⟨days, shift, size, some ta, tc, T, some la, lc, L⟩) a (i + 1)))).findSome? fun q => ((ALO (Tr.d ⟨days, shift, size, some ta, tc, T, some la, lc, L⟩) (i + 1) (d + lsN (Tr.d ⟨days, shift, size, some ta, tc, T, some la, lc, L⟩) a (i + 1) + q)).find? (spI (Tr.d ⟨days, shift, size, some ta, tc, T, some la, lc, L⟩) S a tot (i + 1) (d + lsN (Tr.d ⟨days, shift, size, some ta, tc, T, some la, lc, L⟩) a (i + 1) + q))).map fun l => (i + 1, d + lsN (Tr.d ⟨days, shift, size, some ta, tc, T, some la, lc, L⟩) a (i + 1) + q, l) := by unfold spT; rw [if_neg (by rw [hbt]; decide)]
      obtain ⟨f0, hf0⟩ : ∃ f0, d + lsN (Tr.d ⟨days, shift, size, some ta, tc, T, some la, lc, L⟩) a (i + 1) = f0 := ⟨_, rfl⟩
      have h99t := fun w' b h hc => h99 (i + 1) (show i + 1 < T.length by omega) w' b h hc
      rw [hf0] at hspT h99t
      have hf0b : f0 ≤ 300 := by omega
      have hmx : imax 0 (f0 : Int) = f0 := by rw [imax_eq]; omega
      obtain ⟨tn, htn⟩ : ∃ t, T[i + 1]? = some t := ⟨_, List.getElem?_eq_getElem (by omega)⟩
      have htw : twO (Tr.d ⟨days, shift, size, some ta, tc, T, some la, lc, L⟩) ((i + 1 : Nat) : Int) = tn.d := twO_eq (x := ⟨days, shift, size, some ta, tc, T, some la, lc, L⟩) (k := ((i + 1 : Nat) : Int)) htn
      have htN := twN_of hn (a := i + 1) (by omega) (by simp only [Tr.d, List.length_map]; omega)
      have hAL0 : ∀ f, ALO (Tr.d ⟨days, shift, size, some ta, tc, T, some la, lc, L⟩) (i + 1) f = ALp (Tr.d ⟨days, shift, size, some ta, tc, T, some la, lc, L⟩) (i + 1) f ((twO (Tr.d ⟨days, shift, size, some ta, tc, T, some la, lc, L⟩) ((i + 1 : Nat) : Int)).s2 - (twO (Tr.d ⟨days, shift, size, some ta, tc, T, some la, lc, L⟩) ((i + 1 : Nat) : Int)).s1 + 1).toNat := fun f => by unfold ALO; rw [if_neg (by omega)]
      have hALs : ∀ f j, ALp (Tr.d ⟨days, shift, size, some ta, tc, T, some la, lc, L⟩) (i + 1) f (j + 1) = if aloB (Tr.d ⟨days, shift, size, some ta, tc, T, some la, lc, L⟩) ((i + 1 : Nat) : Int) f ((f : Int) + ((twO (Tr.d ⟨days, shift, size, some ta, tc, T, some la, lc, L⟩) ((i + 1 : Nat) : Int)).s1 + j) - 1) = true then ALp (Tr.d ⟨days, shift, size, some ta, tc, T, some la, lc, L⟩) (i + 1) f j ++ [((f : Int) + ((twO (Tr.d ⟨days, shift, size, some ta, tc, T, some la, lc, L⟩) ((i + 1 : Nat) : Int)).s1 + j) - 1).toNat] else ALp (Tr.d ⟨days, shift, size, some ta, tc, T, some la, lc, L⟩) (i + 1) f j := fun f j => rfl
      rw [htw] at hAL0 hALs htN
      obtain ⟨oo, oc, ro, rc', O, s1, s2, pay, lot, rent, R, cold, cut⟩ := tn
      have hs := htN.s
      dsimp only at hs hAL0 hALs
      have e3 := fun (w' : World) (hw' : Hp ⟨days, shift, size, some ta, tc, T, some la, lc, L⟩ (ALO (Tr.d ⟨days, shift, size, some ta, tc, T, some la, lc, L⟩)) aa w') => rd_flds (hTi w' hw') htn ((i + 1 : Nat) : Int) rfl 1 [iv s1, iv s2] (fun j v hj => by
       match j, hj with
       | 0, hj => exact hj
       | 1, hj => exact hj)
      generalize ((S >>> (i + 1) : Nat) : Int) = SH at *
      repeat'
       conv => whnf
       first
        | refine zA ?_ | refine zB ?_ | refine zC ?_ | refine zD ?_ | refine zE ?_ | refine zF ?_ | refine zG ?_ | refine zH ?_ | refine zJ ?_ | refine zI ?_ | refine splT ?_ | refine splF ?_ | refine splNot ?_
        | ((first | refine splIn ?_ ?_ | refine splD ?_ ?_ | refine splE ?_ ?_ | refine splNE ?_ ?_) <;> intro hc <;> first | (exfalso; omega) | (exfalso; dsimp only at hc; omega) | skip)
        | refine Exists.intro (α := Value) (.int .u64 (i + 1 : Nat)) ⟨cvU (i + 1) (by omega), ?_⟩
        | refine Exists.intro (α := Int) SH ⟨⟨by omega, hsr.symm⟩, ?_⟩
        | refine Exists.intro (α := Int) 0 ⟨hal.symm, ?_⟩
        | refine nilE rfl rfl ?_
        | ((with_reducible show CallEv _ _ 99 _ _ _ _ _); refine callM [2] (fun β w' hbk hbw => h99t w' (β 2) (hh w' hbw) (pl_at (x := ⟨days, shift, size, some ta, tc, T, some la, lc, L⟩) (r := [.slice (some aa.aa) an ac, (SV.fn (.func 97) [.ptr 1 0, .ptr 0 0]).c β, (SV.fn (.func 100) [.ptr 0 0, .ptr 3 0]).c β]) (hbk 2 (by simp) _ rfl))) ?_)
        | ((with_reducible show CallEv _ _ 83 _ _ _ _ _); refine callR [12, 13, 14] [] (stB ⟨days, shift, size, some ta, tc, T, some la, lc, L⟩ (i + 1 : Nat) f0 12) (.fn (.func 114) [.ptr 12 0, .ptr 13 0, .ptr 14 0]) rfl (fun i b hm => by simp only [stB, List.mem_cons, Prod.mk.injEq, List.not_mem_nil, or_false] at hm ⊢; omega) (fun β w' _ hbw => stops_R ⟨days, shift, size, some ta, tc, T, some la, lc, L⟩ (i + 1 : Nat) f0 12 β w') ?_)
      all_goals first | (exfalso; omega) | skip
      refine rf_inline env mixed 1000 [2, 3, 4, 5, 6, 7] Try.func114 has114 Try.ntmps114 rfl rfl (by decide) rfl rfl ?_
      intro lp asg bdy hasg hbdy
      repeat'
       conv => whnf
       first
        | refine zA ?_ | refine zB ?_ | refine zC ?_ | refine zD ?_ | refine zE ?_ | refine zF ?_ | refine zG ?_ | refine zH ?_ | refine zJ ?_ | refine zI ?_ | refine splT ?_ | refine splF ?_ | refine splNot ?_
        | ((first | refine splIn ?_ ?_ | refine splD ?_ ?_ | refine splE ?_ ?_ | refine splNE ?_ ?_) <;> intro hc <;> first | (exfalso; omega) | (exfalso; dsimp only at hc; omega) | skip)
        | refine Exists.intro (α := List Value) [iv s1, iv s2] ⟨⟨rfl, fun w' hw' => e3 w' (hh w' hw')⟩, ?_⟩
      all_goals first | (exfalso; omega) | skip
      obtain ⟨Q, hQ⟩ : ∃ Q, days.toNat - f0 = Q := ⟨_, rfl⟩
      rw [hQ] at hspT
      refine loopN 16 (fun q : Nat => [(0, .v (.func (.yield lp) #[] #[])), (1, .ptr 12 0), (2, .ptr 13 0), (5, .ptr 15 0), (6, .v (iv ((f0 + q : Nat) : Int)))]) (fun _ => [(4, .obj b1 (MpOk Try.prog 118 (stD (hmO (Tr.d ⟨days, shift, size, some ta, tc, T, some la, lc, L⟩) (ALO (Tr.d ⟨days, shift, size, some ta, tc, T, some la, lc, L⟩)))))), (5, .obj b2 (MpOk Try.prog 118 (stD (bgO (Tr.d ⟨days, shift, size, some ta, tc, T, some la, lc, L⟩) (ALO (Tr.d ⟨days, shift, size, some ta, tc, T, some la, lc, L⟩)))))), (0, .cells [.ptr 2 0] 114), (1, .cells [.v (.map (some b1))] 169), (2, .cells [.v (iv days), .v (iv shift), .v (iv size), .v (.slice (some ta) T.length tc), .v (.slice (some la) L.length lc), .v (.slice (some aa.aa) an ac), .fn (.func 97) [.ptr 1 0, .ptr 0 0], .fn (.func 100) [.ptr 0 0, .ptr 3 0]] 122), (3, .cells [.v (.map (some b2))] 169), (6, .cells [.ptr 2 0] 114), (7, .cells [.v (.int .u64 S), .v (iv a), .v (iv d)] 118), (8, .cells [.v (iv 0), .v (iv 0), .v (iv 0)] 96), (9, .cells [.v (.bool false)] 4), (10, .cells [.v (iv tot)] 3), (11, .cells [.v (iv (i + 1 : Nat))] 3), (12, .cells [.v (iv days), .v (iv shift), .v (iv size), .v (.slice (some ta) T.length tc), .v (.slice (some la) L.length lc)] 35), (13, .cells [.v (iv (i + 1 : Nat))] 3), (14, .cells [.v (iv f0)] 3), (15, .cells [.v (iv s1), .v (iv s2)] 55)]) (fun q => q ≤ Q ∧ ∀ q', q' < q → (ALO (Tr.d ⟨days, shift, size, some ta, tc, T, some la, lc, L⟩) (i + 1) (f0 + q')).find? (spI (Tr.d ⟨days, shift, size, some ta, tc, T, some la, lc, L⟩) S a tot (i + 1) (f0 + q')) = none) (fun q => Q - q) 0 ⟨Nat.zero_le _, fun q' h => by omega⟩ ⟨rfl, rfl, rfl, rfl, (by (show some (SV.v (iv (imax 0 (f0 : Int)))) = some (SV.v (iv ((f0 + 0 : Nat) : Int)))); rw [hmx]; rfl), trivial⟩ ⟨rfl, rfl, rfl, rfl, rfl, rfl, rfl, rfl, rfl, rfl, rfl, rfl, rfl, rfl, rfl, rfl, trivial⟩ (fun _ _ => ⟨rfl, rfl⟩) ?_
      intro q ⟨hq', hqn⟩
      rcases Nat.lt_or_ge q Q with hql | hql
      · obtain ⟨N, hN⟩ : ∃ N, (s2 - s1 + 1).toNat = N := ⟨_, rfl⟩
        have hAE := hAL0 (f0 + q)
        have hAs := hALs (f0 + q)
        rw [hN] at hAE
        repeat'
         conv => whnf
         first
          | refine zA ?_ | refine zB ?_ | refine zC ?_ | refine zD ?_ | refine zE ?_ | refine zF ?_ | refine zG ?_ | refine zH ?_ | refine zJ ?_ | refine zI ?_ | refine splT ?_ | refine splF ?_ | refine splNot ?_
          | ((first | refine splIn ?_ ?_ | refine splD ?_ ?_ | refine splE ?_ ?_ | refine splNE ?_ ?_) <;> intro hc <;> first | (exfalso; omega) | (exfalso; dsimp only at hc; omega) | skip)
        all_goals first | (exfalso; omega) | skip
        refine loopN 16 (fun j : Nat => [(0, .v (.func (.yield lp) #[] #[])), (1, .ptr 12 0), (2, .ptr 13 0), (5, .ptr 15 0), (6, .v (iv ((f0 + q : Nat) : Int))), (7, .v (iv (s1 + (j : Nat))))]) (fun _ => [(4, .obj b1 (MpOk Try.prog 118 (stD (hmO (Tr.d ⟨days, shift, size, some ta, tc, T, some la, lc, L⟩) (ALO (Tr.d ⟨days, shift, size, some ta, tc, T, some la, lc, L⟩)))))), (5, .obj b2 (MpOk Try.prog 118 (stD (bgO (Tr.d ⟨days, shift, size, some ta, tc, T, some la, lc, L⟩) (ALO (Tr.d ⟨days, shift, size, some ta, tc, T, some la, lc, L⟩)))))), (0, .cells [.ptr 2 0] 114), (1, .cells [.v (.map (some b1))] 169), (2, .cells [.v (iv days), .v (iv shift), .v (iv size), .v (.slice (some ta) T.length tc), .v (.slice (some la) L.length lc), .v (.slice (some aa.aa) an ac), .fn (.func 97) [.ptr 1 0, .ptr 0 0], .fn (.func 100) [.ptr 0 0, .ptr 3 0]] 122), (3, .cells [.v (.map (some b2))] 169), (6, .cells [.ptr 2 0] 114), (7, .cells [.v (.int .u64 S), .v (iv a), .v (iv d)] 118), (8, .cells [.v (iv 0), .v (iv 0), .v (iv 0)] 96), (9, .cells [.v (.bool false)] 4), (10, .cells [.v (iv tot)] 3), (11, .cells [.v (iv (i + 1 : Nat))] 3), (12, .cells [.v (iv days), .v (iv shift), .v (iv size), .v (.slice (some ta) T.length tc), .v (.slice (some la) L.length lc)] 35), (13, .cells [.v (iv (i + 1 : Nat))] 3), (14, .cells [.v (iv f0)] 3), (15, .cells [.v (iv s1), .v (iv s2)] 55)]) (fun j => j ≤ N ∧ (ALp (Tr.d ⟨days, shift, size, some ta, tc, T, some la, lc, L⟩) (i + 1) (f0 + q) j).find? (spI (Tr.d ⟨days, shift, size, some ta, tc, T, some la, lc, L⟩) S a tot (i + 1) (f0 + q)) = none) (fun j => N - j) 0 ⟨Nat.zero_le _, rfl⟩ ⟨rfl, rfl, rfl, rfl, rfl, by rw [Int.natCast_zero, Int.add_zero]; rfl, trivial⟩ ⟨rfl, rfl, rfl, rfl, rfl, rfl, rfl, rfl, rfl, rfl, rfl, rfl, rfl, rfl, rfl, rfl, trivial⟩ (fun _ _ => ⟨rfl, rfl⟩) ?_
        intro j ⟨hj, hjn⟩
        rcases Nat.lt_or_ge j N with hjN | hjN
        · have hCn := hAs j
          have hsj : s1 + ((j + 1 : Nat) : Int) = s1 + (j : Int) + 1 := by omega
          obtain ⟨lN, hlN⟩ : ∃ lN : Nat, ((f0 + q : Nat) : Int) + (s1 + (j : Int)) - 1 = lN := ⟨(((f0 + q : Nat) : Int) + (s1 + (j : Int)) - 1).toNat, by omega⟩
          have h115 := fun w' (h : Hp ⟨days, shift, size, some ta, tc, T, some la, lc, L⟩ (ALO (Tr.d ⟨days, shift, size, some ta, tc, T, some la, lc, L⟩)) aa w') => alone_ok ⟨days, shift, size, some ta, tc, T, some la, lc, L⟩ ((i + 1 : Nat) : Int) ((f0 + q : Nat) : Int) (((f0 + q : Nat) : Int) + (s1 + (j : Int)) - 1) w' h.1 hn ⟨by omega, by omega⟩
          have hba : decide (fltO (Tr.d ⟨days, shift, size, some ta, tc, T, some la, lc, L⟩) [(((i + 1 : Nat) : Int), ((f0 + q : Nat) : Int), ((f0 + q : Nat) : Int) + (s1 + (j : Int)) - 1)] 0 ((i + 1 : Nat) : Int) ((f0 + q : Nat) : Int) (((f0 + q : Nat) : Int) + (s1 + (j : Int)) - 1) 4 = 0) = aloB (Tr.d ⟨days, shift, size, some ta, tc, T, some la, lc, L⟩) ((i + 1 : Nat) : Int) ((f0 + q : Nat) : Int) (((f0 + q : Nat) : Int) + (s1 + (j : Int)) - 1) := rfl
          obtain ⟨b, hb⟩ : ∃ b, aloB (Tr.d ⟨days, shift, size, some ta, tc, T, some la, lc, L⟩) ((i + 1 : Nat) : Int) ((f0 + q : Nat) : Int) (((f0 + q : Nat) : Int) + (s1 + (j : Int)) - 1) = b := ⟨_, rfl⟩
          rw [hb] at hCn hba
          simp only [hba] at h115
          cases b with
          | false =>
           rw [if_neg (by decide)] at hCn
           repeat'
            conv => whnf
            first
             | refine zA ?_ | refine zB ?_ | refine zC ?_ | refine zD ?_ | refine zE ?_ | refine zF ?_ | refine zG ?_ | refine zH ?_ | refine zJ ?_ | refine zI ?_ | refine splT ?_ | refine splF ?_ | refine splNot ?_
             | ((first | refine splIn ?_ ?_ | refine splD ?_ ?_ | refine splE ?_ ?_ | refine splNE ?_ ?_) <;> intro hc <;> first | (exfalso; omega) | (exfalso; dsimp only at hc; omega) | skip)
             | ((with_reducible show CallEv _ _ 115 _ _ _ _ _); refine callE (k := 115) (fun β w' hbw => h115 w' (hh w' hbw)) ?_)
           all_goals first | (exfalso; omega) | exact ⟨j + 1, ⟨by omega, by rw [hCn]; exact hjn⟩, by omega, Ent.weak rfl ⟨rfl, rfl, rfl, rfl, rfl, by rw [hsj]; rfl, trivial⟩ ⟨rfl, rfl, rfl, rfl, rfl, rfl, rfl, rfl, rfl, rfl, rfl, rfl, rfl, rfl, rfl, rfl, trivial⟩ fun _ h => h⟩
          | true =>
           have hlt0 : (((f0 + q : Nat) : Int) + (s1 + (j : Int)) - 1).toNat = lN := by omega
           rw [if_pos rfl, hlt0] at hCn
           obtain ⟨G, hG⟩ : ∃ G, gnO (Tr.d ⟨days, shift, size, some ta, tc, T, some la, lc, L⟩) (i + 1) ((f0 + q : Nat) : Int) (lN : Int) = G := ⟨_, rfl⟩
           obtain ⟨HM, hHM⟩ : ∃ HM, hmO (Tr.d ⟨days, shift, size, some ta, tc, T, some la, lc, L⟩) (ALO (Tr.d ⟨days, shift, size, some ta, tc, T, some la, lc, L⟩)) (S ||| 2 ^ (i + 1)) (i + 1) (lN + 1) = HM := ⟨_, rfl⟩
           have hGb := hgb (i + 1) (f0 + q) lN (by omega) ⟨by omega, by omega⟩
           have hHb := hmO_bd hn hA (S ||| 2 ^ (i + 1)) (i + 1) (lN + 1)
           have h101 := fun w' (h : Hp ⟨days, shift, size, some ta, tc, T, some la, lc, L⟩ (ALO (Tr.d ⟨days, shift, size, some ta, tc, T, some la, lc, L⟩)) aa w') => gain_ok ⟨days, shift, size, some ta, tc, T, some la, lc, L⟩ (i + 1) ((f0 + q : Nat) : Int) (((f0 + q : Nat) : Int) + (s1 + (j : Int)) - 1) w' h.1 hn (by omega) (show i + 1 < T.length by omega) ⟨by omega, by omega, by omega, by omega⟩
           have h59 := fun w' => after_ok S a d (i + 1) (f0 + q) lN w' hS (by omega) (by omega)
           have h97 := (hPA _ (S ||| 2 ^ (i + 1)) (or_512 hS (by omega)) rfl).1 (i + 1) (lN + 1) (show i + 1 < T.length by omega) (by omega)
           unfold HomeC at h97
           have hP : spI (Tr.d ⟨days, shift, size, some ta, tc, T, some la, lc, L⟩) S a tot (i + 1) (f0 + q) lN = decide (G - p2 + HM = tot) := by unfold spI; rw [hG, hHM, hcp]
           rw [hG] at hGb
           rw [hHM] at hHb h97
           rw [hlN, hG, ← hlN] at h101
           rw [← hlN] at h59
           by_cases hPt : G - p2 + HM = tot
           · have hfd : ((List.range (T.length - 1)).findSome? fun i => spT (Tr.d ⟨days, shift, size, some ta, tc, T, some la, lc, L⟩) S a d tot (i + 1)) = some (i + 1, f0 + q, lN) := by
              refine fs_yes hall hil ?_
              show spT (Tr.d ⟨days, shift, size, some ta, tc, T, some la, lc, L⟩) S a d tot (i + 1) = _
              rw [hspT]
              refine fs_yes (k := q) (fun q' h => by rw [hqn q' h]; rfl) hql ?_
              rw [hAE, find_yes hjn hCn hjN (by rw [hP]; exact decide_eq_true hPt)]
              rfl
             rw [hfd]
             repeat'
              conv => whnf
              first
               | refine zA ?_ | refine zB ?_ | refine zC ?_ | refine zD ?_ | refine zE ?_ | refine zF ?_ | refine zG ?_ | refine zH ?_ | refine zJ ?_ | refine zI ?_ | refine splT ?_ | refine splF ?_ | refine splNot ?_
               | ((first | refine splIn ?_ ?_ | refine splD ?_ ?_ | refine splE ?_ ?_ | refine splNE ?_ ?_) <;> intro hc <;> first | (exfalso; omega) | (exfalso; dsimp only at hc; omega) | skip)
               | ((with_reducible show CallEv _ _ 115 _ _ _ _ _); refine callE (k := 115) (fun β w' hbw => h115 w' (hh w' hbw)) ?_)
               | refine And.intro (a := (_ : List _) = [] ∧ (_ : List _) = []) ⟨rfl, rfl⟩ ?_
               | refine yield_inline env mixed 0 2000 [2, 3, 4, 5, 6, 7] [0, 1, 2, 5, 6, 7, 41] rfl rfl rfl rfl rfl rfl rfl ?_
               | refine vc_eq env hasg ?_
               | refine vc_eq env hbdy ?_
               | refine nilE rfl rfl ?_
               | ((with_reducible show CallEv _ _ 101 _ _ _ _ _); refine callE (k := 101) (fun β w' hbw => h101 w' (hh w' hbw)) ?_)
               | ((with_reducible show CallEv _ _ 59 _ _ _ _ _); refine callE (k := 59) (fun β w' hbw => h59 w') ?_)
               | ((with_reducible show CallEv _ _ 97 _ _ _ _ _); refine callWR [0, 1, 2, 3, 4, 5] [(4, .obj b1 (MpOk Try.prog 118 (stD (hmO (Tr.d ⟨days, shift, size, some ta, tc, T, some la, lc, L⟩) (ALO (Tr.d ⟨days, shift, size, some ta, tc, T, some la, lc, L⟩)))))), (5, .obj b2 (MpOk Try.prog 118 (stD (bgO (Tr.d ⟨days, shift, size, some ta, tc, T, some la, lc, L⟩) (ALO (Tr.d ⟨days, shift, size, some ta, tc, T, some la, lc, L⟩))))))] (iv HM) rfl (fun β w' h1 h2 hs2 => (h97 β w' (PS.of (x := ⟨days, shift, size, some ta, tc, T, some la, lc, L⟩) (AL := (ALO (Tr.d ⟨days, shift, size, some ta, tc, T, some la, lc, L⟩))) (aa := aa) (an := an) (ac := ac) (b1 := b1) (b2 := b2) (six rfl rfl rfl rfl rfl rfl) h1 h2) (fun w2 hc => hh w2 (hs2 w2 (chg_six (x := ⟨days, shift, size, some ta, tc, T, some la, lc, L⟩) (AL := (ALO (Tr.d ⟨days, shift, size, some ta, tc, T, some la, lc, L⟩))) (aa := aa) (an := an) (ac := ac) (b1 := b1) (b2 := b2) (six rfl rfl rfl rfl rfl rfl) hc)))).mono fun e w2 ⟨e1, e2, e3⟩ => ⟨e1, (PS.of (x := ⟨days, shift, size, some ta, tc, T, some la, lc, L⟩) (AL := (ALO (Tr.d ⟨days, shift, size, some ta, tc, T, some la, lc, L⟩))) (aa := aa) (an := an) (ac := ac) (b1 := b1) (b2 := b2) (six rfl rfl rfl rfl rfl rfl) h1 h2).chg e2, e3.out⟩) ?_)
               | refine Exists.intro (α := List Value) [.slice (some ra) T.length rc] ⟨⟨rfl, fun w' hw' => eL w' (hh w' hw')⟩, ?_⟩
               | refine Exists.intro (α := List Value) [iv p2] ⟨⟨rfl, fun w' hw' => ep w' (hh w' hw')⟩, ?_⟩
             all_goals first | (exfalso; omega) | exact ⟨fun β => by (show Value.tuple #[.agg #[iv ((i + 1 : Nat) : Int), iv ((f0 + q : Nat) : Int), iv (((f0 + q : Nat) : Int) + (s1 + (j : Int)) - 1)], .bool true] = _); rw [hlN]; rfl, ⟨rfl, rfl, rfl, rfl, rfl, rfl, trivial⟩, fun w' h => h, rfl⟩
           · have hnx : (ALp (Tr.d ⟨days, shift, size, some ta, tc, T, some la, lc, L⟩) (i + 1) (f0 + q) (j + 1)).find? (spI (Tr.d ⟨days, shift, size, some ta, tc, T, some la, lc, L⟩) S a tot (i + 1) (f0 + q)) = none := by
              rw [hCn, List.find?_append, hjn, Option.none_or, List.find?_cons, hP, decide_eq_false hPt]; rfl
             repeat'
              conv => whnf
              first
               | refine zA ?_ | refine zB ?_ | refine zC ?_ | refine zD ?_ | refine zE ?_ | refine zF ?_ | refine zG ?_ | refine zH ?_ | refine zJ ?_ | refine zI ?_ | refine splT ?_ | refine splF ?_ | refine splNot ?_
               | ((first | refine splIn ?_ ?_ | refine splD ?_ ?_ | refine splE ?_ ?_ | refine splNE ?_ ?_) <;> intro hc <;> first | (exfalso; omega) | (exfalso; dsimp only at hc; omega) | skip)
               | ((with_reducible show CallEv _ _ 115 _ _ _ _ _); refine callE (k := 115) (fun β w' hbw => h115 w' (hh w' hbw)) ?_)
               | refine And.intro (a := (_ : List _) = [] ∧ (_ : List _) = []) ⟨rfl, rfl⟩ ?_
               | refine yield_inline env mixed 0 2000 [2, 3, 4, 5, 6, 7] [0, 1, 2, 5, 6, 7, 41] rfl rfl rfl rfl rfl rfl rfl ?_
               | refine vc_eq env hasg ?_
               | refine vc_eq env hbdy ?_
               | refine nilE rfl rfl ?_
               | ((with_reducible show CallEv _ _ 101 _ _ _ _ _); refine callE (k := 101) (fun β w' hbw => h101 w' (hh w' hbw)) ?_)
               | ((with_reducible show CallEv _ _ 59 _ _ _ _ _); refine callE (k := 59) (fun β w' hbw => h59 w') ?_)
               | ((with_reducible show CallEv _ _ 97 _ _ _ _ _); refine callWR [0, 1, 2, 3, 4, 5] [(4, .obj b1 (MpOk Try.prog 118 (stD (hmO (Tr.d ⟨days, shift, size, some ta, tc, T, some la, lc, L⟩) (ALO (Tr.d ⟨days, shift, size, some ta, tc, T, some la, lc, L⟩)))))), (5, .obj b2 (MpOk Try.prog 118 (stD (bgO (Tr.d ⟨days, shift, size, some ta, tc, T, some la, lc, L⟩) (ALO (Tr.d ⟨days, shift, size, some ta, tc, T, some la, lc, L⟩))))))] (iv HM) rfl (fun β w' h1 h2 hs2 => (h97 β w' (PS.of (x := ⟨days, shift, size, some ta, tc, T, some la, lc, L⟩) (AL := (ALO (Tr.d ⟨days, shift, size, some ta, tc, T, some la, lc, L⟩))) (aa := aa) (an := an) (ac := ac) (b1 := b1) (b2 := b2) (six rfl rfl rfl rfl rfl rfl) h1 h2) (fun w2 hc => hh w2 (hs2 w2 (chg_six (x := ⟨days, shift, size, some ta, tc, T, some la, lc, L⟩) (AL := (ALO (Tr.d ⟨days, shift, size, some ta, tc, T, some la, lc, L⟩))) (aa := aa) (an := an) (ac := ac) (b1 := b1) (b2 := b2) (six rfl rfl rfl rfl rfl rfl) hc)))).mono fun e w2 ⟨e1, e2, e3⟩ => ⟨e1, (PS.of (x := ⟨days, shift, size, some ta, tc, T, some la, lc, L⟩) (AL := (ALO (Tr.d ⟨days, shift, size, some ta, tc, T, some la, lc, L⟩))) (aa := aa) (an := an) (ac := ac) (b1 := b1) (b2 := b2) (six rfl rfl rfl rfl rfl rfl) h1 h2).chg e2, e3.out⟩) ?_)
               | refine Exists.intro (α := List Value) [.slice (some ra) T.length rc] ⟨⟨rfl, fun w' hw' => eL w' (hh w' hw')⟩, ?_⟩
               | refine Exists.intro (α := List Value) [iv p2] ⟨⟨rfl, fun w' hw' => ep w' (hh w' hw')⟩, ?_⟩
             all_goals first | (exfalso; omega) | exact ⟨j + 1, ⟨by omega, hnx⟩, by omega, Ent.ren (rho []) rfl rfl ⟨rfl, rfl, rfl, rfl, rfl, by rw [hsj]; rfl, trivial⟩ ⟨rfl, rfl, rfl, rfl, rfl, rfl, rfl, rfl, rfl, rfl, rfl, rfl, rfl, rfl, rfl, rfl, trivial⟩ fun _ h => h⟩
        · obtain rfl : j = N := by omega
          rw [← hAE] at hjn
          repeat'
           conv => whnf
           first
            | refine zA ?_ | refine zB ?_ | refine zC ?_ | refine zD ?_ | refine zE ?_ | refine zF ?_ | refine zG ?_ | refine zH ?_ | refine zJ ?_ | refine zI ?_ | refine splT ?_ | refine splF ?_ | refine splNot ?_
            | ((first | refine splIn ?_ ?_ | refine splD ?_ ?_ | refine splE ?_ ?_ | refine splNE ?_ ?_) <;> intro hc <;> first | (exfalso; omega) | (exfalso; dsimp only at hc; omega) | skip)
          all_goals first | (exfalso; omega) | exact ⟨q + 1, ⟨by omega, fun q' h => by rcases (by omega : q' < q ∨ q' = q) with h | rfl; exact hqn q' h; exact hjn⟩, by omega, Ent.weak rfl ⟨rfl, rfl, rfl, rfl, rfl, trivial⟩ ⟨rfl, rfl, rfl, rfl, rfl, rfl, rfl, rfl, rfl, rfl, rfl, rfl, rfl, rfl, rfl, rfl, trivial⟩ fun _ h => h⟩
      · have hno : spT (Tr.d ⟨days, shift, size, some ta, tc, T, some la, lc, L⟩) S a d tot (i + 1) = none := by
         rw [hspT]
         exact fs_no fun q' h => by rw [hqn q' (by omega)]; rfl
        repeat'
         conv => whnf
         first
          | refine zA ?_ | refine zB ?_ | refine zC ?_ | refine zD ?_ | refine zE ?_ | refine zF ?_ | refine zG ?_ | refine zH ?_ | refine zJ ?_ | refine zI ?_ | refine splT ?_ | refine splF ?_ | refine splNot ?_
          | ((first | refine splIn ?_ ?_ | refine splD ?_ ?_ | refine splE ?_ ?_ | refine splNE ?_ ?_) <;> intro hc <;> first | (exfalso; omega) | (exfalso; dsimp only at hc; omega) | skip)
        all_goals first | (exfalso; omega) | exact ⟨i + 1, ⟨by omega, fun i' h => by rcases (by omega : i' < i ∨ i' = i) with h | rfl; exact hall i' h; exact hno⟩, by omega, Ent.ren (rho [(11, 16)]) rfl rfl ⟨rfl, rfl, rfl, rfl, rfl, rfl, trivial⟩ ⟨rfl, rfl, rfl, rfl, rfl, rfl, rfl, rfl, rfl, rfl, rfl, rfl, trivial⟩ fun _ h => h⟩
   · obtain rfl : i = T.length - 1 := by omega
     rw [fs_no hall]
     repeat'
      conv => whnf
      first
       | refine zA ?_ | refine zB ?_ | refine zC ?_ | refine zD ?_ | refine zE ?_ | refine zF ?_ | refine zG ?_ | refine zH ?_ | refine zJ ?_ | refine zI ?_ | refine splT ?_ | refine splF ?_ | refine splNot ?_
       | ((first | refine splIn ?_ ?_ | refine splD ?_ ?_ | refine splE ?_ ?_ | refine splNE ?_ ?_) <;> intro hc <;> first | (exfalso; omega) | (exfalso; dsimp only at hc; omega) | skip)
       | refine nilE rfl rfl ?_
     all_goals first | (exfalso; omega) | exact ⟨fun β => rfl, ⟨rfl, rfl, rfl, rfl, rfl, rfl, trivial⟩, fun w' h => h, rfl⟩
end Go.Proofs.Ythfabodamhdhaaa
namespace Go.Proofs.Ythfabodamhdhaaa
open Go Tx Go.RowKit
set_option linter.unusedSimpArgs false
set_option linter.unusedVariables false
theorem fs_some {α : Type} {g : Nat → Option α} {n : Nat} {v : α} (h : (List.range n).findSome? g = some v) : ∃ k, k < n ∧ g k = some v := by
 obtain ⟨l₁, a, l₂, h1, h2, h3⟩ := List.findSome?_eq_some_iff.1 h
 refine ⟨a, ?_, h2⟩
 have : a ∈ List.range n := by rw [h1]; simp
 exact List.mem_range.1 this
theorem spO_some {x : To} (hn : ToN x) {S a d t f l : Nat} (h : spO x S a d = some (t, f, l)) : 1 ≤ t ∧ t < x.T.length ∧ S.testBit t = false ∧ f ≤ l ∧ (l : Int) ≤ x.days - 1 := by
 unfold spO at h
 split at h
 · cases h
 · obtain ⟨i, h1, h2⟩ := fs_some h
   unfold spT at h2
   split at h2
   · cases h2
   · rename_i hb
     obtain ⟨q, h3, h4⟩ := fs_some h2
     rw [Option.map_eq_some_iff] at h4
     obtain ⟨l', h5, h6⟩ := h4
     simp only [Prod.mk.injEq] at h6
     obtain ⟨rfl, rfl, rfl⟩ := h6
     have hm := ALO_ok hn (i + 1) (d + lsN x a (i + 1) + q) (by omega) (by omega) l' (List.mem_of_find?_eq_some h5)
     exact ⟨by omega, by omega, by simpa using hb, hm.1, by omega⟩
def seqO (x : To) : Nat → Nat → Nat → Nat → List (Int × Int × Int)
 | 0, _, _, _ => []
 | n + 1, S, a, d => match spO x S a d with
  | some (t, f, l) => ((t : Int), (f : Int), (l : Int)) :: seqO x n (S ||| 2 ^ t) t (l + 1)
  | none => []
def bsS (x : To) : List (Int × Int × Int) := seqO x (x.T.length) 0 0 0
theorem spO_none {x : To} (hn : ToN x) {S a d : Nat} (h : unp (x.T.length - 1) S = 0) : spO x S a d = none := by
 cases hs : spO x S a d with
 | none => rfl
 | some s =>
  obtain ⟨t, f, l⟩ := s
  obtain ⟨h1, h2, h3, _⟩ := spO_some hn hs
  have := unp_or (n := x.T.length - 1) (t := t - 1) (S := S) (by omega) (by rwa [show t - 1 + 1 = t from by omega])
  omega
end Go.Proofs.Ythfabodamhdhaaa
namespace Go.Proofs.Ythfabodamhdhaaa
open Go Tx Go.RowKit
set_option linter.unusedSimpArgs false
set_option linter.unusedVariables false
section
variable (x : Tr) (AL : Nat → Nat → List Nat) (aa : Alp) (an ac b1 b2 : Nat)
abbrev MB1 : List (Nat × Blk) := [(5, .obj b1 (MpOk Try.prog 118 (stD (hmO x.d AL)))), (6, .obj b2 (MpOk Try.prog 118 (stD (bgO x.d AL)))), (1, .cells [.ptr 3 0] 114), (2, .cells [.v (.map (some b1))] 169),
 (3, .cells [.v (iv x.days), .v (iv x.shift), .v (iv x.size), .v (.slice x.to x.T.length x.tc), .v (.slice x.lo x.L.length x.lc), .v (.slice (some aa.aa) an ac), .fn (.func 97) [.ptr 2 0, .ptr 1 0], .fn (.func 100) [.ptr 1 0, .ptr 4 0]] 122), (4, .cells [.v (.map (some b2))] 169)]
end
section
variable {x : Tr} {AL : Nat → Nat → List Nat} {aa : Alp} {an ac b1 b2 : Nat}
theorem six1 {p : Nat → Prop} (h1 : p 1) (h2 : p 2) (h3 : p 3) (h4 : p 4) (h5 : p 5) (h6 : p 6) : ∀ i, i < 6 → p (i + 1) := fun i hi => by
 rcases (by omega : i = 0 ∨ i = 1 ∨ i = 2 ∨ i = 3 ∨ i = 4 ∨ i = 5) with rfl | rfl | rfl | rfl | rfl | rfl <;> assumption
theorem lk6 {m m' : List (Nat × Blk)} (h1 : lk m 1 = lk m' 1) (h2 : lk m 2 = lk m' 2) (h3 : lk m 3 = lk m' 3) (h4 : lk m 4 = lk m' 4) (h5 : lk m 5 = lk m' 5) (h6 : lk m 6 = lk m' 6) : ∀ i, i < 6 → lk m (i + 1) = lk m' (i + 1) := six1 (p := fun i => lk m i = lk m' i) h1 h2 h3 h4 h5 h6
theorem MB1_shift {β : Nat → Nat} {w : World} {b : Nat} : ∀ i bk, lk (MB x AL aa an ac b1 b2) i = some bk → ∃ bk1, lk (MB1 x AL aa an ac b1 b2) (i + 1) = some bk1 ∧ (bk1.ok β w b → bk.ok (fun i => β (i + 1)) w b) ∧ (bk.ok (fun i => β (i + 1)) w b → bk1.ok β w b) ∧ bk1.live = true := fun i bk hi => by
 have hm := lk_mem hi
 simp only [MB, List.mem_cons, Prod.mk.injEq, List.not_mem_nil, or_false] at hm
 rcases hm with ⟨rfl, rfl⟩ | ⟨rfl, rfl⟩ | ⟨rfl, rfl⟩ | ⟨rfl, rfl⟩ | ⟨rfl, rfl⟩ | ⟨rfl, rfl⟩ <;> exact ⟨_, rfl, id, id, rfl⟩
theorem PS.of1 {σ : Sg} {β : Nat → Nat} {w : World} (hm : ∀ i, i < 6 → lk σ.m (i + 1) = lk (MB1 x AL aa an ac b1 b2) (i + 1)) (h1 : ∀ i ∈ [1, 2, 3, 4, 5, 6], ∀ b, lk σ.m i = some b → b.ok β w (β i))
 (h2 : ∀ i ∈ [1, 2, 3, 4, 5, 6], ∀ j ∈ [1, 2, 3, 4, 5, 6], ∀ bi bj, lk σ.m i = some bi → lk σ.m j = some bj → bi.live = true → bj.live = true → i ≠ j → β i ≠ β j) : PS x AL aa an ac b1 b2 (fun i => β (i + 1)) w := by
 have hmem : ∀ i, i < 6 → i + 1 ∈ [1, 2, 3, 4, 5, 6] := fun i hi => by simp; omega
 refine ⟨fun i b hi => ?_, fun i j hi hj hne => ?_⟩
 · obtain ⟨b', e1, e2, _, _⟩ := MB1_shift (β := β) (w := w) (b := β (i + 1)) i b hi
   exact e2 (h1 (i + 1) (hmem i (lkMB hi).1) b' (by rw [hm i (lkMB hi).1]; exact e1))
 · obtain ⟨bi, ei⟩ := MB_some (x := x) (AL := AL) (aa := aa) (an := an) (ac := ac) (b1 := b1) (b2 := b2) hi
   obtain ⟨bj, ej⟩ := MB_some (x := x) (AL := AL) (aa := aa) (an := an) (ac := ac) (b1 := b1) (b2 := b2) hj
   obtain ⟨bi', e1, _, _, l1⟩ := MB1_shift (β := β) (w := w) (b := 0) i bi ei
   obtain ⟨bj', f1, _, _, l2⟩ := MB1_shift (β := β) (w := w) (b := 0) j bj ej
   exact h2 (i + 1) (hmem i hi) (j + 1) (hmem j hj) bi' bj' (by rw [hm i hi]; exact e1) (by rw [hm j hj]; exact f1) l1 l2 (by omega)
theorem PS.chg1 {β : Nat → Nat} {w w' : World} (h : PS x AL aa an ac b1 b2 (fun i => β (i + 1)) w) (hc : Chg (fun b => b = b1 ∨ b = b2) w w') : Chg (fun b => ∃ i bk, (i, bk) ∈ [(5, Blk.obj b1 (MpOk Try.prog 118 (stD (hmO x.d AL)))), (6, Blk.obj b2 (MpOk Try.prog 118 (stD (bgO x.d AL))))] ∧ β i = b) w w' :=
 ⟨hc.os, hc.tape, hc.output, hc.size, fun b hb hn => hc.same b hb fun h2 => hn (by
  rcases h2 with rfl | rfl
  · exact ⟨5, _, List.mem_cons_self .., (h.o 4 _ rfl).1⟩
  · exact ⟨6, _, List.mem_cons_of_mem _ (List.mem_cons_self ..), (h.o 5 _ rfl).1⟩)⟩
theorem PS.out1 {β : Nat → Nat} {w : World} (h : PS x AL aa an ac b1 b2 (fun i => β (i + 1)) w) : ∀ i b, (i, b) ∈ [(5, Blk.obj b1 (MpOk Try.prog 118 (stD (hmO x.d AL)))), (6, Blk.obj b2 (MpOk Try.prog 118 (stD (bgO x.d AL))))] → b.ok β w (β i) := fun i b hm => by
 simp only [List.mem_cons, Prod.mk.injEq, List.not_mem_nil, or_false] at hm
 rcases hm with ⟨rfl, rfl⟩ | ⟨rfl, rfl⟩
 · exact h.o 4 _ rfl
 · exact h.o 5 _ rfl
theorem chg_six1 {σ : Sg} {β : Nat → Nat} {w w' : World} (hm : ∀ i, i < 6 → lk σ.m (i + 1) = lk (MB1 x AL aa an ac b1 b2) (i + 1)) (hc : Chg (fun b => ∃ i, i < 6 ∧ β (i + 1) = b) w w') : Chg (fun b => ∃ i ∈ [1, 2, 3, 4, 5, 6], (∃ bk, lk σ.m i = some bk ∧ bk.live = true) ∧ β i = b) w w' :=
 ⟨hc.os, hc.tape, hc.output, hc.size, fun b hb hn => hc.same b hb fun ⟨i, hi, hib⟩ => hn (by
  obtain ⟨bi, ei⟩ := MB_some (x := x) (AL := AL) (aa := aa) (an := an) (ac := ac) (b1 := b1) (b2 := b2) hi
  obtain ⟨bi', e1, _, _, l1⟩ := MB1_shift (β := β) (w := w) (b := 0) i bi ei
  exact ⟨i + 1, by simp; omega, ⟨bi', by rw [hm i hi]; exact e1, l1⟩, hib⟩)⟩
end
theorem plan_F (x : Tr) (w : World) (h : TrIn x w) (hn : ToN x.d) (β : Nat → Nat) : Calls Try.prog 57 #[x.v] w fun e w' => ∃ (p : Alp × Nat × Nat × Nat × Nat) (γ : Nat → Nat), e = .returned ((SV.ptr 3 0).c γ) ∧ (∀ i, i < 1 → γ i = β i) ∧ Below w.heap.size w w' ∧
 (∀ i b, lk (MB1 x (ALO x.d) p.1 p.2.1 p.2.2.1 p.2.2.2.1 p.2.2.2.2) i = some b → w.heap.size ≤ γ i ∧ b.ok γ w' (γ i)) ∧
 (∀ i j bi bj, lk (MB1 x (ALO x.d) p.1 p.2.1 p.2.2.1 p.2.2.2.1 p.2.2.2.2) i = some bi → lk (MB1 x (ALO x.d) p.1 p.2.1 p.2.2.1 p.2.2.2.1 p.2.2.2.2) j = some bj → i ≠ j → γ i ≠ γ j) ∧
 ∀ w2, w'.heap.size ≤ w2.heap.size → (∀ c, w.heap.size ≤ c → c < w'.heap.size → (∀ i b, lk (MB1 x (ALO x.d) p.1 p.2.1 p.2.2.1 p.2.2.2.1 p.2.2.2.2) i = some b → γ i ≠ c) → w2.heap[c]? = w'.heap[c]?) → p.2.1 = x.T.length ∧ AlIn x.d (ALO x.d) p.1 w2 := by
 refine (plan_ok x w h hn).mono fun e w' ⟨aa, an, ac, b1, b2, δ, h1, h2, h3, h4, h5, h6⟩ => ?_
 let γ : Nat → Nat := fun i => match i with | 0 => β 0 | i + 1 => δ i
 have hlk : ∀ i b, lk (MB1 x (ALO x.d) aa an ac b1 b2) i = some b → 1 ≤ i ∧ i - 1 < 6 ∧ i - 1 + 1 = i := fun i b hi => by
  have hm := lk_mem hi
  simp only [MB1, List.mem_cons, Prod.mk.injEq, List.not_mem_nil, or_false] at hm
  omega
 have hγ : ∀ i, γ (i + 1) = δ i := fun _ => rfl
 refine ⟨(aa, an, ac, b1, b2), γ, h1, fun i hi => ?_, h3, fun i b hi => ?_, fun i j bi bj hi hj hne => ?_, fun w2 hs hk => ⟨h2, h6 w2 hs fun c c1 c2 c3 => hk c c1 c2 fun i b hi => ?_⟩⟩
 · obtain rfl : i = 0 := by omega
   rfl
 · obtain ⟨q1, q2, q3⟩ := hlk i b hi
   refine ⟨by rw [← q3, hγ]; exact h5 _ q2, ?_⟩
   have hm := lk_mem hi
   simp only [MB1, List.mem_cons, Prod.mk.injEq, List.not_mem_nil, or_false] at hm
   rcases hm with ⟨rfl, rfl⟩ | ⟨rfl, rfl⟩ | ⟨rfl, rfl⟩ | ⟨rfl, rfl⟩ | ⟨rfl, rfl⟩ | ⟨rfl, rfl⟩
   · exact h4.o 4 _ rfl
   · exact h4.o 5 _ rfl
   · exact h4.o 0 _ rfl
   · exact h4.o 1 _ rfl
   · exact h4.o 2 _ rfl
   · exact h4.o 3 _ rfl
 · obtain ⟨q1, q2, q3⟩ := hlk i bi hi
   obtain ⟨r1, r2, r3⟩ := hlk j bj hj
   rw [← q3, ← r3, hγ, hγ]
   exact h4.inj _ _ q2 r2 (by omega)
 · obtain ⟨q1, q2, q3⟩ := hlk i b hi
   rw [← q3, hγ]
   exact c3 _ q2
end Go.Proofs.Ythfabodamhdhaaa
namespace Go.Proofs.Ythfabodamhdhaaa
open Go Tx Go.RowKit
set_option linter.unusedSimpArgs false
set_option linter.unusedVariables false
def bsV (x : To) : List (Int × Int × Int) × Int × Int := if toB x = true then (bsS x, hmO x (ALO x) 0 0 0, 0) else ([], 0, 1)
end Go.Proofs.Ythfabodamhdhaaa
namespace Go.Proofs.Ythfabodamhdhaaa
open Go Tx Go.RowKit
set_option linter.unusedSimpArgs false
set_option linter.unusedVariables false
structure Iw where
 o : Option Addr
 c : Nat
 xs : List Int
abbrev Iw.cs (r : Iw) : List Value := [.slice r.o r.xs.length r.c]
end Go.Proofs.Ythfabodamhdhaaa
namespace Go.Proofs.Ythfabodamhdhaaa
open Go Tx Go.RowKit
set_option linter.unusedSimpArgs false
set_option linter.unusedVariables false
structure TbG where
 o : Nat
 c : Nat
 D : List (Nat × Nat)
abbrev TbG.v (y : TbG) : Value := .slice (some ⟨y.o, 0, none⟩) y.D.length y.c
structure TbIn (m N : Nat) (y : TbG) (C : List (List Int)) (w : World) : Prop where
 l : C.length = y.D.length
 n : ∀ r ∈ C, r.length = N
 h : w.ownsRow 0 43 1 (.slice (some ⟨y.o, 0, none⟩) y.D.length y.c) y.D.length (y.D.map fun p => .slice (some ⟨p.1, 0, none⟩) N p.2)
 r : ∀ (i : Nat) (p : Nat × Nat) (xs : List Int), y.D[i]? = some p → C[i]? = some xs → w.ownsRow 0 3 1 (.slice (some ⟨p.1, 0, none⟩) N p.2) N (xs.flatMap iF)
 d : (y.D.map Prod.fst).Nodup
 a : ∀ p ∈ y.D, m ≤ p.1 ∧ p.1 ≠ y.o
 m : m ≤ y.o
def TbG.rw (y : TbG) (C : List (List Int)) : List Iw := (y.D.zip C).map fun p => ⟨some ⟨p.1.1, 0, none⟩, p.1.2, p.2⟩
theorem TbG.rw_len {y : TbG} {C : List (List Int)} (h : C.length = y.D.length) : (y.rw C).length = y.D.length := by simp [TbG.rw, h]
theorem TbG.rw_mem {y : TbG} {C : List (List Int)} {r : Iw} (h : r ∈ y.rw C) : ∃ (i : Nat) (p : Nat × Nat) (xs : List Int), y.D[i]? = some p ∧ C[i]? = some xs ∧ r = ⟨some ⟨p.1, 0, none⟩, p.2, xs⟩ := by
 obtain ⟨i, hi⟩ := List.mem_iff_getElem?.1 h
 simp only [TbG.rw, List.getElem?_map] at hi
 cases hz : (y.D.zip C)[i]? with
 | none => rw [hz] at hi; cases hi
 | some q =>
  rw [hz, Option.map_some, Option.some.injEq] at hi
  obtain ⟨h1, h2⟩ := List.getElem?_zip_eq_some.1 hz
  exact ⟨i, q.1, q.2, h1, h2, hi.symm⟩
theorem TbIn.out {m N : Nat} {y : TbG} {C : List (List Int)} {w : World} (h : TbIn m N y C w) : Rd 1 Iw.cs (.slice (some ⟨y.o, 0, none⟩) y.D.length y.c) (y.rw C) w :=
 .inr ⟨⟨y.o, 0, none⟩, y.c, by rw [TbG.rw_len h.l], fun k b hk j v hv => by
  obtain ⟨i, p, xs, h1, h2, rfl⟩ : ∃ (i : Nat) (p : Nat × Nat) (xs : List Int), y.D[k]? = some p ∧ C[k]? = some xs ∧ b = ⟨some ⟨p.1, 0, none⟩, p.2, xs⟩ := by
   simp only [TbG.rw, List.getElem?_map] at hk
   cases hz : (y.D.zip C)[k]? with
   | none => rw [hz] at hk; cases hk
   | some q =>
    rw [hz, Option.map_some, Option.some.injEq] at hk
    obtain ⟨h1, h2⟩ := List.getElem?_zip_eq_some.1 hz
    exact ⟨k, q.1, q.2, h1, h2, hk.symm⟩
  match j, hv with
  | 0, hv =>
   have hN := h.n xs (List.mem_of_getElem? h2)
   have hv2 : (y.D.map fun p => Value.slice (some ⟨p.1, 0, none⟩) N p.2)[k]? = some v := by
    rw [List.getElem?_map, h1, Option.map_some, ← hN]; exact hv
   have := h.h.cells (g := y.o) rfl _ _ hv2
   rw [own_add, Nat.zero_add] at this
   rw [own_add, own_add, Nat.zero_add, Nat.mul_one]
   exact this⟩
theorem TbIn.row {m N : Nat} {y : TbG} {C : List (List Int)} {w : World} (h : TbIn m N y C w) : ∀ r ∈ y.rw C, Rd 1 iF (.slice r.o r.xs.length r.c) r.xs w := fun r hr => by
 obtain ⟨i, p, xs, h1, h2, rfl⟩ := TbG.rw_mem hr
 have hN := h.n xs (List.mem_of_getElem? h2)
 dsimp only
 have := h.r i p xs h1 h2
 rw [← hN] at this
 exact Rd.of_owns (sz := 1) (f := iF) (fun _ => rfl) rfl rfl this
theorem TbIn.keep {m N : Nat} {y : TbG} {C : List (List Int)} {w w2 : World} (h : TbIn m N y C w) (hs : ∀ c, m ≤ c → c < w.heap.size → w2.heap[c]? = w.heap[c]?) : TbIn m N y C w2 :=
 ⟨h.l, h.n, own_keep h.h (hs _ h.m (by obtain ⟨c, hc⟩ := own_heap h.h; exact (Array.getElem?_eq_some_iff.1 hc).1)), fun i p xs h1 h2 => own_keep (h.r i p xs h1 h2) (hs _ (h.a p (List.mem_of_getElem? h1)).1 (by obtain ⟨c, hc⟩ := own_heap (h.r i p xs h1 h2); exact (Array.getElem?_eq_some_iff.1 hc).1)), h.d, h.a, h.m⟩
theorem TbIn.st {m N : Nat} {y : TbG} {C : List (List Int)} {w : World} (h : TbIn m N y C w) : St m (TbIn m N y C) w := fun w2 k => h.keep fun c h1 h2 => k.same c h1 h2
theorem TbIn.set {m N : Nat} {y : TbG} {C : List (List Int)} {w : World} {i j : Nat} {p : Nat × Nat} {xs0 : List Int} {v : Int} (h : TbIn m N y C w) (hr : y.D[i]? = some p) (hx0 : C[i]? = some xs0) (hj : j < N) :
 TbIn m N y (C.set i (xs0.set j v)) (w.setCell ⟨p.1, j, none⟩ (iv v)) := by
 have hpa := h.a p (List.mem_of_getElem? hr)
 have hN := h.n xs0 (List.mem_of_getElem? hx0)
 refine ⟨by rw [List.length_set]; exact h.l, fun r hm => ?_, own_keep h.h (setCell_other fun e => hpa.2 e.symm), fun k q xs hq hx => ?_, h.d, h.a, h.m⟩
 · rcases List.mem_or_eq_of_mem_set hm with hm | rfl
   · exact h.n r hm
   · rw [List.length_set]; exact hN
 · by_cases hp : k = i
   · subst hp
     rw [hr, Option.some.injEq] at hq
     subst hq
     rw [List.getElem?_set, if_pos rfl, if_pos (List.getElem?_eq_some_iff.1 hx0).1, Option.some.injEq] at hx
     subst hx
     have := (World.ownsRow.stored (h.r k p xs0 hr hx0) j (iv v)).1
     have e : (xs0.flatMap iF).set j (iv v) = (xs0.set j v).flatMap iF := by
      rw [← setF (by omega), List.set_eq_take_append_cons_drop, if_pos (by rw [lenF]; omega)]; rfl
     rw [e] at this
     exact this
   · rw [List.getElem?_set, if_neg (fun e => hp e.symm)] at hx
     refine own_keep (h.r k q xs hq hx) (setCell_other fun e => ?_)
     have e1 : (y.D.map Prod.fst)[k]? = some q.1 := by rw [List.getElem?_map, hq]; rfl
     have e2 : (y.D.map Prod.fst)[i]? = some p.1 := by rw [List.getElem?_map, hr]; rfl
     have e : q.1 = p.1 := e
     rw [e] at e1
     exact hp ((List.getElem?_inj (List.getElem?_eq_some_iff.1 e1).1 h.d).1 (e1.trans e2.symm))
def setT (R : List (List Int)) (a d : Nat) (v : Int) : List (List Int) := R.set a (((R[a]?).getD []).set d v)
end Go.Proofs.Ythfabodamhdhaaa
namespace Go.Proofs.Ythfabodamhdhaaa.Tx
open Go Go.RowKit
set_option linter.unusedSimpArgs false
set_option linter.unusedVariables false
theorem Dis.mk5 {α : Type} {nt nb nb' : Nat} {t : List (Nat × SV)} {m : List (Nat × Blk)} {h : World → Prop} {z : Gz} (ρ : Nat → Nat) (L : List Nat) {t' : α → List (Nat × SV)} {m' : α → List (Nat × Blk)} {h' : α → World → Prop} {pre : α → Prop} {w0 : World}
 (hz : GEqR ρ z.g) (hL : ∀ i ∈ L, ∃ b, lk m i = some b ∧ b.live = true) (hbel : ∀ w, h w → Below w0.heap.size w0 w)
 (hx : ∀ β w, (∀ i b, lk m i = some b → b.ok β w (β i)) → h w → (∀ i b, lk m i = some b → b.live = true → w0.heap.size ≤ β i) → (∀ i b c, lk m i = some b → b.live = true → (∀ w, h w → ∃ cs ty fr, w.heap[c]? = some (.cells cs ty fr)) → β i ≠ c) → (∀ i j bi bj, lk m i = some bi → lk m j = some bj → bi.live = true → bj.live = true → i ≠ j → β i ≠ β j) →
  ∃ x, pre x ∧ TEqR ρ β t (t' x) ∧ MEqR ρ L β m (m' x) ∧ injR ρ (m' x) = true ∧ ∀ w2, h w2 → (∀ i ∈ L, ∀ b, lk m i = some b → b.ok β w2 (β i)) → h' x w2) :
 Dis ⟨nt, t, m, nb, h, z⟩ (fun x => ⟨nt, t' x, m' x, nb', h' x, z⟩) pre := by
 unfold Dis
 rintro X a w ⟨β, D, hs⟩
 have hmem := hs.mem
 obtain ⟨x, hp, ht, hm, hinj, hh⟩ := hx β w hs.m (hs.h w (Chg.refl _ _)) (fun i b hi hl => Nat.le_of_not_lt fun hlt => hmem.out i b hi hl (hmem.old hbel hlt)) (fun i b c hi hl hc e => hs.out i b hi hl (by rw [e]; exact hs.dof hc)) (fun i j bi bj hi hj l1 l2 hne => hs.inj i j bi bj hi hj l1 l2 hne)
 have hLc : ∀ i ∈ L, ∃ o, w.heap[β i]? = some o ∧ IsMem o := fun i hi => by
  obtain ⟨b, h1, h2⟩ := hL i hi
  exact Blk.ok_cells h2 (hs.m i b h1)
 have hno : ∀ (d : Nat) (o : Obj), w.heap[d]? = some o → Other o → ¬ ∃ i ∈ L, β i = d := by
  rintro d o h1 h2 ⟨i, hi, rfl⟩
  obtain ⟨o3, h3, h4⟩ := hLc i hi
  rw [h1] at h3
  cases h3
  exact h2 h4
 refine ⟨x, hp, fun i => β (ρ i), fun b => D b ∨ ∃ i ∈ L, β i = b, ?_, hs.size, ?_, ?_, ?_, ?_, ?_, ?_, ?_⟩
 · obtain ⟨l, l1, l2, l3⟩ := hs.defers
   refine ⟨l, l1, l2, fun d hd => ⟨(l3 d hd).1, ?_, (l3 d hd).2.2⟩⟩
   rintro (h1 | h1)
   · exact (l3 d hd).2.1 h1
   · exact hno d _ (l3 d hd).1 (fun h => h) h1
 · intro k s hk
   obtain ⟨s', h1, h2⟩ := ht.get k s hk
   rw [← h2]; exact hs.t k s' h1
 · intro i b hi
   obtain ⟨_, b', h1, _, h2⟩ := hm.get i b hi
   exact h2 _ _ (hs.m _ b' h1)
 · intro i j bi bj hi hj h1 h2 hne
   obtain ⟨_, b', hi', l1, _⟩ := hm.get i bi hi
   obtain ⟨_, b2', hj', l2, _⟩ := hm.get j bj hj
   exact hs.inj _ _ _ _ hi' hj' (l1 h1) (l2 h2) (injR_spec hinj i j (lk_key hi) (lk_key hj) hne)
 · intro i b hi hl
   obtain ⟨hn, b', hi', l1, _⟩ := hm.get i b hi
   rintro (h1 | ⟨j, hj, h1⟩)
   · exact hs.out _ _ hi' (l1 hl) h1
   · obtain ⟨bj, h2, h3⟩ := hL j hj
     refine hs.inj j _ _ _ h2 hi' h3 (l1 hl) (fun e => ?_) h1
     subst e
     exact nin_iff.1 hn hj
 · rintro b (h1 | ⟨j, hj, rfl⟩)
   · exact hs.dlt b h1
   · obtain ⟨o3, h3, _⟩ := hLc j hj
     exact (Array.getElem?_eq_some_iff.1 h3).1
 · intro w2 hc
   refine hh w2 (hs.h w2 ⟨hc.os, hc.tape, hc.output, hc.size, fun b hb hd => hc.same b hb fun h1 => hd fun h2 => h1 (.inl h2)⟩) fun i hi b hb => ?_
   obtain ⟨o3, h3, _⟩ := hLc i hi
   exact Blk.keep_at (hc.same _ (Array.getElem?_eq_some_iff.1 h3).1 fun h1 => h1 (.inr ⟨i, hi, rfl⟩)) (hs.m i b hb)
 · refine ⟨fun k s hk => (hs.amb.g k s hk).trans (hz.get k s hk β).symm, fun p hp' => ⟨(hs.amb.la p hp').1, ?_⟩, hs.amb.lq, hs.amb.dep, hs.amb.nd, fun d hd => ⟨(hs.amb.pr d hd).1, ?_⟩⟩
   · rintro (h1 | h1)
     · exact (hs.amb.la p hp').2 h1
     · obtain ⟨st, pd, h2⟩ := (hs.amb.la p hp').1
       exact hno _ _ h2 (fun h => h) h1
   · rintro (h1 | h1)
     · exact (hs.amb.pr d hd).2 h1
     · exact hno _ _ (hs.amb.pr d hd).1 (fun h => h) h1
end Go.Proofs.Ythfabodamhdhaaa.Tx
namespace Go.Proofs.Ythfabodamhdhaaa
open Go Tx Go.RowKit
set_option linter.unusedSimpArgs false
set_option linter.unusedVariables false
end Go.Proofs.Ythfabodamhdhaaa
namespace Go.Proofs.Ythfabodamhdhaaa
open Go Tx Go.RowKit
set_option linter.unusedSimpArgs false
set_option linter.unusedVariables false
set_option maxRecDepth 100000
end Go.Proofs.Ythfabodamhdhaaa
namespace Go.Proofs.Ythfabodamhdhaaa
open Go Tx Go.RowKit
set_option linter.unusedSimpArgs false
set_option linter.unusedVariables false
theorem ends_ok (r1 r2 lo hi : Int) (w : World) : Calls Try.prog 102 #[.agg #[iv r1, iv r2], iv lo, iv hi] w fun e w' => e = .returned (.bool (rgB lo hi (r1, r2))) ∧ Below w.heap.size w w' := by
 refine calls_val env mixed Try.func102 has102 Try.ntmps102 [.agg #[iv r1, iv r2], iv lo, iv hi] (by simp) ?_
 repeat'
  conv => whnf
  first
   | refine zA ?_ | refine zB ?_ | refine zC ?_ | refine zD ?_ | refine zE ?_ | refine zF ?_ | refine zG ?_ | refine zH ?_ | refine zJ ?_ | refine zI ?_ | refine splT ?_ | refine splF ?_ | refine splNot ?_
   | ((first | refine splIn ?_ ?_ | refine splD ?_ ?_ | refine splE ?_ ?_ | refine splNE ?_ ?_) <;> intro hc <;> first | (exfalso; omega) | (exfalso; dsimp only at hc; omega) | skip)
 all_goals exact ⟨fun β => congrArg Value.bool (by simp [rgB, *]), fun w' h => h⟩
theorem names67 : namesB Try.prog 67 = true := by kernel_rfl
theorem guard67 : Try.prog.eqGuardType Try.prog.depth 67 = false := by kernel_rfl
theorem eqIn67 (a b c e : Int) (w : World) : (Op.equalIn 10000 67 (.agg #[iv a, iv b]) (.agg #[iv c, iv e])).run Try.prog w = .ok (a == c && b == e) w :=
 equalIn_two tok67 rfl (by decide) names67 (part3 _ 0 _ w rfl) (part3 _ 1 _ w rfl) (part3 _ 0 _ w rfl) (part3 _ 1 _ w rfl) (eqIn3 9998 _ _ w) (eqIn3 9998 _ _ w)
theorem names127 : namesB Try.prog 127 = true := by kernel_rfl
theorem guard127 : Try.prog.eqGuardType Try.prog.depth 127 = false := by kernel_rfl
theorem eqIn127 (a b c e : Int) (w : World) : (Op.equalIn 10000 127 (.agg #[iv a, iv b]) (.agg #[iv c, iv e])).run Try.prog w = .ok (a == c && b == e) w :=
 equalIn_two tok127 rfl (by decide) names127 (part3 _ 0 _ w rfl) (part3 _ 1 _ w rfl) (part3 _ 0 _ w rfl) (part3 _ 1 _ w rfl) (eqIn3 9998 _ _ w) (eqIn3 9998 _ _ w)
theorem eqlE67 {a b c e : Int} {q : Bool} {x y : Operand} {K : Value → Prop} (hq : (a == c && b == e) = q) (h : K (.bool q)) : ∃ v, (∀ _ : Nat → Nat, RunIs Try.prog (do eqGuard .eql 67 x y (.agg #[iv a, iv b]) (.agg #[iv c, iv e]); binOp .eql 67 (.agg #[iv a, iv b]) (.agg #[iv c, iv e])) v) ∧ K v :=
 ⟨_, fun _ => runIs_eql guard67 fun w => eqIn67 _ _ _ _ w, by rw [hq]; exact h⟩
theorem neqE127 {a b c e : Int} {q : Bool} {x y : Operand} {K : Value → Prop} (hq : (!(a == c && b == e)) = q) (h : K (.bool q)) : ∃ v, (∀ _ : Nat → Nat, RunIs Try.prog (do eqGuard .neq 127 x y (.agg #[iv a, iv b]) (.agg #[iv c, iv e]); binOp .neq 127 (.agg #[iv a, iv b]) (.agg #[iv c, iv e])) v) ∧ K v :=
 ⟨_, fun _ => runIs_neq guard127 fun w => eqIn127 _ _ _ _ w, by rw [hq]; exact h⟩
theorem empty_ok (t : Tn) (w : World) : Calls Try.prog 61 #[.agg t.cs.toArray] w fun e w' => e = .returned (.bool (quB t.d)) ∧ Below w.heap.size w w' := by
 obtain ⟨oo, oc, ro, rc, O, s1, s2, pay, lot, rent, R, cold, cut⟩ := t
 refine calls_val env mixed Try.func61 has61 Try.ntmps61 [.agg #[.slice oo O.length oc, iv s1, iv s2, iv pay, iv lot, iv rent, .slice ro R.length rc, iv cold, iv cut]] (by simp) ?_
 have hq : quB ⟨O, s1, s2, pay, lot, rent, R, cold, cut⟩ = (decide ((O.length : Int) = 0) && ((s1 == 0 && s2 == 0) && (decide (pay = 0) && (decide (lot = 0) && (decide (rent = 0) && (decide ((R.length : Int) = 0) && (decide (cold = 0) && decide (cut = 0)))))))) := by
  rw [Bool.eq_iff_iff]
  simp only [quB, Bool.and_eq_true, decide_eq_true_eq, beq_iff_eq]
  omega
 dsimp only
 rw [hq]
 obtain ⟨b, hb⟩ : ∃ b, (s1 == 0 && s2 == 0) = b := ⟨_, rfl⟩
 rw [hb]
 cases b
 all_goals skip
 repeat'
  conv => whnf
  first
   | refine zA ?_ | refine zB ?_ | refine zC ?_ | refine zD ?_ | refine zE ?_ | refine zF ?_ | refine zG ?_ | refine zH ?_ | refine zJ ?_ | refine zI ?_ | refine splT ?_ | refine splF ?_ | refine splNot ?_
   | ((first | refine splIn ?_ ?_ | refine splD ?_ ?_ | refine splE ?_ ?_ | refine splNE ?_ ?_) <;> intro hc <;> first | (exfalso; omega) | (exfalso; dsimp only at hc; omega) | skip)
   | refine eqlE67 hb ?_
 all_goals first | (exfalso; omega) | exact ⟨fun β => congrArg Value.bool (by first | (simp [*]; done) | (simp [*]; rfl) | (simp [*]; intros; first | assumption | omega) | simp_all), fun w' h => h⟩
structure TnI0 (t : Tn) (w : World) : Prop where
 o : Rd 2 prF (.slice t.oo t.d.O.length t.oc) t.d.O w
 r : Rd 2 prF (.slice t.ro t.d.R.length t.rc) t.d.R w
 ol : t.d.O.length ≤ 9223372036854775807
 rl : t.d.R.length ≤ 9223372036854775807
structure TrI0 (x : Tr) (w : World) : Prop where
 t : Rd 9 Tn.cs (.slice x.to x.T.length x.tc) x.T w
 ti : ∀ t ∈ x.T, TnI0 t w
 l : Rd 1 Lr.cs (.slice x.lo x.L.length x.lc) x.L w
 li : ∀ r ∈ x.L, Rd 2 prF (.slice r.o r.L.length r.c) r.L w
 tl : x.T.length ≤ 9223372036854775807
 ll : x.L.length ≤ 9223372036854775807
 lr : ∀ r ∈ x.L, r.L.length ≤ 9223372036854775807
 tcap : x.T.length ≤ x.tc
theorem TnI0.below {t : Tn} {w w' : World} (h : TnI0 t w) (hb : Below w.heap.size w w') : TnI0 t w' := ⟨h.o.below hb, h.r.below hb, h.ol, h.rl⟩
theorem TrI0.below {x : Tr} {w w' : World} (h : TrI0 x w) (hb : Below w.heap.size w w') : TrI0 x w' := ⟨h.t.below hb, fun t ht => (h.ti t ht).below hb, h.l.below hb, fun r hr => (h.li r hr).below hb, h.tl, h.ll, h.lr, h.tcap⟩
def lst (O : List (Int × Int)) : Nat → Int
 | 0 => -1
 | k + 1 => ((O[k]?).getD (0, 0)).2
theorem apB_step {days : Int} {O : List (Int × Int)} {i : Nat} {r : Int × Int} (h : O[i]? = some r) : apB days (lst O i) (O.drop i) = ((decide (lst O i + 1 ≤ r.1) && (decide (r.1 ≤ r.2) && decide (r.2 ≤ days - 1))) && apB days (lst O (i + 1)) (O.drop (i + 1))) := by
 obtain ⟨hi, rfl⟩ := List.getElem?_eq_some_iff.1 h
 rw [List.drop_eq_getElem_cons hi]
 show ((_ && (_ && _)) && apB days (O[i]).2 (O.drop (i + 1))) = _
 rw [show lst O (i + 1) = (O[i]).2 from by simp [lst, h]]
set_option maxHeartbeats 4000000 in
set_option maxRecDepth 100000 in
theorem rtown_ok (t : Tn) (days : Int) (w : World) (h : TnI0 t w) (hd : 1 ≤ days ∧ days ≤ 60) : Calls Try.prog 62 #[.agg t.cs.toArray, iv days] w fun e w' => e = .returned (.bool (twB days t.d)) ∧ Below w.heap.size w w' := by
 obtain ⟨oo, oc, ro, rc, O, s1, s2, pay, lot, rent, R, cold, cut⟩ := t
 have h00 : lst O 0 = -1 := rfl
 obtain ⟨hO, hR, hol, hrl⟩ := h
 dsimp only at h00 hO hR hol hrl ⊢
 refine calls_val env mixed Try.func62 has62 Try.ntmps62 [.agg #[.slice oo O.length oc, iv s1, iv s2, iv pay, iv lot, iv rent, .slice ro R.length rc, iv cold, iv cut], iv days] (by simp) ?_
 have htw : twB days ⟨O, s1, s2, pay, lot, rent, R, cold, cut⟩ = (apB days (-1) O && ((R.all fun r => rgB (-60) 60 r) && (inB O.length 1 3 && (rgB 1 10 (s1, s2) && (inB pay 0 1000000 && (inB lot 0 100000 && (inB rent 0 1000000 && (decide (R.length ≤ 3) && (inB cold 0 60 && inB cut 0 1000))))))))) := by
  simp only [twB, rgB]
  cases apB days (-1) O <;> cases (R.all fun r => decide (-60 ≤ r.1) && (decide (r.1 ≤ r.2) && decide (r.2 ≤ 60))) <;> simp
 rw [htw]
 clear htw
 repeat'
  conv => whnf
  first
   | refine zA ?_ | refine zB ?_ | refine zC ?_ | refine zD ?_ | refine zE ?_ | refine zF ?_ | refine zG ?_ | refine zH ?_ | refine zJ ?_ | refine zI ?_ | refine splT ?_ | refine splF ?_ | refine splNot ?_
   | ((first | refine splIn ?_ ?_ | refine splD ?_ ?_ | refine splE ?_ ?_ | refine splNE ?_ ?_) <;> intro hc <;> first | (exfalso; omega) | (exfalso; dsimp only at hc; omega) | skip)
 refine loopE (fun i : Nat => [(1, .v (iv days)), (2, .ptr 0 0), (5, .v (iv i))]) (fun _ => [(0, .cells [.v (.slice oo O.length oc), .v (iv s1), .v (iv s2), .v (iv pay), .v (iv lot), .v (iv rent), .v (.slice ro R.length rc), .v (iv cold), .v (iv cut)] 69)])
  (fun i => i ≤ O.length ∧ 0 ≤ lst O i + 1 ∧ apB days (-1) O = apB days (lst O i) (O.drop i)) (fun i => O.length - i) 0 ⟨Nat.zero_le _, by (show (0 : Int) ≤ -1 + 1); decide, rfl⟩ ⟨rfl, rfl, rfl, trivial⟩ ⟨rfl, trivial⟩ (fun _ => ⟨rfl, rfl⟩) ?_
 intro i ⟨hi, hlst, hap⟩
 rcases Nat.lt_or_ge i O.length with hil | hil
 · obtain ⟨⟨r1, r2⟩, hr⟩ : ∃ r, O[i]? = some r := ⟨_, List.getElem?_eq_getElem hil⟩
   have hst := apB_step (days := days) hr
   dsimp only at hst
   obtain ⟨_, ad, rfl, _⟩ := hO.ptr (by omega)
   have e0 := fun (w' : World) hw' => rd_ati (hO.below (w' := w') hw') hr
   have e1 := fun (w' : World) hw' => rd_fldz (hO.below (w' := w') hw') hr _ rfl 0 (iv r1) rfl
   have hls1 : lst O (i + 1) = r2 := by simp [lst, hr]
   rw [hap, hst, hls1]
   by_cases he : 0 ≤ r1 ∧ r1 ≤ r2 ∧ r2 ≤ days - 1
   · have h102 : ∀ w' : World, Calls Try.prog 102 #[.agg #[iv r1, iv r2], iv 0, iv (days - 1)] w' fun e w2 => e = .returned (.bool true) ∧ Below w'.heap.size w' w2 := fun w' => by
      have := ends_ok r1 r2 0 (days - 1) w'
      rwa [show rgB 0 (days - 1) (r1, r2) = true from by simp [rgB]; omega] at this
     cases i with
     | zero =>
      rw [show (decide (lst O 0 + 1 ≤ r1) && (decide (r1 ≤ r2) && decide (r2 ≤ days - 1))) = true from by (rw [h00]; simp; omega), Bool.true_and]
      rw [hst, hls1, show (decide (lst O 0 + 1 ≤ r1) && (decide (r1 ≤ r2) && decide (r2 ≤ days - 1))) = true from by (rw [h00]; simp; omega), Bool.true_and] at hap
      repeat'
       conv => whnf
       first
        | refine zA ?_ | refine zB ?_ | refine zC ?_ | refine zD ?_ | refine zE ?_ | refine zF ?_ | refine zG ?_ | refine zH ?_ | refine zJ ?_ | refine zI ?_ | refine splT ?_ | refine splF ?_ | refine splNot ?_
        | ((first | refine splIn ?_ ?_ | refine splD ?_ ?_ | refine splE ?_ ?_ | refine splNE ?_ ?_) <;> intro hc <;> first | (exfalso; omega) | (exfalso; dsimp only at hc; omega) | skip)
        | refine Exists.intro (α := List Value) [iv r1, iv r2] ⟨⟨rfl, fun w' hw' => e0 w' hw'⟩, ?_⟩
        | ((with_reducible show CallEv _ _ 102 _ _ _ _ _); refine callE (k := 102) (fun β w' hbw => h102 w') ?_)
      all_goals first | (exfalso; omega) | exact ⟨0 + 1, ⟨by omega, by rw [hls1]; omega, by rw [hls1]⟩, by omega, Ent.weak rfl ⟨rfl, rfl, rfl, trivial⟩ ⟨rfl, trivial⟩ fun _ h => h⟩
     | succ k =>
      obtain ⟨⟨p1, p2⟩, hp⟩ : ∃ r, O[k]? = some r := ⟨_, List.getElem?_eq_getElem (by omega)⟩
      have e2 := fun (w' : World) hw' => rd_fldz (hO.below (w' := w') hw') hp (((k + 1 : Nat) : Int) - 1) (by omega) 1 (iv p2) rfl
      have hlp : lst O (k + 1) = p2 := by simp [lst, hp]
      rw [hlp] at hst hap ⊢
      by_cases hlt : r1 ≤ p2
      · rw [show (decide (p2 + 1 ≤ r1) && (decide (r1 ≤ r2) && decide (r2 ≤ days - 1))) = false from by rw [decide_eq_false (by omega), Bool.false_and], Bool.false_and, Bool.false_and]
        repeat'
         conv => whnf
         first
          | refine zA ?_ | refine zB ?_ | refine zC ?_ | refine zD ?_ | refine zE ?_ | refine zF ?_ | refine zG ?_ | refine zH ?_ | refine zJ ?_ | refine zI ?_ | refine splT ?_ | refine splF ?_ | refine splNot ?_
          | ((first | refine splIn ?_ ?_ | refine splD ?_ ?_ | refine splE ?_ ?_ | refine splNE ?_ ?_) <;> intro hc <;> first | (exfalso; omega) | (exfalso; dsimp only at hc; omega) | skip)
          | refine Exists.intro (α := List Value) [iv r1, iv r2] ⟨⟨rfl, fun w' hw' => e0 w' hw'⟩, ?_⟩
          | ((with_reducible show CallEv _ _ 102 _ _ _ _ _); refine callE (k := 102) (fun β w' hbw => h102 w') ?_)
          | refine Exists.intro (α := List Value) [iv r1] ⟨⟨rfl, fun w' hw' => e1 w' hw'⟩, ?_⟩
          | refine Exists.intro (α := List Value) [iv p2] ⟨⟨rfl, fun w' hw' => e2 w' hw'⟩, ?_⟩
        all_goals first | (exfalso; omega) | exact ⟨fun β => rfl, fun w' h => h⟩
      · rw [show (decide (p2 + 1 ≤ r1) && (decide (r1 ≤ r2) && decide (r2 ≤ days - 1))) = true from by simp; omega, Bool.true_and]
        rw [hst, hls1, show (decide (p2 + 1 ≤ r1) && (decide (r1 ≤ r2) && decide (r2 ≤ days - 1))) = true from by simp; omega, Bool.true_and] at hap
        repeat'
         conv => whnf
         first
          | refine zA ?_ | refine zB ?_ | refine zC ?_ | refine zD ?_ | refine zE ?_ | refine zF ?_ | refine zG ?_ | refine zH ?_ | refine zJ ?_ | refine zI ?_ | refine splT ?_ | refine splF ?_ | refine splNot ?_
          | ((first | refine splIn ?_ ?_ | refine splD ?_ ?_ | refine splE ?_ ?_ | refine splNE ?_ ?_) <;> intro hc <;> first | (exfalso; omega) | (exfalso; dsimp only at hc; omega) | skip)
          | refine Exists.intro (α := List Value) [iv r1, iv r2] ⟨⟨rfl, fun w' hw' => e0 w' hw'⟩, ?_⟩
          | ((with_reducible show CallEv _ _ 102 _ _ _ _ _); refine callE (k := 102) (fun β w' hbw => h102 w') ?_)
          | refine Exists.intro (α := List Value) [iv r1] ⟨⟨rfl, fun w' hw' => e1 w' hw'⟩, ?_⟩
          | refine Exists.intro (α := List Value) [iv p2] ⟨⟨rfl, fun w' hw' => e2 w' hw'⟩, ?_⟩
        all_goals first | (exfalso; omega) | exact ⟨k + 1 + 1, ⟨by omega, by rw [hls1]; omega, by rw [hls1]⟩, by omega, Ent.weak rfl ⟨rfl, rfl, rfl, trivial⟩ ⟨rfl, trivial⟩ fun _ h => h⟩
   · have h102 : ∀ w' : World, Calls Try.prog 102 #[.agg #[iv r1, iv r2], iv 0, iv (days - 1)] w' fun e w2 => e = .returned (.bool false) ∧ Below w'.heap.size w' w2 := fun w' => by
      have := ends_ok r1 r2 0 (days - 1) w'
      rwa [show rgB 0 (days - 1) (r1, r2) = false from by (cases hb : rgB 0 (days - 1) (r1, r2) with | false => rfl | true => (simp [rgB] at hb; omega))] at this
     rw [show (decide (lst O i + 1 ≤ r1) && (decide (r1 ≤ r2) && decide (r2 ≤ days - 1))) = false from by (cases hb : (decide (lst O i + 1 ≤ r1) && (decide (r1 ≤ r2) && decide (r2 ≤ days - 1))) with | false => rfl | true => (simp at hb; omega)), Bool.false_and, Bool.false_and]
     repeat'
      conv => whnf
      first
       | refine zA ?_ | refine zB ?_ | refine zC ?_ | refine zD ?_ | refine zE ?_ | refine zF ?_ | refine zG ?_ | refine zH ?_ | refine zJ ?_ | refine zI ?_ | refine splT ?_ | refine splF ?_ | refine splNot ?_
       | ((first | refine splIn ?_ ?_ | refine splD ?_ ?_ | refine splE ?_ ?_ | refine splNE ?_ ?_) <;> intro hc <;> first | (exfalso; omega) | (exfalso; dsimp only at hc; omega) | skip)
       | refine Exists.intro (α := List Value) [iv r1, iv r2] ⟨⟨rfl, fun w' hw' => e0 w' hw'⟩, ?_⟩
       | ((with_reducible show CallEv _ _ 102 _ _ _ _ _); refine callE (k := 102) (fun β w' hbw => h102 w') ?_)
     all_goals first | (exfalso; omega) | exact ⟨fun β => rfl, fun w' h => h⟩
 · rw [List.drop_eq_nil_of_le hil] at hap
   rw [hap]
   show vc _ _ _ _
   rw [show (apB days (lst O i) [] && ((R.all fun r => rgB (-60) 60 r) && (inB O.length 1 3 && (rgB 1 10 (s1, s2) && (inB pay 0 1000000 && (inB lot 0 100000 && (inB rent 0 1000000 && (decide (R.length ≤ 3) && (inB cold 0 60 && inB cut 0 1000))))))))) = ((R.all fun r => rgB (-60) 60 r) && (inB O.length 1 3 && (rgB 1 10 (s1, s2) && (inB pay 0 1000000 && (inB lot 0 100000 && (inB rent 0 1000000 && (decide (R.length ≤ 3) && (inB cold 0 60 && inB cut 0 1000)))))))) from Bool.true_and _]
   repeat'
    conv => whnf
    first
     | refine zA ?_ | refine zB ?_ | refine zC ?_ | refine zD ?_ | refine zE ?_ | refine zF ?_ | refine zG ?_ | refine zH ?_ | refine zJ ?_ | refine zI ?_ | refine splT ?_ | refine splF ?_ | refine splNot ?_
     | ((first | refine splIn ?_ ?_ | refine splD ?_ ?_ | refine splE ?_ ?_ | refine splNE ?_ ?_) <;> intro hc <;> first | (exfalso; omega) | (exfalso; dsimp only at hc; omega) | skip)
   all_goals first | (exfalso; omega) | skip
   refine loopE (fun j : Nat => [(2, .ptr 0 0), (6, .v (iv j))]) (fun _ => [(0, .cells [.v (.slice oo O.length oc), .v (iv s1), .v (iv s2), .v (iv pay), .v (iv lot), .v (iv rent), .v (.slice ro R.length rc), .v (iv cold), .v (iv cut)] 69)])
    (fun j => j ≤ R.length ∧ (R.take j).all (fun r => rgB (-60) 60 r) = true) (fun j => R.length - j) 0 ⟨Nat.zero_le _, rfl⟩ ⟨rfl, rfl, trivial⟩ ⟨rfl, trivial⟩ (fun _ => ⟨rfl, rfl⟩) ?_
   intro j ⟨hj, hall⟩
   rcases Nat.lt_or_ge j R.length with hjl | hjl
   · obtain ⟨⟨r1, r2⟩, hr⟩ : ∃ r, R[j]? = some r := ⟨_, List.getElem?_eq_getElem hjl⟩
     obtain ⟨_, ad, rfl, _⟩ := hR.ptr (by omega)
     have e0 := fun (w' : World) hw' => rd_ati (hR.below (w' := w') hw') hr
     have h102 := fun w' : World => ends_ok r1 r2 (-60) 60 w'
     have hat := all_take (p := fun r => rgB (-60) 60 r) hr
     rw [hall, Bool.true_and] at hat
     obtain ⟨v, hv⟩ : ∃ v, rgB (-60) 60 (r1, r2) = v := ⟨_, rfl⟩
     have hno := all_no (p := fun r => rgB (-60) 60 r) hr
     rw [hv] at h102 hat hno
     cases v with
     | true =>
      repeat'
       conv => whnf
       first
        | refine zA ?_ | refine zB ?_ | refine zC ?_ | refine zD ?_ | refine zE ?_ | refine zF ?_ | refine zG ?_ | refine zH ?_ | refine zJ ?_ | refine zI ?_ | refine splT ?_ | refine splF ?_ | refine splNot ?_
        | ((first | refine splIn ?_ ?_ | refine splD ?_ ?_ | refine splE ?_ ?_ | refine splNE ?_ ?_) <;> intro hc <;> first | (exfalso; omega) | (exfalso; dsimp only at hc; omega) | skip)
        | refine Exists.intro (α := List Value) [iv r1, iv r2] ⟨⟨rfl, fun w' hw' => e0 w' hw'⟩, ?_⟩
        | ((with_reducible show CallEv _ _ 102 _ _ _ _ _); refine callE (k := 102) (fun β w' hbw => h102 w') ?_)
      all_goals first | (exfalso; omega) | exact ⟨j + 1, ⟨by omega, hat⟩, by omega, Ent.weak rfl ⟨rfl, rfl, trivial⟩ ⟨rfl, trivial⟩ fun _ h => h⟩
     | false =>
      rw [hno rfl, Bool.false_and]
      repeat'
       conv => whnf
       first
        | refine zA ?_ | refine zB ?_ | refine zC ?_ | refine zD ?_ | refine zE ?_ | refine zF ?_ | refine zG ?_ | refine zH ?_ | refine zJ ?_ | refine zI ?_ | refine splT ?_ | refine splF ?_ | refine splNot ?_
        | ((first | refine splIn ?_ ?_ | refine splD ?_ ?_ | refine splE ?_ ?_ | refine splNE ?_ ?_) <;> intro hc <;> first | (exfalso; omega) | (exfalso; dsimp only at hc; omega) | skip)
        | refine Exists.intro (α := List Value) [iv r1, iv r2] ⟨⟨rfl, fun w' hw' => e0 w' hw'⟩, ?_⟩
        | ((with_reducible show CallEv _ _ 102 _ _ _ _ _); refine callE (k := 102) (fun β w' hbw => h102 w') ?_)
      all_goals first | (exfalso; omega) | exact ⟨fun β => rfl, fun w' h => h⟩
   · rw [List.take_of_length_le hjl] at hall
     rw [hall, Bool.true_and]
     have hI := fun n lo hi (w' : World) => In_ok n lo hi w'
     have hE := fun (w' : World) => ends_ok s1 s2 1 10 w'
     clear hall hap
     generalize inB = f at *
     generalize rgB 1 10 (s1, s2) = g at *
     repeat'
      conv => whnf
      first
       | refine zA ?_ | refine zB ?_ | refine zC ?_ | refine zD ?_ | refine zE ?_ | refine zF ?_ | refine zG ?_ | refine zH ?_ | refine zJ ?_ | refine zI ?_ | refine splT ?_ | refine splF ?_ | refine splNot ?_
       | ((first | refine splIn ?_ ?_ | refine splD ?_ ?_ | refine splE ?_ ?_ | refine splNE ?_ ?_) <;> intro hc <;> first | (exfalso; omega) | (exfalso; dsimp only at hc; omega) | skip)
       | ((with_reducible show CallEv _ _ 37 _ _ _ _ _); refine callE (k := 37) (fun β w' hbw => hI _ _ _ w') ?_)
       | ((with_reducible show CallEv _ _ 102 _ _ _ _ _); refine callE (k := 102) (fun β w' hbw => hE w') ?_)
       | refine And.intro (a := (_ : Bool) = true → _) (fun hc => ?_) (fun hc => ?_)
     all_goals first | (exfalso; omega) | exact ⟨fun β => congrArg Value.bool (by first | (simp [*]; done) | (simp [*]; rfl) | (simp [*]; intros; first | assumption | omega) | simp_all), fun w' h => h⟩
end Go.Proofs.Ythfabodamhdhaaa
namespace Go.Proofs.Ythfabodamhdhaaa
open Go Tx Go.RowKit
set_option linter.unusedSimpArgs false
set_option linter.unusedVariables false
theorem toB_iff (days shift size : Int) (to : Option Addr) (tc : Nat) (T : List Tn) (lo : Option Addr) (lc : Nat) (L : List Lr) : toB (Tr.d ⟨days, shift, size, to, tc, T, lo, lc, L⟩) = true ↔ ((1 ≤ days ∧ days ≤ 60) ∧ (1 ≤ shift ∧ shift ≤ 24) ∧ (0 ≤ size ∧ size ≤ 100000) ∧ (2 ≤ T.length ∧ T.length ≤ 9) ∧ L.length = T.length) ∧
 (∃ t, T[0]? = some t ∧ quB t.d = true) ∧ ∀ i < T.length, (i = 0 ∨ ∃ t, T[i]? = some t ∧ twB days t.d = true) ∧ ∃ r, L[i]? = some r ∧ lgB T.length i r.L = true := by
 simp only [toB, inB, Tr.d, Bool.and_eq_true, decide_eq_true_eq, List.all_eq_true, List.mem_range, List.length_map]
 constructor
 · rintro ⟨⟨h1, h2, h3, h4, h5⟩, ⟨h6, h7⟩, h8⟩
   refine ⟨⟨h1, h2, h3, by omega, h5⟩, ?_, fun i hi => ⟨?_, ?_⟩⟩
   · rw [List.getElem?_map] at h6
     cases ht : T[0]? with
     | none => rw [ht] at h6; cases h6
     | some t => rw [ht] at h6; exact ⟨t, rfl, h6⟩
   · by_cases hi0 : i = 0
     · exact .inl hi0
     · refine .inr ⟨T[i], List.getElem?_eq_getElem hi, h7 _ ?_⟩
       rw [List.mem_iff_getElem?]
       exact ⟨i - 1, by rw [List.getElem?_drop, show 1 + (i - 1) = i from by omega, List.getElem?_map, List.getElem?_eq_getElem hi]; rfl⟩
   · have hl : i < L.length := by omega
     have := h8 i hl
     rw [List.getElem?_map, List.getElem?_eq_getElem hl] at this
     exact ⟨L[i], List.getElem?_eq_getElem hl, this⟩
 · rintro ⟨⟨h1, h2, h3, h4, h5⟩, ⟨t, h6, h6'⟩, h8⟩
   refine ⟨⟨h1, h2, h3, by omega, h5⟩, ⟨?_, fun u hu => ?_⟩, fun i hi => ?_⟩
   · rw [List.getElem?_map, h6]; exact h6'
   · obtain ⟨k, hk⟩ := List.mem_iff_getElem?.1 hu
     rw [List.getElem?_drop, List.getElem?_map, Option.map_eq_some_iff] at hk
     obtain ⟨v, hv, rfl⟩ := hk
     have hlt := (List.getElem?_eq_some_iff.1 hv).1
     rcases (h8 (1 + k) hlt).1 with h | ⟨v', hv', h⟩
     · omega
     · rw [hv, Option.some.injEq] at hv'; subst hv'; exact h
   · obtain ⟨r, hr, h⟩ := (h8 i (by omega)).2
     rw [List.getElem?_map, hr]; exact h
set_option maxHeartbeats 4000000 in
set_option maxRecDepth 100000 in
theorem Right_ok (x : Tr) (w : World) (h : TrI0 x w) : Calls Try.prog 22 #[x.v] w fun e w' => e = .returned (.bool (toB x.d)) ∧ Below w.heap.size w w' := by
 obtain ⟨days, shift, size, to, tc, T, lo, lc, L⟩ := x
 obtain ⟨hT, hTi, hL, hLi, htl, hll, hlr, htc⟩ := h
 dsimp only at hT hTi hL hLi htl hll hlr htc ⊢
 have hiff := toB_iff days shift size to tc T lo lc L
 obtain ⟨V, hV⟩ : ∃ V, toB (Tr.d ⟨days, shift, size, to, tc, T, lo, lc, L⟩) = V := ⟨_, rfl⟩
 rw [hV] at hiff ⊢
 clear hV
 refine calls_val env mixed Try.func22 has22 Try.ntmps22 [.agg #[iv days, iv shift, iv size, .slice to T.length tc, .slice lo L.length lc]] (by simp) ?_
 by_cases hA : (1 ≤ days ∧ days ≤ 60) ∧ (1 ≤ shift ∧ shift ≤ 24) ∧ (0 ≤ size ∧ size ≤ 100000) ∧ (2 ≤ T.length ∧ T.length ≤ 9) ∧ L.length = T.length
 · obtain ⟨t0, ht0⟩ : ∃ t, T[0]? = some t := ⟨_, List.getElem?_eq_getElem (by omega)⟩
   obtain ⟨_, ad, rfl, _⟩ := hT.ptr (by omega)
   obtain ⟨_, al, rfl, _⟩ := hL.ptr (by omega)
   have e0 := fun (w' : World) hw' => rd_atz (hT.below (w' := w') hw') ht0 (0 : Int) rfl
   have h61 := fun w' : World => empty_ok t0 w'
   have hq0 : (∃ t, T[0]? = some t ∧ quB t.d = true) ↔ quB t0.d = true := ⟨fun ⟨t, h1, h2⟩ => by rw [ht0, Option.some.injEq] at h1; subst h1; exact h2, fun h => ⟨t0, ht0, h⟩⟩
   obtain ⟨oo, oc, ro, rc, O, s1, s2, pay, lot, rent, R, cold, cut⟩ := t0
   dsimp only at h61 e0 hq0 ⊢
   obtain ⟨vq, hvq⟩ : ∃ v, quB ⟨O, s1, s2, pay, lot, rent, R, cold, cut⟩ = v := ⟨_, rfl⟩
   rw [hvq] at h61 hq0
   cases vq with
   | false =>
    have hVf : false = V := by
     cases V with
     | false => rfl
     | true => have := hq0.1 (hiff.1 rfl).2.1; cases this
    repeat'
     conv => whnf
     first
      | refine zA ?_ | refine zB ?_ | refine zC ?_ | refine zD ?_ | refine zE ?_ | refine zF ?_ | refine zG ?_ | refine zH ?_ | refine zJ ?_ | refine zI ?_ | refine splT ?_ | refine splF ?_ | refine splNot ?_
      | ((first | refine splIn ?_ ?_ | refine splD ?_ ?_ | refine splE ?_ ?_ | refine splNE ?_ ?_) <;> intro hc <;> first | (exfalso; omega) | (exfalso; dsimp only at hc; omega) | skip)
      | ((with_reducible show CallEv _ _ 37 _ _ _ _ _); refine callE (k := 37) (fun β w' hbw => In_ok _ _ _ w') ?_)
      | refine Exists.intro (α := List Value) [.slice oo O.length oc, iv s1, iv s2, iv pay, iv lot, iv rent, .slice ro R.length rc, iv cold, iv cut] ⟨⟨rfl, fun w' hw' => e0 w' hw'⟩, ?_⟩
      | ((with_reducible show CallEv _ _ 61 _ _ _ _ _); refine callE (k := 61) (fun β w' hbw => h61 w') ?_)
    all_goals first | (exfalso; omega) | exact ⟨fun β => congrArg Value.bool hVf, fun w' h => h⟩
   | true =>
    repeat'
     conv => whnf
     first
      | refine zA ?_ | refine zB ?_ | refine zC ?_ | refine zD ?_ | refine zE ?_ | refine zF ?_ | refine zG ?_ | refine zH ?_ | refine zJ ?_ | refine zI ?_ | refine splT ?_ | refine splF ?_ | refine splNot ?_
      | ((first | refine splIn ?_ ?_ | refine splD ?_ ?_ | refine splE ?_ ?_ | refine splNE ?_ ?_) <;> intro hc <;> first | (exfalso; omega) | (exfalso; dsimp only at hc; omega) | skip)
      | ((with_reducible show CallEv _ _ 37 _ _ _ _ _); refine callE (k := 37) (fun β w' hbw => In_ok _ _ _ w') ?_)
      | refine Exists.intro (α := List Value) [.slice oo O.length oc, iv s1, iv s2, iv pay, iv lot, iv rent, .slice ro R.length rc, iv cold, iv cut] ⟨⟨rfl, fun w' hw' => e0 w' hw'⟩, ?_⟩
      | ((with_reducible show CallEv _ _ 61 _ _ _ _ _); refine callE (k := 61) (fun β w' hbw => h61 w') ?_)
    all_goals first | (exfalso; omega) | skip
    refine loopE (fun i : Nat => [(1, .ptr 0 0), (3, .v (iv T.length)), (4, .v (iv i))]) (fun _ => [(0, .cells [.v (iv days), .v (iv shift), .v (iv size), .v (.slice (some ad) T.length tc), .v (.slice (some al) L.length lc)] 25)])
     (fun i => i ≤ T.length ∧ ∀ k < i, (k = 0 ∨ ∃ t, T[k]? = some t ∧ twB days t.d = true) ∧ ∃ r, L[k]? = some r ∧ lgB T.length k r.L = true) (fun i => T.length - i) 0 ⟨Nat.zero_le _, fun k hk => by omega⟩ ⟨rfl, rfl, rfl, trivial⟩ ⟨rfl, trivial⟩ (fun _ => ⟨rfl, rfl⟩) ?_
    intro i ⟨hi, hall⟩
    rcases Nat.lt_or_ge i T.length with hil | hil
    · obtain ⟨ti, hti⟩ : ∃ t, T[i]? = some t := ⟨_, List.getElem?_eq_getElem hil⟩
      obtain ⟨⟨ro', rc', row⟩, hri⟩ : ∃ r, L[i]? = some r := ⟨_, List.getElem?_eq_getElem (by omega)⟩
      have e1 := fun (w' : World) hw' => rd_ati (hT.below (w' := w') hw') hti
      have e2 := fun (w' : World) hw' => rd_ati (hL.below (w' := w') hw') hri
      have h62 := fun w' hb => rtown_ok ti days w' ((hTi ti (List.mem_of_getElem? hti)).below hb) (by omega)
      have hrow := hLi _ (List.mem_of_getElem? hri)
      have hrl := hlr _ (List.mem_of_getElem? hri)
      dsimp only at hrow hrl e2
      have hno : ¬ ((i = 0 ∨ twB days ti.d = true) ∧ lgB T.length i row = true) → false = V := fun hn => by
       cases V with
       | false => rfl
       | true =>
        obtain ⟨h1, r, h2, h3⟩ := (hiff.1 rfl).2.2 i hil
        rw [hri, Option.some.injEq] at h2
        subst h2
        refine absurd ⟨?_, h3⟩ hn
        rcases h1 with h1 | ⟨t, h1, h4⟩
        · exact .inl h1
        · rw [hti, Option.some.injEq] at h1; subst h1; exact .inr h4
      have hyes : (i = 0 ∨ twB days ti.d = true) → lgB T.length i row = true → ∀ k < i + 1, (k = 0 ∨ ∃ t, T[k]? = some t ∧ twB days t.d = true) ∧ ∃ r, L[k]? = some r ∧ lgB T.length k r.L = true := fun h1 h2 k hk => by
       rcases (by omega : k < i ∨ k = i) with hk | rfl
       · exact hall k hk
       · exact ⟨h1.imp id fun h => ⟨ti, hti, h⟩, _, hri, h2⟩
      obtain ⟨vt, hvt⟩ : ∃ v, twB days ti.d = v := ⟨_, rfl⟩
      rw [hvt] at h62 hno hyes
      obtain ⟨oo1, oc1, ro1, rc1, O1, s11, s21, pay1, lot1, rent1, R1, cold1, cut1⟩ := ti
      by_cases hok1 : i = 0 ∨ vt = true
      · by_cases hrn : row.length = T.length
        · obtain ⟨_, ar, rfl, _⟩ := hrow.ptr (by omega)
          have hi0 : vt = false → i = 0 := fun e => by
           rcases hok1 with h | h
           · exact h
           · rw [e] at h; cases h
          cases vt
          all_goals first | (have hi1 := hi0 rfl) | skip
          all_goals clear hi0
          repeat'
           conv => whnf
           first
            | refine zA ?_ | refine zB ?_ | refine zC ?_ | refine zD ?_ | refine zE ?_ | refine zF ?_ | refine zG ?_ | refine zH ?_ | refine zJ ?_ | refine zI ?_ | refine splT ?_ | refine splF ?_ | refine splNot ?_
            | ((first | refine splIn ?_ ?_ | refine splD ?_ ?_ | refine splE ?_ ?_ | refine splNE ?_ ?_) <;> intro hc <;> first | (exfalso; omega) | (exfalso; dsimp only at hc; omega) | skip)
            | refine Exists.intro (α := List Value) [.slice oo1 O1.length oc1, iv s11, iv s21, iv pay1, iv lot1, iv rent1, .slice ro1 R1.length rc1, iv cold1, iv cut1] ⟨⟨rfl, fun w' hw' => e1 w' hw'⟩, ?_⟩
            | ((with_reducible show CallEv _ _ 62 _ _ _ _ _); refine callE (k := 62) (fun β w' hbw => h62 w' hbw) ?_)
            | refine Exists.intro (α := List Value) [.slice (some ar) row.length rc'] ⟨⟨rfl, fun w' hw' => e2 w' hw'⟩, ?_⟩
          all_goals first | (exfalso; omega) | skip
          all_goals refine loopE (fun j : Nat => [(1, .ptr 0 0), (3, .v (iv T.length)), (4, .v (iv i)), (5, .v (iv j))]) (fun _ => [(0, .cells [.v (iv days), .v (iv shift), .v (iv size), .v (.slice (some ad) T.length tc), .v (.slice (some al) L.length lc)] 25)]) (fun j => j ≤ T.length ∧ ∀ k < j, ∀ p, row[k]? = some p → ((0 ≤ p.1 ∧ p.1 ≤ 200) ∧ (0 ≤ p.2 ∧ p.2 ≤ 1000000)) ∧ (i = k → p.1 = 0 ∧ p.2 = 0)) (fun j => T.length - j) 0 ⟨Nat.zero_le _, fun k hk => by omega⟩ ⟨rfl, rfl, rfl, rfl, trivial⟩ ⟨rfl, trivial⟩ (fun _ => ⟨rfl, rfl⟩) ?_
          all_goals
           intro j ⟨hj, hlegs⟩
           rcases Nat.lt_or_ge j T.length with hjl | hjl
           · obtain ⟨⟨p1, p2⟩, hp⟩ : ∃ p, row[j]? = some p := ⟨_, List.getElem?_eq_getElem (by omega)⟩
             have e3 := fun (w' : World) hw' => rd_ati (hrow.below (w' := w') hw') hp
             by_cases hok : ((0 ≤ p1 ∧ p1 ≤ 200) ∧ (0 ≤ p2 ∧ p2 ≤ 1000000)) ∧ (i = j → p1 = 0 ∧ p2 = 0)
             · have hnx : ∀ k < j + 1, ∀ p, row[k]? = some p → ((0 ≤ p.1 ∧ p.1 ≤ 200) ∧ (0 ≤ p.2 ∧ p.2 ≤ 1000000)) ∧ (i = k → p.1 = 0 ∧ p.2 = 0) := fun k hk p hpk => by
                rcases (by omega : k < j ∨ k = j) with hk | rfl
                · exact hlegs k hk p hpk
                · rw [hp, Option.some.injEq] at hpk; subst hpk; exact hok
               by_cases hz0 : p1 = 0 ∧ p2 = 0
               · have hz : (!(p1 == 0 && p2 == 0)) = false := by simp [hz0.1, hz0.2]
                 repeat'
                  conv => whnf
                  first
                   | refine zA ?_ | refine zB ?_ | refine zC ?_ | refine zD ?_ | refine zE ?_ | refine zF ?_ | refine zG ?_ | refine zH ?_ | refine zJ ?_ | refine zI ?_ | refine splT ?_ | refine splF ?_ | refine splNot ?_
                   | ((first | refine splIn ?_ ?_ | refine splD ?_ ?_ | refine splE ?_ ?_ | refine splNE ?_ ?_) <;> intro hc <;> first | (exfalso; omega) | (exfalso; dsimp only at hc; omega) | skip)
                   | refine Exists.intro (α := List Value) [.slice (some ar) row.length rc'] ⟨⟨rfl, fun w' hw' => e2 w' hw'⟩, ?_⟩
                   | refine Exists.intro (α := List Value) [iv p1, iv p2] ⟨⟨rfl, fun w' hw' => e3 w' hw'⟩, ?_⟩
                   | ((with_reducible show CallEv _ _ 37 _ _ _ _ _); refine callE (k := 37) (fun β w' hbw => In_ok _ _ _ w') ?_)
                   | refine neqE127 hz ?_
                 all_goals first | (exfalso; omega) | exact ⟨j + 1, ⟨by omega, hnx⟩, by omega, Ent.weak rfl ⟨rfl, rfl, rfl, rfl, trivial⟩ ⟨rfl, trivial⟩ fun _ h => h⟩
               · have hz : (!(p1 == 0 && p2 == 0)) = true := by
                  cases hb : (p1 == 0 && p2 == 0) with
                  | false => rfl
                  | true => simp at hb; exact absurd hb hz0
                 repeat'
                  conv => whnf
                  first
                   | refine zA ?_ | refine zB ?_ | refine zC ?_ | refine zD ?_ | refine zE ?_ | refine zF ?_ | refine zG ?_ | refine zH ?_ | refine zJ ?_ | refine zI ?_ | refine splT ?_ | refine splF ?_ | refine splNot ?_
                   | ((first | refine splIn ?_ ?_ | refine splD ?_ ?_ | refine splE ?_ ?_ | refine splNE ?_ ?_) <;> intro hc <;> first | (exfalso; omega) | (exfalso; dsimp only at hc; omega) | skip)
                   | refine Exists.intro (α := List Value) [.slice (some ar) row.length rc'] ⟨⟨rfl, fun w' hw' => e2 w' hw'⟩, ?_⟩
                   | refine Exists.intro (α := List Value) [iv p1, iv p2] ⟨⟨rfl, fun w' hw' => e3 w' hw'⟩, ?_⟩
                   | ((with_reducible show CallEv _ _ 37 _ _ _ _ _); refine callE (k := 37) (fun β w' hbw => In_ok _ _ _ w') ?_)
                   | refine neqE127 hz ?_
                 all_goals first | (exfalso; omega) | exact ⟨j + 1, ⟨by omega, hnx⟩, by omega, Ent.weak rfl ⟨rfl, rfl, rfl, rfl, trivial⟩ ⟨rfl, trivial⟩ fun _ h => h⟩
             · have hVf : false = V := hno fun hh => hok (by
                have h2 := hh.2
                simp only [lgB, inB, Bool.and_eq_true, decide_eq_true_eq, List.all_eq_true] at h2
                refine ⟨h2.2.2 (p1, p2) (List.mem_of_getElem? hp), fun e => ?_⟩
                subst e
                rw [hp, Option.some.injEq, Prod.mk.injEq] at h2
                exact h2.2.1)
               obtain ⟨vz, hz⟩ : ∃ v, (!(p1 == 0 && p2 == 0)) = v := ⟨_, rfl⟩
               have hz2 : vz = false → p1 = 0 ∧ p2 = 0 := fun e => by subst e; simpa using hz
               cases vz
               all_goals skip
               all_goals have hz2 := hz2
               · have hz3 := hz2 rfl
                 repeat'
                  conv => whnf
                  first
                   | refine zA ?_ | refine zB ?_ | refine zC ?_ | refine zD ?_ | refine zE ?_ | refine zF ?_ | refine zG ?_ | refine zH ?_ | refine zJ ?_ | refine zI ?_ | refine splT ?_ | refine splF ?_ | refine splNot ?_
                   | ((first | refine splIn ?_ ?_ | refine splD ?_ ?_ | refine splE ?_ ?_ | refine splNE ?_ ?_) <;> intro hc <;> first | (exfalso; omega) | (exfalso; dsimp only at hc; omega) | skip)
                   | refine Exists.intro (α := List Value) [.slice (some ar) row.length rc'] ⟨⟨rfl, fun w' hw' => e2 w' hw'⟩, ?_⟩
                   | refine Exists.intro (α := List Value) [iv p1, iv p2] ⟨⟨rfl, fun w' hw' => e3 w' hw'⟩, ?_⟩
                   | ((with_reducible show CallEv _ _ 37 _ _ _ _ _); refine callE (k := 37) (fun β w' hbw => In_ok _ _ _ w') ?_)
                   | refine neqE127 hz ?_
                 all_goals first | (exfalso; omega) | exact ⟨fun β => congrArg Value.bool hVf, fun w' h => h⟩
               · clear hz2
                 repeat'
                  conv => whnf
                  first
                   | refine zA ?_ | refine zB ?_ | refine zC ?_ | refine zD ?_ | refine zE ?_ | refine zF ?_ | refine zG ?_ | refine zH ?_ | refine zJ ?_ | refine zI ?_ | refine splT ?_ | refine splF ?_ | refine splNot ?_
                   | ((first | refine splIn ?_ ?_ | refine splD ?_ ?_ | refine splE ?_ ?_ | refine splNE ?_ ?_) <;> intro hc <;> first | (exfalso; omega) | (exfalso; dsimp only at hc; omega) | skip)
                   | refine Exists.intro (α := List Value) [.slice (some ar) row.length rc'] ⟨⟨rfl, fun w' hw' => e2 w' hw'⟩, ?_⟩
                   | refine Exists.intro (α := List Value) [iv p1, iv p2] ⟨⟨rfl, fun w' hw' => e3 w' hw'⟩, ?_⟩
                   | ((with_reducible show CallEv _ _ 37 _ _ _ _ _); refine callE (k := 37) (fun β w' hbw => In_ok _ _ _ w') ?_)
                   | refine neqE127 hz ?_
                 all_goals first | (exfalso; omega) | exact ⟨fun β => congrArg Value.bool hVf, fun w' h => h⟩
           · have hlg : lgB T.length i row = true := by
              simp only [lgB, inB, Bool.and_eq_true, decide_eq_true_eq, List.all_eq_true]
              refine ⟨hrn, ?_, fun p hp => ?_⟩
              · obtain ⟨p, hp⟩ : ∃ p, row[i]? = some p := ⟨_, List.getElem?_eq_getElem (by omega)⟩
                have := (hlegs i (by omega) p hp).2 rfl
                rw [hp]
                obtain ⟨a, b⟩ := p
                simp only [Option.some.injEq, Prod.mk.injEq]
                exact this
              · obtain ⟨k, hk⟩ := List.mem_iff_getElem?.1 hp
                exact (hlegs k (by have := (List.getElem?_eq_some_iff.1 hk).1; omega) p hk).1
             repeat'
              conv => whnf
              first
               | refine zA ?_ | refine zB ?_ | refine zC ?_ | refine zD ?_ | refine zE ?_ | refine zF ?_ | refine zG ?_ | refine zH ?_ | refine zJ ?_ | refine zI ?_ | refine splT ?_ | refine splF ?_ | refine splNot ?_
               | ((first | refine splIn ?_ ?_ | refine splD ?_ ?_ | refine splE ?_ ?_ | refine splNE ?_ ?_) <;> intro hc <;> first | (exfalso; omega) | (exfalso; dsimp only at hc; omega) | skip)
             all_goals first | (exfalso; omega) | exact ⟨i + 1, ⟨by omega, hyes hok1 hlg⟩, by omega, Ent.weak rfl ⟨rfl, rfl, rfl, trivial⟩ ⟨rfl, trivial⟩ fun _ h => h⟩
        · have hVf : false = V := hno fun hh => hrn (by
           have h2 := hh.2
           simp only [lgB, Bool.and_eq_true, decide_eq_true_eq] at h2
           exact h2.1)
          cases vt
          all_goals skip
          repeat'
           conv => whnf
           first
            | refine zA ?_ | refine zB ?_ | refine zC ?_ | refine zD ?_ | refine zE ?_ | refine zF ?_ | refine zG ?_ | refine zH ?_ | refine zJ ?_ | refine zI ?_ | refine splT ?_ | refine splF ?_ | refine splNot ?_
            | ((first | refine splIn ?_ ?_ | refine splD ?_ ?_ | refine splE ?_ ?_ | refine splNE ?_ ?_) <;> intro hc <;> first | (exfalso; omega) | (exfalso; dsimp only at hc; omega) | skip)
            | refine Exists.intro (α := List Value) [.slice oo1 O1.length oc1, iv s11, iv s21, iv pay1, iv lot1, iv rent1, .slice ro1 R1.length rc1, iv cold1, iv cut1] ⟨⟨rfl, fun w' hw' => e1 w' hw'⟩, ?_⟩
            | ((with_reducible show CallEv _ _ 62 _ _ _ _ _); refine callE (k := 62) (fun β w' hbw => h62 w' hbw) ?_)
            | refine Exists.intro (α := List Value) [.slice ro' row.length rc'] ⟨⟨rfl, fun w' hw' => e2 w' hw'⟩, ?_⟩
          all_goals first | (exfalso; omega) | exact ⟨fun β => congrArg Value.bool hVf, fun w' h => h⟩
      · have hVf : false = V := hno fun hh => hok1 hh.1
        cases vt with
        | true => exact absurd (.inr rfl) hok1
        | false =>
         have hi0 : i ≠ 0 := fun e => hok1 (.inl e)
         repeat'
          conv => whnf
          first
           | refine zA ?_ | refine zB ?_ | refine zC ?_ | refine zD ?_ | refine zE ?_ | refine zF ?_ | refine zG ?_ | refine zH ?_ | refine zJ ?_ | refine zI ?_ | refine splT ?_ | refine splF ?_ | refine splNot ?_
           | ((first | refine splIn ?_ ?_ | refine splD ?_ ?_ | refine splE ?_ ?_ | refine splNE ?_ ?_) <;> intro hc <;> first | (exfalso; omega) | (exfalso; dsimp only at hc; omega) | skip)
           | refine Exists.intro (α := List Value) [.slice oo1 O1.length oc1, iv s11, iv s21, iv pay1, iv lot1, iv rent1, .slice ro1 R1.length rc1, iv cold1, iv cut1] ⟨⟨rfl, fun w' hw' => e1 w' hw'⟩, ?_⟩
           | ((with_reducible show CallEv _ _ 62 _ _ _ _ _); refine callE (k := 62) (fun β w' hbw => h62 w' hbw) ?_)
           | refine Exists.intro (α := List Value) [.slice ro' row.length rc'] ⟨⟨rfl, fun w' hw' => e2 w' hw'⟩, ?_⟩
         all_goals first | (exfalso; omega) | exact ⟨fun β => congrArg Value.bool hVf, fun w' h => h⟩
    · have hVt : true = V := (hiff.2 ⟨hA, hq0.2 rfl, fun k hk => hall k (by omega)⟩).symm
      repeat'
       conv => whnf
       first
        | refine zA ?_ | refine zB ?_ | refine zC ?_ | refine zD ?_ | refine zE ?_ | refine zF ?_ | refine zG ?_ | refine zH ?_ | refine zJ ?_ | refine zI ?_ | refine splT ?_ | refine splF ?_ | refine splNot ?_
        | ((first | refine splIn ?_ ?_ | refine splD ?_ ?_ | refine splE ?_ ?_ | refine splNE ?_ ?_) <;> intro hc <;> first | (exfalso; omega) | (exfalso; dsimp only at hc; omega) | skip)
      all_goals first | (exfalso; omega) | exact ⟨fun β => congrArg Value.bool hVt, fun w' h => h⟩
 · have hVf : false = V := by
    cases V with
    | false => rfl
    | true => exact absurd (hiff.1 rfl).1 hA
   repeat'
    conv => whnf
    first
     | refine zA ?_ | refine zB ?_ | refine zC ?_ | refine zD ?_ | refine zE ?_ | refine zF ?_ | refine zG ?_ | refine zH ?_ | refine zJ ?_ | refine zI ?_ | refine splT ?_ | refine splF ?_ | refine splNot ?_
     | ((first | refine splIn ?_ ?_ | refine splD ?_ ?_ | refine splE ?_ ?_ | refine splNE ?_ ?_) <;> intro hc <;> first | (exfalso; omega) | (exfalso; dsimp only at hc; omega) | skip)
     | ((with_reducible show CallEv _ _ 37 _ _ _ _ _); refine callE (k := 37) (fun β w' hbw => In_ok _ _ _ w') ?_)
   all_goals first | (exfalso; omega) | exact ⟨fun β => congrArg Value.bool hVf, fun w' h => h⟩
end Go.Proofs.Ythfabodamhdhaaa
namespace Go.Proofs.Ythfabodamhdhaaa
open Go Tx Go.RowKit
set_option linter.unusedSimpArgs false
set_option linter.unusedVariables false
def smB (x : To) : Bool := x.T.all (fun t => decide (t.O.length ≤ 5) && decide (t.R.length ≤ 5)) && (x.L.all (fun r => decide (r.length ≤ 12)) && (decide (x.T.length ≤ 12) && decide (x.L.length ≤ 12)))
structure TrB (x : Tr) : Prop where
 t : ∀ t ∈ x.T, t.d.O.length ≤ 100 ∧ t.d.R.length ≤ 100
 l : ∀ r ∈ x.L, r.L.length ≤ 100
 tl : x.T.length ≤ 100
 ll : x.L.length ≤ 100
theorem TrI0.b {x : Tr} {w : World} (h : TrI0 x w) (hb : TrB x) : TrIn x w :=
 ⟨h.t, fun t ht => ⟨(h.ti t ht).o, (h.ti t ht).r, by have := hb.t t ht; omega, by have := hb.t t ht; omega⟩, h.l, h.li, by have := hb.tl; omega, by have := hb.ll; omega, fun r hr => by have := hb.l r hr; omega, h.tcap⟩
theorem toB_b {x : Tr} (h : toB x.d = true) : TrB x := by
 have hn := toB_n h
 obtain ⟨days, shift, size, to, tc, T, lo, lc, L⟩ := x
 have h0 := (toB_iff days shift size to tc T lo lc L).1 h
 have h9 := hn.n
 have hl := hn.l
 simp only [Tr.d, List.length_map] at h9 hl
 refine ⟨fun t ht => ?_, fun r hr => ?_, by show T.length ≤ 100; omega, by show L.length ≤ 100; omega⟩
 · obtain ⟨k, hk⟩ := List.mem_iff_getElem?.1 ht
   have hkl := (List.getElem?_eq_some_iff.1 hk).1
   rcases (h0.2.2 k hkl).1 with rfl | ⟨t', h1, h2⟩
   · obtain ⟨t', h1, h2⟩ := h0.2.1
     rw [hk, Option.some.injEq] at h1
     subst h1
     simp only [quB, Bool.and_eq_true, decide_eq_true_eq] at h2
     omega
   · rw [hk, Option.some.injEq] at h1
     subst h1
     simp only [twB, inB, Bool.and_eq_true, decide_eq_true_eq] at h2
     omega
 · have := hn.lr r.L (List.mem_map.2 ⟨r, hr, rfl⟩)
   have h3 := this.1
   simp only [Tr.d, List.length_map] at h3
   omega
set_option maxHeartbeats 4000000 in
set_option maxRecDepth 100000 in
theorem Small_ok (x : Tr) (w : World) (h : TrI0 x w) : Calls Try.prog 17 #[x.v] w fun e w' => e = .returned (.bool (smB x.d)) ∧ Below w.heap.size w w' := by
 obtain ⟨days, shift, size, to, tc, T, lo, lc, L⟩ := x
 obtain ⟨hT, hTi, hL, hLi, htl, hll, hlr, htc⟩ := h
 dsimp only at hT hTi hL hLi htl hll hlr htc ⊢
 have hsm : smB (Tr.d ⟨days, shift, size, to, tc, T, lo, lc, L⟩) = (T.all (fun t => decide (t.d.O.length ≤ 5) && decide (t.d.R.length ≤ 5)) && (L.all (fun r => decide (r.L.length ≤ 12)) && (decide ((T.length : Int) ≤ 12) && decide ((L.length : Int) ≤ 12)))) := by
  simp only [smB, Tr.d, List.length_map, List.all_map, Function.comp_def]
  congr 3
  · exact decide_eq_decide.2 (by omega)
  · exact decide_eq_decide.2 (by omega)
 rw [hsm]
 clear hsm
 refine calls_val env mixed Try.func17 has17 Try.ntmps17 [.agg #[iv days, iv shift, iv size, .slice to T.length tc, .slice lo L.length lc]] (by simp) ?_
 repeat'
  conv => whnf
  first
   | refine zA ?_ | refine zB ?_ | refine zC ?_ | refine zD ?_ | refine zE ?_ | refine zF ?_ | refine zG ?_ | refine zH ?_ | refine zJ ?_ | refine zI ?_ | refine splT ?_ | refine splF ?_ | refine splNot ?_
   | ((first | refine splIn ?_ ?_ | refine splD ?_ ?_ | refine splE ?_ ?_ | refine splNE ?_ ?_) <;> intro hc <;> first | (exfalso; omega) | (exfalso; dsimp only at hc; omega) | skip)
 refine loopE (fun i : Nat => [(1, .ptr 0 0), (3, .v (iv i))]) (fun _ => [(0, .cells [.v (iv days), .v (iv shift), .v (iv size), .v (.slice to T.length tc), .v (.slice lo L.length lc)] 25)])
  (fun i => i ≤ T.length ∧ (T.take i).all (fun t => decide (t.d.O.length ≤ 5) && decide (t.d.R.length ≤ 5)) = true) (fun i => T.length - i) 0 ⟨Nat.zero_le _, rfl⟩ ⟨rfl, rfl, trivial⟩ ⟨rfl, trivial⟩ (fun _ => ⟨rfl, rfl⟩) ?_
 intro i ⟨hi, hall⟩
 rcases Nat.lt_or_ge i T.length with hil | hil
 · obtain ⟨⟨oo, oc, ro, rc, O, s1, s2, pay, lot, rent, R, cold, cut⟩, ht⟩ : ∃ t, T[i]? = some t := ⟨_, List.getElem?_eq_getElem hil⟩
   obtain ⟨_, ad, rfl, _⟩ := hT.ptr (by omega)
   have e0 := fun (w' : World) hw' => rd_fldz (hT.below (w' := w') hw') ht _ rfl 0 (.slice oo O.length oc) rfl
   have e5 := fun (w' : World) hw' => rd_fldz (hT.below (w' := w') hw') ht _ rfl 6 (.slice ro R.length rc) rfl
   have hti := hTi _ (List.mem_of_getElem? ht)
   have hol := hti.ol
   have hrl := hti.rl
   dsimp only at hol hrl
   have hat := all_take (p := fun t : Tn => decide (t.d.O.length ≤ 5) && decide (t.d.R.length ≤ 5)) ht
   rw [hall, Bool.true_and] at hat
   have hno := all_no (p := fun t : Tn => decide (t.d.O.length ≤ 5) && decide (t.d.R.length ≤ 5)) ht
   by_cases hok : O.length ≤ 5 ∧ R.length ≤ 5
   · rw [show (decide (O.length ≤ 5) && decide (R.length ≤ 5)) = true from by simp; omega] at hat
     repeat'
      conv => whnf
      first
       | refine zA ?_ | refine zB ?_ | refine zC ?_ | refine zD ?_ | refine zE ?_ | refine zF ?_ | refine zG ?_ | refine zH ?_ | refine zJ ?_ | refine zI ?_ | refine splT ?_ | refine splF ?_ | refine splNot ?_
       | ((first | refine splIn ?_ ?_ | refine splD ?_ ?_ | refine splE ?_ ?_ | refine splNE ?_ ?_) <;> intro hc <;> first | (exfalso; omega) | (exfalso; dsimp only at hc; omega) | skip)
       | refine Exists.intro (α := List Value) [.slice oo O.length oc] ⟨⟨rfl, fun w' hw' => e0 w' hw'⟩, ?_⟩
       | refine Exists.intro (α := List Value) [.slice ro R.length rc] ⟨⟨rfl, fun w' hw' => e5 w' hw'⟩, ?_⟩
     all_goals first | (exfalso; omega) | exact ⟨i + 1, ⟨by omega, hat⟩, by omega, Ent.weak rfl ⟨rfl, rfl, trivial⟩ ⟨rfl, trivial⟩ fun _ h => h⟩
   · rw [hno (by (cases hb : (decide (O.length ≤ 5) && decide (R.length ≤ 5)) with | false => rfl | true => (simp at hb; exact absurd hb hok))), Bool.false_and]
     repeat'
      conv => whnf
      first
       | refine zA ?_ | refine zB ?_ | refine zC ?_ | refine zD ?_ | refine zE ?_ | refine zF ?_ | refine zG ?_ | refine zH ?_ | refine zJ ?_ | refine zI ?_ | refine splT ?_ | refine splF ?_ | refine splNot ?_
       | ((first | refine splIn ?_ ?_ | refine splD ?_ ?_ | refine splE ?_ ?_ | refine splNE ?_ ?_) <;> intro hc <;> first | (exfalso; omega) | (exfalso; dsimp only at hc; omega) | skip)
       | refine Exists.intro (α := List Value) [.slice oo O.length oc] ⟨⟨rfl, fun w' hw' => e0 w' hw'⟩, ?_⟩
       | refine Exists.intro (α := List Value) [.slice ro R.length rc] ⟨⟨rfl, fun w' hw' => e5 w' hw'⟩, ?_⟩
     all_goals first | (exfalso; omega) | exact ⟨fun β => rfl, fun w' h => h⟩
 · rw [List.take_of_length_le hil] at hall
   rw [hall, Bool.true_and]
   repeat'
    conv => whnf
    first
     | refine zA ?_ | refine zB ?_ | refine zC ?_ | refine zD ?_ | refine zE ?_ | refine zF ?_ | refine zG ?_ | refine zH ?_ | refine zJ ?_ | refine zI ?_ | refine splT ?_ | refine splF ?_ | refine splNot ?_
     | ((first | refine splIn ?_ ?_ | refine splD ?_ ?_ | refine splE ?_ ?_ | refine splNE ?_ ?_) <;> intro hc <;> first | (exfalso; omega) | (exfalso; dsimp only at hc; omega) | skip)
   all_goals first | (exfalso; omega) | skip
   refine loopE (fun i : Nat => [(1, .ptr 0 0), (4, .v (iv i))]) (fun _ => [(0, .cells [.v (iv days), .v (iv shift), .v (iv size), .v (.slice to T.length tc), .v (.slice lo L.length lc)] 25)])
    (fun i => i ≤ L.length ∧ (L.take i).all (fun r => decide (r.L.length ≤ 12)) = true) (fun i => L.length - i) 0 ⟨Nat.zero_le _, rfl⟩ ⟨rfl, rfl, trivial⟩ ⟨rfl, trivial⟩ (fun _ => ⟨rfl, rfl⟩) ?_
   intro j ⟨hj, hallj⟩
   rcases Nat.lt_or_ge j L.length with hjl | hjl
   · obtain ⟨⟨ro, rc, row⟩, hr⟩ : ∃ r, L[j]? = some r := ⟨_, List.getElem?_eq_getElem hjl⟩
     obtain ⟨_, al, rfl, _⟩ := hL.ptr (by omega)
     have e0 := fun (w' : World) hw' => rd_ati (hL.below (w' := w') hw') hr
     have hrl := hlr _ (List.mem_of_getElem? hr)
     dsimp only at hrl
     have hat := all_take (p := fun r : Lr => decide (r.L.length ≤ 12)) hr
     rw [hallj, Bool.true_and] at hat
     have hno := all_no (p := fun r : Lr => decide (r.L.length ≤ 12)) hr
     by_cases hok : row.length ≤ 12
     · rw [decide_eq_true hok] at hat
       repeat'
        conv => whnf
        first
         | refine zA ?_ | refine zB ?_ | refine zC ?_ | refine zD ?_ | refine zE ?_ | refine zF ?_ | refine zG ?_ | refine zH ?_ | refine zJ ?_ | refine zI ?_ | refine splT ?_ | refine splF ?_ | refine splNot ?_
         | ((first | refine splIn ?_ ?_ | refine splD ?_ ?_ | refine splE ?_ ?_ | refine splNE ?_ ?_) <;> intro hc <;> first | (exfalso; omega) | (exfalso; dsimp only at hc; omega) | skip)
         | refine Exists.intro (α := List Value) [.slice ro row.length rc] ⟨⟨rfl, fun w' hw' => e0 w' hw'⟩, ?_⟩
       all_goals first | (exfalso; omega) | exact ⟨j + 1, ⟨by omega, hat⟩, by omega, Ent.weak rfl ⟨rfl, rfl, trivial⟩ ⟨rfl, trivial⟩ fun _ h => h⟩
     · rw [hno (decide_eq_false hok), Bool.false_and]
       repeat'
        conv => whnf
        first
         | refine zA ?_ | refine zB ?_ | refine zC ?_ | refine zD ?_ | refine zE ?_ | refine zF ?_ | refine zG ?_ | refine zH ?_ | refine zJ ?_ | refine zI ?_ | refine splT ?_ | refine splF ?_ | refine splNot ?_
         | ((first | refine splIn ?_ ?_ | refine splD ?_ ?_ | refine splE ?_ ?_ | refine splNE ?_ ?_) <;> intro hc <;> first | (exfalso; omega) | (exfalso; dsimp only at hc; omega) | skip)
         | refine Exists.intro (α := List Value) [.slice ro row.length rc] ⟨⟨rfl, fun w' hw' => e0 w' hw'⟩, ?_⟩
       all_goals first | (exfalso; omega) | exact ⟨fun β => rfl, fun w' h => h⟩
   · rw [List.take_of_length_le hjl] at hallj
     rw [hallj, Bool.true_and]
     repeat'
      conv => whnf
      first
       | refine zA ?_ | refine zB ?_ | refine zC ?_ | refine zD ?_ | refine zE ?_ | refine zF ?_ | refine zG ?_ | refine zH ?_ | refine zJ ?_ | refine zI ?_ | refine splT ?_ | refine splF ?_ | refine splNot ?_
       | ((first | refine splIn ?_ ?_ | refine splD ?_ ?_ | refine splE ?_ ?_ | refine splNE ?_ ?_) <;> intro hc <;> first | (exfalso; omega) | (exfalso; dsimp only at hc; omega) | skip)
     all_goals first | (exfalso; omega) | exact ⟨fun β => congrArg Value.bool (by simp [*]), fun w' h => h⟩
set_option maxHeartbeats 4000000 in
set_option maxRecDepth 100000 in
theorem ranges_ok (L : List (Int × Int)) (o : Option Addr) (c : Nat) (w : World) (hrd : Rd 2 prF (.slice o L.length c) L w) (hl : L.length ≤ 1000) :
 Calls Try.prog 60 #[.slice o L.length c] w fun e w' => (L = [] → e = .returned (.slice none 0 0) ∧ Below w.heap.size w w') ∧ (L ≠ [] → ∃ b d, e = .returned (.slice (some ⟨b, 0, none⟩) L.length d) ∧ w.heap.size ≤ b ∧ Below w.heap.size w w' ∧ w'.ownsRow 0 55 2 (.slice (some ⟨b, 0, none⟩) L.length d) L.length (L.flatMap prF)) := by
 refine calls_fam2 env mixed Try.func60 has60 Try.ntmps60 [.slice o L.length c] (by simp) ?_
 repeat'
  conv => whnf
  first
   | refine zA ?_ | refine zB ?_ | refine zC ?_ | refine zD ?_ | refine zE ?_ | refine zF ?_ | refine zG ?_ | refine zH ?_ | refine zJ ?_ | refine zI ?_ | refine splT ?_ | refine splF ?_ | refine splNot ?_
   | ((first | refine splIn ?_ ?_ | refine splD ?_ ?_ | refine splE ?_ ?_ | refine splNE ?_ ?_) <;> intro hc <;> first | (exfalso; omega) | (exfalso; dsimp only at hc; omega) | skip)
 refine loopN 2 (fun k : Nat => [(0, .v (.slice o L.length c)), (3, oSV 0 1 (L.take k)), (4, .v (iv k))]) (fun k => oM 0 1 2 prF 55 (L.take k)) (fun k => k ≤ L.length) (fun k => L.length - k) 0 (Nat.zero_le _) ⟨rfl, rfl, rfl, trivial⟩ trivial (fun k _ => by cases L.take k <;> exact ⟨rfl, rfl⟩) ?_
 intro k hk
 rcases Nat.lt_or_ge k L.length with hkl | hkl
 · obtain ⟨⟨p1, p2⟩, hx⟩ : ∃ b, L[k]? = some b := ⟨_, List.getElem?_eq_getElem hkl⟩
   obtain ⟨_, ad, rfl, _⟩ := hrd.ptr (by omega)
   have e0 := fun (w' : World) hw' => rd_fldz (hrd.below (w' := w') hw') hx _ rfl 0 (iv p1) rfl
   have e1 := fun (w' : World) hw' => rd_fldz (hrd.below (w' := w') hw') hx _ rfl 1 (iv p2) rfl
   have ht : L.take (k + 1) = L.take k ++ [(p1, p2)] := by rw [List.take_add_one, hx]; rfl
   have hlen : (L.take k).length = k := by rw [List.length_take]; omega
   generalize L.take k = D at *
   cases D with
   | nil =>
    repeat'
     conv => whnf
     first
      | refine zA ?_ | refine zB ?_ | refine zC ?_ | refine zD ?_ | refine zE ?_ | refine zF ?_ | refine zG ?_ | refine zH ?_ | refine zJ ?_ | refine zI ?_ | refine splT ?_ | refine splF ?_ | refine splNot ?_
      | ((first | refine splIn ?_ ?_ | refine splD ?_ ?_ | refine splE ?_ ?_ | refine splNE ?_ ?_) <;> intro hc <;> first | (exfalso; omega) | (exfalso; dsimp only at hc; omega) | skip)
      | refine Exists.intro (α := List Value) [iv p1] ⟨⟨rfl, fun w' hw' => e0 w' hw'⟩, ?_⟩
      | refine Exists.intro (α := List Value) [iv p2] ⟨⟨rfl, fun w' hw' => e1 w' hw'⟩, ?_⟩
    all_goals first | (exfalso; omega) | exact ⟨k + 1, by omega, by omega, Ent.ren (rho [(0, 3), (1, 4)]) rfl (by rw [ht]; rfl) ⟨rfl, by rw [ht]; rfl, rfl, trivial⟩ (by rw [ht]; exact ⟨rfl, trivial⟩) fun _ h => h⟩
   | cons a D =>
    simp only [List.length_cons] at hlen
    repeat'
     conv => whnf
     first
      | refine zA ?_ | refine zB ?_ | refine zC ?_ | refine zD ?_ | refine zE ?_ | refine zF ?_ | refine zG ?_ | refine zH ?_ | refine zJ ?_ | refine zI ?_ | refine splT ?_ | refine splF ?_ | refine splNot ?_
      | ((first | refine splIn ?_ ?_ | refine splD ?_ ?_ | refine splE ?_ ?_ | refine splNE ?_ ?_) <;> intro hc <;> first | (exfalso; omega) | (exfalso; dsimp only at hc; omega) | skip)
      | refine Exists.intro (α := List Value) [iv p1] ⟨⟨rfl, fun w' hw' => e0 w' hw'⟩, ?_⟩
      | refine Exists.intro (α := List Value) [iv p2] ⟨⟨rfl, fun w' hw' => e1 w' hw'⟩, ?_⟩
    all_goals first | (exfalso; omega) | exact ⟨k + 1, by omega, by omega, Ent.ren (rho [(0, 3), (1, 4)]) rfl (by rw [ht]; rfl) ⟨rfl, by rw [ht]; simp [oSV]; rfl, rfl, trivial⟩ (by rw [ht]; exact ⟨by simp [oM]; rfl, trivial⟩) fun _ h => h⟩
 · obtain rfl : k = L.length := by omega
   rw [List.take_length]
   cases L with
   | nil =>
    repeat'
     conv => whnf
     first
      | refine zA ?_ | refine zB ?_ | refine zC ?_ | refine zD ?_ | refine zE ?_ | refine zF ?_ | refine zG ?_ | refine zH ?_ | refine zJ ?_ | refine zI ?_ | refine splT ?_ | refine splF ?_ | refine splNot ?_
      | ((first | refine splIn ?_ ?_ | refine splD ?_ ?_ | refine splE ?_ ?_ | refine splNE ?_ ?_) <;> intro hc <;> first | (exfalso; omega) | (exfalso; dsimp only at hc; omega) | skip)
    all_goals first | (exfalso; omega) | exact ⟨fun w' h => h, fun β w' hB hB2 hblk => ⟨fun _ => ⟨rfl, hB2⟩, fun h => absurd rfl h⟩⟩
   | cons a D =>
    repeat'
     conv => whnf
     first
      | refine zA ?_ | refine zB ?_ | refine zC ?_ | refine zD ?_ | refine zE ?_ | refine zF ?_ | refine zG ?_ | refine zH ?_ | refine zJ ?_ | refine zI ?_ | refine splT ?_ | refine splF ?_ | refine splNot ?_
      | ((first | refine splIn ?_ ?_ | refine splD ?_ ?_ | refine splE ?_ ?_ | refine splNE ?_ ?_) <;> intro hc <;> first | (exfalso; omega) | (exfalso; dsimp only at hc; omega) | skip)
    all_goals first | (exfalso; omega) | exact ⟨fun w' h => h, fun β w' hB hB2 hblk => ⟨(fun h => by cases h), fun _ => ⟨β 0, β 1, rfl, (hblk 0 _ rfl rfl).1, hB2, (hblk 0 _ rfl rfl).2⟩⟩⟩
end Go.Proofs.Ythfabodamhdhaaa
