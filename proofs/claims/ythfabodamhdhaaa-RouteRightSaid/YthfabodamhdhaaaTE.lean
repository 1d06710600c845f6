/- Whether a tour is right, by the reference; whether it is small: what Right and Small return. -/
import Derived.Test.YthfabodamhdhaaaTD
namespace Go.Proofs.Ythfabodamhdhaaa
open Go Tx Go.RowKit
set_option linter.unusedSimpArgs false
set_option linter.unusedVariables false
theorem toB_iff (days shift size : Int) (to : Option Addr) (tc : Nat) (T : List Tn) (lo : Option Addr) (lc : Nat) (L : List Lr) : toB (Tr.d ⟨days, shift, size, to, tc, T, lo, lc, L⟩) = true ↔ ((1 ≤ days ∧ days ≤ 60) ∧ (1 ≤ shift ∧ shift ≤ 24) ∧ (0 ≤ size ∧ size ≤ 100000) ∧ (2 ≤ T.length ∧ T.length ≤ 9) ∧ L.length = T.length) ∧
 (∃ t, T[0]? = some t ∧ quB t.d = true) ∧ ∀ i < T.length, (i = 0 ∨ ∃ t, T[i]? = some t ∧ twB days t.d = true) ∧ ∃ r, L[i]? = some r ∧ lgB T.length i r.L = true := by
 simp only [toB, inB, Tr.d, Bool.and_eq_true, decide_eq_true_eq, List.all_eq_true, List.mem_range, List.length_map]
 constructor
 · rintro ⟨⟨h1, h2, h3, h4, h5⟩, ⟨h6, h7⟩, h8⟩
   refine ⟨⟨h1, h2, h3, by omega, h5⟩, ?_, fun i hi => ⟨?_, ?_⟩⟩
   · rw [List.getElem?_map] at h6
     cases ht : T[0]? with
     | none => rw [ht] at h6; cases h6
     | some t => rw [ht] at h6; exact ⟨t, rfl, h6⟩
   · by_cases hi0 : i = 0
     · exact .inl hi0
     · refine .inr ⟨T[i], List.getElem?_eq_getElem hi, h7 _ ?_⟩
       rw [List.mem_iff_getElem?]
       exact ⟨i - 1, by rw [List.getElem?_drop, show 1 + (i - 1) = i from by omega, List.getElem?_map, List.getElem?_eq_getElem hi]; rfl⟩
   · have hl : i < L.length := by omega
     have := h8 i hl
     rw [List.getElem?_map, List.getElem?_eq_getElem hl] at this
     exact ⟨L[i], List.getElem?_eq_getElem hl, this⟩
 · rintro ⟨⟨h1, h2, h3, h4, h5⟩, ⟨t, h6, h6'⟩, h8⟩
   refine ⟨⟨h1, h2, h3, by omega, h5⟩, ⟨?_, fun u hu => ?_⟩, fun i hi => ?_⟩
   · rw [List.getElem?_map, h6]; exact h6'
   · obtain ⟨k, hk⟩ := List.mem_iff_getElem?.1 hu
     rw [List.getElem?_drop, List.getElem?_map, Option.map_eq_some_iff] at hk
     obtain ⟨v, hv, rfl⟩ := hk
     have hlt := (List.getElem?_eq_some_iff.1 hv).1
     rcases (h8 (1 + k) hlt).1 with h | ⟨v', hv', h⟩
     · omega
     · rw [hv, Option.some.injEq] at hv'; subst hv'; exact h
   · obtain ⟨r, hr, h⟩ := (h8 i (by omega)).2
     rw [List.getElem?_map, hr]; exact h
set_option maxHeartbeats 4000000 in
set_option maxRecDepth 100000 in
theorem Right_ok (x : Tr) (w : World) (h : TrI0 x w) : Calls Try.prog 22 #[x.v] w fun e w' => e = .returned (.bool (toB x.d)) ∧ Below w.heap.size w w' := by
 obtain ⟨days, shift, size, to, tc, T, lo, lc, L⟩ := x
 obtain ⟨hT, hTi, hL, hLi, htl, hll, hlr, htc⟩ := h
 dsimp only at hT hTi hL hLi htl hll hlr htc ⊢
 have hiff := toB_iff days shift size to tc T lo lc L
 obtain ⟨V, hV⟩ : ∃ V, toB (Tr.d ⟨days, shift, size, to, tc, T, lo, lc, L⟩) = V := ⟨_, rfl⟩
 rw [hV] at hiff ⊢
 clear hV
 refine calls_val env mixed Try.func22 has22 Try.ntmps22 [.agg #[iv days, iv shift, iv size, .slice to T.length tc, .slice lo L.length lc]] (by simp) ?_
 by_cases hA : (1 ≤ days ∧ days ≤ 60) ∧ (1 ≤ shift ∧ shift ≤ 24) ∧ (0 ≤ size ∧ size ≤ 100000) ∧ (2 ≤ T.length ∧ T.length ≤ 9) ∧ L.length = T.length
 · obtain ⟨t0, ht0⟩ : ∃ t, T[0]? = some t := ⟨_, List.getElem?_eq_getElem (by omega)⟩
   obtain ⟨_, ad, rfl, _⟩ := hT.ptr (by omega)
   obtain ⟨_, al, rfl, _⟩ := hL.ptr (by omega)
   have e0 := fun (w' : World) hw' => rd_atz (hT.below (w' := w') hw') ht0 (0 : Int) rfl
   have h61 := fun w' : World => empty_ok t0 w'
   have hq0 : (∃ t, T[0]? = some t ∧ quB t.d = true) ↔ quB t0.d = true := ⟨fun ⟨t, h1, h2⟩ => by rw [ht0, Option.some.injEq] at h1; subst h1; exact h2, fun h => ⟨t0, ht0, h⟩⟩
   obtain ⟨oo, oc, ro, rc, O, s1, s2, pay, lot, rent, R, cold, cut⟩ := t0
   dsimp only at h61 e0 hq0 ⊢
   obtain ⟨vq, hvq⟩ : ∃ v, quB ⟨O, s1, s2, pay, lot, rent, R, cold, cut⟩ = v := ⟨_, rfl⟩
   rw [hvq] at h61 hq0
   cases vq with
   | false =>
    have hVf : false = V := by
     cases V with
     | false => rfl
     | true => have := hq0.1 (hiff.1 rfl).2.1; cases this
    repeat'
     conv => whnf
     first
      | refine zA ?_ | refine zB ?_ | refine zC ?_ | refine zD ?_ | refine zE ?_ | refine zF ?_ | refine zG ?_ | refine zH ?_ | refine zJ ?_ | refine zI ?_ | refine splT ?_ | refine splF ?_ | refine splNot ?_
      | ((first | refine splIn ?_ ?_ | refine splD ?_ ?_ | refine splE ?_ ?_ | refine splNE ?_ ?_) <;> intro hc <;> first | (exfalso; omega) | (exfalso; dsimp only at hc; omega) | skip)
      | ((with_reducible show CallEv _ _ 37 _ _ _ _ _); refine callE (k := 37) (fun β w' hbw => In_ok _ _ _ w') ?_)
      | refine Exists.intro (α := List Value) [.slice oo O.length oc, iv s1, iv s2, iv pay, iv lot, iv rent, .slice ro R.length rc, iv cold, iv cut] ⟨⟨rfl, fun w' hw' => e0 w' hw'⟩, ?_⟩
      | ((with_reducible show CallEv _ _ 61 _ _ _ _ _); refine callE (k := 61) (fun β w' hbw => h61 w') ?_)
    all_goals first | (exfalso; omega) | exact ⟨fun β => congrArg Value.bool hVf, fun w' h => h⟩
   | true =>
    repeat'
     conv => whnf
     first
      | refine zA ?_ | refine zB ?_ | refine zC ?_ | refine zD ?_ | refine zE ?_ | refine zF ?_ | refine zG ?_ | refine zH ?_ | refine zJ ?_ | refine zI ?_ | refine splT ?_ | refine splF ?_ | refine splNot ?_
      | ((first | refine splIn ?_ ?_ | refine splD ?_ ?_ | refine splE ?_ ?_ | refine splNE ?_ ?_) <;> intro hc <;> first | (exfalso; omega) | (exfalso; dsimp only at hc; omega) | skip)
      | ((with_reducible show CallEv _ _ 37 _ _ _ _ _); refine callE (k := 37) (fun β w' hbw => In_ok _ _ _ w') ?_)
      | refine Exists.intro (α := List Value) [.slice oo O.length oc, iv s1, iv s2, iv pay, iv lot, iv rent, .slice ro R.length rc, iv cold, iv cut] ⟨⟨rfl, fun w' hw' => e0 w' hw'⟩, ?_⟩
      | ((with_reducible show CallEv _ _ 61 _ _ _ _ _); refine callE (k := 61) (fun β w' hbw => h61 w') ?_)
    all_goals first | (exfalso; omega) | skip
    refine loopE (fun i : Nat => [(1, .ptr 0 0), (3, .v (iv T.length)), (4, .v (iv i))]) (fun _ => [(0, .cells [.v (iv days), .v (iv shift), .v (iv size), .v (.slice (some ad) T.length tc), .v (.slice (some al) L.length lc)] 25)])
     (fun i => i ≤ T.length ∧ ∀ k < i, (k = 0 ∨ ∃ t, T[k]? = some t ∧ twB days t.d = true) ∧ ∃ r, L[k]? = some r ∧ lgB T.length k r.L = true) (fun i => T.length - i) 0 ⟨Nat.zero_le _, fun k hk => by omega⟩ ⟨rfl, rfl, rfl, trivial⟩ ⟨rfl, trivial⟩ (fun _ => ⟨rfl, rfl⟩) ?_
    intro i ⟨hi, hall⟩
    rcases Nat.lt_or_ge i T.length with hil | hil
    · obtain ⟨ti, hti⟩ : ∃ t, T[i]? = some t := ⟨_, List.getElem?_eq_getElem hil⟩
      obtain ⟨⟨ro', rc', row⟩, hri⟩ : ∃ r, L[i]? = some r := ⟨_, List.getElem?_eq_getElem (by omega)⟩
      have e1 := fun (w' : World) hw' => rd_ati (hT.below (w' := w') hw') hti
      have e2 := fun (w' : World) hw' => rd_ati (hL.below (w' := w') hw') hri
      have h62 := fun w' hb => rtown_ok ti days w' ((hTi ti (List.mem_of_getElem? hti)).below hb) (by omega)
      have hrow := hLi _ (List.mem_of_getElem? hri)
      have hrl := hlr _ (List.mem_of_getElem? hri)
      dsimp only at hrow hrl e2
      have hno : ¬ ((i = 0 ∨ twB days ti.d = true) ∧ lgB T.length i row = true) → false = V := fun hn => by
       cases V with
       | false => rfl
       | true =>
        obtain ⟨h1, r, h2, h3⟩ := (hiff.1 rfl).2.2 i hil
        rw [hri, Option.some.injEq] at h2
        subst h2
        refine absurd ⟨?_, h3⟩ hn
        rcases h1 with h1 | ⟨t, h1, h4⟩
        · exact .inl h1
        · rw [hti, Option.some.injEq] at h1; subst h1; exact .inr h4
      have hyes : (i = 0 ∨ twB days ti.d = true) → lgB T.length i row = true → ∀ k < i + 1, (k = 0 ∨ ∃ t, T[k]? = some t ∧ twB days t.d = true) ∧ ∃ r, L[k]? = some r ∧ lgB T.length k r.L = true := fun h1 h2 k hk => by
       rcases (by omega : k < i ∨ k = i) with hk | rfl
       · exact hall k hk
       · exact ⟨h1.imp id fun h => ⟨ti, hti, h⟩, _, hri, h2⟩
      obtain ⟨vt, hvt⟩ : ∃ v, twB days ti.d = v := ⟨_, rfl⟩
      rw [hvt] at h62 hno hyes
      obtain ⟨oo1, oc1, ro1, rc1, O1, s11, s21, pay1, lot1, rent1, R1, cold1, cut1⟩ := ti
      by_cases hok1 : i = 0 ∨ vt = true
      · by_cases hrn : row.length = T.length
        · obtain ⟨_, ar, rfl, _⟩ := hrow.ptr (by omega)
          have hi0 : vt = false → i = 0 := fun e => by
           rcases hok1 with h | h
           · exact h
           · rw [e] at h; cases h
          cases vt
          all_goals first | (have hi1 := hi0 rfl) | skip
          all_goals clear hi0
          repeat'
           conv => whnf
           first
            | refine zA ?_ | refine zB ?_ | refine zC ?_ | refine zD ?_ | refine zE ?_ | refine zF ?_ | refine zG ?_ | refine zH ?_ | refine zJ ?_ | refine zI ?_ | refine splT ?_ | refine splF ?_ | refine splNot ?_
            | ((first | refine splIn ?_ ?_ | refine splD ?_ ?_ | refine splE ?_ ?_ | refine splNE ?_ ?_) <;> intro hc <;> first | (exfalso; omega) | (exfalso; dsimp only at hc; omega) | skip)
            | refine Exists.intro (α := List Value) [.slice oo1 O1.length oc1, iv s11, iv s21, iv pay1, iv lot1, iv rent1, .slice ro1 R1.length rc1, iv cold1, iv cut1] ⟨⟨rfl, fun w' hw' => e1 w' hw'⟩, ?_⟩
            | ((with_reducible show CallEv _ _ 62 _ _ _ _ _); refine callE (k := 62) (fun β w' hbw => h62 w' hbw) ?_)
            | refine Exists.intro (α := List Value) [.slice (some ar) row.length rc'] ⟨⟨rfl, fun w' hw' => e2 w' hw'⟩, ?_⟩
          all_goals first | (exfalso; omega) | skip
          all_goals refine loopE (fun j : Nat => [(1, .ptr 0 0), (3, .v (iv T.length)), (4, .v (iv i)), (5, .v (iv j))]) (fun _ => [(0, .cells [.v (iv days), .v (iv shift), .v (iv size), .v (.slice (some ad) T.length tc), .v (.slice (some al) L.length lc)] 25)]) (fun j => j ≤ T.length ∧ ∀ k < j, ∀ p, row[k]? = some p → ((0 ≤ p.1 ∧ p.1 ≤ 200) ∧ (0 ≤ p.2 ∧ p.2 ≤ 1000000)) ∧ (i = k → p.1 = 0 ∧ p.2 = 0)) (fun j => T.length - j) 0 ⟨Nat.zero_le _, fun k hk => by omega⟩ ⟨rfl, rfl, rfl, rfl, trivial⟩ ⟨rfl, trivial⟩ (fun _ => ⟨rfl, rfl⟩) ?_
          all_goals
           intro j ⟨hj, hlegs⟩
           rcases Nat.lt_or_ge j T.length with hjl | hjl
           · obtain ⟨⟨p1, p2⟩, hp⟩ : ∃ p, row[j]? = some p := ⟨_, List.getElem?_eq_getElem (by omega)⟩
             have e3 := fun (w' : World) hw' => rd_ati (hrow.below (w' := w') hw') hp
             by_cases hok : ((0 ≤ p1 ∧ p1 ≤ 200) ∧ (0 ≤ p2 ∧ p2 ≤ 1000000)) ∧ (i = j → p1 = 0 ∧ p2 = 0)
             · have hnx : ∀ k < j + 1, ∀ p, row[k]? = some p → ((0 ≤ p.1 ∧ p.1 ≤ 200) ∧ (0 ≤ p.2 ∧ p.2 ≤ 1000000)) ∧ (i = k → p.1 = 0 ∧ p.2 = 0) := fun k hk p hpk => by
                rcases (by omega : k < j ∨ k = j) with hk | rfl
                · exact hlegs k hk p hpk
                · rw [hp, Option.some.injEq] at hpk; subst hpk; exact hok
               by_cases hz0 : p1 = 0 ∧ p2 = 0
               · have hz : (!(p1 == 0 && p2 == 0)) = false := by simp [hz0.1, hz0.2]
                 repeat'
                  conv => whnf
                  first
                   | refine zA ?_ | refine zB ?_ | refine zC ?_ | refine zD ?_ | refine zE ?_ | refine zF ?_ | refine zG ?_ | refine zH ?_ | refine zJ ?_ | refine zI ?_ | refine splT ?_ | refine splF ?_ | refine splNot ?_
                   | ((first | refine splIn ?_ ?_ | refine splD ?_ ?_ | refine splE ?_ ?_ | refine splNE ?_ ?_) <;> intro hc <;> first | (exfalso; omega) | (exfalso; dsimp only at hc; omega) | skip)
                   | refine Exists.intro (α := List Value) [.slice (some ar) row.length rc'] ⟨⟨rfl, fun w' hw' => e2 w' hw'⟩, ?_⟩
                   | refine Exists.intro (α := List Value) [iv p1, iv p2] ⟨⟨rfl, fun w' hw' => e3 w' hw'⟩, ?_⟩
                   | ((with_reducible show CallEv _ _ 37 _ _ _ _ _); refine callE (k := 37) (fun β w' hbw => In_ok _ _ _ w') ?_)
                   | refine neqE127 hz ?_
                 all_goals first | (exfalso; omega) | exact ⟨j + 1, ⟨by omega, hnx⟩, by omega, Ent.weak rfl ⟨rfl, rfl, rfl, rfl, trivial⟩ ⟨rfl, trivial⟩ fun _ h => h⟩
               · have hz : (!(p1 == 0 && p2 == 0)) = true := by
                  cases hb : (p1 == 0 && p2 == 0) with
                  | false => rfl
                  | true => simp at hb; exact absurd hb hz0
                 repeat'
                  conv => whnf
                  first
                   | refine zA ?_ | refine zB ?_ | refine zC ?_ | refine zD ?_ | refine zE ?_ | refine zF ?_ | refine zG ?_ | refine zH ?_ | refine zJ ?_ | refine zI ?_ | refine splT ?_ | refine splF ?_ | refine splNot ?_
                   | ((first | refine splIn ?_ ?_ | refine splD ?_ ?_ | refine splE ?_ ?_ | refine splNE ?_ ?_) <;> intro hc <;> first | (exfalso; omega) | (exfalso; dsimp only at hc; omega) | skip)
                   | refine Exists.intro (α := List Value) [.slice (some ar) row.length rc'] ⟨⟨rfl, fun w' hw' => e2 w' hw'⟩, ?_⟩
                   | refine Exists.intro (α := List Value) [iv p1, iv p2] ⟨⟨rfl, fun w' hw' => e3 w' hw'⟩, ?_⟩
                   | ((with_reducible show CallEv _ _ 37 _ _ _ _ _); refine callE (k := 37) (fun β w' hbw => In_ok _ _ _ w') ?_)
                   | refine neqE127 hz ?_
                 all_goals first | (exfalso; omega) | exact ⟨j + 1, ⟨by omega, hnx⟩, by omega, Ent.weak rfl ⟨rfl, rfl, rfl, rfl, trivial⟩ ⟨rfl, trivial⟩ fun _ h => h⟩
             · have hVf : false = V := hno fun hh => hok (by
                have h2 := hh.2
                simp only [lgB, inB, Bool.and_eq_true, decide_eq_true_eq, List.all_eq_true] at h2
                refine ⟨h2.2.2 (p1, p2) (List.mem_of_getElem? hp), fun e => ?_⟩
                subst e
                rw [hp, Option.some.injEq, Prod.mk.injEq] at h2
                exact h2.2.1)
               obtain ⟨vz, hz⟩ : ∃ v, (!(p1 == 0 && p2 == 0)) = v := ⟨_, rfl⟩
               have hz2 : vz = false → p1 = 0 ∧ p2 = 0 := fun e => by subst e; simpa using hz
               cases vz
               all_goals skip
               all_goals have hz2 := hz2
               · have hz3 := hz2 rfl
                 repeat'
                  conv => whnf
                  first
                   | refine zA ?_ | refine zB ?_ | refine zC ?_ | refine zD ?_ | refine zE ?_ | refine zF ?_ | refine zG ?_ | refine zH ?_ | refine zJ ?_ | refine zI ?_ | refine splT ?_ | refine splF ?_ | refine splNot ?_
                   | ((first | refine splIn ?_ ?_ | refine splD ?_ ?_ | refine splE ?_ ?_ | refine splNE ?_ ?_) <;> intro hc <;> first | (exfalso; omega) | (exfalso; dsimp only at hc; omega) | skip)
                   | refine Exists.intro (α := List Value) [.slice (some ar) row.length rc'] ⟨⟨rfl, fun w' hw' => e2 w' hw'⟩, ?_⟩
                   | refine Exists.intro (α := List Value) [iv p1, iv p2] ⟨⟨rfl, fun w' hw' => e3 w' hw'⟩, ?_⟩
                   | ((with_reducible show CallEv _ _ 37 _ _ _ _ _); refine callE (k := 37) (fun β w' hbw => In_ok _ _ _ w') ?_)
                   | refine neqE127 hz ?_
                 all_goals first | (exfalso; omega) | exact ⟨fun β => congrArg Value.bool hVf, fun w' h => h⟩
               · clear hz2
                 repeat'
                  conv => whnf
                  first
                   | refine zA ?_ | refine zB ?_ | refine zC ?_ | refine zD ?_ | refine zE ?_ | refine zF ?_ | refine zG ?_ | refine zH ?_ | refine zJ ?_ | refine zI ?_ | refine splT ?_ | refine splF ?_ | refine splNot ?_
                   | ((first | refine splIn ?_ ?_ | refine splD ?_ ?_ | refine splE ?_ ?_ | refine splNE ?_ ?_) <;> intro hc <;> first | (exfalso; omega) | (exfalso; dsimp only at hc; omega) | skip)
                   | refine Exists.intro (α := List Value) [.slice (some ar) row.length rc'] ⟨⟨rfl, fun w' hw' => e2 w' hw'⟩, ?_⟩
                   | refine Exists.intro (α := List Value) [iv p1, iv p2] ⟨⟨rfl, fun w' hw' => e3 w' hw'⟩, ?_⟩
                   | ((with_reducible show CallEv _ _ 37 _ _ _ _ _); refine callE (k := 37) (fun β w' hbw => In_ok _ _ _ w') ?_)
                   | refine neqE127 hz ?_
                 all_goals first | (exfalso; omega) | exact ⟨fun β => congrArg Value.bool hVf, fun w' h => h⟩
           · have hlg : lgB T.length i row = true := by
              simp only [lgB, inB, Bool.and_eq_true, decide_eq_true_eq, List.all_eq_true]
              refine ⟨hrn, ?_, fun p hp => ?_⟩
              · obtain ⟨p, hp⟩ : ∃ p, row[i]? = some p := ⟨_, List.getElem?_eq_getElem (by omega)⟩
                have := (hlegs i (by omega) p hp).2 rfl
                rw [hp]
                obtain ⟨a, b⟩ := p
                simp only [Option.some.injEq, Prod.mk.injEq]
                exact this
              · obtain ⟨k, hk⟩ := List.mem_iff_getElem?.1 hp
                exact (hlegs k (by have := (List.getElem?_eq_some_iff.1 hk).1; omega) p hk).1
             repeat'
              conv => whnf
              first
               | refine zA ?_ | refine zB ?_ | refine zC ?_ | refine zD ?_ | refine zE ?_ | refine zF ?_ | refine zG ?_ | refine zH ?_ | refine zJ ?_ | refine zI ?_ | refine splT ?_ | refine splF ?_ | refine splNot ?_
               | ((first | refine splIn ?_ ?_ | refine splD ?_ ?_ | refine splE ?_ ?_ | refine splNE ?_ ?_) <;> intro hc <;> first | (exfalso; omega) | (exfalso; dsimp only at hc; omega) | skip)
             all_goals first | (exfalso; omega) | exact ⟨i + 1, ⟨by omega, hyes hok1 hlg⟩, by omega, Ent.weak rfl ⟨rfl, rfl, rfl, trivial⟩ ⟨rfl, trivial⟩ fun _ h => h⟩
        · have hVf : false = V := hno fun hh => hrn (by
           have h2 := hh.2
           simp only [lgB, Bool.and_eq_true, decide_eq_true_eq] at h2
           exact h2.1)
          cases vt
          all_goals skip
          repeat'
           conv => whnf
           first
            | refine zA ?_ | refine zB ?_ | refine zC ?_ | refine zD ?_ | refine zE ?_ | refine zF ?_ | refine zG ?_ | refine zH ?_ | refine zJ ?_ | refine zI ?_ | refine splT ?_ | refine splF ?_ | refine splNot ?_
            | ((first | refine splIn ?_ ?_ | refine splD ?_ ?_ | refine splE ?_ ?_ | refine splNE ?_ ?_) <;> intro hc <;> first | (exfalso; omega) | (exfalso; dsimp only at hc; omega) | skip)
            | refine Exists.intro (α := List Value) [.slice oo1 O1.length oc1, iv s11, iv s21, iv pay1, iv lot1, iv rent1, .slice ro1 R1.length rc1, iv cold1, iv cut1] ⟨⟨rfl, fun w' hw' => e1 w' hw'⟩, ?_⟩
            | ((with_reducible show CallEv _ _ 62 _ _ _ _ _); refine callE (k := 62) (fun β w' hbw => h62 w' hbw) ?_)
            | refine Exists.intro (α := List Value) [.slice ro' row.length rc'] ⟨⟨rfl, fun w' hw' => e2 w' hw'⟩, ?_⟩
          all_goals first | (exfalso; omega) | exact ⟨fun β => congrArg Value.bool hVf, fun w' h => h⟩
      · have hVf : false = V := hno fun hh => hok1 hh.1
        cases vt with
        | true => exact absurd (.inr rfl) hok1
        | false =>
         have hi0 : i ≠ 0 := fun e => hok1 (.inl e)
         repeat'
          conv => whnf
          first
           | refine zA ?_ | refine zB ?_ | refine zC ?_ | refine zD ?_ | refine zE ?_ | refine zF ?_ | refine zG ?_ | refine zH ?_ | refine zJ ?_ | refine zI ?_ | refine splT ?_ | refine splF ?_ | refine splNot ?_
           | ((first | refine splIn ?_ ?_ | refine splD ?_ ?_ | refine splE ?_ ?_ | refine splNE ?_ ?_) <;> intro hc <;> first | (exfalso; omega) | (exfalso; dsimp only at hc; omega) | skip)
           | refine Exists.intro (α := List Value) [.slice oo1 O1.length oc1, iv s11, iv s21, iv pay1, iv lot1, iv rent1, .slice ro1 R1.length rc1, iv cold1, iv cut1] ⟨⟨rfl, fun w' hw' => e1 w' hw'⟩, ?_⟩
           | ((with_reducible show CallEv _ _ 62 _ _ _ _ _); refine callE (k := 62) (fun β w' hbw => h62 w' hbw) ?_)
           | refine Exists.intro (α := List Value) [.slice ro' row.length rc'] ⟨⟨rfl, fun w' hw' => e2 w' hw'⟩, ?_⟩
         all_goals first | (exfalso; omega) | exact ⟨fun β => congrArg Value.bool hVf, fun w' h => h⟩
    · have hVt : true = V := (hiff.2 ⟨hA, hq0.2 rfl, fun k hk => hall k (by omega)⟩).symm
      repeat'
       conv => whnf
       first
        | refine zA ?_ | refine zB ?_ | refine zC ?_ | refine zD ?_ | refine zE ?_ | refine zF ?_ | refine zG ?_ | refine zH ?_ | refine zJ ?_ | refine zI ?_ | refine splT ?_ | refine splF ?_ | refine splNot ?_
        | ((first | refine splIn ?_ ?_ | refine splD ?_ ?_ | refine splE ?_ ?_ | refine splNE ?_ ?_) <;> intro hc <;> first | (exfalso; omega) | (exfalso; dsimp only at hc; omega) | skip)
      all_goals first | (exfalso; omega) | exact ⟨fun β => congrArg Value.bool hVt, fun w' h => h⟩
 · have hVf : false = V := by
    cases V with
    | false => rfl
    | true => exact absurd (hiff.1 rfl).1 hA
   repeat'
    conv => whnf
    first
     | refine zA ?_ | refine zB ?_ | refine zC ?_ | refine zD ?_ | refine zE ?_ | refine zF ?_ | refine zG ?_ | refine zH ?_ | refine zJ ?_ | refine zI ?_ | refine splT ?_ | refine splF ?_ | refine splNot ?_
     | ((first | refine splIn ?_ ?_ | refine splD ?_ ?_ | refine splE ?_ ?_ | refine splNE ?_ ?_) <;> intro hc <;> first | (exfalso; omega) | (exfalso; dsimp only at hc; omega) | skip)
     | ((with_reducible show CallEv _ _ 37 _ _ _ _ _); refine callE (k := 37) (fun β w' hbw => In_ok _ _ _ w') ?_)
   all_goals first | (exfalso; omega) | exact ⟨fun β => congrArg Value.bool hVf, fun w' h => h⟩
end Go.Proofs.Ythfabodamhdhaaa
