/- begin: what it returns, by itself and home. -/
import Derived.Test.YthfabodamhdhaaaRE
namespace Go.Proofs.Ythfabodamhdhaaa
open Go Tx Go.RowKit
set_option linter.unusedSimpArgs false
set_option linter.unusedVariables false
set_option maxHeartbeats 4000000 in
set_option maxRecDepth 100000 in
theorem begin_of (x : Tr) (AL : Nat → Nat → List Nat) (aa : Alp) (an ac b1 b2 : Nat) (S a d : Nat) (han : an = x.T.length) (hn : ToN x.d) (hA : AlOk x.d AL) (hS : S < 512) (ha1 : 1 ≤ a) (ha : a < x.T.length) (hd : d ≤ 300) (hbt : S.testBit a = false) (hLl : ∀ a d, (AL a d).length ≤ 10)
 (hBn : d < x.days.toNat → BeginC x AL aa an ac b1 b2 S a (d + 1)) (hH : ∀ e, e ≤ 60 → HomeC x AL aa an ac b1 b2 (S ||| 2 ^ a) a e) : BeginC x AL aa an ac b1 b2 S a d := by
 intro β w hp hst
 have hw0 := hst w (Chg.refl _ _)
 have hkey : ∃ kl, keyOf Try.prog 118 (stK S a d) = some kl := stK_key (wfU (by omega)) (wfI (by have := hn.n; simp [Tr.d] at this; omega)) (wfI (by omega))
 obtain ⟨kl, hkey⟩ := hkey
 have hBat := stD_at (bgO x.d AL) S a d
 have hnT := hn.n
 have hday := hn.d
 have hbd := fun l => hmO_bd hn hA (S ||| 2 ^ a) a (l + 1)
 have hbd1 := bgO_bd hn hA S a (d + 1) ha1 (by simp only [Tr.d, List.length_map]; exact ha) hbt
 have hgb := fun l hl => gn_bd hn (a := a) (d := d) (l := l) ha1 hl
 have h101 := fun l (hl : d ≤ l ∧ l < d + 10 ∧ l ≤ 60) w' (h : Hp x AL aa w') => gain_ok x a d l w' h.1 hn ha1 ha (by omega)
 have h59 := fun l (hl : l ≤ 60) w' => after_ok S a d a d l w' hS (by have := hn.n; simp [Tr.d] at this; omega) (by omega)
 have hAl := hA a d ha1 (by simp only [Tr.d, List.length_map]; exact ha)
 have hst1 := bgO_step x.d AL S a d
 have hend := bgO_end x.d AL S a d
 have eA : ∀ w', Hp x AL aa w' → _ := fun w' h => h.2 a ha1 (by simp only [Tr.d, List.length_map]; exact ha)
 obtain ⟨days, shift, size, to, tc, T, lo, lc, L⟩ := x
 dsimp only [Tr.d] at hnT hday hAl
 dsimp only at ha han
 simp only [List.length_map] at hnT
 have hto : to ≠ none ∧ lo ≠ none := by
  have hl := hn.l
  simp only [Tr.d, List.length_map] at hl
  obtain ⟨_, la, rfl, _⟩ := hw0.1.l.ptr (show 1 ≤ L.length by omega)
  obtain ⟨_, ta, rfl, _⟩ := hw0.1.t.ptr (show 1 ≤ T.length by omega)
  simp
 obtain ⟨hto, hlo⟩ := hto
 obtain ⟨la, rfl⟩ := Option.ne_none_iff_exists'.1 hlo
 obtain ⟨ta, rfl⟩ := Option.ne_none_iff_exists'.1 hto
 refine calls_P Try.func100 has100 Try.ntmps100 [.v (stK S a d), .ptr 0 0, .ptr 3 0] _ (by simp) rfl (fun h hh => ?_) hp hst
 unfold MB
 dsimp only
 by_cases hdd : days.toNat ≤ d
 · rw [hend hdd]
   repeat'
    conv => whnf
    first
     | refine zA ?_ | refine zB ?_ | refine zC ?_ | refine zD ?_ | refine zE ?_ | refine zF ?_ | refine zG ?_ | refine zH ?_ | refine zJ ?_ | refine zI ?_ | refine splT ?_ | refine splF ?_ | refine splNot ?_
     | ((first | refine splIn ?_ ?_ | refine splD ?_ ?_ | refine splE ?_ ?_ | refine splNE ?_ ?_) <;> intro hc <;> first | (exfalso; omega) | (exfalso; dsimp only at hc; omega) | skip)
     | refine nilE rfl rfl ?_
   all_goals first | (exfalso; omega) | exact ⟨fun β => rfl, ⟨rfl, rfl, rfl, rfl, rfl, rfl, trivial⟩, fun w' h => h, rfl⟩
 · have hdl : d < days.toNat := by omega
   have hsf := hst1 hdl
   have e1 : ∀ w', h w' → ∀ j v, [Value.slice (some (aa.ra a).1) days.toNat (aa.ra a).2][j]? = some v → w'.cell? ((aa.aa.add ((a : Int).toNat * 1)).add j) = some v := fun w' hw' j v hj => by
    match j, hj with
    | 0, hj => cases hj; rw [Int.toNat_natCast, Addr.add_add, Nat.add_zero]; exact (eA w' (hh w' hw')).1
   have e2 : ∀ w', h w' → ∀ j v, [Value.slice (aa.so a d).1 (AL a d).length (aa.so a d).2][j]? = some v → w'.cell? (((aa.ra a).1.add ((d : Int).toNat * 1)).add j) = some v := fun w' hw' j v hj => by
    match j, hj with
    | 0, hj => cases hj; rw [Int.toNat_natCast, Addr.add_add, Nat.add_zero]; exact ((eA w' (hh w' hw')).2 d hdl).1
   have e3 : ∀ w', h w' → Rd 3 (slF a d) (.slice (aa.so a d).1 (AL a d).length (aa.so a d).2) (AL a d) w' := fun w' hw' => ((eA w' (hh w' hw')).2 d hdl).2
   have hrd0 := ((eA w (hst w (Chg.refl _ _))).2 d hdl).2
   generalize aa.so a d = so at *
   obtain ⟨so1, so2⟩ := so
   dsimp only at e2 e3 hrd0
   generalize hAL : AL a d = LL at *
   obtain ⟨st, hste⟩ : ∃ st : Int → Nat → Int, st = fun (n : Int) (l : Nat) => imax n (gnO (Tr.d ⟨days, shift, size, some ta, tc, T, some la, lc, L⟩) a d l + hmO (Tr.d ⟨days, shift, size, some ta, tc, T, some la, lc, L⟩) AL (S ||| 2 ^ a) a (l + 1)) := ⟨_, rfl⟩
   rw [← hste] at hsf
   have hs1 : ∀ (n : Int) (l : Nat), st n l = imax n (gnO (Tr.d ⟨days, shift, size, some ta, tc, T, some la, lc, L⟩) a d l + hmO (Tr.d ⟨days, shift, size, some ta, tc, T, some la, lc, L⟩) AL (S ||| 2 ^ a) a (l + 1)) := fun n l => by rw [hste]
   clear hste
   have hLl : LL.length ≤ 10 := by rw [← hAL]; exact hLl a d
   repeat'
    conv => whnf
    first
     | refine zA ?_ | refine zB ?_ | refine zC ?_ | refine zD ?_ | refine zE ?_ | refine zF ?_ | refine zG ?_ | refine zH ?_ | refine zJ ?_ | refine zI ?_ | refine splT ?_ | refine splF ?_ | refine splNot ?_
     | ((first | refine splIn ?_ ?_ | refine splD ?_ ?_ | refine splE ?_ ?_ | refine splNE ?_ ?_) <;> intro hc <;> first | (exfalso; omega) | (exfalso; dsimp only at hc; omega) | skip)
     | refine lookS env (i := 5) law118 rfl rfl (fun β => rfl) rfl under169 zero3 hkey hBat ?_ ?_
     | refine nilE rfl rfl ?_
     | ((with_reducible show CallEv _ _ 100 _ _ _ _ _); refine callWR [0, 1, 2, 3, 4, 5] [(4, .obj b1 (MpOk Try.prog 118 (stD (hmO (Tr.d ⟨days, shift, size, some ta, tc, T, some la, lc, L⟩) AL)))), (5, .obj b2 (MpOk Try.prog 118 (stD (bgO (Tr.d ⟨days, shift, size, some ta, tc, T, some la, lc, L⟩) AL))))] (iv (bgO (Tr.d ⟨days, shift, size, some ta, tc, T, some la, lc, L⟩) AL S a (d + 1))) rfl (fun β w' h1 h2 hs2 => (hBn hdl β w' (PS.of (x := ⟨days, shift, size, some ta, tc, T, some la, lc, L⟩) (AL := AL) (aa := aa) (an := an) (ac := ac) (b1 := b1) (b2 := b2) (six rfl rfl rfl rfl rfl rfl) h1 h2) (fun w2 hc => hh w2 (hs2 w2 (chg_six (x := ⟨days, shift, size, some ta, tc, T, some la, lc, L⟩) (AL := AL) (aa := aa) (an := an) (ac := ac) (b1 := b1) (b2 := b2) (six rfl rfl rfl rfl rfl rfl) hc)))).mono fun e w2 ⟨e1, e2, e3⟩ => ⟨e1, (PS.of (x := ⟨days, shift, size, some ta, tc, T, some la, lc, L⟩) (AL := AL) (aa := aa) (an := an) (ac := ac) (b1 := b1) (b2 := b2) (six rfl rfl rfl rfl rfl rfl) h1 h2).chg e2, e3.out⟩) ?_)
     | refine Exists.intro (α := List Value) [.slice (some (aa.ra a).1) days.toNat (aa.ra a).2] ⟨⟨rfl, fun w' hw' => e1 w' hw'⟩, ?_⟩
     | refine Exists.intro (α := List Value) [.slice so1 LL.length so2] ⟨⟨rfl, fun w' hw' => e2 w' hw'⟩, ?_⟩
   all_goals first | (exfalso; omega) | exact ⟨fun β => rfl, ⟨rfl, rfl, rfl, rfl, rfl, rfl, trivial⟩, fun w' h => h, rfl⟩ | skip
   refine loopN 7 (fun i : Nat => [(1, .ptr 0 0), (2, .ptr 3 0), (3, .ptr 6 0), (7, .v (iv ((LL.take i).foldl st (bgO (Tr.d ⟨days, shift, size, some ta, tc, T, some la, lc, L⟩) AL S a (d + 1))))), (50, .v (.slice so1 LL.length so2)), (51, .v (iv LL.length)), (52, .v (iv i))]) (fun _ => [(4, .obj b1 (MpOk Try.prog 118 (stD (hmO (Tr.d ⟨days, shift, size, some ta, tc, T, some la, lc, L⟩) AL)))), (5, .obj b2 (MpOk Try.prog 118 (stD (bgO (Tr.d ⟨days, shift, size, some ta, tc, T, some la, lc, L⟩) AL)))), (0, .cells [.ptr 2 0] 114), (1, .cells [.v (.map (some b1))] 169), (2, .cells [.v (iv days), .v (iv shift), .v (iv size), .v (.slice (some ta) T.length tc), .v (.slice (some la) L.length lc), .v (.slice (some aa.aa) an ac), .fn (.func 97) [.ptr 1 0, .ptr 0 0], .fn (.func 100) [.ptr 0 0, .ptr 3 0]] 122), (3, .cells [.v (.map (some b2))] 169), (6, .cells [.v (.int .u64 S), .v (iv a), .v (iv d)] 118)]) (fun i => i ≤ LL.length) (fun i => LL.length - i) 0 (Nat.zero_le _) ⟨rfl, rfl, rfl, rfl, rfl, rfl, rfl, trivial⟩ ⟨rfl, rfl, rfl, rfl, rfl, rfl, rfl, trivial⟩ (fun _ _ => ⟨rfl, rfl⟩) ?_
   intro i hi
   rcases Nat.lt_or_ge i LL.length with hil | hil
   · obtain ⟨l, hl⟩ : ∃ l, LL[i]? = some l := ⟨_, List.getElem?_eq_getElem hil⟩
     have hlm := hAl l (List.mem_of_getElem? hl)
     have hfs : (LL.take (i + 1)).foldl st (bgO (Tr.d ⟨days, shift, size, some ta, tc, T, some la, lc, L⟩) AL S a (d + 1)) = st ((LL.take i).foldl st (bgO (Tr.d ⟨days, shift, size, some ta, tc, T, some la, lc, L⟩) AL S a (d + 1))) l := by rw [List.take_add_one, hl, List.foldl_append]; rfl
     rw [hs1] at hfs
     obtain ⟨_, sa, rfl, _⟩ := hrd0.ptr (by omega)
     have e4 := fun w' hw' => rd_ati (e3 w' hw') hl
     have hg1 := hgb l (by omega)
     have hb1 := hbd l
     have h101l := h101 l (by omega)
     have h59l := h59 l (by omega)
     generalize (LL.take i).foldl st (bgO (Tr.d ⟨days, shift, size, some ta, tc, T, some la, lc, L⟩) AL S a (d + 1)) = N0 at *
     repeat'
      conv => whnf
      first
       | refine zA ?_ | refine zB ?_ | refine zC ?_ | refine zD ?_ | refine zE ?_ | refine zF ?_ | refine zG ?_ | refine zH ?_ | refine zJ ?_ | refine zI ?_ | refine splT ?_ | refine splF ?_ | refine splNot ?_
       | ((first | refine splIn ?_ ?_ | refine splD ?_ ?_ | refine splE ?_ ?_ | refine splNE ?_ ?_) <;> intro hc <;> first | (exfalso; omega) | (exfalso; dsimp only at hc; omega) | skip)
       | refine nilE rfl rfl ?_
       | refine Exists.intro (α := List Value) [iv a, iv d, iv l] ⟨⟨rfl, fun w' hw' => e4 w' hw'⟩, ?_⟩
       | ((with_reducible show CallEv _ _ 101 _ _ _ _ _); refine callE (k := 101) (fun β w' hbw => h101l w' (hh w' hbw)) ?_)
       | ((with_reducible show CallEv _ _ 59 _ _ _ _ _); refine callE (k := 59) (fun β w' hbw => h59l w') ?_)
       | ((with_reducible show CallEv _ _ 97 _ _ _ _ _); refine callWR [0, 1, 2, 3, 4, 5] [(4, .obj b1 (MpOk Try.prog 118 (stD (hmO (Tr.d ⟨days, shift, size, some ta, tc, T, some la, lc, L⟩) AL)))), (5, .obj b2 (MpOk Try.prog 118 (stD (bgO (Tr.d ⟨days, shift, size, some ta, tc, T, some la, lc, L⟩) AL))))] (iv (hmO (Tr.d ⟨days, shift, size, some ta, tc, T, some la, lc, L⟩) AL (S ||| 2 ^ a) a (l + 1))) rfl (fun β w' h1 h2 hs2 => (hH (l + 1) (by omega) β w' (PS.of (x := ⟨days, shift, size, some ta, tc, T, some la, lc, L⟩) (AL := AL) (aa := aa) (an := an) (ac := ac) (b1 := b1) (b2 := b2) (six rfl rfl rfl rfl rfl rfl) h1 h2) (fun w2 hc => hh w2 (hs2 w2 (chg_six (x := ⟨days, shift, size, some ta, tc, T, some la, lc, L⟩) (AL := AL) (aa := aa) (an := an) (ac := ac) (b1 := b1) (b2 := b2) (six rfl rfl rfl rfl rfl rfl) hc)))).mono fun e w2 ⟨e1, e2, e3⟩ => ⟨e1, (PS.of (x := ⟨days, shift, size, some ta, tc, T, some la, lc, L⟩) (AL := AL) (aa := aa) (an := an) (ac := ac) (b1 := b1) (b2 := b2) (six rfl rfl rfl rfl rfl rfl) h1 h2).chg e2, e3.out⟩) ?_)
       | ((with_reducible show CallEv _ _ 98 _ _ _ _ _); refine callM [8] (fun β w' hbk hbw => max2_ok N0 (gnO (Tr.d ⟨days, shift, size, some ta, tc, T, some la, lc, L⟩) a d l + hmO (Tr.d ⟨days, shift, size, some ta, tc, T, some la, lc, L⟩) AL (S ||| 2 ^ a) a (l + 1)) (β 8) 2 w' (rd2 (hbk 8 (by simp) _ rfl))) ?_)
     all_goals first | (exfalso; omega) | exact ⟨i + 1, by omega, by omega, Ent.weak rfl ⟨rfl, rfl, rfl, by rw [hfs]; rfl, rfl, rfl, rfl, trivial⟩ ⟨rfl, rfl, rfl, rfl, rfl, rfl, rfl, trivial⟩ fun _ h => h⟩
   · obtain rfl : i = LL.length := by omega
     rw [List.take_length, ← hsf]
     repeat'
      conv => whnf
      first
       | refine zA ?_ | refine zB ?_ | refine zC ?_ | refine zD ?_ | refine zE ?_ | refine zF ?_ | refine zG ?_ | refine zH ?_ | refine zJ ?_ | refine zI ?_ | refine splT ?_ | refine splF ?_ | refine splNot ?_
       | ((first | refine splIn ?_ ?_ | refine splD ?_ ?_ | refine splE ?_ ?_ | refine splNE ?_ ?_) <;> intro hc <;> first | (exfalso; omega) | (exfalso; dsimp only at hc; omega) | skip)
       | refine updE env 5 law118 rfl rfl (fun β => rfl) rfl rfl under169 hkey hBat.symm rfl ?_
       | refine nilE rfl rfl ?_
     all_goals first | (exfalso; omega) | exact ⟨fun β => rfl, ⟨rfl, rfl, rfl, rfl, rfl, rfl, trivial⟩, fun w' h => h, rfl⟩
theorem or_512 {S a : Nat} (hS : S < 512) (ha : a < 9) : S ||| 2 ^ a < 512 := Nat.or_lt_two_pow (n := 9) hS (Nat.pow_lt_pow_right (by decide) ha)
theorem plan_all {x : Tr} {AL : Nat → Nat → List Nat} {aa : Alp} {an ac b1 b2 : Nat} (han : an = x.T.length) (hn : ToN x.d) (hA : AlOk x.d AL) (hLl : ∀ a d, (AL a d).length ≤ 10) : ∀ k S, S < 512 → unp (x.T.length - 1) S = k →
 (∀ a d, a < x.T.length → d ≤ 100 → HomeC x AL aa an ac b1 b2 S a d) ∧ ∀ a, 1 ≤ a → a < x.T.length → S.testBit a = false → ∀ d, d ≤ 300 → BeginC x AL aa an ac b1 b2 S a d := by
 have hT : x.T.length < 10 := by have := hn.n; simp only [Tr.d, List.length_map] at this; omega
 have hD : x.days ≤ 100 := by have := hn.d; simp only [Tr.d] at this; omega
 intro k
 induction k with
 | zero =>
  intro S hS hu
  have hbt : ∀ a, 1 ≤ a → a < x.T.length → S.testBit a = true := fun a h1 h2 => by
   cases hb : S.testBit a with
   | true => rfl
   | false =>
    have := unp_or (n := x.T.length - 1) (t := a - 1) (S := S) (by omega) (by rwa [show a - 1 + 1 = a from by omega])
    omega
  exact ⟨fun a d ha hd => home_of x AL aa an ac b1 b2 S a d hn hA hS ha hd fun t e ht hb _ => (by rw [hbt _ (by omega) ht] at hb; cases hb), fun a h1 h2 h3 => by rw [hbt a h1 h2] at h3; cases h3⟩
 | succ k ih =>
  intro S hS hu
  have hB : ∀ a, 1 ≤ a → a < x.T.length → S.testBit a = false → ∀ m d, x.days.toNat - d = m → d ≤ 300 → BeginC x AL aa an ac b1 b2 S a d := by
   intro a h1 h2 h3 m
   have hu2 := unp_or (n := x.T.length - 1) (t := a - 1) (S := S) (by omega) (by rwa [show a - 1 + 1 = a from by omega])
   rw [show a - 1 + 1 = a from by omega] at hu2
   have hh := (ih (S ||| 2 ^ a) (or_512 hS (by omega)) (by omega)).1
   induction m with
   | zero => exact fun d hd hd2 => begin_of x AL aa an ac b1 b2 S a d han hn hA hS h1 h2 hd2 h3 hLl (fun hlt => by omega) fun e he => hh a e h2 (by omega)
   | succ m ihm => exact fun d hd hd2 => begin_of x AL aa an ac b1 b2 S a d han hn hA hS h1 h2 hd2 h3 hLl (fun hlt => ihm (d + 1) (by omega) (by omega)) fun e he => hh a e h2 (by omega)
  exact ⟨fun a d ha hd => home_of x AL aa an ac b1 b2 S a d hn hA hS ha hd fun t e ht hb he => hB (t + 1) (by omega) ht hb _ e rfl he, fun a h1 h2 h3 d hd => hB a h1 h2 h3 _ d rfl hd⟩
end Go.Proofs.Ythfabodamhdhaaa
