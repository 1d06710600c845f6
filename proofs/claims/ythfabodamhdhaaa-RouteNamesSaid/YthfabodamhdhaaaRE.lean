/- home and begin: what they return, by each other. -/
import Derived.Test.YthfabodamhdhaaaRD
namespace Go.Proofs.Ythfabodamhdhaaa
open Go Tx Go.RowKit
set_option linter.unusedSimpArgs false
set_option linter.unusedVariables false
theorem rd2 {p q : Int} {b c : Nat} {ty : TypeId} {w : World} (h : w.heap[b]? = some (.cells [iv p, iv q].toArray ty (0, 0))) : Rd 1 iF (.slice (some ⟨b, 0, none⟩) 2 c) [p, q] w := Rd.of_cells (f := iF) (bs := [p, q]) (fun _ => rfl) rfl h
theorem pl_at {b : Nat} {w : World} {x : Tr} {r : List Value} (h : w.heap[b]? = some (.cells (x.cs ++ r).toArray 122 (0, 0))) : ∀ j v, x.cs[j]? = some v → w.cell? ⟨b, j, none⟩ = some v := fun j v hj => by
 rw [cell_of_row w b _ _ 122 (0, 0) h, List.getElem?_toArray, List.getElem?_append_left (List.getElem?_eq_some_iff.1 hj).1]
 exact hj
theorem wfU {n : Nat} (h : n < 1000000) : (Lit.int .u64 n).wf = true := by
 simp [Lit.wf, IntKind.min, IntKind.max, IntKind.bits, IntKind.signed]; omega
theorem wfI {n : Nat} (h : n < 1000000) : (Lit.int .i64 n).wf = true := by
 simp [Lit.wf, IntKind.min, IntKind.max, IntKind.bits, IntKind.signed]; omega
set_option maxHeartbeats 4000000 in
set_option maxRecDepth 100000 in
theorem home_of (x : Tr) (AL : Nat → Nat → List Nat) (aa : Alp) (an ac b1 b2 : Nat) (S a d : Nat) (hn : ToN x.d) (hA : AlOk x.d AL) (hS : S < 512) (ha : a < x.T.length) (hd : d ≤ 100)
 (hB : ∀ t e, t + 1 < x.T.length → S.testBit (t + 1) = false → e ≤ 300 → BeginC x AL aa an ac b1 b2 S (t + 1) e) : HomeC x AL aa an ac b1 b2 S a d := by
 intro β w hp hst
 have hw0 := hst w (Chg.refl _ _)
 have hkey : ∃ kl, keyOf Try.prog 118 (stK S a d) = some kl := stK_key (wfU (by omega)) (wfI (by have := hn.n; simp [Tr.d] at this; omega)) (wfI (by omega))
 obtain ⟨kl, hkey⟩ := hkey
 have hHat := stD_at (hmO x.d AL) S a d
 have hbd := hmO_bd hn hA S a d
 have heq := hmO_eq x.d AL S a d
 have hbb := fun t h1 h2 h3 => fun e => bgO_bd hn hA S t e h1 h2 h3
 have h72 := fun w' (h : Hp x AL aa w') => lost_ok x a 0 w' h.1 hn ha (by have := hn.n; simp [Tr.d] at this; omega)
 have h99 := fun t ht w' b (h : Hp x AL aa w') hc => next_ok x S a d t b w' h.1 hn ha ht (by omega) hc
 have hls := fun t => lsN_le hn a t
 have hl0 := lsN_eq hn a 0
 have hleg := fun t => hn.leg a t
 have hnT := hn.n
 have hlT := hn.l
 have hlr := hn.lr
 have hbs : bsO x.d S a d = if S = 0 then 0 else if lsO x.d a 0 + d ≤ x.d.days then -csO x.d a 0 else -1000000000000 := rfl
 have hcs : ∀ t, csO x.d a t = (lgO x.d a t).2 := fun _ => rfl
 have hmS : (x.d.T.length) = x.T.length := List.length_map ..
 have hday := hn.d
 obtain ⟨days, shift, size, to, tc, T, lo, lc, L⟩ := x
 dsimp only [Tr.d] at hnT hlT hlr hday
 dsimp only at hB ha
 simp only [List.length_map] at hnT hlT hlr
 have hrowL : ∃ ra rc row, L[a]? = some ⟨some ra, rc, row⟩ ∧ row.length = T.length ∧ lo ≠ none ∧ to ≠ none ∧ ∀ w', Hp ⟨days, shift, size, to, tc, T, lo, lc, L⟩ AL aa w' → Rd 2 prF (.slice (some ra) T.length rc) row w' := by
  obtain ⟨⟨ro, rc, row⟩, hr⟩ : ∃ r, L[a]? = some r := ⟨_, List.getElem?_eq_getElem (by omega)⟩
  have hrl := (hlr row (List.mem_of_getElem? (i := a) (by rw [List.getElem?_map, hr]; rfl))).1
  have h1 := hw0.1.li _ (List.mem_of_getElem? hr)
  dsimp only at h1
  obtain ⟨_, ra, rfl, _⟩ := h1.ptr (show 1 ≤ row.length by omega)
  obtain ⟨_, la, rfl, _⟩ := hw0.1.l.ptr (show 1 ≤ L.length by omega)
  obtain ⟨_, ta, rfl, _⟩ := hw0.1.t.ptr (show 1 ≤ T.length by omega)
  refine ⟨ra, rc, row, hr, hrl, by simp, by simp, fun w' h => ?_⟩
  have := h.1.li _ (List.mem_of_getElem? hr)
  dsimp only at this
  rwa [hrl] at this
 obtain ⟨ra, rc, row, hrow, hrl, hlo, hto, hrd⟩ := hrowL
 obtain ⟨la, rfl⟩ := Option.ne_none_iff_exists'.1 hlo
 obtain ⟨ta, rfl⟩ := Option.ne_none_iff_exists'.1 hto
 have eL : ∀ w', Hp ⟨days, shift, size, some ta, tc, T, some la, lc, L⟩ AL aa w' → ∀ j v, [Value.slice (some ra) T.length rc][j]? = some v → w'.cell? ((la.add ((a : Int).toNat * 1)).add j) = some v := fun w' h => by
  have := rd_ati h.1.l hrow
  rw [show Lr.cs (⟨some ra, rc, row⟩ : Lr) = [Value.slice (some ra) T.length rc] from by show [Value.slice _ row.length _] = _; rw [hrl]] at this
  exact this
 have ec : ∀ (t : Nat), t < T.length → ∃ c, row[t]? = some c ∧ lgO (Tr.d ⟨days, shift, size, some ta, tc, T, some la, lc, L⟩) a t = c := fun t ht => by
  obtain ⟨c, hc⟩ : ∃ c, row[t]? = some c := ⟨_, List.getElem?_eq_getElem (by omega)⟩
  exact ⟨c, hc, by simp only [lgO, Tr.d, List.getElem?_map, hrow, Option.map_some, Option.getD_some, hc]⟩
 obtain ⟨⟨q1, q2⟩, hq, hq0⟩ := ec 0 (by omega)
 have hlq := hleg 0
 rw [hq0] at hlq
 have hcq := hcs 0
 rw [hq0] at hcq
 have eq0 : ∀ w', Hp ⟨days, shift, size, some ta, tc, T, some la, lc, L⟩ AL aa w' → ∀ j v, [iv q2][j]? = some v → w'.cell? (((ra.add ((0 : Int).toNat * 2)).add 1).add j) = some v := fun w' h => rd_fldz (hrd w' h) hq 0 rfl 1 (iv q2) rfl
 rw [hcq, hl0] at hbs
 rw [hl0] at h72
 simp only [Int.natCast_zero] at h72
 refine calls_P Try.func97 has97 Try.ntmps97 [.v (stK S a d), .ptr 1 0, .ptr 0 0] _ (by simp) rfl (fun h hh => ?_) hp hst
 unfold MB
 dsimp only
 have hs1 : ∀ (n : Int) (t : Nat), S.testBit (t + 1) = true → (if S.testBit (t + 1) = true then n else imax n (bgO (Tr.d ⟨days, shift, size, some ta, tc, T, some la, lc, L⟩) AL S (t + 1) (d + lsN (Tr.d ⟨days, shift, size, some ta, tc, T, some la, lc, L⟩) a (t + 1)) - csO (Tr.d ⟨days, shift, size, some ta, tc, T, some la, lc, L⟩) a (t + 1))) = n := fun n t h => if_pos h
 have hs2 : ∀ (n : Int) (t : Nat), S.testBit (t + 1) = false → (if S.testBit (t + 1) = true then n else imax n (bgO (Tr.d ⟨days, shift, size, some ta, tc, T, some la, lc, L⟩) AL S (t + 1) (d + lsN (Tr.d ⟨days, shift, size, some ta, tc, T, some la, lc, L⟩) a (t + 1)) - csO (Tr.d ⟨days, shift, size, some ta, tc, T, some la, lc, L⟩) a (t + 1))) = imax n (bgO (Tr.d ⟨days, shift, size, some ta, tc, T, some la, lc, L⟩) AL S (t + 1) (d + lsN (Tr.d ⟨days, shift, size, some ta, tc, T, some la, lc, L⟩) a (t + 1)) - csO (Tr.d ⟨days, shift, size, some ta, tc, T, some la, lc, L⟩) a (t + 1)) := fun n t h => if_neg (by rw [h]; decide)
 rw [hmS] at heq
 obtain ⟨st, hste⟩ : ∃ st : Int → Nat → Int, st = fun (n : Int) (t : Nat) => if S.testBit (t + 1) = true then n else imax n (bgO (Tr.d ⟨days, shift, size, some ta, tc, T, some la, lc, L⟩) AL S (t + 1) (d + lsN (Tr.d ⟨days, shift, size, some ta, tc, T, some la, lc, L⟩) a (t + 1)) - csO (Tr.d ⟨days, shift, size, some ta, tc, T, some la, lc, L⟩) a (t + 1)) := ⟨_, rfl⟩
 rw [← hste] at heq
 replace hs1 : ∀ (n : Int) (t : Nat), S.testBit (t + 1) = true → st n t = n := fun n t h => by rw [hste]; exact hs1 n t h
 replace hs2 : ∀ (n : Int) (t : Nat), S.testBit (t + 1) = false → st n t = imax n (bgO (Tr.d ⟨days, shift, size, some ta, tc, T, some la, lc, L⟩) AL S (t + 1) (d + lsN (Tr.d ⟨days, shift, size, some ta, tc, T, some la, lc, L⟩) a (t + 1)) - csO (Tr.d ⟨days, shift, size, some ta, tc, T, some la, lc, L⟩) a (t + 1)) := fun n t h => by rw [hste]; exact hs2 n t h
 clear hste
 have hl0' := hls 0
 generalize hg0 : lsN (Tr.d ⟨days, shift, size, some ta, tc, T, some la, lc, L⟩) a 0 = g0 at *
 by_cases hS0 : S = 0
 · skip
   have hb0 : bsO (Tr.d ⟨days, shift, size, some ta, tc, T, some la, lc, L⟩) S a d = 0 := by rw [hbs, if_pos hS0]
   rw [hb0] at heq
   repeat'
    conv => whnf
    first
     | refine zA ?_ | refine zB ?_ | refine zC ?_ | refine zD ?_ | refine zE ?_ | refine zF ?_ | refine zG ?_ | refine zH ?_ | refine zJ ?_ | refine zI ?_ | refine splT ?_ | refine splF ?_ | refine splNot ?_
     | ((first | refine splIn ?_ ?_ | refine splD ?_ ?_ | refine splE ?_ ?_ | refine splNE ?_ ?_) <;> intro hc <;> first | (exfalso; omega) | (exfalso; dsimp only at hc; omega) | skip)
     | refine lookS env (i := 4) law118 rfl rfl (fun β => rfl) rfl under169 zero3 hkey hHat ?_ ?_
     | refine nilE rfl rfl ?_
     | ((with_reducible show CallEv _ _ 72 _ _ _ _ _); refine callE (k := 72) (fun β w' hbw => h72 w' (hh w' hbw)) ?_)
     | refine Exists.intro (α := List Value) [.slice (some ra) T.length rc] ⟨⟨rfl, fun w' hw' => eL w' (hh w' hw')⟩, ?_⟩
     | refine Exists.intro (α := List Value) [iv q2] ⟨⟨rfl, fun w' hw' => eq0 w' (hh w' hw')⟩, ?_⟩
   all_goals first | (exfalso; omega) | exact ⟨fun β => rfl, ⟨rfl, rfl, rfl, rfl, rfl, rfl, trivial⟩, fun w' h => h, rfl⟩ | skip
   refine loopN 7 (fun i : Nat => [(1, .ptr 1 0), (2, .ptr 0 0), (3, .ptr 6 0), (7, .v (iv ((List.range i).foldl st (0)))), (8, .v (iv (i + 1 : Nat)))]) (fun _ => [(4, .obj b1 (MpOk Try.prog 118 (stD (hmO (Tr.d ⟨days, shift, size, some ta, tc, T, some la, lc, L⟩) AL)))), (5, .obj b2 (MpOk Try.prog 118 (stD (bgO (Tr.d ⟨days, shift, size, some ta, tc, T, some la, lc, L⟩) AL)))), (0, .cells [.ptr 2 0] 114), (1, .cells [.v (.map (some b1))] 169), (2, .cells [.v (iv days), .v (iv shift), .v (iv size), .v (.slice (some ta) T.length tc), .v (.slice (some la) L.length lc), .v (.slice (some aa.aa) an ac), .fn (.func 97) [.ptr 1 0, .ptr 0 0], .fn (.func 100) [.ptr 0 0, .ptr 3 0]] 122), (3, .cells [.v (.map (some b2))] 169), (6, .cells [.v (.int .u64 S), .v (iv a), .v (iv d)] 118)]) (fun i => i ≤ T.length - 1) (fun i => T.length - 1 - i) 0 (Nat.zero_le _) ⟨rfl, rfl, rfl, rfl, rfl, trivial⟩ ⟨rfl, rfl, rfl, rfl, rfl, rfl, rfl, trivial⟩ (fun _ _ => ⟨rfl, rfl⟩) ?_
   intro i hi
   have hfs : (List.range (i + 1)).foldl st (0) = st ((List.range i).foldl st (0)) i := by rw [List.range_succ, List.foldl_append]; rfl
   rcases Nat.lt_or_ge i (T.length - 1) with hil | hil
   · have hsr := sh_r (t := i + 1) hS (by omega)
     have hal := and_l (t := i + 1) hS
     cases hbt : S.testBit (i + 1) with
     | true =>
      rw [hs1 _ _ hbt] at hfs
      rw [show btI S (i + 1) = 1 from by unfold btI; rw [hbt]; rfl] at hal
      generalize (List.range i).foldl st (0) = N0 at *
      generalize ((S >>> (i + 1) : Nat) : Int) = SH at *
      repeat'
       conv => whnf
       first
        | refine zA ?_ | refine zB ?_ | refine zC ?_ | refine zD ?_ | refine zE ?_ | refine zF ?_ | refine zG ?_ | refine zH ?_ | refine zJ ?_ | refine zI ?_ | refine splT ?_ | refine splF ?_ | refine splNot ?_
        | ((first | refine splIn ?_ ?_ | refine splD ?_ ?_ | refine splE ?_ ?_ | refine splNE ?_ ?_) <;> intro hc <;> first | (exfalso; omega) | (exfalso; dsimp only at hc; omega) | skip)
        | refine Exists.intro (α := Value) (.int .u64 (i + 1 : Nat)) ⟨cvU (i + 1) (by omega), ?_⟩
        | refine Exists.intro (α := Int) SH ⟨⟨by omega, hsr.symm⟩, ?_⟩
        | refine Exists.intro (α := Int) 1 ⟨hal.symm, ?_⟩
        | refine nilE rfl rfl ?_
      all_goals first | (exfalso; omega) | exact ⟨i + 1, by omega, by omega, Ent.weak rfl ⟨rfl, rfl, rfl, by rw [hfs]; rfl, rfl, trivial⟩ ⟨rfl, rfl, rfl, rfl, rfl, rfl, rfl, trivial⟩ fun _ h => h⟩
     | false =>
      rw [hs2 _ _ hbt] at hfs
      rw [show btI S (i + 1) = 0 from by unfold btI; rw [hbt]; rfl] at hal
      obtain ⟨⟨p1, p2⟩, hpr, hpl⟩ := ec (i + 1) (by omega)
      have hlp := hleg (i + 1)
      rw [hpl] at hlp
      have hcp := hcs (i + 1)
      rw [hpl] at hcp
      rw [hcp] at hfs
      have hls1 := hls (i + 1)
      have hbbi := hbb (i + 1) (by omega) (by simp only [List.length_map]; omega) hbt (d + lsN (Tr.d ⟨days, shift, size, some ta, tc, T, some la, lc, L⟩) a (i + 1))
      have ep : ∀ w', Hp ⟨days, shift, size, some ta, tc, T, some la, lc, L⟩ AL aa w' → ∀ j v, [iv p2][j]? = some v → w'.cell? (((ra.add (((i + 1 : Nat) : Int).toNat * 2)).add 1).add j) = some v := fun w' h => rd_fldz (hrd w' h) hpr _ rfl 1 (iv p2) rfl
      generalize (List.range i).foldl st (0) = N0 at *
      generalize ((S >>> (i + 1) : Nat) : Int) = SH at *
      repeat'
       conv => whnf
       first
        | refine zA ?_ | refine zB ?_ | refine zC ?_ | refine zD ?_ | refine zE ?_ | refine zF ?_ | refine zG ?_ | refine zH ?_ | refine zJ ?_ | refine zI ?_ | refine splT ?_ | refine splF ?_ | refine splNot ?_
        | ((first | refine splIn ?_ ?_ | refine splD ?_ ?_ | refine splE ?_ ?_ | refine splNE ?_ ?_) <;> intro hc <;> first | (exfalso; omega) | (exfalso; dsimp only at hc; omega) | skip)
        | refine Exists.intro (α := Value) (.int .u64 (i + 1 : Nat)) ⟨cvU (i + 1) (by omega), ?_⟩
        | refine Exists.intro (α := Int) SH ⟨⟨by omega, hsr.symm⟩, ?_⟩
        | refine Exists.intro (α := Int) 0 ⟨hal.symm, ?_⟩
        | refine nilE rfl rfl ?_
        | ((with_reducible show CallEv _ _ 99 _ _ _ _ _); refine callM [2] (fun β w' hbk hbw => h99 (i + 1) (show i + 1 < T.length by omega) w' (β 2) (hh w' hbw) (pl_at (x := ⟨days, shift, size, some ta, tc, T, some la, lc, L⟩) (r := [.slice (some aa.aa) an ac, (SV.fn (.func 97) [.ptr 1 0, .ptr 0 0]).c β, (SV.fn (.func 100) [.ptr 0 0, .ptr 3 0]).c β]) (hbk 2 (by simp) _ rfl))) ?_)
        | ((with_reducible show CallEv _ _ 100 _ _ _ _ _); refine callWR [0, 1, 2, 3, 4, 5] [(4, .obj b1 (MpOk Try.prog 118 (stD (hmO (Tr.d ⟨days, shift, size, some ta, tc, T, some la, lc, L⟩) AL)))), (5, .obj b2 (MpOk Try.prog 118 (stD (bgO (Tr.d ⟨days, shift, size, some ta, tc, T, some la, lc, L⟩) AL))))] (iv (bgO (Tr.d ⟨days, shift, size, some ta, tc, T, some la, lc, L⟩) AL S (i + 1) (d + lsN (Tr.d ⟨days, shift, size, some ta, tc, T, some la, lc, L⟩) a (i + 1)))) rfl (fun β w' h1 h2 hs2 => (hB i (d + lsN (Tr.d ⟨days, shift, size, some ta, tc, T, some la, lc, L⟩) a (i + 1)) (by omega) hbt (by omega) β w' (PS.of (x := ⟨days, shift, size, some ta, tc, T, some la, lc, L⟩) (AL := AL) (aa := aa) (an := an) (ac := ac) (b1 := b1) (b2 := b2) (six rfl rfl rfl rfl rfl rfl) h1 h2) (fun w2 hc => hh w2 (hs2 w2 (chg_six (x := ⟨days, shift, size, some ta, tc, T, some la, lc, L⟩) (AL := AL) (aa := aa) (an := an) (ac := ac) (b1 := b1) (b2 := b2) (six rfl rfl rfl rfl rfl rfl) hc)))).mono fun e w2 ⟨e1, e2, e3⟩ => ⟨e1, (PS.of (x := ⟨days, shift, size, some ta, tc, T, some la, lc, L⟩) (AL := AL) (aa := aa) (an := an) (ac := ac) (b1 := b1) (b2 := b2) (six rfl rfl rfl rfl rfl rfl) h1 h2).chg e2, e3.out⟩) ?_)
        | refine Exists.intro (α := List Value) [.slice (some ra) T.length rc] ⟨⟨rfl, fun w' hw' => eL w' (hh w' hw')⟩, ?_⟩
        | refine Exists.intro (α := List Value) [iv p2] ⟨⟨rfl, fun w' hw' => ep w' (hh w' hw')⟩, ?_⟩
        | ((with_reducible show CallEv _ _ 98 _ _ _ _ _); refine callM [7] (fun β w' hbk hbw => max2_ok N0 (bgO (Tr.d ⟨days, shift, size, some ta, tc, T, some la, lc, L⟩) AL S (i + 1) (d + lsN (Tr.d ⟨days, shift, size, some ta, tc, T, some la, lc, L⟩) a (i + 1)) - p2) (β 7) 2 w' (rd2 (hbk 7 (by simp) _ rfl))) ?_)
      all_goals first | (exfalso; omega) | exact ⟨i + 1, by omega, by omega, Ent.weak rfl ⟨rfl, rfl, rfl, by rw [hfs]; rfl, rfl, trivial⟩ ⟨rfl, rfl, rfl, rfl, rfl, rfl, rfl, trivial⟩ fun _ h => h⟩
   · obtain rfl : i = T.length - 1 := by omega
     rw [← heq]
     repeat'
      conv => whnf
      first
       | refine zA ?_ | refine zB ?_ | refine zC ?_ | refine zD ?_ | refine zE ?_ | refine zF ?_ | refine zG ?_ | refine zH ?_ | refine zJ ?_ | refine zI ?_ | refine splT ?_ | refine splF ?_ | refine splNot ?_
       | ((first | refine splIn ?_ ?_ | refine splD ?_ ?_ | refine splE ?_ ?_ | refine splNE ?_ ?_) <;> intro hc <;> first | (exfalso; omega) | (exfalso; dsimp only at hc; omega) | skip)
       | refine updE env 4 law118 rfl rfl (fun β => rfl) rfl rfl under169 hkey hHat.symm rfl ?_
       | refine nilE rfl rfl ?_
     all_goals first | (exfalso; omega) | exact ⟨fun β => rfl, ⟨rfl, rfl, rfl, rfl, rfl, rfl, trivial⟩, fun w' h => h, rfl⟩
 by_cases hgo : (g0 : Int) + d ≤ days
 · skip
   have hb0 : bsO (Tr.d ⟨days, shift, size, some ta, tc, T, some la, lc, L⟩) S a d = -q2 := by rw [hbs, if_neg hS0, if_pos hgo]
   rw [hb0] at heq
   repeat'
    conv => whnf
    first
     | refine zA ?_ | refine zB ?_ | refine zC ?_ | refine zD ?_ | refine zE ?_ | refine zF ?_ | refine zG ?_ | refine zH ?_ | refine zJ ?_ | refine zI ?_ | refine splT ?_ | refine splF ?_ | refine splNot ?_
     | ((first | refine splIn ?_ ?_ | refine splD ?_ ?_ | refine splE ?_ ?_ | refine splNE ?_ ?_) <;> intro hc <;> first | (exfalso; omega) | (exfalso; dsimp only at hc; omega) | skip)
     | refine lookS env (i := 4) law118 rfl rfl (fun β => rfl) rfl under169 zero3 hkey hHat ?_ ?_
     | refine nilE rfl rfl ?_
     | ((with_reducible show CallEv _ _ 72 _ _ _ _ _); refine callE (k := 72) (fun β w' hbw => h72 w' (hh w' hbw)) ?_)
     | refine Exists.intro (α := List Value) [.slice (some ra) T.length rc] ⟨⟨rfl, fun w' hw' => eL w' (hh w' hw')⟩, ?_⟩
     | refine Exists.intro (α := List Value) [iv q2] ⟨⟨rfl, fun w' hw' => eq0 w' (hh w' hw')⟩, ?_⟩
   all_goals first | (exfalso; omega) | exact ⟨fun β => rfl, ⟨rfl, rfl, rfl, rfl, rfl, rfl, trivial⟩, fun w' h => h, rfl⟩ | skip
   refine loopN 7 (fun i : Nat => [(1, .ptr 1 0), (2, .ptr 0 0), (3, .ptr 6 0), (7, .v (iv ((List.range i).foldl st (-q2)))), (8, .v (iv (i + 1 : Nat)))]) (fun _ => [(4, .obj b1 (MpOk Try.prog 118 (stD (hmO (Tr.d ⟨days, shift, size, some ta, tc, T, some la, lc, L⟩) AL)))), (5, .obj b2 (MpOk Try.prog 118 (stD (bgO (Tr.d ⟨days, shift, size, some ta, tc, T, some la, lc, L⟩) AL)))), (0, .cells [.ptr 2 0] 114), (1, .cells [.v (.map (some b1))] 169), (2, .cells [.v (iv days), .v (iv shift), .v (iv size), .v (.slice (some ta) T.length tc), .v (.slice (some la) L.length lc), .v (.slice (some aa.aa) an ac), .fn (.func 97) [.ptr 1 0, .ptr 0 0], .fn (.func 100) [.ptr 0 0, .ptr 3 0]] 122), (3, .cells [.v (.map (some b2))] 169), (6, .cells [.v (.int .u64 S), .v (iv a), .v (iv d)] 118)]) (fun i => i ≤ T.length - 1) (fun i => T.length - 1 - i) 0 (Nat.zero_le _) ⟨rfl, rfl, rfl, rfl, rfl, trivial⟩ ⟨rfl, rfl, rfl, rfl, rfl, rfl, rfl, trivial⟩ (fun _ _ => ⟨rfl, rfl⟩) ?_
   intro i hi
   have hfs : (List.range (i + 1)).foldl st (-q2) = st ((List.range i).foldl st (-q2)) i := by rw [List.range_succ, List.foldl_append]; rfl
   rcases Nat.lt_or_ge i (T.length - 1) with hil | hil
   · have hsr := sh_r (t := i + 1) hS (by omega)
     have hal := and_l (t := i + 1) hS
     cases hbt : S.testBit (i + 1) with
     | true =>
      rw [hs1 _ _ hbt] at hfs
      rw [show btI S (i + 1) = 1 from by unfold btI; rw [hbt]; rfl] at hal
      generalize (List.range i).foldl st (-q2) = N0 at *
      generalize ((S >>> (i + 1) : Nat) : Int) = SH at *
      repeat'
       conv => whnf
       first
        | refine zA ?_ | refine zB ?_ | refine zC ?_ | refine zD ?_ | refine zE ?_ | refine zF ?_ | refine zG ?_ | refine zH ?_ | refine zJ ?_ | refine zI ?_ | refine splT ?_ | refine splF ?_ | refine splNot ?_
        | ((first | refine splIn ?_ ?_ | refine splD ?_ ?_ | refine splE ?_ ?_ | refine splNE ?_ ?_) <;> intro hc <;> first | (exfalso; omega) | (exfalso; dsimp only at hc; omega) | skip)
        | refine Exists.intro (α := Value) (.int .u64 (i + 1 : Nat)) ⟨cvU (i + 1) (by omega), ?_⟩
        | refine Exists.intro (α := Int) SH ⟨⟨by omega, hsr.symm⟩, ?_⟩
        | refine Exists.intro (α := Int) 1 ⟨hal.symm, ?_⟩
        | refine nilE rfl rfl ?_
      all_goals first | (exfalso; omega) | exact ⟨i + 1, by omega, by omega, Ent.weak rfl ⟨rfl, rfl, rfl, by rw [hfs]; rfl, rfl, trivial⟩ ⟨rfl, rfl, rfl, rfl, rfl, rfl, rfl, trivial⟩ fun _ h => h⟩
     | false =>
      rw [hs2 _ _ hbt] at hfs
      rw [show btI S (i + 1) = 0 from by unfold btI; rw [hbt]; rfl] at hal
      obtain ⟨⟨p1, p2⟩, hpr, hpl⟩ := ec (i + 1) (by omega)
      have hlp := hleg (i + 1)
      rw [hpl] at hlp
      have hcp := hcs (i + 1)
      rw [hpl] at hcp
      rw [hcp] at hfs
      have hls1 := hls (i + 1)
      have hbbi := hbb (i + 1) (by omega) (by simp only [List.length_map]; omega) hbt (d + lsN (Tr.d ⟨days, shift, size, some ta, tc, T, some la, lc, L⟩) a (i + 1))
      have ep : ∀ w', Hp ⟨days, shift, size, some ta, tc, T, some la, lc, L⟩ AL aa w' → ∀ j v, [iv p2][j]? = some v → w'.cell? (((ra.add (((i + 1 : Nat) : Int).toNat * 2)).add 1).add j) = some v := fun w' h => rd_fldz (hrd w' h) hpr _ rfl 1 (iv p2) rfl
      generalize (List.range i).foldl st (-q2) = N0 at *
      generalize ((S >>> (i + 1) : Nat) : Int) = SH at *
      repeat'
       conv => whnf
       first
        | refine zA ?_ | refine zB ?_ | refine zC ?_ | refine zD ?_ | refine zE ?_ | refine zF ?_ | refine zG ?_ | refine zH ?_ | refine zJ ?_ | refine zI ?_ | refine splT ?_ | refine splF ?_ | refine splNot ?_
        | ((first | refine splIn ?_ ?_ | refine splD ?_ ?_ | refine splE ?_ ?_ | refine splNE ?_ ?_) <;> intro hc <;> first | (exfalso; omega) | (exfalso; dsimp only at hc; omega) | skip)
        | refine Exists.intro (α := Value) (.int .u64 (i + 1 : Nat)) ⟨cvU (i + 1) (by omega), ?_⟩
        | refine Exists.intro (α := Int) SH ⟨⟨by omega, hsr.symm⟩, ?_⟩
        | refine Exists.intro (α := Int) 0 ⟨hal.symm, ?_⟩
        | refine nilE rfl rfl ?_
        | ((with_reducible show CallEv _ _ 99 _ _ _ _ _); refine callM [2] (fun β w' hbk hbw => h99 (i + 1) (show i + 1 < T.length by omega) w' (β 2) (hh w' hbw) (pl_at (x := ⟨days, shift, size, some ta, tc, T, some la, lc, L⟩) (r := [.slice (some aa.aa) an ac, (SV.fn (.func 97) [.ptr 1 0, .ptr 0 0]).c β, (SV.fn (.func 100) [.ptr 0 0, .ptr 3 0]).c β]) (hbk 2 (by simp) _ rfl))) ?_)
        | ((with_reducible show CallEv _ _ 100 _ _ _ _ _); refine callWR [0, 1, 2, 3, 4, 5] [(4, .obj b1 (MpOk Try.prog 118 (stD (hmO (Tr.d ⟨days, shift, size, some ta, tc, T, some la, lc, L⟩) AL)))), (5, .obj b2 (MpOk Try.prog 118 (stD (bgO (Tr.d ⟨days, shift, size, some ta, tc, T, some la, lc, L⟩) AL))))] (iv (bgO (Tr.d ⟨days, shift, size, some ta, tc, T, some la, lc, L⟩) AL S (i + 1) (d + lsN (Tr.d ⟨days, shift, size, some ta, tc, T, some la, lc, L⟩) a (i + 1)))) rfl (fun β w' h1 h2 hs2 => (hB i (d + lsN (Tr.d ⟨days, shift, size, some ta, tc, T, some la, lc, L⟩) a (i + 1)) (by omega) hbt (by omega) β w' (PS.of (x := ⟨days, shift, size, some ta, tc, T, some la, lc, L⟩) (AL := AL) (aa := aa) (an := an) (ac := ac) (b1 := b1) (b2 := b2) (six rfl rfl rfl rfl rfl rfl) h1 h2) (fun w2 hc => hh w2 (hs2 w2 (chg_six (x := ⟨days, shift, size, some ta, tc, T, some la, lc, L⟩) (AL := AL) (aa := aa) (an := an) (ac := ac) (b1 := b1) (b2 := b2) (six rfl rfl rfl rfl rfl rfl) hc)))).mono fun e w2 ⟨e1, e2, e3⟩ => ⟨e1, (PS.of (x := ⟨days, shift, size, some ta, tc, T, some la, lc, L⟩) (AL := AL) (aa := aa) (an := an) (ac := ac) (b1 := b1) (b2 := b2) (six rfl rfl rfl rfl rfl rfl) h1 h2).chg e2, e3.out⟩) ?_)
        | refine Exists.intro (α := List Value) [.slice (some ra) T.length rc] ⟨⟨rfl, fun w' hw' => eL w' (hh w' hw')⟩, ?_⟩
        | refine Exists.intro (α := List Value) [iv p2] ⟨⟨rfl, fun w' hw' => ep w' (hh w' hw')⟩, ?_⟩
        | ((with_reducible show CallEv _ _ 98 _ _ _ _ _); refine callM [7] (fun β w' hbk hbw => max2_ok N0 (bgO (Tr.d ⟨days, shift, size, some ta, tc, T, some la, lc, L⟩) AL S (i + 1) (d + lsN (Tr.d ⟨days, shift, size, some ta, tc, T, some la, lc, L⟩) a (i + 1)) - p2) (β 7) 2 w' (rd2 (hbk 7 (by simp) _ rfl))) ?_)
      all_goals first | (exfalso; omega) | exact ⟨i + 1, by omega, by omega, Ent.weak rfl ⟨rfl, rfl, rfl, by rw [hfs]; rfl, rfl, trivial⟩ ⟨rfl, rfl, rfl, rfl, rfl, rfl, rfl, trivial⟩ fun _ h => h⟩
   · obtain rfl : i = T.length - 1 := by omega
     rw [← heq]
     repeat'
      conv => whnf
      first
       | refine zA ?_ | refine zB ?_ | refine zC ?_ | refine zD ?_ | refine zE ?_ | refine zF ?_ | refine zG ?_ | refine zH ?_ | refine zJ ?_ | refine zI ?_ | refine splT ?_ | refine splF ?_ | refine splNot ?_
       | ((first | refine splIn ?_ ?_ | refine splD ?_ ?_ | refine splE ?_ ?_ | refine splNE ?_ ?_) <;> intro hc <;> first | (exfalso; omega) | (exfalso; dsimp only at hc; omega) | skip)
       | refine updE env 4 law118 rfl rfl (fun β => rfl) rfl rfl under169 hkey hHat.symm rfl ?_
       | refine nilE rfl rfl ?_
     all_goals first | (exfalso; omega) | exact ⟨fun β => rfl, ⟨rfl, rfl, rfl, rfl, rfl, rfl, trivial⟩, fun w' h => h, rfl⟩
 · skip
   have hb0 : bsO (Tr.d ⟨days, shift, size, some ta, tc, T, some la, lc, L⟩) S a d = -1000000000000 := by rw [hbs, if_neg hS0, if_neg hgo]
   rw [hb0] at heq
   repeat'
    conv => whnf
    first
     | refine zA ?_ | refine zB ?_ | refine zC ?_ | refine zD ?_ | refine zE ?_ | refine zF ?_ | refine zG ?_ | refine zH ?_ | refine zJ ?_ | refine zI ?_ | refine splT ?_ | refine splF ?_ | refine splNot ?_
     | ((first | refine splIn ?_ ?_ | refine splD ?_ ?_ | refine splE ?_ ?_ | refine splNE ?_ ?_) <;> intro hc <;> first | (exfalso; omega) | (exfalso; dsimp only at hc; omega) | skip)
     | refine lookS env (i := 4) law118 rfl rfl (fun β => rfl) rfl under169 zero3 hkey hHat ?_ ?_
     | refine nilE rfl rfl ?_
     | ((with_reducible show CallEv _ _ 72 _ _ _ _ _); refine callE (k := 72) (fun β w' hbw => h72 w' (hh w' hbw)) ?_)
     | refine Exists.intro (α := List Value) [.slice (some ra) T.length rc] ⟨⟨rfl, fun w' hw' => eL w' (hh w' hw')⟩, ?_⟩
     | refine Exists.intro (α := List Value) [iv q2] ⟨⟨rfl, fun w' hw' => eq0 w' (hh w' hw')⟩, ?_⟩
   all_goals first | (exfalso; omega) | exact ⟨fun β => rfl, ⟨rfl, rfl, rfl, rfl, rfl, rfl, trivial⟩, fun w' h => h, rfl⟩ | skip
   refine loopN 7 (fun i : Nat => [(1, .ptr 1 0), (2, .ptr 0 0), (3, .ptr 6 0), (7, .v (iv ((List.range i).foldl st (-1000000000000)))), (8, .v (iv (i + 1 : Nat)))]) (fun _ => [(4, .obj b1 (MpOk Try.prog 118 (stD (hmO (Tr.d ⟨days, shift, size, some ta, tc, T, some la, lc, L⟩) AL)))), (5, .obj b2 (MpOk Try.prog 118 (stD (bgO (Tr.d ⟨days, shift, size, some ta, tc, T, some la, lc, L⟩) AL)))), (0, .cells [.ptr 2 0] 114), (1, .cells [.v (.map (some b1))] 169), (2, .cells [.v (iv days), .v (iv shift), .v (iv size), .v (.slice (some ta) T.length tc), .v (.slice (some la) L.length lc), .v (.slice (some aa.aa) an ac), .fn (.func 97) [.ptr 1 0, .ptr 0 0], .fn (.func 100) [.ptr 0 0, .ptr 3 0]] 122), (3, .cells [.v (.map (some b2))] 169), (6, .cells [.v (.int .u64 S), .v (iv a), .v (iv d)] 118)]) (fun i => i ≤ T.length - 1) (fun i => T.length - 1 - i) 0 (Nat.zero_le _) ⟨rfl, rfl, rfl, rfl, rfl, trivial⟩ ⟨rfl, rfl, rfl, rfl, rfl, rfl, rfl, trivial⟩ (fun _ _ => ⟨rfl, rfl⟩) ?_
   intro i hi
   have hfs : (List.range (i + 1)).foldl st (-1000000000000) = st ((List.range i).foldl st (-1000000000000)) i := by rw [List.range_succ, List.foldl_append]; rfl
   rcases Nat.lt_or_ge i (T.length - 1) with hil | hil
   · have hsr := sh_r (t := i + 1) hS (by omega)
     have hal := and_l (t := i + 1) hS
     cases hbt : S.testBit (i + 1) with
     | true =>
      rw [hs1 _ _ hbt] at hfs
      rw [show btI S (i + 1) = 1 from by unfold btI; rw [hbt]; rfl] at hal
      generalize (List.range i).foldl st (-1000000000000) = N0 at *
      generalize ((S >>> (i + 1) : Nat) : Int) = SH at *
      repeat'
       conv => whnf
       first
        | refine zA ?_ | refine zB ?_ | refine zC ?_ | refine zD ?_ | refine zE ?_ | refine zF ?_ | refine zG ?_ | refine zH ?_ | refine zJ ?_ | refine zI ?_ | refine splT ?_ | refine splF ?_ | refine splNot ?_
        | ((first | refine splIn ?_ ?_ | refine splD ?_ ?_ | refine splE ?_ ?_ | refine splNE ?_ ?_) <;> intro hc <;> first | (exfalso; omega) | (exfalso; dsimp only at hc; omega) | skip)
        | refine Exists.intro (α := Value) (.int .u64 (i + 1 : Nat)) ⟨cvU (i + 1) (by omega), ?_⟩
        | refine Exists.intro (α := Int) SH ⟨⟨by omega, hsr.symm⟩, ?_⟩
        | refine Exists.intro (α := Int) 1 ⟨hal.symm, ?_⟩
        | refine nilE rfl rfl ?_
      all_goals first | (exfalso; omega) | exact ⟨i + 1, by omega, by omega, Ent.weak rfl ⟨rfl, rfl, rfl, by rw [hfs]; rfl, rfl, trivial⟩ ⟨rfl, rfl, rfl, rfl, rfl, rfl, rfl, trivial⟩ fun _ h => h⟩
     | false =>
      rw [hs2 _ _ hbt] at hfs
      rw [show btI S (i + 1) = 0 from by unfold btI; rw [hbt]; rfl] at hal
      obtain ⟨⟨p1, p2⟩, hpr, hpl⟩ := ec (i + 1) (by omega)
      have hlp := hleg (i + 1)
      rw [hpl] at hlp
      have hcp := hcs (i + 1)
      rw [hpl] at hcp
      rw [hcp] at hfs
      have hls1 := hls (i + 1)
      have hbbi := hbb (i + 1) (by omega) (by simp only [List.length_map]; omega) hbt (d + lsN (Tr.d ⟨days, shift, size, some ta, tc, T, some la, lc, L⟩) a (i + 1))
      have ep : ∀ w', Hp ⟨days, shift, size, some ta, tc, T, some la, lc, L⟩ AL aa w' → ∀ j v, [iv p2][j]? = some v → w'.cell? (((ra.add (((i + 1 : Nat) : Int).toNat * 2)).add 1).add j) = some v := fun w' h => rd_fldz (hrd w' h) hpr _ rfl 1 (iv p2) rfl
      generalize (List.range i).foldl st (-1000000000000) = N0 at *
      generalize ((S >>> (i + 1) : Nat) : Int) = SH at *
      repeat'
       conv => whnf
       first
        | refine zA ?_ | refine zB ?_ | refine zC ?_ | refine zD ?_ | refine zE ?_ | refine zF ?_ | refine zG ?_ | refine zH ?_ | refine zJ ?_ | refine zI ?_ | refine splT ?_ | refine splF ?_ | refine splNot ?_
        | ((first | refine splIn ?_ ?_ | refine splD ?_ ?_ | refine splE ?_ ?_ | refine splNE ?_ ?_) <;> intro hc <;> first | (exfalso; omega) | (exfalso; dsimp only at hc; omega) | skip)
        | refine Exists.intro (α := Value) (.int .u64 (i + 1 : Nat)) ⟨cvU (i + 1) (by omega), ?_⟩
        | refine Exists.intro (α := Int) SH ⟨⟨by omega, hsr.symm⟩, ?_⟩
        | refine Exists.intro (α := Int) 0 ⟨hal.symm, ?_⟩
        | refine nilE rfl rfl ?_
        | ((with_reducible show CallEv _ _ 99 _ _ _ _ _); refine callM [2] (fun β w' hbk hbw => h99 (i + 1) (show i + 1 < T.length by omega) w' (β 2) (hh w' hbw) (pl_at (x := ⟨days, shift, size, some ta, tc, T, some la, lc, L⟩) (r := [.slice (some aa.aa) an ac, (SV.fn (.func 97) [.ptr 1 0, .ptr 0 0]).c β, (SV.fn (.func 100) [.ptr 0 0, .ptr 3 0]).c β]) (hbk 2 (by simp) _ rfl))) ?_)
        | ((with_reducible show CallEv _ _ 100 _ _ _ _ _); refine callWR [0, 1, 2, 3, 4, 5] [(4, .obj b1 (MpOk Try.prog 118 (stD (hmO (Tr.d ⟨days, shift, size, some ta, tc, T, some la, lc, L⟩) AL)))), (5, .obj b2 (MpOk Try.prog 118 (stD (bgO (Tr.d ⟨days, shift, size, some ta, tc, T, some la, lc, L⟩) AL))))] (iv (bgO (Tr.d ⟨days, shift, size, some ta, tc, T, some la, lc, L⟩) AL S (i + 1) (d + lsN (Tr.d ⟨days, shift, size, some ta, tc, T, some la, lc, L⟩) a (i + 1)))) rfl (fun β w' h1 h2 hs2 => (hB i (d + lsN (Tr.d ⟨days, shift, size, some ta, tc, T, some la, lc, L⟩) a (i + 1)) (by omega) hbt (by omega) β w' (PS.of (x := ⟨days, shift, size, some ta, tc, T, some la, lc, L⟩) (AL := AL) (aa := aa) (an := an) (ac := ac) (b1 := b1) (b2 := b2) (six rfl rfl rfl rfl rfl rfl) h1 h2) (fun w2 hc => hh w2 (hs2 w2 (chg_six (x := ⟨days, shift, size, some ta, tc, T, some la, lc, L⟩) (AL := AL) (aa := aa) (an := an) (ac := ac) (b1 := b1) (b2 := b2) (six rfl rfl rfl rfl rfl rfl) hc)))).mono fun e w2 ⟨e1, e2, e3⟩ => ⟨e1, (PS.of (x := ⟨days, shift, size, some ta, tc, T, some la, lc, L⟩) (AL := AL) (aa := aa) (an := an) (ac := ac) (b1 := b1) (b2 := b2) (six rfl rfl rfl rfl rfl rfl) h1 h2).chg e2, e3.out⟩) ?_)
        | refine Exists.intro (α := List Value) [.slice (some ra) T.length rc] ⟨⟨rfl, fun w' hw' => eL w' (hh w' hw')⟩, ?_⟩
        | refine Exists.intro (α := List Value) [iv p2] ⟨⟨rfl, fun w' hw' => ep w' (hh w' hw')⟩, ?_⟩
        | ((with_reducible show CallEv _ _ 98 _ _ _ _ _); refine callM [7] (fun β w' hbk hbw => max2_ok N0 (bgO (Tr.d ⟨days, shift, size, some ta, tc, T, some la, lc, L⟩) AL S (i + 1) (d + lsN (Tr.d ⟨days, shift, size, some ta, tc, T, some la, lc, L⟩) a (i + 1)) - p2) (β 7) 2 w' (rd2 (hbk 7 (by simp) _ rfl))) ?_)
      all_goals first | (exfalso; omega) | exact ⟨i + 1, by omega, by omega, Ent.weak rfl ⟨rfl, rfl, rfl, by rw [hfs]; rfl, rfl, trivial⟩ ⟨rfl, rfl, rfl, rfl, rfl, rfl, rfl, trivial⟩ fun _ h => h⟩
   · obtain rfl : i = T.length - 1 := by omega
     rw [← heq]
     repeat'
      conv => whnf
      first
       | refine zA ?_ | refine zB ?_ | refine zC ?_ | refine zD ?_ | refine zE ?_ | refine zF ?_ | refine zG ?_ | refine zH ?_ | refine zJ ?_ | refine zI ?_ | refine splT ?_ | refine splF ?_ | refine splNot ?_
       | ((first | refine splIn ?_ ?_ | refine splD ?_ ?_ | refine splE ?_ ?_ | refine splNE ?_ ?_) <;> intro hc <;> first | (exfalso; omega) | (exfalso; dsimp only at hc; omega) | skip)
       | refine updE env 4 law118 rfl rfl (fun β => rfl) rfl rfl under169 hkey hHat.symm rfl ?_
       | refine nilE rfl rfl ?_
     all_goals first | (exfalso; omega) | exact ⟨fun β => rfl, ⟨rfl, rfl, rfl, rfl, rfl, rfl, trivial⟩, fun w' h => h, rfl⟩
end Go.Proofs.Ythfabodamhdhaaa
