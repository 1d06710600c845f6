/- The least that a number of a table may be, by the reference: what Asked returns. -/
import Derived.Test.YthfabodamhdhaaaTJ
namespace Go.Proofs.Ythfabodamhdhaaa
open Go Tx Go.RowKit
set_option linter.unusedSimpArgs false
set_option linter.unusedVariables false

/-- The stops that end within m days. -/
def alq (x : To) (t f m : Nat) : List Nat := ALp x t f (min (m + 1 - (twO x t).s1.toNat) ((twO x t).s2 - (twO x t).s1 + 1).toNat)
theorem alO_fit {x : To} {a f l : Int} (h : alO x a f l = 0) : (twO x a).s1 ≤ l - f + 1 ∧ l - f + 1 ≤ (twO x a).s2 := by
  have h3 : ts3 x a f l = false := fstT_zero h _ (by simp)
  simp only [ts3, Bool.not_eq_false', fitB, inB, Bool.and_eq_true, decide_eq_true_eq] at h3
  omega
theorem alq_step {x : To} (hn : ToN x) {t : Nat} (ht : 1 ≤ t) (htl : t < x.T.length) (f m : Nat) : alq x t f (m + 1) = if alO x t f ((f : Int) + m) = 0 then alq x t f m ++ [f + m] else alq x t f m := by
  have hs := (twN_of hn ht htl).s
  unfold alq
  generalize hs1 : (twO x t).s1 = s1 at *
  generalize hs2 : (twO x t).s2 = s2 at *
  by_cases h1 : ((m : Int) + 1 < s1)
  · rw [if_neg (fun h => by have := alO_fit h; rw [hs1] at this; omega), show m + 1 + 1 - s1.toNat = 0 from by omega, show m + 1 - s1.toNat = 0 from by omega]
  · by_cases h2 : (m : Int) + 1 ≤ s2
    · obtain ⟨j, hj⟩ : ∃ j, m + 1 - s1.toNat = j := ⟨_, rfl⟩
      rw [show m + 1 + 1 - s1.toNat = j + 1 from by omega, hj, Nat.min_eq_left (by omega), Nat.min_eq_left (by omega)]
      have e : (f : Int) + (s1 + (j : Nat)) - 1 = (f : Int) + m := by omega
      have e2 : ((f : Int) + m).toNat = f + m := by omega
      simp only [ALp, hs1, e, e2]
      by_cases h3 : alO x t f ((f : Int) + m) = 0
      · rw [if_pos h3, if_pos (show aloB x t f ((f : Int) + m) = true from decide_eq_true h3)]
      · rw [if_neg h3, if_neg (show ¬ aloB x t f ((f : Int) + m) = true from fun h => h3 (of_decide_eq_true h))]
    · rw [if_neg (fun h => by have := alO_fit h; rw [hs2] at this; omega), Nat.min_eq_right (by omega), Nat.min_eq_right (by omega)]
theorem ALp_const {x : To} {t f j : Nat} : ∀ r, (∀ i, j ≤ i → i < j + r → aloB x t f ((f : Int) + ((twO x t).s1 + i) - 1) = false) → ALp x t f (j + r) = ALp x t f j
  | 0, _ => rfl
  | r + 1, h => by
    show ALp x t f (j + r + 1) = _
    have h1 := h (j + r) (by omega) (by omega)
    simp only [ALp, h1, Bool.false_eq_true, if_false]
    exact ALp_const r fun i h1 h2 => h i h1 (by omega)
theorem alq_end {x : To} (hn : ToN x) {t : Nat} (ht : 1 ≤ t) (htl : t < x.T.length) {f m : Nat} (h : 10 ≤ m ∨ x.days ≤ (f : Int) + m) : alq x t f m = ALO x t f := by
  have hs := (twN_of hn ht htl).s
  unfold alq ALO
  rw [if_neg (by omega)]
  generalize hs2 : (twO x t).s2 = s2 at *
  rcases Nat.lt_or_ge (m + 1 - (twO x t).s1.toNat) (s2 - (twO x t).s1 + 1).toNat with h1 | h1
  · rw [Nat.min_eq_left (by omega)]
    obtain ⟨r, hr⟩ : ∃ r, (s2 - (twO x t).s1 + 1).toNat = (m + 1 - (twO x t).s1.toNat) + r := ⟨(s2 - (twO x t).s1 + 1).toNat - (m + 1 - (twO x t).s1.toNat), by omega⟩
    rw [hr]
    refine (ALp_const r fun i h2 h3 => ?_).symm
    cases hb : aloB x t f ((f : Int) + ((twO x t).s1 + i) - 1) with
    | false => rfl
    | true =>
      have := alo_last hn ht htl hb
      omega
  · rw [Nat.min_eq_right h1]
set_option maxHeartbeats 8000000 in
set_option maxRecDepth 100000 in
theorem rasked_ok (x : Tr) (fo : Option Addr) (fc : Nat) (F : List Int) (bo : Option Addr) (bc : Nat) (R : List Iw) (M : Int) (a d : Nat) (w : World) (h : TrIn x w) (hn : ToN x.d) (hF : Rd 1 iF (.slice fo F.length fc) F w) (hFb : FeB F) (hFl : F.length = x.T.length)
    (hR : Rd 1 Iw.cs (.slice bo R.length bc) R w) (hRr : ∀ r ∈ R, Rd 1 iF (.slice r.o r.xs.length r.c) r.xs w) (hRl : R.length = x.T.length) (hRn : ∀ r ∈ R, r.xs.length = x.days.toNat + 1) (hRb : TbB M (R.map Iw.xs)) (hM : 0 ≤ M ∧ M ≤ 2000000000000) (ha : a < x.T.length) (hd : d ≤ x.days.toNat) :
    Calls Try.prog 68 #[x.v, .slice fo F.length fc, .slice bo R.length bc, iv a, iv d] w fun e w' => e = .returned (iv (asO x.d F (R.map Iw.xs) a d)) ∧ Below w.heap.size w w' := by
  have h72 := fun w' (hb : Below w.heap.size w w') => rlost_ok x a 0 w' (h.below hb) hn ha (by have := hn.n; simp [Tr.d] at this; omega)
  have h72t := fun t ht w' (hb : Below w.heap.size w w') => rlost_ok x a t w' (h.below hb) hn ha ht
  simp only [lsN_eq hn] at h72t
  have hls := hn.lost a
  have hlg := hn.leg a
  have hday := hn.d
  have hnT := hn.n
  have hlT := hn.l
  have hlr := hn.lr
  have hmS : (x.d.T.length) = x.T.length := List.length_map ..
  have hC : ∀ t r, R[t]? = some r → ∀ c z, r.xs[c]? = some z → tbO (R.map Iw.xs) t c = z := fun t r hr c z hz => by
    simp only [tbO, List.getElem?_map, hr, Option.map_some, Option.getD_some, hz]
  obtain ⟨days, shift, size, to, tc, T, lo, lc, L⟩ := x
  dsimp only [Tr.d] at hnT hlT hlr hday
  dsimp only at ha hd hFl hRl hRn
  simp only [List.length_map] at hnT hlT hlr
  obtain ⟨nd, rfl⟩ : ∃ nd : Nat, days = nd := ⟨days.toNat, by omega⟩
  rw [Int.toNat_natCast] at hd hRn
  obtain ⟨_, fa, rfl, _⟩ := hF.ptr (by omega)
  obtain ⟨_, ba, rfl, _⟩ := hR.ptr (by omega)
  have hrowL : ∃ ra rc row, L[a]? = some ⟨some ra, rc, row⟩ ∧ row.length = T.length ∧ lo ≠ none ∧ ∀ w', Below w.heap.size w w' → Rd 2 prF (.slice (some ra) T.length rc) row w' := by
    obtain ⟨⟨ro, rc, row⟩, hr⟩ : ∃ r, L[a]? = some r := ⟨_, List.getElem?_eq_getElem (by omega)⟩
    have hrl := (hlr row (List.mem_of_getElem? (i := a) (by rw [List.getElem?_map, hr]; rfl))).1
    have h1 := h.li _ (List.mem_of_getElem? hr)
    dsimp only at h1
    obtain ⟨_, ra, rfl, _⟩ := h1.ptr (show 1 ≤ row.length by omega)
    obtain ⟨_, la, rfl, _⟩ := h.l.ptr (show 1 ≤ L.length by omega)
    refine ⟨ra, rc, row, hr, hrl, by simp, fun w' hb => ?_⟩
    have := (h.below hb).li _ (List.mem_of_getElem? hr)
    dsimp only at this
    rwa [hrl] at this
  obtain ⟨ra, rc, row, hrow, hrl, hlo, hrd⟩ := hrowL
  obtain ⟨la, rfl⟩ := Option.ne_none_iff_exists'.1 hlo
  have eL : ∀ w', Below w.heap.size w w' → ∀ j v, [Value.slice (some ra) T.length rc][j]? = some v → w'.cell? ((la.add ((a : Int).toNat * 1)).add j) = some v := fun w' hb => by
    have := rd_ati (h.below hb).l hrow
    rw [show Lr.cs (⟨some ra, rc, row⟩ : Lr) = [Value.slice (some ra) T.length rc] from by show [Value.slice _ row.length _] = _; rw [hrl]] at this
    exact this
  have ec : ∀ (t : Nat), t < T.length → ∃ c, row[t]? = some c ∧ lgO (Tr.d ⟨(nd : Int), shift, size, to, tc, T, some la, lc, L⟩) a t = c := fun t ht => by
    obtain ⟨c, hc⟩ : ∃ c, row[t]? = some c := ⟨_, List.getElem?_eq_getElem (by omega)⟩
    exact ⟨c, hc, by simp only [lgO, Tr.d, List.getElem?_map, hrow, Option.map_some, Option.getD_some, hc]⟩
  obtain ⟨⟨q1, q2⟩, hq, hq0⟩ := ec 0 (by omega)
  have hlq := hlg 0
  rw [hq0] at hlq
  have hcq : csO (Tr.d ⟨(nd : Int), shift, size, to, tc, T, some la, lc, L⟩) a 0 = q2 := by unfold csO; rw [hq0]
  have eq0 : ∀ w', Below w.heap.size w w' → ∀ j v, [iv q2][j]? = some v → w'.cell? (((ra.add ((0 : Int).toNat * 2)).add 1).add j) = some v := fun w' hb => rd_fldz (hrd w' hb) hq 0 rfl 1 (iv q2) rfl
  have hB : asB (Tr.d ⟨(nd : Int), shift, size, to, tc, T, some la, lc, L⟩) a d = if a = 0 ∧ d = 0 then 0 else if lsO (Tr.d ⟨(nd : Int), shift, size, to, tc, T, some la, lc, L⟩) a 0 + d ≤ nd then -q2 else -1000000000000 := by unfold asB; rw [hcq]
  have hBb := asB_bd hn a d
  have hO : asO (Tr.d ⟨(nd : Int), shift, size, to, tc, T, some la, lc, L⟩) F (R.map Iw.xs) a d = if (a = 0 ∧ d ≠ 0) ∨ (a ≠ 0 ∧ d = 0) then -1000000000000 else asT (Tr.d ⟨(nd : Int), shift, size, to, tc, T, some la, lc, L⟩) F (R.map Iw.xs) a d T.length (asB (Tr.d ⟨(nd : Int), shift, size, to, tc, T, some la, lc, L⟩) a d) := by unfold asO; rw [hmS]
  rw [hO]
  clear hO
  have hl0 := hls 0
  generalize hg0 : lsO (Tr.d ⟨(nd : Int), shift, size, to, tc, T, some la, lc, L⟩) a 0 = g0 at *
  refine calls_valV env mixed Try.func68 has68 Try.ntmps68 [.agg #[iv nd, iv shift, iv size, .slice to T.length tc, .slice (some la) L.length lc], .slice (some fa) F.length fc, .slice (some ba) R.length bc, iv a, iv d] (by simp) ?_
  refine VC.cutE env mixed 5 1 (fun _ : Unit => [(1, .v (.slice (some fa) F.length fc)), (2, .v (.slice (some ba) R.length bc)), (3, .v (iv a)), (4, .v (iv d)), (5, .ptr 0 0), (11, .v (iv (asB (Tr.d ⟨(nd : Int), shift, size, to, tc, T, some la, lc, L⟩) a d)))]) (fun _ => [(0, .cells [.v (iv nd), .v (iv shift), .v (iv size), .v (.slice to T.length tc), .v (.slice (some la) L.length lc)] 25)]) (fun _ => ¬ ((a = 0 ∧ d ≠ 0) ∨ (a ≠ 0 ∧ d = 0))) (fun _ _ => ⟨rfl, rfl⟩) ?_ ?_
  · by_cases hE : (a = 0 ∧ d ≠ 0) ∨ (a ≠ 0 ∧ d = 0)
    · rw [if_pos hE]
      repeat'
       conv => whnf
       first
        | refine zA ?_ | refine zB ?_ | refine zC ?_ | refine zD ?_ | refine zE ?_ | refine zF ?_ | refine zG ?_ | refine zH ?_ | refine zJ ?_ | refine zI ?_ | refine splT ?_ | refine splF ?_ | refine splNot ?_
        | ((first | refine splIn (fun hc => ?_) (fun hc => ?_) | refine splD (fun hc => ?_) (fun hc => ?_) | refine splE (fun hc => ?_) (fun hc => ?_) | refine splNE (fun hc => ?_) (fun hc => ?_)) <;> first | (exfalso; omega) | (exfalso; dsimp only at hc; omega) | skip)
        | ((with_reducible show CallEv _ _ 38 _ _ _ _ _); refine callE (k := 38) (fun β w' hbw => h72 w' hbw) ?_)
      all_goals first | (exfalso; omega) | exact ⟨fun β => rfl, fun w' h => h⟩
    · rw [if_neg hE]
      by_cases ha0 : a = 0 ∧ d = 0
      · rw [if_pos ha0] at hB
        rw [hB]
        repeat'
         conv => whnf
         first
          | refine zA ?_ | refine zB ?_ | refine zC ?_ | refine zD ?_ | refine zE ?_ | refine zF ?_ | refine zG ?_ | refine zH ?_ | refine zJ ?_ | refine zI ?_ | refine splT ?_ | refine splF ?_ | refine splNot ?_
          | ((first | refine splIn (fun hc => ?_) (fun hc => ?_) | refine splD (fun hc => ?_) (fun hc => ?_) | refine splE (fun hc => ?_) (fun hc => ?_) | refine splNE (fun hc => ?_) (fun hc => ?_)) <;> first | (exfalso; omega) | (exfalso; dsimp only at hc; omega) | skip)
          | ((with_reducible show CallEv _ _ 38 _ _ _ _ _); refine callE (k := 38) (fun β w' hbw => h72 w' hbw) ?_)
        all_goals first | (exfalso; omega) | exact ⟨rfl, (), hE, Ent.weak rfl ⟨rfl, rfl, rfl, rfl, rfl, rfl, trivial⟩ ⟨rfl, trivial⟩ fun _ h => h⟩
      · rw [if_neg ha0] at hB
        by_cases hle : g0 + d ≤ nd
        · rw [if_pos hle] at hB
          rw [hB]
          repeat'
           conv => whnf
           first
            | refine zA ?_ | refine zB ?_ | refine zC ?_ | refine zD ?_ | refine zE ?_ | refine zF ?_ | refine zG ?_ | refine zH ?_ | refine zJ ?_ | refine zI ?_ | refine splT ?_ | refine splF ?_ | refine splNot ?_
            | ((first | refine splIn (fun hc => ?_) (fun hc => ?_) | refine splD (fun hc => ?_) (fun hc => ?_) | refine splE (fun hc => ?_) (fun hc => ?_) | refine splNE (fun hc => ?_) (fun hc => ?_)) <;> first | (exfalso; omega) | (exfalso; dsimp only at hc; omega) | skip)
            | ((with_reducible show CallEv _ _ 38 _ _ _ _ _); refine callE (k := 38) (fun β w' hbw => h72 w' hbw) ?_)
            | refine Exists.intro (α := List Value) [.slice (some ra) T.length rc] ⟨⟨rfl, fun w' hw' => eL w' hw'⟩, ?_⟩
            | refine Exists.intro (α := List Value) [iv q2] ⟨⟨rfl, fun w' hw' => eq0 w' hw'⟩, ?_⟩
          all_goals first | (exfalso; omega) | exact ⟨rfl, (), hE, Ent.weak rfl ⟨rfl, rfl, rfl, rfl, rfl, rfl, trivial⟩ ⟨rfl, trivial⟩ fun _ h => h⟩
        · rw [if_neg hle] at hB
          rw [hB]
          repeat'
           conv => whnf
           first
            | refine zA ?_ | refine zB ?_ | refine zC ?_ | refine zD ?_ | refine zE ?_ | refine zF ?_ | refine zG ?_ | refine zH ?_ | refine zJ ?_ | refine zI ?_ | refine splT ?_ | refine splF ?_ | refine splNot ?_
            | ((first | refine splIn (fun hc => ?_) (fun hc => ?_) | refine splD (fun hc => ?_) (fun hc => ?_) | refine splE (fun hc => ?_) (fun hc => ?_) | refine splNE (fun hc => ?_) (fun hc => ?_)) <;> first | (exfalso; omega) | (exfalso; dsimp only at hc; omega) | skip)
            | ((with_reducible show CallEv _ _ 38 _ _ _ _ _); refine callE (k := 38) (fun β w' hbw => h72 w' hbw) ?_)
          all_goals first | (exfalso; omega) | exact ⟨rfl, (), hE, Ent.weak rfl ⟨rfl, rfl, rfl, rfl, rfl, rfl, trivial⟩ ⟨rfl, trivial⟩ fun _ h => h⟩
  · intro _ hE
    rw [if_neg hE]
    refine VC.of env mixed ?_
    have hgb := fun (t f l : Nat) (h1 : 1 ≤ t) (hl : f ≤ l ∧ l < f + 10) => gn_bd hn (a := t) (d := f) (l := l) h1 hl
    have hTb := fun t ht => asT_bd hn hFb hRb hM.1 a d (n := asB (Tr.d ⟨(nd : Int), shift, size, to, tc, T, some la, lc, L⟩) a d) hBb.1 (by omega) t ht
    simp only [hmS] at hTb
    obtain ⟨B0, hB0⟩ : ∃ B0, asB (Tr.d ⟨(nd : Int), shift, size, to, tc, T, some la, lc, L⟩) a d = B0 := ⟨_, rfl⟩
    rw [hB0] at hTb ⊢
    repeat'
     conv => whnf
     first
      | refine zA ?_ | refine zB ?_ | refine zC ?_ | refine zD ?_ | refine zE ?_ | refine zF ?_ | refine zG ?_ | refine zH ?_ | refine zJ ?_ | refine zI ?_ | refine splT ?_ | refine splF ?_ | refine splNot ?_
      | ((first | refine splIn (fun hc => ?_) (fun hc => ?_) | refine splD (fun hc => ?_) (fun hc => ?_) | refine splE (fun hc => ?_) (fun hc => ?_) | refine splNE (fun hc => ?_) (fun hc => ?_)) <;> first | (exfalso; omega) | (exfalso; dsimp only at hc; omega) | skip)
    all_goals first | (exfalso; omega) | skip
    refine loopN 1 (fun t : Nat => [(1, .v (.slice (some fa) F.length fc)), (2, .v (.slice (some ba) R.length bc)), (3, .v (iv a)), (4, .v (iv d)), (5, .ptr 0 0), (11, .v (iv (asT (Tr.d ⟨(nd : Int), shift, size, to, tc, T, some la, lc, L⟩) F (R.map Iw.xs) a d t B0))), (12, .v (iv t))]) (fun t => [(0, .cells [.v (iv nd), .v (iv shift), .v (iv size), .v (.slice to T.length tc), .v (.slice (some la) L.length lc)] 25)]) (fun t => 1 ≤ t ∧ t ≤ T.length) (fun t => T.length - t) 1 ⟨Nat.le_refl _, by omega⟩ ⟨rfl, rfl, rfl, rfl, rfl, rfl, rfl, trivial⟩ ⟨rfl, trivial⟩ (fun _ _ => ⟨rfl, rfl⟩) ?_
    intro t ⟨ht1, ht⟩
    rcases Nat.lt_or_ge t T.length with htl | htl
    · have hs1 : asT (Tr.d ⟨(nd : Int), shift, size, to, tc, T, some la, lc, L⟩) F (R.map Iw.xs) a d (t + 1) B0 = if t = 0 ∨ t = a then asT (Tr.d ⟨(nd : Int), shift, size, to, tc, T, some la, lc, L⟩) F (R.map Iw.xs) a d t B0 else asF (Tr.d ⟨(nd : Int), shift, size, to, tc, T, some la, lc, L⟩) F (R.map Iw.xs) a t (d + lsN (Tr.d ⟨(nd : Int), shift, size, to, tc, T, some la, lc, L⟩) a t) (nd - (d + lsN (Tr.d ⟨(nd : Int), shift, size, to, tc, T, some la, lc, L⟩) a t)) (asT (Tr.d ⟨(nd : Int), shift, size, to, tc, T, some la, lc, L⟩) F (R.map Iw.xs) a d t B0) := rfl
      have hTt := hTb t (by omega)
      obtain ⟨N0, hN0⟩ : ∃ N0, asT (Tr.d ⟨(nd : Int), shift, size, to, tc, T, some la, lc, L⟩) F (R.map Iw.xs) a d t B0 = N0 := ⟨_, rfl⟩
      rw [hN0] at hs1 hTt ⊢
      have hlsn := lsN_le hn a t
      have h72u := h72t t (by omega)
      obtain ⟨ln, hln⟩ : ∃ ln, lsN (Tr.d ⟨(nd : Int), shift, size, to, tc, T, some la, lc, L⟩) a t = ln := ⟨_, rfl⟩
      rw [hln] at h72u hlsn hs1
      by_cases htz : t = 0 ∨ t = a
      · rw [if_pos htz] at hs1
        repeat'
         conv => whnf
         first
          | refine zA ?_ | refine zB ?_ | refine zC ?_ | refine zD ?_ | refine zE ?_ | refine zF ?_ | refine zG ?_ | refine zH ?_ | refine zJ ?_ | refine zI ?_ | refine splT ?_ | refine splF ?_ | refine splNot ?_
          | ((first | refine splIn (fun hc => ?_) (fun hc => ?_) | refine splD (fun hc => ?_) (fun hc => ?_) | refine splE (fun hc => ?_) (fun hc => ?_) | refine splNE (fun hc => ?_) (fun hc => ?_)) <;> first | (exfalso; omega) | (exfalso; dsimp only at hc; omega) | skip)
          | ((with_reducible show CallEv _ _ 38 _ _ _ _ _); refine callE (k := 38) (fun β w' hbw => h72u w' hbw) ?_)
        all_goals first | (exfalso; omega) | skip
        refine loopE (fun _ : Unit => [(1, .v (.slice (some fa) F.length fc)), (2, .v (.slice (some ba) R.length bc)), (3, .v (iv a)), (4, .v (iv d)), (5, .ptr 0 0), (11, .v (iv N0)), (12, .v (iv t)), (13, .v (iv ((d : Int) + (ln : Nat))))]) (fun _ => [(0, .cells [.v (iv nd), .v (iv shift), .v (iv size), .v (.slice to T.length tc), .v (.slice (some la) L.length lc)] 25)]) (fun _ => True) (fun _ => 0) () trivial ⟨rfl, rfl, rfl, rfl, rfl, rfl, rfl, rfl, trivial⟩ ⟨rfl, trivial⟩ (fun _ => ⟨rfl, rfl⟩) ?_
        intro _ _
        repeat'
         conv => whnf
         first
          | refine zA ?_ | refine zB ?_ | refine zC ?_ | refine zD ?_ | refine zE ?_ | refine zF ?_ | refine zG ?_ | refine zH ?_ | refine zJ ?_ | refine zI ?_ | refine splT ?_ | refine splF ?_ | refine splNot ?_
          | ((first | refine splIn (fun hc => ?_) (fun hc => ?_) | refine splD (fun hc => ?_) (fun hc => ?_) | refine splE (fun hc => ?_) (fun hc => ?_) | refine splNE (fun hc => ?_) (fun hc => ?_)) <;> first | (exfalso; omega) | (exfalso; dsimp only at hc; omega) | skip)
        all_goals first | (exfalso; omega) | exact ⟨t + 1, ⟨by omega, by omega⟩, by omega, Ent.weak rfl ⟨rfl, rfl, rfl, rfl, rfl, by rw [hs1]; rfl, rfl, trivial⟩ ⟨rfl, trivial⟩ fun _ h => h⟩
      · rw [if_neg htz] at hs1
        obtain ⟨⟨p1, p2⟩, hpr, hpl⟩ := ec t (by omega)
        have hlp := hlg t
        rw [hpl] at hlp
        have hcp : csO (Tr.d ⟨(nd : Int), shift, size, to, tc, T, some la, lc, L⟩) a t = p2 := by unfold csO; rw [hpl]
        have ep : ∀ w', Below w.heap.size w w' → ∀ j v, [iv p2][j]? = some v → w'.cell? (((ra.add (((t : Nat) : Int).toNat * 2)).add 1).add j) = some v := fun w' hb => rd_fldz (hrd w' hb) hpr _ rfl 1 (iv p2) rfl
        obtain ⟨fe, hfe⟩ : ∃ fe, F[t]? = some fe := ⟨_, List.getElem?_eq_getElem (by omega)⟩
        have hfeb := hFb fe (List.mem_of_getElem? hfe)
        have ef := fun w' (hb : Below w.heap.size w w') => rd_ati (hF.below hb) hfe
        obtain ⟨⟨wo, wc, xs⟩, hwr⟩ : ∃ r, R[t]? = some r := ⟨_, List.getElem?_eq_getElem (by omega)⟩
        have hwm := List.mem_of_getElem? hwr
        have hwn := hRn _ hwm
        have hwR := hRr _ hwm
        dsimp only at hwn hwR
        obtain ⟨_, wa, rfl, _⟩ := hwR.ptr (show 1 ≤ xs.length by omega)
        have er := fun w' (hb : Below w.heap.size w w') => rd_ati (hR.below hb) hwr
        have hwz : ∀ c, c ≤ nd → ∃ z, xs[c]? = some z ∧ tbO (R.map Iw.xs) t c = z ∧ (-1000000000000 ≤ z ∧ z ≤ 2000000000000) := fun c hc => by
          obtain ⟨z, hz⟩ : ∃ z, xs[c]? = some z := ⟨_, List.getElem?_eq_getElem (by omega)⟩
          have hb := hRb xs (List.mem_map.2 ⟨_, hwm, rfl⟩) z (List.mem_of_getElem? hz)
          exact ⟨z, hz, hC t _ hwr c z hz, by omega⟩
        obtain ⟨f0, hf0⟩ : ∃ f0, d + ln = f0 := ⟨_, rfl⟩
        rw [hf0] at hs1
        have htl2 : t < (Tr.d ⟨(nd : Int), shift, size, to, tc, T, some la, lc, L⟩).T.length := by rw [hmS]; exact htl
        have hFbd := fun q => asF_bd hn hFb hRb hM.1 a (t := t) (f0 := f0) (n := N0) (by omega) htl2 (by omega) (by omega) q
        repeat'
         conv => whnf
         first
          | refine zA ?_ | refine zB ?_ | refine zC ?_ | refine zD ?_ | refine zE ?_ | refine zF ?_ | refine zG ?_ | refine zH ?_ | refine zJ ?_ | refine zI ?_ | refine splT ?_ | refine splF ?_ | refine splNot ?_
          | ((first | refine splIn (fun hc => ?_) (fun hc => ?_) | refine splD (fun hc => ?_) (fun hc => ?_) | refine splE (fun hc => ?_) (fun hc => ?_) | refine splNE (fun hc => ?_) (fun hc => ?_)) <;> first | (exfalso; omega) | (exfalso; dsimp only at hc; omega) | skip)
          | ((with_reducible show CallEv _ _ 38 _ _ _ _ _); refine callE (k := 38) (fun β w' hbw => h72u w' hbw) ?_)
        all_goals first | (exfalso; omega) | skip
        obtain ⟨Q, hQ⟩ : ∃ Q, nd - f0 = Q := ⟨_, rfl⟩
        rw [hQ] at hs1
        refine loopN 1 (fun q : Nat => [(1, .v (.slice (some fa) F.length fc)), (2, .v (.slice (some ba) R.length bc)), (3, .v (iv a)), (4, .v (iv d)), (5, .ptr 0 0), (11, .v (iv (asF (Tr.d ⟨(nd : Int), shift, size, to, tc, T, some la, lc, L⟩) F (R.map Iw.xs) a t f0 q N0))), (12, .v (iv t)), (13, .v (iv ((f0 + q : Nat) : Int)))]) (fun q => [(0, .cells [.v (iv nd), .v (iv shift), .v (iv size), .v (.slice to T.length tc), .v (.slice (some la) L.length lc)] 25)]) (fun q => q ≤ Q) (fun q => Q - q) 0 (Nat.zero_le _) ⟨rfl, rfl, rfl, rfl, rfl, rfl, rfl, (by (show some (SV.v (iv ((d : Int) + (ln : Nat)))) = some (SV.v (iv ((f0 + 0 : Nat) : Int)))); rw [← hf0]; rfl), trivial⟩ ⟨rfl, trivial⟩ (fun _ _ => ⟨rfl, rfl⟩) ?_
        intro q hq'
        have hFq := hFbd q
        have hFs : asF (Tr.d ⟨(nd : Int), shift, size, to, tc, T, some la, lc, L⟩) F (R.map Iw.xs) a t f0 (q + 1) N0 = asL (Tr.d ⟨(nd : Int), shift, size, to, tc, T, some la, lc, L⟩) F (R.map Iw.xs) a t (f0 + q) (ALO (Tr.d ⟨(nd : Int), shift, size, to, tc, T, some la, lc, L⟩) t (f0 + q)) (asF (Tr.d ⟨(nd : Int), shift, size, to, tc, T, some la, lc, L⟩) F (R.map Iw.xs) a t f0 q N0) := rfl
        obtain ⟨N1, hN1⟩ : ∃ N1, asF (Tr.d ⟨(nd : Int), shift, size, to, tc, T, some la, lc, L⟩) F (R.map Iw.xs) a t f0 q N0 = N1 := ⟨_, rfl⟩
        rw [hN1] at hFq hFs ⊢
        rcases Nat.lt_or_ge q Q with hql | hql
        · obtain ⟨f, hf⟩ : ∃ f, f0 + q = f := ⟨_, rfl⟩
          rw [hf] at hFs ⊢
          have hmn := imin_eq (nd : Int) ((f : Int) + 10)
          obtain ⟨M9, hM9⟩ : ∃ M9, min nd (f + 10) - f = M9 := ⟨_, rfl⟩
          repeat'
           conv => whnf
           first
            | refine zA ?_ | refine zB ?_ | refine zC ?_ | refine zD ?_ | refine zE ?_ | refine zF ?_ | refine zG ?_ | refine zH ?_ | refine zJ ?_ | refine zI ?_ | refine splT ?_ | refine splF ?_ | refine splNot ?_
            | ((first | refine splIn (fun hc => ?_) (fun hc => ?_) | refine splD (fun hc => ?_) (fun hc => ?_) | refine splE (fun hc => ?_) (fun hc => ?_) | refine splNE (fun hc => ?_) (fun hc => ?_)) <;> first | (exfalso; omega) | (exfalso; dsimp only at hc; omega) | skip)
          all_goals first | (exfalso; omega) | skip
          refine loopN 1 (fun m : Nat => [(1, .v (.slice (some fa) F.length fc)), (2, .v (.slice (some ba) R.length bc)), (3, .v (iv a)), (4, .v (iv d)), (5, .ptr 0 0), (11, .v (iv (asL (Tr.d ⟨(nd : Int), shift, size, to, tc, T, some la, lc, L⟩) F (R.map Iw.xs) a t f (alq (Tr.d ⟨(nd : Int), shift, size, to, tc, T, some la, lc, L⟩) t f m) N1))), (12, .v (iv t)), (13, .v (iv (f : Int))), (14, .v (iv ((f : Int) + (m : Nat))))]) (fun m => [(0, .cells [.v (iv nd), .v (iv shift), .v (iv size), .v (.slice to T.length tc), .v (.slice (some la) L.length lc)] 25)]) (fun m => m ≤ M9) (fun m => M9 - m) 0 (Nat.zero_le _) ⟨rfl, rfl, rfl, rfl, rfl, (by rw [show alq (Tr.d ⟨(nd : Int), shift, size, to, tc, T, some la, lc, L⟩) t f 0 = [] from by unfold alq; rw [show 0 + 1 - (twO (Tr.d ⟨(nd : Int), shift, size, to, tc, T, some la, lc, L⟩) (t : Int)).s1.toNat = 0 from by have := (twN_of hn ht1 htl2).s; omega, Nat.zero_min]; rfl]; rfl), rfl, rfl, by rw [Int.natCast_zero, Int.add_zero]; rfl, trivial⟩ ⟨rfl, trivial⟩ (fun _ _ => ⟨rfl, rfl⟩) ?_
          intro m hm
          have hLb := asL_bd hn hFb hRb hM.1 a (t := t) (f := f) (by omega) (alq (Tr.d ⟨(nd : Int), shift, size, to, tc, T, some la, lc, L⟩) t f m) (alp_bd hn (by omega) htl2 f _ (Nat.min_le_right _ _)) N1 (by omega) (by omega)
          have hstp := alq_step hn ht1 htl2 f m
          have hsn := asL_snoc (Tr.d ⟨(nd : Int), shift, size, to, tc, T, some la, lc, L⟩) F (R.map Iw.xs) a t f (f + m) (alq (Tr.d ⟨(nd : Int), shift, size, to, tc, T, some la, lc, L⟩) t f m) N1
          obtain ⟨NN, hNN⟩ : ∃ NN, asL (Tr.d ⟨(nd : Int), shift, size, to, tc, T, some la, lc, L⟩) F (R.map Iw.xs) a t f (alq (Tr.d ⟨(nd : Int), shift, size, to, tc, T, some la, lc, L⟩) t f m) N1 = NN := ⟨_, rfl⟩
          rw [hNN] at hLb hsn
          rcases Nat.lt_or_ge m M9 with hmN | hmN
          · rw [hNN]
            have hsj : (f : Int) + ((m + 1 : Nat) : Int) = (f : Int) + (m : Int) + 1 := by omega
            have h103 := fun w' (hb : Below w.heap.size w w') => ralone_ok ⟨(nd : Int), shift, size, to, tc, T, some la, lc, L⟩ ((t : Nat) : Int) (f : Int) ((f : Int) + (m : Int)) w' (h.below hb) hn ⟨by omega, by omega⟩
            have hale := alO_le (Tr.d ⟨(nd : Int), shift, size, to, tc, T, some la, lc, L⟩) ((t : Nat) : Int) (f : Int) ((f : Int) + (m : Int))
            by_cases hA : alO (Tr.d ⟨(nd : Int), shift, size, to, tc, T, some la, lc, L⟩) ((t : Nat) : Int) (f : Int) ((f : Int) + (m : Int)) = 0
            · rw [if_pos hA] at hstp
              rw [hA] at h103
              obtain ⟨tv, htv, hCv, htvb⟩ := hwz (f + m + 1) (by omega)
              have ev := fun w' (hb : Below w.heap.size w w') => rd_atz (hwR.below hb) htv ((f : Int) + (m : Int) + 1) (by omega)
              obtain ⟨G, hG⟩ : ∃ G, gnO (Tr.d ⟨(nd : Int), shift, size, to, tc, T, some la, lc, L⟩) t (f : Int) ((f + m : Nat) : Int) = G := ⟨_, rfl⟩
              have hGb := hgb t f (f + m) (by omega) ⟨by omega, by omega⟩
              have h64 := fun w' (hb : Below w.heap.size w w') => rgain_ok ⟨(nd : Int), shift, size, to, tc, T, some la, lc, L⟩ t f (f + m) w' (h.below hb) hn ht1 htl ⟨by omega, by omega, by omega⟩
              have hg : asG (Tr.d ⟨(nd : Int), shift, size, to, tc, T, some la, lc, L⟩) F (R.map Iw.xs) a t f (f + m) = G - p2 - fe + tv := by unfold asG; rw [hG, hcp, hfe, hCv]; rfl
              rw [hG] at hGb h64
              rw [hg] at hsn
              repeat'
               conv => whnf
               first
                | refine zA ?_ | refine zB ?_ | refine zC ?_ | refine zD ?_ | refine zE ?_ | refine zF ?_ | refine zG ?_ | refine zH ?_ | refine zJ ?_ | refine zI ?_ | refine splT ?_ | refine splF ?_ | refine splNot ?_
                | ((first | refine splIn (fun hc => ?_) (fun hc => ?_) | refine splD (fun hc => ?_) (fun hc => ?_) | refine splE (fun hc => ?_) (fun hc => ?_) | refine splNE (fun hc => ?_) (fun hc => ?_)) <;> first | (exfalso; omega) | (exfalso; dsimp only at hc; omega) | skip)
                | ((with_reducible show CallEv _ _ 103 _ _ _ _ _); refine callE (k := 103) (fun β w' hbw => h103 w' hbw) ?_)
                | ((with_reducible show CallEv _ _ 64 _ _ _ _ _); refine callE (k := 64) (fun β w' hbw => h64 w' hbw) ?_)
                | refine Exists.intro (α := List Value) [.slice (some ra) T.length rc] ⟨⟨rfl, fun w' hw' => eL w' hw'⟩, ?_⟩
                | refine Exists.intro (α := List Value) [iv p2] ⟨⟨rfl, fun w' hw' => ep w' hw'⟩, ?_⟩
                | refine Exists.intro (α := List Value) [iv fe] ⟨⟨rfl, fun w' hw' => ef w' hw'⟩, ?_⟩
                | refine Exists.intro (α := List Value) [.slice (some wa) xs.length wc] ⟨⟨rfl, fun w' hw' => er w' hw'⟩, ?_⟩
                | refine Exists.intro (α := List Value) [iv tv] ⟨⟨rfl, fun w' hw' => ev w' hw'⟩, ?_⟩
              all_goals first | (exfalso; omega) | exact ⟨m + 1, by omega, by omega, Ent.weak rfl ⟨rfl, rfl, rfl, rfl, rfl, by rw [hstp, hsn]; rfl, rfl, rfl, by rw [hsj]; rfl, trivial⟩ ⟨rfl, trivial⟩ fun _ h => h⟩
            · rw [if_neg hA] at hstp
              generalize alO (Tr.d ⟨(nd : Int), shift, size, to, tc, T, some la, lc, L⟩) ((t : Nat) : Int) (f : Int) ((f : Int) + (m : Int)) = AA at *
              repeat'
               conv => whnf
               first
                | refine zA ?_ | refine zB ?_ | refine zC ?_ | refine zD ?_ | refine zE ?_ | refine zF ?_ | refine zG ?_ | refine zH ?_ | refine zJ ?_ | refine zI ?_ | refine splT ?_ | refine splF ?_ | refine splNot ?_
                | ((first | refine splIn (fun hc => ?_) (fun hc => ?_) | refine splD (fun hc => ?_) (fun hc => ?_) | refine splE (fun hc => ?_) (fun hc => ?_) | refine splNE (fun hc => ?_) (fun hc => ?_)) <;> first | (exfalso; omega) | (exfalso; dsimp only at hc; omega) | skip)
                | ((with_reducible show CallEv _ _ 103 _ _ _ _ _); refine callE (k := 103) (fun β w' hbw => h103 w' hbw) ?_)
              all_goals first | (exfalso; omega) | exact ⟨m + 1, by omega, by omega, Ent.weak rfl ⟨rfl, rfl, rfl, rfl, rfl, by rw [hstp, hNN]; rfl, rfl, rfl, by rw [hsj]; rfl, trivial⟩ ⟨rfl, trivial⟩ fun _ h => h⟩
          · obtain rfl : m = M9 := by omega
            have hAE : alq (Tr.d ⟨(nd : Int), shift, size, to, tc, T, some la, lc, L⟩) t f m = ALO (Tr.d ⟨(nd : Int), shift, size, to, tc, T, some la, lc, L⟩) t f := alq_end hn ht1 htl2 (by (show 10 ≤ m ∨ (nd : Int) ≤ (f : Int) + m); omega)
            rw [hAE, ← hFs]
            repeat'
             conv => whnf
             first
              | refine zA ?_ | refine zB ?_ | refine zC ?_ | refine zD ?_ | refine zE ?_ | refine zF ?_ | refine zG ?_ | refine zH ?_ | refine zJ ?_ | refine zI ?_ | refine splT ?_ | refine splF ?_ | refine splNot ?_
              | ((first | refine splIn (fun hc => ?_) (fun hc => ?_) | refine splD (fun hc => ?_) (fun hc => ?_) | refine splE (fun hc => ?_) (fun hc => ?_) | refine splNE (fun hc => ?_) (fun hc => ?_)) <;> first | (exfalso; omega) | (exfalso; dsimp only at hc; omega) | skip)
            all_goals first | (exfalso; omega) | exact ⟨q + 1, by omega, by omega, Ent.weak rfl ⟨rfl, rfl, rfl, rfl, rfl, rfl, rfl, by rw [show ((f0 + (q + 1) : Nat) : Int) = (f : Int) + 1 from by omega]; rfl, trivial⟩ ⟨rfl, trivial⟩ fun _ h => h⟩
        · obtain rfl : q = Q := by omega
          rw [← hN1, ← hs1]
          repeat'
           conv => whnf
           first
            | refine zA ?_ | refine zB ?_ | refine zC ?_ | refine zD ?_ | refine zE ?_ | refine zF ?_ | refine zG ?_ | refine zH ?_ | refine zJ ?_ | refine zI ?_ | refine splT ?_ | refine splF ?_ | refine splNot ?_
            | ((first | refine splIn (fun hc => ?_) (fun hc => ?_) | refine splD (fun hc => ?_) (fun hc => ?_) | refine splE (fun hc => ?_) (fun hc => ?_) | refine splNE (fun hc => ?_) (fun hc => ?_)) <;> first | (exfalso; omega) | (exfalso; dsimp only at hc; omega) | skip)
          all_goals first | (exfalso; omega) | exact ⟨t + 1, ⟨by omega, by omega⟩, by omega, Ent.weak rfl ⟨rfl, rfl, rfl, rfl, rfl, rfl, rfl, trivial⟩ ⟨rfl, trivial⟩ fun _ h => h⟩
    · obtain rfl : t = T.length := by omega
      repeat'
       conv => whnf
       first
        | refine zA ?_ | refine zB ?_ | refine zC ?_ | refine zD ?_ | refine zE ?_ | refine zF ?_ | refine zG ?_ | refine zH ?_ | refine zJ ?_ | refine zI ?_ | refine splT ?_ | refine splF ?_ | refine splNot ?_
        | ((first | refine splIn (fun hc => ?_) (fun hc => ?_) | refine splD (fun hc => ?_) (fun hc => ?_) | refine splE (fun hc => ?_) (fun hc => ?_) | refine splNE (fun hc => ?_) (fun hc => ?_)) <;> first | (exfalso; omega) | (exfalso; dsimp only at hc; omega) | skip)
      all_goals first | (exfalso; omega) | exact ⟨fun β => rfl, fun w' h => h⟩
end Go.Proofs.Ythfabodamhdhaaa
