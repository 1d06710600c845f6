/- The least that a number of a table may be, by the others: what asked says. -/
import Derived.Test.YthfabodamhdhaaaRX
namespace Go.Proofs.Ythfabodamhdhaaa
open Go Tx Go.RowKit
set_option linter.unusedSimpArgs false
set_option linter.unusedVariables false
def tbO (R : List (List Int)) (t c : Nat) : Int := (((R[t]?).getD [])[c]?).getD 0
def asG (x : To) (F : List Int) (R : List (List Int)) (a t f l : Nat) : Int := gnO x t f l - csO x a t - (F[t]?).getD 0 + tbO R t (l + 1)
def asL (x : To) (F : List Int) (R : List (List Int)) (a t f : Nat) : List Nat → Int → Int
 | [], n => n
 | l :: L, n => asL x F R a t f L (imax n (asG x F R a t f l))
def asF (x : To) (F : List Int) (R : List (List Int)) (a t f0 : Nat) : Nat → Int → Int
 | 0, n => n
 | q + 1, n => asL x F R a t (f0 + q) (ALO x t (f0 + q)) (asF x F R a t f0 q n)
def asT (x : To) (F : List Int) (R : List (List Int)) (a d : Nat) : Nat → Int → Int
 | 0, n => n
 | t + 1, n => if t = 0 ∨ t = a then asT x F R a d t n else asF x F R a t (d + lsN x a t) (x.days.toNat - (d + lsN x a t)) (asT x F R a d t n)
def asB (x : To) (a d : Nat) : Int := if a = 0 ∧ d = 0 then 0 else if lsO x a 0 + d ≤ x.days then -csO x a 0 else -1000000000000
def asO (x : To) (F : List Int) (R : List (List Int)) (a d : Nat) : Int := if (a = 0 ∧ d ≠ 0) ∨ (a ≠ 0 ∧ d = 0) then -1000000000000 else asT x F R a d x.T.length (asB x a d)
theorem asL_snoc (x : To) (F : List Int) (R : List (List Int)) (a t f l : Nat) : ∀ (L : List Nat) (n : Int), asL x F R a t f (L ++ [l]) n = imax (asL x F R a t f L n) (asG x F R a t f l)
 | [], _ => rfl
 | _ :: L, _ => asL_snoc x F R a t f l L _
def TbB (M : Int) (R : List (List Int)) : Prop := ∀ r ∈ R, ∀ n ∈ r, -1000000000000 ≤ n ∧ n ≤ M
theorem TbB.at {M : Int} {R : List (List Int)} (h : TbB M R) (hM : 0 ≤ M) (t c : Nat) : -1000000000000 ≤ tbO R t c ∧ tbO R t c ≤ M := by
 unfold tbO
 cases hr : R[t]? with
 | none => simp; exact hM
 | some r =>
  simp only [Option.getD_some]
  cases hn : r[c]? with
  | none => simp; exact hM
  | some n => exact h r (List.mem_of_getElem? hr) n (List.mem_of_getElem? hn)
def FeB (F : List Int) : Prop := ∀ f ∈ F, 0 ≤ f ∧ f ≤ 1000000000
theorem FeB.at {F : List Int} (h : FeB F) (t : Nat) : 0 ≤ (F[t]?).getD 0 ∧ (F[t]?).getD 0 ≤ 1000000000 := by
 cases hr : F[t]? with
 | none => simp
 | some r => exact h r (List.mem_of_getElem? hr)
theorem asG_bd {x : To} {F : List Int} {R : List (List Int)} {M : Int} (hn : ToN x) (hF : FeB F) (hR : TbB M R) (hM : 0 ≤ M) (a : Nat) {t f l : Nat} (ht : 1 ≤ t) (hl : f ≤ l ∧ l < f + 10) : -1100000000000 ≤ asG x F R a t f l ∧ asG x F R a t f l ≤ M + 10000000 := by
 have h1 := gn_bd hn (a := t) (d := f) (l := l) ht hl
 have h2 := hn.leg a t
 have h3 := hF.at t
 have h4 := hR.at hM t (l + 1)
 unfold asG csO
 omega
theorem asL_bd {x : To} {F : List Int} {R : List (List Int)} {M : Int} (hn : ToN x) (hF : FeB F) (hR : TbB M R) (hM : 0 ≤ M) (a : Nat) {t f : Nat} (ht : 1 ≤ t) : ∀ (L : List Nat), (∀ l ∈ L, f ≤ l ∧ l < f + 10) → ∀ n : Int, -1000000000000 ≤ n → n ≤ M + 10000000 → n ≤ asL x F R a t f L n ∧ asL x F R a t f L n ≤ M + 10000000
 | [], _, n, _, h2 => ⟨Int.le_refl n, h2⟩
 | l :: L, hl, n, h1, h2 => by
  have hg := asG_bd hn hF hR hM a (t := t) (f := f) (l := l) ht (hl l (List.mem_cons_self ..))
  have e := imax_eq n (asG x F R a t f l)
  have ih := asL_bd hn hF hR hM a ht L (fun l h => hl l (List.mem_cons_of_mem _ h)) (imax n (asG x F R a t f l)) (by omega) (by omega)
  show n ≤ asL x F R a t f L _ ∧ _
  simp only [asL]
  omega
theorem alp_bd {x : To} (hn : ToN x) {t : Nat} (ht : 1 ≤ t) (htl : t < x.T.length) (f N : Nat) (hN : N ≤ ((twO x t).s2 - (twO x t).s1 + 1).toNat) : ∀ l ∈ ALp x t f N, f ≤ l ∧ l < f + 10 := fun l hl => by
 obtain ⟨i, h1, h2, h3⟩ := ALp_mem x t f N l hl
 have hs := (twN_of hn ht htl).s
 omega
theorem alo_bd {x : To} (hn : ToN x) {t : Nat} (ht : 1 ≤ t) (htl : t < x.T.length) (f : Nat) : ∀ l ∈ ALO x t f, f ≤ l ∧ l < f + 10 := fun l hl => by
 unfold ALO at hl
 rw [if_neg (by omega)] at hl
 exact alp_bd hn ht htl f _ (Nat.le_refl _) l hl
theorem asF_bd {x : To} {F : List Int} {R : List (List Int)} {M : Int} (hn : ToN x) (hF : FeB F) (hR : TbB M R) (hM : 0 ≤ M) (a : Nat) {t f0 : Nat} (ht : 1 ≤ t) (htl : t < x.T.length) {n : Int} (h1 : -1000000000000 ≤ n) (h2 : n ≤ M + 10000000) : ∀ q, n ≤ asF x F R a t f0 q n ∧ asF x F R a t f0 q n ≤ M + 10000000
 | 0 => ⟨Int.le_refl n, h2⟩
 | q + 1 => by
  have ih := asF_bd hn hF hR hM a (t := t) (f0 := f0) ht htl h1 h2 q
  have h := asL_bd hn hF hR hM a ht (ALO x t (f0 + q)) (alo_bd hn ht htl _) (asF x F R a t f0 q n) (by omega) ih.2
  simp only [asF]
  omega
theorem asT_bd {x : To} {F : List Int} {R : List (List Int)} {M : Int} (hn : ToN x) (hF : FeB F) (hR : TbB M R) (hM : 0 ≤ M) (a d : Nat) {n : Int} (h1 : -1000000000000 ≤ n) (h2 : n ≤ M + 10000000) : ∀ t, t ≤ x.T.length → n ≤ asT x F R a d t n ∧ asT x F R a d t n ≤ M + 10000000
 | 0, _ => ⟨Int.le_refl n, h2⟩
 | t + 1, htl => by
  have ih := asT_bd hn hF hR hM a d h1 h2 t (by omega)
  simp only [asT]
  split
  · exact ih
  · rename_i hne
    have h := asF_bd hn hF hR hM a (t := t) (f0 := d + lsN x a t) (by omega) (by omega) (n := asT x F R a d t n) (by omega) ih.2 (x.days.toNat - (d + lsN x a t))
    omega
theorem asB_bd {x : To} (hn : ToN x) (a d : Nat) : -1000000000000 ≤ asB x a d ∧ asB x a d ≤ 0 := by
 have := hn.leg a 0
 unfold asB csO
 split
 · omega
 · split <;> omega
theorem asO_bd {x : To} {F : List Int} {R : List (List Int)} {M : Int} (hn : ToN x) (hF : FeB F) (hR : TbB M R) (hM : 0 ≤ M) (a d : Nat) : -1000000000000 ≤ asO x F R a d ∧ asO x F R a d ≤ M + 10000000 := by
 have h1 := asB_bd hn a d
 have h2 := asT_bd hn hF hR hM a d h1.1 (by omega) x.T.length (Nat.le_refl _)
 unfold asO
 split <;> omega
set_option maxHeartbeats 8000000 in
set_option maxRecDepth 100000 in
theorem asked_ok (x : Tr) (fo : Option Addr) (fc : Nat) (F : List Int) (bo : Option Addr) (bc : Nat) (R : List Iw) (M : Int) (a d : Nat) (w : World) (h : TrIn x w) (hn : ToN x.d) (hF : Rd 1 iF (.slice fo F.length fc) F w) (hFb : FeB F) (hFl : F.length = x.T.length)
 (hR : Rd 1 Iw.cs (.slice bo R.length bc) R w) (hRr : ∀ r ∈ R, Rd 1 iF (.slice r.o r.xs.length r.c) r.xs w) (hRl : R.length = x.T.length) (hRn : ∀ r ∈ R, r.xs.length = x.days.toNat + 1) (hRb : TbB M (R.map Iw.xs)) (hM : 0 ≤ M ∧ M ≤ 2000000000000) (ha : a < x.T.length) (hd : d ≤ x.days.toNat) :
 Calls Try.prog 66 #[x.v, .slice fo F.length fc, .slice bo R.length bc, iv a, iv d] w fun e w' => e = .returned (iv (asO x.d F (R.map Iw.xs) a d)) ∧ Below w.heap.size w w' := by
 have h72 := fun w' (hb : Below w.heap.size w w') => lost_ok x a 0 w' (h.below hb) hn ha (by have := hn.n; simp [Tr.d] at this; omega)
 have h72t := fun t ht w' (hb : Below w.heap.size w w') => lost_ok x a t w' (h.below hb) hn ha ht
 simp only [lsN_eq hn] at h72t
 have hls := hn.lost a
 have hlg := hn.leg a
 have hday := hn.d
 have hnT := hn.n
 have hlT := hn.l
 have hlr := hn.lr
 have hmS : (x.d.T.length) = x.T.length := List.length_map ..
 have hC : ∀ t r, R[t]? = some r → ∀ c z, r.xs[c]? = some z → tbO (R.map Iw.xs) t c = z := fun t r hr c z hz => by
  simp only [tbO, List.getElem?_map, hr, Option.map_some, Option.getD_some, hz]
 obtain ⟨days, shift, size, to, tc, T, lo, lc, L⟩ := x
 dsimp only [Tr.d] at hnT hlT hlr hday
 dsimp only at ha hd hFl hRl hRn
 simp only [List.length_map] at hnT hlT hlr
 obtain ⟨nd, rfl⟩ : ∃ nd : Nat, days = nd := ⟨days.toNat, by omega⟩
 rw [Int.toNat_natCast] at hd hRn
 obtain ⟨_, fa, rfl, _⟩ := hF.ptr (by omega)
 obtain ⟨_, ba, rfl, _⟩ := hR.ptr (by omega)
 have hrowL : ∃ ra rc row, L[a]? = some ⟨some ra, rc, row⟩ ∧ row.length = T.length ∧ lo ≠ none ∧ to ≠ none ∧ ∀ w', Below w.heap.size w w' → Rd 2 prF (.slice (some ra) T.length rc) row w' := by
  obtain ⟨⟨ro, rc, row⟩, hr⟩ : ∃ r, L[a]? = some r := ⟨_, List.getElem?_eq_getElem (by omega)⟩
  have hrl := (hlr row (List.mem_of_getElem? (i := a) (by rw [List.getElem?_map, hr]; rfl))).1
  have h1 := h.li _ (List.mem_of_getElem? hr)
  dsimp only at h1
  obtain ⟨_, ra, rfl, _⟩ := h1.ptr (show 1 ≤ row.length by omega)
  obtain ⟨_, la, rfl, _⟩ := h.l.ptr (show 1 ≤ L.length by omega)
  obtain ⟨_, ta, rfl, _⟩ := h.t.ptr (show 1 ≤ T.length by omega)
  refine ⟨ra, rc, row, hr, hrl, by simp, by simp, fun w' hb => ?_⟩
  have := (h.below hb).li _ (List.mem_of_getElem? hr)
  dsimp only at this
  rwa [hrl] at this
 obtain ⟨ra, rc, row, hrow, hrl, hlo, hto, hrd⟩ := hrowL
 obtain ⟨la, rfl⟩ := Option.ne_none_iff_exists'.1 hlo
 obtain ⟨ta, rfl⟩ := Option.ne_none_iff_exists'.1 hto
 have eL : ∀ w', Below w.heap.size w w' → ∀ j v, [Value.slice (some ra) T.length rc][j]? = some v → w'.cell? ((la.add ((a : Int).toNat * 1)).add j) = some v := fun w' hb => by
  have := rd_ati (h.below hb).l hrow
  rw [show Lr.cs (⟨some ra, rc, row⟩ : Lr) = [Value.slice (some ra) T.length rc] from by show [Value.slice _ row.length _] = _; rw [hrl]] at this
  exact this
 have ec : ∀ (t : Nat), t < T.length → ∃ c, row[t]? = some c ∧ lgO (Tr.d ⟨(nd : Int), shift, size, some ta, tc, T, some la, lc, L⟩) a t = c := fun t ht => by
  obtain ⟨c, hc⟩ : ∃ c, row[t]? = some c := ⟨_, List.getElem?_eq_getElem (by omega)⟩
  exact ⟨c, hc, by simp only [lgO, Tr.d, List.getElem?_map, hrow, Option.map_some, Option.getD_some, hc]⟩
 obtain ⟨⟨q1, q2⟩, hq, hq0⟩ := ec 0 (by omega)
 have hlq := hlg 0
 rw [hq0] at hlq
 have hcq : csO (Tr.d ⟨(nd : Int), shift, size, some ta, tc, T, some la, lc, L⟩) a 0 = q2 := by unfold csO; rw [hq0]
 have eq0 : ∀ w', Below w.heap.size w w' → ∀ j v, [iv q2][j]? = some v → w'.cell? (((ra.add ((0 : Int).toNat * 2)).add 1).add j) = some v := fun w' hb => rd_fldz (hrd w' hb) hq 0 rfl 1 (iv q2) rfl
 have hB : asB (Tr.d ⟨(nd : Int), shift, size, some ta, tc, T, some la, lc, L⟩) a d = if a = 0 ∧ d = 0 then 0 else if lsO (Tr.d ⟨(nd : Int), shift, size, some ta, tc, T, some la, lc, L⟩) a 0 + d ≤ nd then -q2 else -1000000000000 := by unfold asB; rw [hcq]
 have hBb := asB_bd hn a d
 have hO : asO (Tr.d ⟨(nd : Int), shift, size, some ta, tc, T, some la, lc, L⟩) F (R.map Iw.xs) a d = if (a = 0 ∧ d ≠ 0) ∨ (a ≠ 0 ∧ d = 0) then -1000000000000 else asT (Tr.d ⟨(nd : Int), shift, size, some ta, tc, T, some la, lc, L⟩) F (R.map Iw.xs) a d T.length (asB (Tr.d ⟨(nd : Int), shift, size, some ta, tc, T, some la, lc, L⟩) a d) := by unfold asO; rw [hmS]
 rw [hO]
 clear hO
 have hl0 := hls 0
 generalize hg0 : lsO (Tr.d ⟨(nd : Int), shift, size, some ta, tc, T, some la, lc, L⟩) a 0 = g0 at *
 refine calls_valV env mixed Try.func66 has66 Try.ntmps66 [.agg #[iv nd, iv shift, iv size, .slice (some ta) T.length tc, .slice (some la) L.length lc], .slice (some fa) F.length fc, .slice (some ba) R.length bc, iv a, iv d] (by simp) ?_
 refine VC.cutE env mixed 3 5 (fun _ : Unit => [(4, .v (iv d)), (5, .ptr 0 0), (6, .ptr 1 0), (7, .ptr 2 0), (8, .ptr 3 0), (11, .ptr 4 0)]) (fun _ => [(0, .cells [.v (iv nd), .v (iv shift), .v (iv size), .v (.slice (some ta) T.length tc), .v (.slice (some la) L.length lc)] 35), (1, .cells [.v (.slice (some fa) F.length fc)] 43), (2, .cells [.v (.slice (some ba) R.length bc)] 44), (3, .cells [.v (iv a)] 3), (4, .cells [.v (iv (asB (Tr.d ⟨(nd : Int), shift, size, some ta, tc, T, some la, lc, L⟩) a d))] 3)]) (fun _ => ¬ ((a = 0 ∧ d ≠ 0) ∨ (a ≠ 0 ∧ d = 0))) (fun _ _ => ⟨rfl, rfl⟩) ?_ ?_
 · by_cases hE : (a = 0 ∧ d ≠ 0) ∨ (a ≠ 0 ∧ d = 0)
   · rw [if_pos hE]
     repeat'
      conv => whnf
      first
       | refine zA ?_ | refine zB ?_ | refine zC ?_ | refine zD ?_ | refine zE ?_ | refine zF ?_ | refine zG ?_ | refine zH ?_ | refine zJ ?_ | refine zI ?_ | refine splT ?_ | refine splF ?_ | refine splNot ?_
       | ((first | refine splIn ?_ ?_ | refine splD ?_ ?_ | refine splE ?_ ?_ | refine splNE ?_ ?_) <;> intro hc <;> first | (exfalso; omega) | (exfalso; dsimp only at hc; omega) | skip)
     all_goals first | (exfalso; omega) | exact ⟨fun β => rfl, fun w' h => h⟩
   · rw [if_neg hE]
     by_cases ha0 : a = 0 ∧ d = 0
     · rw [if_pos ha0] at hB
       rw [hB]
       repeat'
        conv => whnf
        first
         | refine zA ?_ | refine zB ?_ | refine zC ?_ | refine zD ?_ | refine zE ?_ | refine zF ?_ | refine zG ?_ | refine zH ?_ | refine zJ ?_ | refine zI ?_ | refine splT ?_ | refine splF ?_ | refine splNot ?_
         | ((first | refine splIn ?_ ?_ | refine splD ?_ ?_ | refine splE ?_ ?_ | refine splNE ?_ ?_) <;> intro hc <;> first | (exfalso; omega) | (exfalso; dsimp only at hc; omega) | skip)
       all_goals first | (exfalso; omega) | exact ⟨rfl, (), hE, Ent.weak rfl ⟨rfl, rfl, rfl, rfl, rfl, rfl, trivial⟩ ⟨rfl, rfl, rfl, rfl, rfl, trivial⟩ fun _ h => h⟩
     · rw [if_neg ha0] at hB
       by_cases hle : g0 + d ≤ nd
       · rw [if_pos hle] at hB
         rw [hB]
         repeat'
          conv => whnf
          first
           | refine zA ?_ | refine zB ?_ | refine zC ?_ | refine zD ?_ | refine zE ?_ | refine zF ?_ | refine zG ?_ | refine zH ?_ | refine zJ ?_ | refine zI ?_ | refine splT ?_ | refine splF ?_ | refine splNot ?_
           | ((first | refine splIn ?_ ?_ | refine splD ?_ ?_ | refine splE ?_ ?_ | refine splNE ?_ ?_) <;> intro hc <;> first | (exfalso; omega) | (exfalso; dsimp only at hc; omega) | skip)
           | ((with_reducible show CallEv _ _ 72 _ _ _ _ _); refine callE (k := 72) (fun β w' hbw => h72 w' hbw) ?_)
           | refine Exists.intro (α := List Value) [.slice (some ra) T.length rc] ⟨⟨rfl, fun w' hw' => eL w' hw'⟩, ?_⟩
           | refine Exists.intro (α := List Value) [iv q2] ⟨⟨rfl, fun w' hw' => eq0 w' hw'⟩, ?_⟩
         all_goals first | (exfalso; omega) | exact ⟨rfl, (), hE, Ent.weak rfl ⟨rfl, rfl, rfl, rfl, rfl, rfl, trivial⟩ ⟨rfl, rfl, rfl, rfl, rfl, trivial⟩ fun _ h => h⟩
       · rw [if_neg hle] at hB
         rw [hB]
         repeat'
          conv => whnf
          first
           | refine zA ?_ | refine zB ?_ | refine zC ?_ | refine zD ?_ | refine zE ?_ | refine zF ?_ | refine zG ?_ | refine zH ?_ | refine zJ ?_ | refine zI ?_ | refine splT ?_ | refine splF ?_ | refine splNot ?_
           | ((first | refine splIn ?_ ?_ | refine splD ?_ ?_ | refine splE ?_ ?_ | refine splNE ?_ ?_) <;> intro hc <;> first | (exfalso; omega) | (exfalso; dsimp only at hc; omega) | skip)
           | ((with_reducible show CallEv _ _ 72 _ _ _ _ _); refine callE (k := 72) (fun β w' hbw => h72 w' hbw) ?_)
         all_goals first | (exfalso; omega) | exact ⟨rfl, (), hE, Ent.weak rfl ⟨rfl, rfl, rfl, rfl, rfl, rfl, trivial⟩ ⟨rfl, rfl, rfl, rfl, rfl, trivial⟩ fun _ h => h⟩
 · intro _ hE
   rw [if_neg hE]
   refine VC.of env mixed ?_
   have hgb := fun (t f l : Nat) (h1 : 1 ≤ t) (hl : f ≤ l ∧ l < f + 10) => gn_bd hn (a := t) (d := f) (l := l) h1 hl
   have hTi := fun w' (hb : Below w.heap.size w w') => (h.below hb).t
   have hTb := fun t ht => asT_bd hn hFb hRb hM.1 a d (n := asB (Tr.d ⟨(nd : Int), shift, size, some ta, tc, T, some la, lc, L⟩) a d) hBb.1 (by omega) t ht
   simp only [hmS] at hTb
   obtain ⟨B0, hB0⟩ : ∃ B0, asB (Tr.d ⟨(nd : Int), shift, size, some ta, tc, T, some la, lc, L⟩) a d = B0 := ⟨_, rfl⟩
   rw [hB0] at hTb ⊢
   repeat'
    conv => whnf
    first
     | refine zA ?_ | refine zB ?_ | refine zC ?_ | refine zD ?_ | refine zE ?_ | refine zF ?_ | refine zG ?_ | refine zH ?_ | refine zJ ?_ | refine zI ?_ | refine splT ?_ | refine splF ?_ | refine splNot ?_
     | ((first | refine splIn ?_ ?_ | refine splD ?_ ?_ | refine splE ?_ ?_ | refine splNE ?_ ?_) <;> intro hc <;> first | (exfalso; omega) | (exfalso; dsimp only at hc; omega) | skip)
   all_goals first | (exfalso; omega) | skip
   refine loopN 5 (fun t : Nat => [(4, .v (iv d)), (5, .ptr 0 0), (6, .ptr 1 0), (7, .ptr 2 0), (8, .ptr 3 0), (11, .ptr 4 0), (49, .v (iv T.length)), (50, .v (iv t))]) (fun t => [(0, .cells [.v (iv nd), .v (iv shift), .v (iv size), .v (.slice (some ta) T.length tc), .v (.slice (some la) L.length lc)] 35), (1, .cells [.v (.slice (some fa) F.length fc)] 43), (2, .cells [.v (.slice (some ba) R.length bc)] 44), (3, .cells [.v (iv a)] 3), (4, .cells [.v (iv (asT (Tr.d ⟨(nd : Int), shift, size, some ta, tc, T, some la, lc, L⟩) F (R.map Iw.xs) a d t B0))] 3)]) (fun t => t ≤ T.length) (fun t => T.length - t) 0 (Nat.zero_le _) ⟨rfl, rfl, rfl, rfl, rfl, rfl, rfl, rfl, trivial⟩ ⟨rfl, rfl, rfl, rfl, rfl, trivial⟩ (fun _ _ => ⟨rfl, rfl⟩) ?_
   intro t ht
   rcases Nat.lt_or_ge t T.length with htl | htl
   · have hs1 : asT (Tr.d ⟨(nd : Int), shift, size, some ta, tc, T, some la, lc, L⟩) F (R.map Iw.xs) a d (t + 1) B0 = if t = 0 ∨ t = a then asT (Tr.d ⟨(nd : Int), shift, size, some ta, tc, T, some la, lc, L⟩) F (R.map Iw.xs) a d t B0 else asF (Tr.d ⟨(nd : Int), shift, size, some ta, tc, T, some la, lc, L⟩) F (R.map Iw.xs) a t (d + lsN (Tr.d ⟨(nd : Int), shift, size, some ta, tc, T, some la, lc, L⟩) a t) (nd - (d + lsN (Tr.d ⟨(nd : Int), shift, size, some ta, tc, T, some la, lc, L⟩) a t)) (asT (Tr.d ⟨(nd : Int), shift, size, some ta, tc, T, some la, lc, L⟩) F (R.map Iw.xs) a d t B0) := rfl
     have hTt := hTb t (by omega)
     obtain ⟨N0, hN0⟩ : ∃ N0, asT (Tr.d ⟨(nd : Int), shift, size, some ta, tc, T, some la, lc, L⟩) F (R.map Iw.xs) a d t B0 = N0 := ⟨_, rfl⟩
     rw [hN0] at hs1 hTt ⊢
     by_cases htz : t = 0 ∨ t = a
     · rw [if_pos htz] at hs1
       repeat'
        conv => whnf
        first
         | refine zA ?_ | refine zB ?_ | refine zC ?_ | refine zD ?_ | refine zE ?_ | refine zF ?_ | refine zG ?_ | refine zH ?_ | refine zJ ?_ | refine zI ?_ | refine splT ?_ | refine splF ?_ | refine splNot ?_
         | ((first | refine splIn ?_ ?_ | refine splD ?_ ?_ | refine splE ?_ ?_ | refine splNE ?_ ?_) <;> intro hc <;> first | (exfalso; omega) | (exfalso; dsimp only at hc; omega) | skip)
       all_goals first | (exfalso; omega) | exact ⟨t + 1, by omega, by omega, Ent.weak rfl ⟨rfl, rfl, rfl, rfl, rfl, rfl, rfl, rfl, trivial⟩ (by rw [hs1]; exact ⟨rfl, rfl, rfl, rfl, rfl, trivial⟩) fun _ h => h⟩
     · rw [if_neg htz] at hs1
       obtain ⟨⟨p1, p2⟩, hpr, hpl⟩ := ec t (by omega)
       have hlp := hlg t
       rw [hpl] at hlp
       have hcp : csO (Tr.d ⟨(nd : Int), shift, size, some ta, tc, T, some la, lc, L⟩) a t = p2 := by unfold csO; rw [hpl]
       have ep : ∀ w', Below w.heap.size w w' → ∀ j v, [iv p2][j]? = some v → w'.cell? (((ra.add (((t : Nat) : Int).toNat * 2)).add 1).add j) = some v := fun w' hb => rd_fldz (hrd w' hb) hpr _ rfl 1 (iv p2) rfl
       obtain ⟨fe, hfe⟩ : ∃ fe, F[t]? = some fe := ⟨_, List.getElem?_eq_getElem (by omega)⟩
       have hfeb := hFb fe (List.mem_of_getElem? hfe)
       have ef := fun w' (hb : Below w.heap.size w w') => rd_ati (hF.below hb) hfe
       obtain ⟨⟨wo, wc, xs⟩, hwr⟩ : ∃ r, R[t]? = some r := ⟨_, List.getElem?_eq_getElem (by omega)⟩
       have hwm := List.mem_of_getElem? hwr
       have hwn := hRn _ hwm
       have hwR := hRr _ hwm
       dsimp only at hwn hwR
       obtain ⟨_, wa, rfl, _⟩ := hwR.ptr (show 1 ≤ xs.length by omega)
       have er := fun w' (hb : Below w.heap.size w w') => rd_ati (hR.below hb) hwr
       have hwz : ∀ c, c ≤ nd → ∃ z, xs[c]? = some z ∧ tbO (R.map Iw.xs) t c = z ∧ (-1000000000000 ≤ z ∧ z ≤ 2000000000000) := fun c hc => by
        obtain ⟨z, hz⟩ : ∃ z, xs[c]? = some z := ⟨_, List.getElem?_eq_getElem (by omega)⟩
        have hb := hRb xs (List.mem_map.2 ⟨_, hwm, rfl⟩) z (List.mem_of_getElem? hz)
        exact ⟨z, hz, hC t _ hwr c z hz, by omega⟩
       have hlsn := lsN_le hn a t
       have h72u := h72t t (by omega)
       obtain ⟨f0, hf0⟩ : ∃ f0, d + lsN (Tr.d ⟨(nd : Int), shift, size, some ta, tc, T, some la, lc, L⟩) a t = f0 := ⟨_, rfl⟩
       rw [hf0] at hs1
       obtain ⟨ln, hln⟩ : ∃ ln, lsN (Tr.d ⟨(nd : Int), shift, size, some ta, tc, T, some la, lc, L⟩) a t = ln := ⟨_, rfl⟩
       rw [hln] at h72u hlsn hf0
       have hmx : imax 0 (f0 : Int) = f0 := by rw [imax_eq]; omega
       obtain ⟨tn, htn⟩ : ∃ u, T[t]? = some u := ⟨_, List.getElem?_eq_getElem (by omega)⟩
       have htw : twO (Tr.d ⟨(nd : Int), shift, size, some ta, tc, T, some la, lc, L⟩) ((t : Nat) : Int) = tn.d := twO_eq (x := ⟨(nd : Int), shift, size, some ta, tc, T, some la, lc, L⟩) (k := ((t : Nat) : Int)) htn
       have htN := twN_of hn (a := t) (by omega) (by simp only [Tr.d, List.length_map]; omega)
       have hAL0 : ∀ f, ALO (Tr.d ⟨(nd : Int), shift, size, some ta, tc, T, some la, lc, L⟩) t f = ALp (Tr.d ⟨(nd : Int), shift, size, some ta, tc, T, some la, lc, L⟩) t f ((twO (Tr.d ⟨(nd : Int), shift, size, some ta, tc, T, some la, lc, L⟩) ((t : Nat) : Int)).s2 - (twO (Tr.d ⟨(nd : Int), shift, size, some ta, tc, T, some la, lc, L⟩) ((t : Nat) : Int)).s1 + 1).toNat := fun f => by unfold ALO; rw [if_neg (by omega)]
       have hALs : ∀ f j, ALp (Tr.d ⟨(nd : Int), shift, size, some ta, tc, T, some la, lc, L⟩) t f (j + 1) = if aloB (Tr.d ⟨(nd : Int), shift, size, some ta, tc, T, some la, lc, L⟩) ((t : Nat) : Int) f ((f : Int) + ((twO (Tr.d ⟨(nd : Int), shift, size, some ta, tc, T, some la, lc, L⟩) ((t : Nat) : Int)).s1 + j) - 1) = true then ALp (Tr.d ⟨(nd : Int), shift, size, some ta, tc, T, some la, lc, L⟩) t f j ++ [((f : Int) + ((twO (Tr.d ⟨(nd : Int), shift, size, some ta, tc, T, some la, lc, L⟩) ((t : Nat) : Int)).s1 + j) - 1).toNat] else ALp (Tr.d ⟨(nd : Int), shift, size, some ta, tc, T, some la, lc, L⟩) t f j := fun f j => rfl
       have hALb : ∀ f j, j ≤ ((twO (Tr.d ⟨(nd : Int), shift, size, some ta, tc, T, some la, lc, L⟩) ((t : Nat) : Int)).s2 - (twO (Tr.d ⟨(nd : Int), shift, size, some ta, tc, T, some la, lc, L⟩) ((t : Nat) : Int)).s1 + 1).toNat → ∀ l ∈ ALp (Tr.d ⟨(nd : Int), shift, size, some ta, tc, T, some la, lc, L⟩) t f j, f ≤ l ∧ l < f + 10 := fun f j hj => alp_bd hn (by omega) (by simp only [Tr.d, List.length_map]; omega) f j hj
       have hFbd := fun q => asF_bd hn hFb hRb hM.1 a (t := t) (f0 := f0) (n := N0) (by omega) (by simp only [Tr.d, List.length_map]; omega) (by omega) (by omega) q
       have hal := fun f l => alo_last hn (a := t) (d := f) (l := l) (by omega) (by simp only [Tr.d, List.length_map]; omega)
       rw [htw] at hAL0 hALs htN hALb
       obtain ⟨oo, oc, ro, rc', O, s1, s2, pay, lot, rent, RR, cold, cut⟩ := tn
       have hs := htN.s
       dsimp only at hs hAL0 hALs hALb
       have e3 := fun (w' : World) (hw' : Below w.heap.size w w') => rd_flds (hTi w' hw') htn ((t : Nat) : Int) rfl 1 [iv s1, iv s2] (fun j v hj => by
        match j, hj with
        | 0, hj => exact hj
        | 1, hj => exact hj)
       repeat'
        conv => whnf
        first
         | refine zA ?_ | refine zB ?_ | refine zC ?_ | refine zD ?_ | refine zE ?_ | refine zF ?_ | refine zG ?_ | refine zH ?_ | refine zJ ?_ | refine zI ?_ | refine splT ?_ | refine splF ?_ | refine splNot ?_
         | ((first | refine splIn ?_ ?_ | refine splD ?_ ?_ | refine splE ?_ ?_ | refine splNE ?_ ?_) <;> intro hc <;> first | (exfalso; omega) | (exfalso; dsimp only at hc; omega) | skip)
         | ((with_reducible show CallEv _ _ 72 _ _ _ _ _); refine callE (k := 72) (fun β w' hbw => h72u w' hbw) ?_)
         | ((with_reducible show CallEv _ _ 83 _ _ _ _ _); refine callR [6, 7, 8] [] (stB ⟨(nd : Int), shift, size, some ta, tc, T, some la, lc, L⟩ (t : Nat) f0 6) (.fn (.func 114) [.ptr 6 0, .ptr 7 0, .ptr 8 0]) rfl (fun i b hm => by simp only [stB, List.mem_cons, Prod.mk.injEq, List.not_mem_nil, or_false] at hm ⊢; omega) (fun β w' _ hbw => by (have := stops_R ⟨(nd : Int), shift, size, some ta, tc, T, some la, lc, L⟩ (t : Nat) f0 6 β w'); (rw [← hf0] at this ⊢); exact this) ?_)
       all_goals first | (exfalso; omega) | skip
       refine rf_inline env mixed 1000 [4, 5, 6, 7, 8, 11, 12, 49, 50] Try.func114 has114 Try.ntmps114 rfl rfl (by decide) rfl rfl ?_
       intro lp asg bdy hasg hbdy
       repeat'
        conv => whnf
        first
         | refine zA ?_ | refine zB ?_ | refine zC ?_ | refine zD ?_ | refine zE ?_ | refine zF ?_ | refine zG ?_ | refine zH ?_ | refine zJ ?_ | refine zI ?_ | refine splT ?_ | refine splF ?_ | refine splNot ?_
         | ((first | refine splIn ?_ ?_ | refine splD ?_ ?_ | refine splE ?_ ?_ | refine splNE ?_ ?_) <;> intro hc <;> first | (exfalso; omega) | (exfalso; dsimp only at hc; omega) | skip)
         | refine Exists.intro (α := List Value) [iv s1, iv s2] ⟨⟨rfl, fun w' hw' => e3 w' hw'⟩, ?_⟩
       all_goals first | (exfalso; omega) | skip
       obtain ⟨Q, hQ⟩ : ∃ Q, nd - f0 = Q := ⟨_, rfl⟩
       rw [hQ] at hs1
       refine loopN 10 (fun q : Nat => [(0, .v (.func (.yield lp) #[] #[])), (1, .ptr 6 0), (2, .ptr 7 0), (5, .ptr 9 0), (6, .v (iv ((f0 + q : Nat) : Int)))]) (fun q => [(0, .cells [.v (iv nd), .v (iv shift), .v (iv size), .v (.slice (some ta) T.length tc), .v (.slice (some la) L.length lc)] 35), (1, .cells [.v (.slice (some fa) F.length fc)] 43), (2, .cells [.v (.slice (some ba) R.length bc)] 44), (3, .cells [.v (iv a)] 3), (4, .cells [.v (iv (asF (Tr.d ⟨(nd : Int), shift, size, some ta, tc, T, some la, lc, L⟩) F (R.map Iw.xs) a t f0 q N0))] 3), (5, .cells [.v (iv t)] 3), (6, .cells [.v (iv nd), .v (iv shift), .v (iv size), .v (.slice (some ta) T.length tc), .v (.slice (some la) L.length lc)] 35), (7, .cells [.v (iv t)] 3), (8, .cells [.v (iv f0)] 3), (9, .cells [.v (iv s1), .v (iv s2)] 55)]) (fun q => q ≤ Q) (fun q => Q - q) 0 (Nat.zero_le _) ⟨rfl, rfl, rfl, rfl, (by (show some (SV.v (iv (imax 0 (f0 : Int)))) = some (SV.v (iv ((f0 + 0 : Nat) : Int)))); rw [hmx]; rfl), trivial⟩ ⟨rfl, rfl, rfl, rfl, rfl, rfl, rfl, rfl, rfl, rfl, trivial⟩ (fun _ _ => ⟨rfl, rfl⟩) ?_
       intro q hq'
       have hFq := hFbd q
       have hFs : asF (Tr.d ⟨(nd : Int), shift, size, some ta, tc, T, some la, lc, L⟩) F (R.map Iw.xs) a t f0 (q + 1) N0 = asL (Tr.d ⟨(nd : Int), shift, size, some ta, tc, T, some la, lc, L⟩) F (R.map Iw.xs) a t (f0 + q) (ALO (Tr.d ⟨(nd : Int), shift, size, some ta, tc, T, some la, lc, L⟩) t (f0 + q)) (asF (Tr.d ⟨(nd : Int), shift, size, some ta, tc, T, some la, lc, L⟩) F (R.map Iw.xs) a t f0 q N0) := rfl
       obtain ⟨N1, hN1⟩ : ∃ N1, asF (Tr.d ⟨(nd : Int), shift, size, some ta, tc, T, some la, lc, L⟩) F (R.map Iw.xs) a t f0 q N0 = N1 := ⟨_, rfl⟩
       rw [hN1] at hFq hFs ⊢
       rcases Nat.lt_or_ge q Q with hql | hql
       · obtain ⟨N, hN⟩ : ∃ N, (s2 - s1 + 1).toNat = N := ⟨_, rfl⟩
         have hAE := hAL0 (f0 + q)
         have hAs := hALs (f0 + q)
         have hAb := hALb (f0 + q)
         rw [hN] at hAE hAb
         repeat'
          conv => whnf
          first
           | refine zA ?_ | refine zB ?_ | refine zC ?_ | refine zD ?_ | refine zE ?_ | refine zF ?_ | refine zG ?_ | refine zH ?_ | refine zJ ?_ | refine zI ?_ | refine splT ?_ | refine splF ?_ | refine splNot ?_
           | ((first | refine splIn ?_ ?_ | refine splD ?_ ?_ | refine splE ?_ ?_ | refine splNE ?_ ?_) <;> intro hc <;> first | (exfalso; omega) | (exfalso; dsimp only at hc; omega) | skip)
         all_goals first | (exfalso; omega) | skip
         refine loopN 10 (fun j : Nat => [(0, .v (.func (.yield lp) #[] #[])), (1, .ptr 6 0), (2, .ptr 7 0), (5, .ptr 9 0), (6, .v (iv ((f0 + q : Nat) : Int))), (7, .v (iv (s1 + (j : Nat))))]) (fun j => [(0, .cells [.v (iv nd), .v (iv shift), .v (iv size), .v (.slice (some ta) T.length tc), .v (.slice (some la) L.length lc)] 35), (1, .cells [.v (.slice (some fa) F.length fc)] 43), (2, .cells [.v (.slice (some ba) R.length bc)] 44), (3, .cells [.v (iv a)] 3), (4, .cells [.v (iv (asL (Tr.d ⟨(nd : Int), shift, size, some ta, tc, T, some la, lc, L⟩) F (R.map Iw.xs) a t (f0 + q) (ALp (Tr.d ⟨(nd : Int), shift, size, some ta, tc, T, some la, lc, L⟩) t (f0 + q) j) N1))] 3), (5, .cells [.v (iv t)] 3), (6, .cells [.v (iv nd), .v (iv shift), .v (iv size), .v (.slice (some ta) T.length tc), .v (.slice (some la) L.length lc)] 35), (7, .cells [.v (iv t)] 3), (8, .cells [.v (iv f0)] 3), (9, .cells [.v (iv s1), .v (iv s2)] 55)]) (fun j => j ≤ N) (fun j => N - j) 0 (Nat.zero_le _) ⟨rfl, rfl, rfl, rfl, rfl, by rw [Int.natCast_zero, Int.add_zero]; rfl, trivial⟩ ⟨rfl, rfl, rfl, rfl, rfl, rfl, rfl, rfl, rfl, rfl, trivial⟩ (fun _ _ => ⟨rfl, rfl⟩) ?_
         intro j hj
         have hLb := asL_bd hn hFb hRb hM.1 a (t := t) (f := f0 + q) (by omega) (ALp (Tr.d ⟨(nd : Int), shift, size, some ta, tc, T, some la, lc, L⟩) t (f0 + q) j) (hAb j hj) N1 (by omega) (by omega)
         have hsn := fun l => asL_snoc (Tr.d ⟨(nd : Int), shift, size, some ta, tc, T, some la, lc, L⟩) F (R.map Iw.xs) a t (f0 + q) l (ALp (Tr.d ⟨(nd : Int), shift, size, some ta, tc, T, some la, lc, L⟩) t (f0 + q) j) N1
         obtain ⟨NN, hNN⟩ : ∃ NN, asL (Tr.d ⟨(nd : Int), shift, size, some ta, tc, T, some la, lc, L⟩) F (R.map Iw.xs) a t (f0 + q) (ALp (Tr.d ⟨(nd : Int), shift, size, some ta, tc, T, some la, lc, L⟩) t (f0 + q) j) N1 = NN := ⟨_, rfl⟩
         rw [hNN] at hLb hsn
         rcases Nat.lt_or_ge j N with hjN | hjN
         · rw [hNN]
           have hCn := hAs j
           have hsj : s1 + ((j + 1 : Nat) : Int) = s1 + (j : Int) + 1 := by omega
           obtain ⟨lN, hlN⟩ : ∃ lN : Nat, ((f0 + q : Nat) : Int) + (s1 + (j : Int)) - 1 = lN := ⟨(((f0 + q : Nat) : Int) + (s1 + (j : Int)) - 1).toNat, by omega⟩
           have h115 := fun w' (hb : Below w.heap.size w w') => alone_ok ⟨(nd : Int), shift, size, some ta, tc, T, some la, lc, L⟩ ((t : Nat) : Int) ((f0 + q : Nat) : Int) (((f0 + q : Nat) : Int) + (s1 + (j : Int)) - 1) w' (h.below hb) hn ⟨by omega, by omega⟩
           have hba : decide (fltO (Tr.d ⟨(nd : Int), shift, size, some ta, tc, T, some la, lc, L⟩) [(((t : Nat) : Int), ((f0 + q : Nat) : Int), ((f0 + q : Nat) : Int) + (s1 + (j : Int)) - 1)] 0 ((t : Nat) : Int) ((f0 + q : Nat) : Int) (((f0 + q : Nat) : Int) + (s1 + (j : Int)) - 1) 4 = 0) = aloB (Tr.d ⟨(nd : Int), shift, size, some ta, tc, T, some la, lc, L⟩) ((t : Nat) : Int) ((f0 + q : Nat) : Int) (((f0 + q : Nat) : Int) + (s1 + (j : Int)) - 1) := rfl
           have halj := hal ((f0 + q : Nat) : Int) (((f0 + q : Nat) : Int) + (s1 + (j : Int)) - 1)
           obtain ⟨b, hb⟩ : ∃ b, aloB (Tr.d ⟨(nd : Int), shift, size, some ta, tc, T, some la, lc, L⟩) ((t : Nat) : Int) ((f0 + q : Nat) : Int) (((f0 + q : Nat) : Int) + (s1 + (j : Int)) - 1) = b := ⟨_, rfl⟩
           rw [hb] at hCn hba halj
           simp only [hba] at h115
           cases b with
           | false =>
            rw [if_neg (by decide)] at hCn
            repeat'
             conv => whnf
             first
              | refine zA ?_ | refine zB ?_ | refine zC ?_ | refine zD ?_ | refine zE ?_ | refine zF ?_ | refine zG ?_ | refine zH ?_ | refine zJ ?_ | refine zI ?_ | refine splT ?_ | refine splF ?_ | refine splNot ?_
              | ((first | refine splIn ?_ ?_ | refine splD ?_ ?_ | refine splE ?_ ?_ | refine splNE ?_ ?_) <;> intro hc <;> first | (exfalso; omega) | (exfalso; dsimp only at hc; omega) | skip)
              | ((with_reducible show CallEv _ _ 115 _ _ _ _ _); refine callE (k := 115) (fun β w' hbw => h115 w' hbw) ?_)
            all_goals first | (exfalso; omega) | exact ⟨j + 1, by omega, by omega, Ent.weak rfl ⟨rfl, rfl, rfl, rfl, rfl, by rw [hsj]; rfl, trivial⟩ (by rw [hCn, hNN]; exact ⟨rfl, rfl, rfl, rfl, rfl, rfl, rfl, rfl, rfl, rfl, trivial⟩) fun _ h => h⟩
           | true =>
            have hlast := halj rfl
            dsimp only [Tr.d] at hlast
            have hlt0 : (((f0 + q : Nat) : Int) + (s1 + (j : Int)) - 1).toNat = lN := by omega
            rw [if_pos rfl, hlt0] at hCn
            obtain ⟨tv, htv, hCv, htvb⟩ := hwz (lN + 1) (by omega)
            have ev := fun w' (hb : Below w.heap.size w w') => rd_atz (hwR.below hb) htv (((f0 + q : Nat) : Int) + (s1 + (j : Int)) - 1 + 1) (by omega)
            obtain ⟨G, hG⟩ : ∃ G, gnO (Tr.d ⟨(nd : Int), shift, size, some ta, tc, T, some la, lc, L⟩) t ((f0 + q : Nat) : Int) (lN : Int) = G := ⟨_, rfl⟩
            have hGb := hgb t (f0 + q) lN (by omega) ⟨by omega, by omega⟩
            have h101 := fun w' (hb : Below w.heap.size w w') => gain_ok ⟨(nd : Int), shift, size, some ta, tc, T, some la, lc, L⟩ t ((f0 + q : Nat) : Int) (((f0 + q : Nat) : Int) + (s1 + (j : Int)) - 1) w' (h.below hb) hn (by omega) (show t < T.length by omega) ⟨by omega, by omega, by omega, by omega⟩
            have hg : asG (Tr.d ⟨(nd : Int), shift, size, some ta, tc, T, some la, lc, L⟩) F (R.map Iw.xs) a t (f0 + q) lN = G - p2 - fe + tv := by unfold asG; rw [hG, hcp, hfe, hCv]; rfl
            rw [hG] at hGb
            rw [hlN, hG, ← hlN] at h101
            have hsl := hsn lN
            rw [hg] at hsl
            repeat'
             conv => whnf
             first
              | refine zA ?_ | refine zB ?_ | refine zC ?_ | refine zD ?_ | refine zE ?_ | refine zF ?_ | refine zG ?_ | refine zH ?_ | refine zJ ?_ | refine zI ?_ | refine splT ?_ | refine splF ?_ | refine splNot ?_
              | ((first | refine splIn ?_ ?_ | refine splD ?_ ?_ | refine splE ?_ ?_ | refine splNE ?_ ?_) <;> intro hc <;> first | (exfalso; omega) | (exfalso; dsimp only at hc; omega) | skip)
              | ((with_reducible show CallEv _ _ 115 _ _ _ _ _); refine callE (k := 115) (fun β w' hbw => h115 w' hbw) ?_)
              | refine And.intro (a := (_ : List _) = [] ∧ (_ : List _) = []) ⟨rfl, rfl⟩ ?_
              | refine yield_inline env mixed 0 2000 [4, 5, 6, 7, 8, 11, 12, 49, 50] [0, 1, 2, 5, 6, 7, 41] rfl rfl rfl rfl rfl rfl rfl ?_
              | refine vc_eq env hasg ?_
              | refine vc_eq env hbdy ?_
              | refine nilE rfl rfl ?_
              | ((with_reducible show CallEv _ _ 101 _ _ _ _ _); refine callE (k := 101) (fun β w' hbw => h101 w' hbw) ?_)
              | refine Exists.intro (α := List Value) [.slice (some ra) T.length rc] ⟨⟨rfl, fun w' hw' => eL w' hw'⟩, ?_⟩
              | refine Exists.intro (α := List Value) [iv p2] ⟨⟨rfl, fun w' hw' => ep w' hw'⟩, ?_⟩
              | refine Exists.intro (α := List Value) [iv fe] ⟨⟨rfl, fun w' hw' => ef w' hw'⟩, ?_⟩
              | refine Exists.intro (α := List Value) [.slice (some wa) xs.length wc] ⟨⟨rfl, fun w' hw' => er w' hw'⟩, ?_⟩
              | refine Exists.intro (α := List Value) [iv tv] ⟨⟨rfl, fun w' hw' => ev w' hw'⟩, ?_⟩
              | ((with_reducible show CallEv _ _ 98 _ _ _ _ _); refine callM [12] (fun β w' hbk hbw => max2_ok NN (G - p2 - fe + tv) (β 12) 2 w' (rd2 (hbk 12 (by simp) _ rfl))) ?_)
            all_goals first | (exfalso; omega) | exact ⟨j + 1, by omega, by omega, Ent.ren (rho []) rfl rfl ⟨rfl, rfl, rfl, rfl, rfl, by rw [hsj]; rfl, trivial⟩ (by rw [hCn, hsl]; exact ⟨rfl, rfl, rfl, rfl, rfl, rfl, rfl, rfl, rfl, rfl, trivial⟩) fun _ h => h⟩
         · obtain rfl : j = N := by omega
           rw [← hAE, ← hFs]
           repeat'
            conv => whnf
            first
             | refine zA ?_ | refine zB ?_ | refine zC ?_ | refine zD ?_ | refine zE ?_ | refine zF ?_ | refine zG ?_ | refine zH ?_ | refine zJ ?_ | refine zI ?_ | refine splT ?_ | refine splF ?_ | refine splNot ?_
             | ((first | refine splIn ?_ ?_ | refine splD ?_ ?_ | refine splE ?_ ?_ | refine splNE ?_ ?_) <;> intro hc <;> first | (exfalso; omega) | (exfalso; dsimp only at hc; omega) | skip)
           all_goals first | (exfalso; omega) | exact ⟨q + 1, by omega, by omega, Ent.weak rfl ⟨rfl, rfl, rfl, rfl, rfl, trivial⟩ ⟨rfl, rfl, rfl, rfl, rfl, rfl, rfl, rfl, rfl, rfl, trivial⟩ fun _ h => h⟩
       · obtain rfl : q = Q := by omega
         rw [← hN1, ← hs1]
         repeat'
          conv => whnf
          first
           | refine zA ?_ | refine zB ?_ | refine zC ?_ | refine zD ?_ | refine zE ?_ | refine zF ?_ | refine zG ?_ | refine zH ?_ | refine zJ ?_ | refine zI ?_ | refine splT ?_ | refine splF ?_ | refine splNot ?_
           | ((first | refine splIn ?_ ?_ | refine splD ?_ ?_ | refine splE ?_ ?_ | refine splNE ?_ ?_) <;> intro hc <;> first | (exfalso; omega) | (exfalso; dsimp only at hc; omega) | skip)
         all_goals first | (exfalso; omega) | exact ⟨t + 1, by omega, by omega, Ent.ren (rho []) rfl rfl ⟨rfl, rfl, rfl, rfl, rfl, rfl, rfl, rfl, trivial⟩ ⟨rfl, rfl, rfl, rfl, rfl, trivial⟩ fun _ h => h⟩
   · obtain rfl : t = T.length := by omega
     repeat'
      conv => whnf
      first
       | refine zA ?_ | refine zB ?_ | refine zC ?_ | refine zD ?_ | refine zE ?_ | refine zF ?_ | refine zG ?_ | refine zH ?_ | refine zJ ?_ | refine zI ?_ | refine splT ?_ | refine splF ?_ | refine splNot ?_
       | ((first | refine splIn ?_ ?_ | refine splD ?_ ?_ | refine splE ?_ ?_ | refine splNE ?_ ?_) <;> intro hc <;> first | (exfalso; omega) | (exfalso; dsimp only at hc; omega) | skip)
     all_goals first | (exfalso; omega) | exact ⟨fun β => rfl, fun w' h => h⟩
end Go.Proofs.Ythfabodamhdhaaa
