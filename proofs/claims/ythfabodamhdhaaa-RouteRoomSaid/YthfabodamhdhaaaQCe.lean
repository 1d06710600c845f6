/- Part 5 of the proof: texts merged. -/
import Derived.Test.YthfabodamhdhaaaQCd
import Derived.Laws.OwnMore
namespace Go.Proofs.Ythfabodamhdhaaa
open Go Tx Go.RowKit
set_option linter.unusedSimpArgs false
set_option linter.unusedVariables false
def tbO (R : List (List Int)) (t c : Nat) : Int := (((R[t]?).getD [])[c]?).getD 0
def asG (x : To) (F : List Int) (R : List (List Int)) (a t f l : Nat) : Int := gnO x t f l - csO x a t - (F[t]?).getD 0 + tbO R t (l + 1)
def asL (x : To) (F : List Int) (R : List (List Int)) (a t f : Nat) : List Nat → Int → Int
 | [], n => n
 | l :: L, n => asL x F R a t f L (imax n (asG x F R a t f l))
def asF (x : To) (F : List Int) (R : List (List Int)) (a t f0 : Nat) : Nat → Int → Int
 | 0, n => n
 | q + 1, n => asL x F R a t (f0 + q) (ALO x t (f0 + q)) (asF x F R a t f0 q n)
def asT (x : To) (F : List Int) (R : List (List Int)) (a d : Nat) : Nat → Int → Int
 | 0, n => n
 | t + 1, n => if t = 0 ∨ t = a then asT x F R a d t n else asF x F R a t (d + lsN x a t) (x.days.toNat - (d + lsN x a t)) (asT x F R a d t n)
def asB (x : To) (a d : Nat) : Int := if a = 0 ∧ d = 0 then 0 else if lsO x a 0 + d ≤ x.days then -csO x a 0 else -1000000000000
def asO (x : To) (F : List Int) (R : List (List Int)) (a d : Nat) : Int := if (a = 0 ∧ d ≠ 0) ∨ (a ≠ 0 ∧ d = 0) then -1000000000000 else asT x F R a d x.T.length (asB x a d)
theorem asL_snoc (x : To) (F : List Int) (R : List (List Int)) (a t f l : Nat) : ∀ (L : List Nat) (n : Int), asL x F R a t f (L ++ [l]) n = imax (asL x F R a t f L n) (asG x F R a t f l)
 | [], _ => rfl
 | _ :: L, _ => asL_snoc x F R a t f l L _
def TbB (M : Int) (R : List (List Int)) : Prop := ∀ r ∈ R, ∀ n ∈ r, -1000000000000 ≤ n ∧ n ≤ M
theorem TbB.at {M : Int} {R : List (List Int)} (h : TbB M R) (hM : 0 ≤ M) (t c : Nat) : -1000000000000 ≤ tbO R t c ∧ tbO R t c ≤ M := by
 unfold tbO
 cases hr : R[t]? with
 | none => simp; exact hM
 | some r =>
  simp only [Option.getD_some]
  cases hn : r[c]? with
  | none => simp; exact hM
  | some n => exact h r (List.mem_of_getElem? hr) n (List.mem_of_getElem? hn)
def FeB (F : List Int) : Prop := ∀ f ∈ F, 0 ≤ f ∧ f ≤ 1000000000
theorem FeB.at {F : List Int} (h : FeB F) (t : Nat) : 0 ≤ (F[t]?).getD 0 ∧ (F[t]?).getD 0 ≤ 1000000000 := by
 cases hr : F[t]? with
 | none => simp
 | some r => exact h r (List.mem_of_getElem? hr)
theorem asG_bd {x : To} {F : List Int} {R : List (List Int)} {M : Int} (hn : ToN x) (hF : FeB F) (hR : TbB M R) (hM : 0 ≤ M) (a : Nat) {t f l : Nat} (ht : 1 ≤ t) (hl : f ≤ l ∧ l < f + 10) : -1100000000000 ≤ asG x F R a t f l ∧ asG x F R a t f l ≤ M + 10000000 := by
 have h1 := gn_bd hn (a := t) (d := f) (l := l) ht hl
 have h2 := hn.leg a t
 have h3 := hF.at t
 have h4 := hR.at hM t (l + 1)
 unfold asG csO
 omega
theorem asL_bd {x : To} {F : List Int} {R : List (List Int)} {M : Int} (hn : ToN x) (hF : FeB F) (hR : TbB M R) (hM : 0 ≤ M) (a : Nat) {t f : Nat} (ht : 1 ≤ t) : ∀ (L : List Nat), (∀ l ∈ L, f ≤ l ∧ l < f + 10) → ∀ n : Int, -1000000000000 ≤ n → n ≤ M + 10000000 → n ≤ asL x F R a t f L n ∧ asL x F R a t f L n ≤ M + 10000000
 | [], _, n, _, h2 => ⟨Int.le_refl n, h2⟩
 | l :: L, hl, n, h1, h2 => by
  have hg := asG_bd hn hF hR hM a (t := t) (f := f) (l := l) ht (hl l (List.mem_cons_self ..))
  have e := imax_eq n (asG x F R a t f l)
  have ih := asL_bd hn hF hR hM a ht L (fun l h => hl l (List.mem_cons_of_mem _ h)) (imax n (asG x F R a t f l)) (by omega) (by omega)
  show n ≤ asL x F R a t f L _ ∧ _
  simp only [asL]
  omega
theorem alp_bd {x : To} (hn : ToN x) {t : Nat} (ht : 1 ≤ t) (htl : t < x.T.length) (f N : Nat) (hN : N ≤ ((twO x t).s2 - (twO x t).s1 + 1).toNat) : ∀ l ∈ ALp x t f N, f ≤ l ∧ l < f + 10 := fun l hl => by
 obtain ⟨i, h1, h2, h3⟩ := ALp_mem x t f N l hl
 have hs := (twN_of hn ht htl).s
 omega
theorem alo_bd {x : To} (hn : ToN x) {t : Nat} (ht : 1 ≤ t) (htl : t < x.T.length) (f : Nat) : ∀ l ∈ ALO x t f, f ≤ l ∧ l < f + 10 := fun l hl => by
 unfold ALO at hl
 rw [if_neg (by omega)] at hl
 exact alp_bd hn ht htl f _ (Nat.le_refl _) l hl
theorem asF_bd {x : To} {F : List Int} {R : List (List Int)} {M : Int} (hn : ToN x) (hF : FeB F) (hR : TbB M R) (hM : 0 ≤ M) (a : Nat) {t f0 : Nat} (ht : 1 ≤ t) (htl : t < x.T.length) {n : Int} (h1 : -1000000000000 ≤ n) (h2 : n ≤ M + 10000000) : ∀ q, n ≤ asF x F R a t f0 q n ∧ asF x F R a t f0 q n ≤ M + 10000000
 | 0 => ⟨Int.le_refl n, h2⟩
 | q + 1 => by
  have ih := asF_bd hn hF hR hM a (t := t) (f0 := f0) ht htl h1 h2 q
  have h := asL_bd hn hF hR hM a ht (ALO x t (f0 + q)) (alo_bd hn ht htl _) (asF x F R a t f0 q n) (by omega) ih.2
  simp only [asF]
  omega
theorem asT_bd {x : To} {F : List Int} {R : List (List Int)} {M : Int} (hn : ToN x) (hF : FeB F) (hR : TbB M R) (hM : 0 ≤ M) (a d : Nat) {n : Int} (h1 : -1000000000000 ≤ n) (h2 : n ≤ M + 10000000) : ∀ t, t ≤ x.T.length → n ≤ asT x F R a d t n ∧ asT x F R a d t n ≤ M + 10000000
 | 0, _ => ⟨Int.le_refl n, h2⟩
 | t + 1, htl => by
  have ih := asT_bd hn hF hR hM a d h1 h2 t (by omega)
  simp only [asT]
  split
  · exact ih
  · rename_i hne
    have h := asF_bd hn hF hR hM a (t := t) (f0 := d + lsN x a t) (by omega) (by omega) (n := asT x F R a d t n) (by omega) ih.2 (x.days.toNat - (d + lsN x a t))
    omega
theorem asB_bd {x : To} (hn : ToN x) (a d : Nat) : -1000000000000 ≤ asB x a d ∧ asB x a d ≤ 0 := by
 have := hn.leg a 0
 unfold asB csO
 split
 · omega
 · split <;> omega
theorem asO_bd {x : To} {F : List Int} {R : List (List Int)} {M : Int} (hn : ToN x) (hF : FeB F) (hR : TbB M R) (hM : 0 ≤ M) (a d : Nat) : -1000000000000 ≤ asO x F R a d ∧ asO x F R a d ≤ M + 10000000 := by
 have h1 := asB_bd hn a d
 have h2 := asT_bd hn hF hR hM a d h1.1 (by omega) x.T.length (Nat.le_refl _)
 unfold asO
 split <;> omega
set_option maxHeartbeats 8000000 in
set_option maxRecDepth 100000 in
theorem asked_ok (x : Tr) (fo : Option Addr) (fc : Nat) (F : List Int) (bo : Option Addr) (bc : Nat) (R : List Iw) (M : Int) (a d : Nat) (w : World) (h : TrIn x w) (hn : ToN x.d) (hF : Rd 1 iF (.slice fo F.length fc) F w) (hFb : FeB F) (hFl : F.length = x.T.length)
 (hR : Rd 1 Iw.cs (.slice bo R.length bc) R w) (hRr : ∀ r ∈ R, Rd 1 iF (.slice r.o r.xs.length r.c) r.xs w) (hRl : R.length = x.T.length) (hRn : ∀ r ∈ R, r.xs.length = x.days.toNat + 1) (hRb : TbB M (R.map Iw.xs)) (hM : 0 ≤ M ∧ M ≤ 2000000000000) (ha : a < x.T.length) (hd : d ≤ x.days.toNat) :
 Calls Try.prog 66 #[x.v, .slice fo F.length fc, .slice bo R.length bc, iv a, iv d] w fun e w' => e = .returned (iv (asO x.d F (R.map Iw.xs) a d)) ∧ Below w.heap.size w w' := by
 have h72 := fun w' (hb : Below w.heap.size w w') => lost_ok x a 0 w' (h.below hb) hn ha (by have := hn.n; simp [Tr.d] at this; omega)
 have h72t := fun t ht w' (hb : Below w.heap.size w w') => lost_ok x a t w' (h.below hb) hn ha ht
 simp only [lsN_eq hn] at h72t
 have hls := hn.lost a
 have hlg := hn.leg a
 have hday := hn.d
 have hnT := hn.n
 have hlT := hn.l
 have hlr := hn.lr
 have hmS : (x.d.T.length) = x.T.length := List.length_map ..
 have hC : ∀ t r, R[t]? = some r → ∀ c z, r.xs[c]? = some z → tbO (R.map Iw.xs) t c = z := fun t r hr c z hz => by
  simp only [tbO, List.getElem?_map, hr, Option.map_some, Option.getD_some, hz]
 obtain ⟨days, shift, size, to, tc, T, lo, lc, L⟩ := x
 dsimp only [Tr.d] at hnT hlT hlr hday
 dsimp only at ha hd hFl hRl hRn
 simp only [List.length_map] at hnT hlT hlr
 obtain ⟨nd, rfl⟩ : ∃ nd : Nat, days = nd := ⟨days.toNat, by omega⟩
 rw [Int.toNat_natCast] at hd hRn
 obtain ⟨_, fa, rfl, _⟩ := hF.ptr (by omega)
 obtain ⟨_, ba, rfl, _⟩ := hR.ptr (by omega)
 have hrowL : ∃ ra rc row, L[a]? = some ⟨some ra, rc, row⟩ ∧ row.length = T.length ∧ lo ≠ none ∧ to ≠ none ∧ ∀ w', Below w.heap.size w w' → Rd 2 prF (.slice (some ra) T.length rc) row w' := by
  obtain ⟨⟨ro, rc, row⟩, hr⟩ : ∃ r, L[a]? = some r := ⟨_, List.getElem?_eq_getElem (by omega)⟩
  have hrl := (hlr row (List.mem_of_getElem? (i := a) (by rw [List.getElem?_map, hr]; rfl))).1
  have h1 := h.li _ (List.mem_of_getElem? hr)
  dsimp only at h1
  obtain ⟨_, ra, rfl, _⟩ := h1.ptr (show 1 ≤ row.length by omega)
  obtain ⟨_, la, rfl, _⟩ := h.l.ptr (show 1 ≤ L.length by omega)
  obtain ⟨_, ta, rfl, _⟩ := h.t.ptr (show 1 ≤ T.length by omega)
  refine ⟨ra, rc, row, hr, hrl, by simp, by simp, fun w' hb => ?_⟩
  have := (h.below hb).li _ (List.mem_of_getElem? hr)
  dsimp only at this
  rwa [hrl] at this
 obtain ⟨ra, rc, row, hrow, hrl, hlo, hto, hrd⟩ := hrowL
 obtain ⟨la, rfl⟩ := Option.ne_none_iff_exists'.1 hlo
 obtain ⟨ta, rfl⟩ := Option.ne_none_iff_exists'.1 hto
 have eL : ∀ w', Below w.heap.size w w' → ∀ j v, [Value.slice (some ra) T.length rc][j]? = some v → w'.cell? ((la.add ((a : Int).toNat * 1)).add j) = some v := fun w' hb => by
  have := rd_ati (h.below hb).l hrow
  rw [show Lr.cs (⟨some ra, rc, row⟩ : Lr) = [Value.slice (some ra) T.length rc] from by show [Value.slice _ row.length _] = _; rw [hrl]] at this
  exact this
 have ec : ∀ (t : Nat), t < T.length → ∃ c, row[t]? = some c ∧ lgO (Tr.d ⟨(nd : Int), shift, size, some ta, tc, T, some la, lc, L⟩) a t = c := fun t ht => by
  obtain ⟨c, hc⟩ : ∃ c, row[t]? = some c := ⟨_, List.getElem?_eq_getElem (by omega)⟩
  exact ⟨c, hc, by simp only [lgO, Tr.d, List.getElem?_map, hrow, Option.map_some, Option.getD_some, hc]⟩
 obtain ⟨⟨q1, q2⟩, hq, hq0⟩ := ec 0 (by omega)
 have hlq := hlg 0
 rw [hq0] at hlq
 have hcq : csO (Tr.d ⟨(nd : Int), shift, size, some ta, tc, T, some la, lc, L⟩) a 0 = q2 := by unfold csO; rw [hq0]
 have eq0 : ∀ w', Below w.heap.size w w' → ∀ j v, [iv q2][j]? = some v → w'.cell? (((ra.add ((0 : Int).toNat * 2)).add 1).add j) = some v := fun w' hb => rd_fldz (hrd w' hb) hq 0 rfl 1 (iv q2) rfl
 have hB : asB (Tr.d ⟨(nd : Int), shift, size, some ta, tc, T, some la, lc, L⟩) a d = if a = 0 ∧ d = 0 then 0 else if lsO (Tr.d ⟨(nd : Int), shift, size, some ta, tc, T, some la, lc, L⟩) a 0 + d ≤ nd then -q2 else -1000000000000 := by unfold asB; rw [hcq]
 have hBb := asB_bd hn a d
 have hO : asO (Tr.d ⟨(nd : Int), shift, size, some ta, tc, T, some la, lc, L⟩) F (R.map Iw.xs) a d = if (a = 0 ∧ d ≠ 0) ∨ (a ≠ 0 ∧ d = 0) then -1000000000000 else asT (Tr.d ⟨(nd : Int), shift, size, some ta, tc, T, some la, lc, L⟩) F (R.map Iw.xs) a d T.length (asB (Tr.d ⟨(nd : Int), shift, size, some ta, tc, T, some la, lc, L⟩) a d) := by unfold asO; rw [hmS]
 rw [hO]
 clear hO
 have hl0 := hls 0
 generalize hg0 : lsO (Tr.d ⟨(nd : Int), shift, size, some ta, tc, T, some la, lc, L⟩) a 0 = g0 at *
 refine calls_valV env mixed Try.func66 has66 Try.ntmps66 [.agg #[iv nd, iv shift, iv size, .slice (some ta) T.length tc, .slice (some la) L.length lc], .slice (some fa) F.length fc, .slice (some ba) R.length bc, iv a, iv d] (by simp) ?_
 refine VC.cutE env mixed 3 5 (fun _ : Unit => [(4, .v (iv d)), (5, .ptr 0 0), (6, .ptr 1 0), (7, .ptr 2 0), (8, .ptr 3 0), (11, .ptr 4 0)]) (fun _ => [(0, .cells [.v (iv nd), .v (iv shift), .v (iv size), .v (.slice (some ta) T.length tc), .v (.slice (some la) L.length lc)] 35), (1, .cells [.v (.slice (some fa) F.length fc)] 43), (2, .cells [.v (.slice (some ba) R.length bc)] 44), (3, .cells [.v (iv a)] 3), (4, .cells [.v (iv (asB (Tr.d ⟨(nd : Int), shift, size, some ta, tc, T, some la, lc, L⟩) a d))] 3)]) (fun _ => ¬ ((a = 0 ∧ d ≠ 0) ∨ (a ≠ 0 ∧ d = 0))) (fun _ _ => ⟨rfl, rfl⟩) ?_ ?_
 · by_cases hE : (a = 0 ∧ d ≠ 0) ∨ (a ≠ 0 ∧ d = 0)
   · rw [if_pos hE]
     repeat'
      conv => whnf
      first
       | refine zA ?_ | refine zB ?_ | refine zC ?_ | refine zD ?_ | refine zE ?_ | refine zF ?_ | refine zG ?_ | refine zH ?_ | refine zJ ?_ | refine zI ?_ | refine splT ?_ | refine splF ?_ | refine splNot ?_
       | ((first | refine splIn ?_ ?_ | refine splD ?_ ?_ | refine splE ?_ ?_ | refine splNE ?_ ?_) <;> intro hc <;> first | (exfalso; omega) | (exfalso; dsimp only at hc; omega) | skip)
     all_goals first | (exfalso; omega) | exact ⟨fun β => rfl, fun w' h => h⟩
   · rw [if_neg hE]
     by_cases ha0 : a = 0 ∧ d = 0
     · rw [if_pos ha0] at hB
       rw [hB]
       repeat'
        conv => whnf
        first
         | refine zA ?_ | refine zB ?_ | refine zC ?_ | refine zD ?_ | refine zE ?_ | refine zF ?_ | refine zG ?_ | refine zH ?_ | refine zJ ?_ | refine zI ?_ | refine splT ?_ | refine splF ?_ | refine splNot ?_
         | ((first | refine splIn ?_ ?_ | refine splD ?_ ?_ | refine splE ?_ ?_ | refine splNE ?_ ?_) <;> intro hc <;> first | (exfalso; omega) | (exfalso; dsimp only at hc; omega) | skip)
       all_goals first | (exfalso; omega) | exact ⟨rfl, (), hE, Ent.weak rfl ⟨rfl, rfl, rfl, rfl, rfl, rfl, trivial⟩ ⟨rfl, rfl, rfl, rfl, rfl, trivial⟩ fun _ h => h⟩
     · rw [if_neg ha0] at hB
       by_cases hle : g0 + d ≤ nd
       · rw [if_pos hle] at hB
         rw [hB]
         repeat'
          conv => whnf
          first
           | refine zA ?_ | refine zB ?_ | refine zC ?_ | refine zD ?_ | refine zE ?_ | refine zF ?_ | refine zG ?_ | refine zH ?_ | refine zJ ?_ | refine zI ?_ | refine splT ?_ | refine splF ?_ | refine splNot ?_
           | ((first | refine splIn ?_ ?_ | refine splD ?_ ?_ | refine splE ?_ ?_ | refine splNE ?_ ?_) <;> intro hc <;> first | (exfalso; omega) | (exfalso; dsimp only at hc; omega) | skip)
           | ((with_reducible show CallEv _ _ 72 _ _ _ _ _); refine callE (k := 72) (fun β w' hbw => h72 w' hbw) ?_)
           | refine Exists.intro (α := List Value) [.slice (some ra) T.length rc] ⟨⟨rfl, fun w' hw' => eL w' hw'⟩, ?_⟩
           | refine Exists.intro (α := List Value) [iv q2] ⟨⟨rfl, fun w' hw' => eq0 w' hw'⟩, ?_⟩
         all_goals first | (exfalso; omega) | exact ⟨rfl, (), hE, Ent.weak rfl ⟨rfl, rfl, rfl, rfl, rfl, rfl, trivial⟩ ⟨rfl, rfl, rfl, rfl, rfl, trivial⟩ fun _ h => h⟩
       · rw [if_neg hle] at hB
         rw [hB]
         repeat'
          conv => whnf
          first
           | refine zA ?_ | refine zB ?_ | refine zC ?_ | refine zD ?_ | refine zE ?_ | refine zF ?_ | refine zG ?_ | refine zH ?_ | refine zJ ?_ | refine zI ?_ | refine splT ?_ | refine splF ?_ | refine splNot ?_
           | ((first | refine splIn ?_ ?_ | refine splD ?_ ?_ | refine splE ?_ ?_ | refine splNE ?_ ?_) <;> intro hc <;> first | (exfalso; omega) | (exfalso; dsimp only at hc; omega) | skip)
           | ((with_reducible show CallEv _ _ 72 _ _ _ _ _); refine callE (k := 72) (fun β w' hbw => h72 w' hbw) ?_)
         all_goals first | (exfalso; omega) | exact ⟨rfl, (), hE, Ent.weak rfl ⟨rfl, rfl, rfl, rfl, rfl, rfl, trivial⟩ ⟨rfl, rfl, rfl, rfl, rfl, trivial⟩ fun _ h => h⟩
 · intro _ hE
   rw [if_neg hE]
   refine VC.of env mixed ?_
   have hgb := fun (t f l : Nat) (h1 : 1 ≤ t) (hl : f ≤ l ∧ l < f + 10) => gn_bd hn (a := t) (d := f) (l := l) h1 hl
   have hTi := fun w' (hb : Below w.heap.size w w') => (h.below hb).t
   have hTb := fun t ht => asT_bd hn hFb hRb hM.1 a d (n := asB (Tr.d ⟨(nd : Int), shift, size, some ta, tc, T, some la, lc, L⟩) a d) hBb.1 (by omega) t ht
   simp only [hmS] at hTb
   obtain ⟨B0, hB0⟩ : ∃ B0, asB (Tr.d ⟨(nd : Int), shift, size, some ta, tc, T, some la, lc, L⟩) a d = B0 := ⟨_, rfl⟩
   rw [hB0] at hTb ⊢
   repeat'
    conv => whnf
    first
     | refine zA ?_ | refine zB ?_ | refine zC ?_ | refine zD ?_ | refine zE ?_ | refine zF ?_ | refine zG ?_ | refine zH ?_ | refine zJ ?_ | refine zI ?_ | refine splT ?_ | refine splF ?_ | refine splNot ?_
     | ((first | refine splIn ?_ ?_ | refine splD ?_ ?_ | refine splE ?_ ?_ | refine splNE ?_ ?_) <;> intro hc <;> first | (exfalso; omega) | (exfalso; dsimp only at hc; omega) | skip)
   all_goals first | (exfalso; omega) | skip
   refine loopN 5 (fun t : Nat => [(4, .v (iv d)), (5, .ptr 0 0), (6, .ptr 1 0), (7, .ptr 2 0), (8, .ptr 3 0), (11, .ptr 4 0), (49, .v (iv T.length)), (50, .v (iv t))]) (fun t => [(0, .cells [.v (iv nd), .v (iv shift), .v (iv size), .v (.slice (some ta) T.length tc), .v (.slice (some la) L.length lc)] 35), (1, .cells [.v (.slice (some fa) F.length fc)] 43), (2, .cells [.v (.slice (some ba) R.length bc)] 44), (3, .cells [.v (iv a)] 3), (4, .cells [.v (iv (asT (Tr.d ⟨(nd : Int), shift, size, some ta, tc, T, some la, lc, L⟩) F (R.map Iw.xs) a d t B0))] 3)]) (fun t => t ≤ T.length) (fun t => T.length - t) 0 (Nat.zero_le _) ⟨rfl, rfl, rfl, rfl, rfl, rfl, rfl, rfl, trivial⟩ ⟨rfl, rfl, rfl, rfl, rfl, trivial⟩ (fun _ _ => ⟨rfl, rfl⟩) ?_
   intro t ht
   rcases Nat.lt_or_ge t T.length with htl | htl
   · have hs1 : asT (Tr.d ⟨(nd : Int), shift, size, some ta, tc, T, some la, lc, L⟩) F (R.map Iw.xs) a d (t + 1) B0 = if t = 0 ∨ t = a then asT (Tr.d ⟨(nd : Int), shift, size, some ta, tc, T, some la, lc, L⟩) F (R.map Iw.xs) a d t B0 else asF (Tr.d ⟨(nd : Int), shift, size, some ta, tc, T, some la, lc, L⟩) F (R.map Iw.xs) a t (d + lsN (Tr.d ⟨(nd : Int), shift, size, some ta, tc, T, some la, lc, L⟩) a t) (nd - (d + lsN (Tr.d ⟨(nd : Int), shift, size, some ta, tc, T, some la, lc, L⟩) a t)) (asT (Tr.d ⟨(nd : Int), shift, size, some ta, tc, T, some la, lc, L⟩) F (R.map Iw.xs) a d t B0) := rfl
     have hTt := hTb t (by omega)
     obtain ⟨N0, hN0⟩ : ∃ N0, asT (Tr.d ⟨(nd : Int), shift, size, some ta, tc, T, some la, lc, L⟩) F (R.map Iw.xs) a d t B0 = N0 := ⟨_, rfl⟩
     rw [hN0] at hs1 hTt ⊢
     by_cases htz : t = 0 ∨ t = a
     · rw [if_pos htz] at hs1
       repeat'
        conv => whnf
        first
         | refine zA ?_ | refine zB ?_ | refine zC ?_ | refine zD ?_ | refine zE ?_ | refine zF ?_ | refine zG ?_ | refine zH ?_ | refine zJ ?_ | refine zI ?_ | refine splT ?_ | refine splF ?_ | refine splNot ?_
         | ((first | refine splIn ?_ ?_ | refine splD ?_ ?_ | refine splE ?_ ?_ | refine splNE ?_ ?_) <;> intro hc <;> first | (exfalso; omega) | (exfalso; dsimp only at hc; omega) | skip)
       all_goals first | (exfalso; omega) | exact ⟨t + 1, by omega, by omega, Ent.weak rfl ⟨rfl, rfl, rfl, rfl, rfl, rfl, rfl, rfl, trivial⟩ (by rw [hs1]; exact ⟨rfl, rfl, rfl, rfl, rfl, trivial⟩) fun _ h => h⟩
     · rw [if_neg htz] at hs1
       obtain ⟨⟨p1, p2⟩, hpr, hpl⟩ := ec t (by omega)
       have hlp := hlg t
       rw [hpl] at hlp
       have hcp : csO (Tr.d ⟨(nd : Int), shift, size, some ta, tc, T, some la, lc, L⟩) a t = p2 := by unfold csO; rw [hpl]
       have ep : ∀ w', Below w.heap.size w w' → ∀ j v, [iv p2][j]? = some v → w'.cell? (((ra.add (((t : Nat) : Int).toNat * 2)).add 1).add j) = some v := fun w' hb => rd_fldz (hrd w' hb) hpr _ rfl 1 (iv p2) rfl
       obtain ⟨fe, hfe⟩ : ∃ fe, F[t]? = some fe := ⟨_, List.getElem?_eq_getElem (by omega)⟩
       have hfeb := hFb fe (List.mem_of_getElem? hfe)
       have ef := fun w' (hb : Below w.heap.size w w') => rd_ati (hF.below hb) hfe
       obtain ⟨⟨wo, wc, xs⟩, hwr⟩ : ∃ r, R[t]? = some r := ⟨_, List.getElem?_eq_getElem (by omega)⟩
       have hwm := List.mem_of_getElem? hwr
       have hwn := hRn _ hwm
       have hwR := hRr _ hwm
       dsimp only at hwn hwR
       obtain ⟨_, wa, rfl, _⟩ := hwR.ptr (show 1 ≤ xs.length by omega)
       have er := fun w' (hb : Below w.heap.size w w') => rd_ati (hR.below hb) hwr
       have hwz : ∀ c, c ≤ nd → ∃ z, xs[c]? = some z ∧ tbO (R.map Iw.xs) t c = z ∧ (-1000000000000 ≤ z ∧ z ≤ 2000000000000) := fun c hc => by
        obtain ⟨z, hz⟩ : ∃ z, xs[c]? = some z := ⟨_, List.getElem?_eq_getElem (by omega)⟩
        have hb := hRb xs (List.mem_map.2 ⟨_, hwm, rfl⟩) z (List.mem_of_getElem? hz)
        exact ⟨z, hz, hC t _ hwr c z hz, by omega⟩
       have hlsn := lsN_le hn a t
       have h72u := h72t t (by omega)
       obtain ⟨f0, hf0⟩ : ∃ f0, d + lsN (Tr.d ⟨(nd : Int), shift, size, some ta, tc, T, some la, lc, L⟩) a t = f0 := ⟨_, rfl⟩
       rw [hf0] at hs1
       obtain ⟨ln, hln⟩ : ∃ ln, lsN (Tr.d ⟨(nd : Int), shift, size, some ta, tc, T, some la, lc, L⟩) a t = ln := ⟨_, rfl⟩
       rw [hln] at h72u hlsn hf0
       have hmx : imax 0 (f0 : Int) = f0 := by rw [imax_eq]; omega
       obtain ⟨tn, htn⟩ : ∃ u, T[t]? = some u := ⟨_, List.getElem?_eq_getElem (by omega)⟩
       have htw : twO (Tr.d ⟨(nd : Int), shift, size, some ta, tc, T, some la, lc, L⟩) ((t : Nat) : Int) = tn.d := twO_eq (x := ⟨(nd : Int), shift, size, some ta, tc, T, some la, lc, L⟩) (k := ((t : Nat) : Int)) htn
       have htN := twN_of hn (a := t) (by omega) (by simp only [Tr.d, List.length_map]; omega)
       have hAL0 : ∀ f, ALO (Tr.d ⟨(nd : Int), shift, size, some ta, tc, T, some la, lc, L⟩) t f = ALp (Tr.d ⟨(nd : Int), shift, size, some ta, tc, T, some la, lc, L⟩) t f ((twO (Tr.d ⟨(nd : Int), shift, size, some ta, tc, T, some la, lc, L⟩) ((t : Nat) : Int)).s2 - (twO (Tr.d ⟨(nd : Int), shift, size, some ta, tc, T, some la, lc, L⟩) ((t : Nat) : Int)).s1 + 1).toNat := fun f => by unfold ALO; rw [if_neg (by omega)]
       have hALs : ∀ f j, ALp (Tr.d ⟨(nd : Int), shift, size, some ta, tc, T, some la, lc, L⟩) t f (j + 1) = if aloB (Tr.d ⟨(nd : Int), shift, size, some ta, tc, T, some la, lc, L⟩) ((t : Nat) : Int) f ((f : Int) + ((twO (Tr.d ⟨(nd : Int), shift, size, some ta, tc, T, some la, lc, L⟩) ((t : Nat) : Int)).s1 + j) - 1) = true then ALp (Tr.d ⟨(nd : Int), shift, size, some ta, tc, T, some la, lc, L⟩) t f j ++ [((f : Int) + ((twO (Tr.d ⟨(nd : Int), shift, size, some ta, tc, T, some la, lc, L⟩) ((t : Nat) : Int)).s1 + j) - 1).toNat] else ALp (Tr.d ⟨(nd : Int), shift, size, some ta, tc, T, some la, lc, L⟩) t f j := fun f j => rfl
       have hALb : ∀ f j, j ≤ ((twO (Tr.d ⟨(nd : Int), shift, size, some ta, tc, T, some la, lc, L⟩) ((t : Nat) : Int)).s2 - (twO (Tr.d ⟨(nd : Int), shift, size, some ta, tc, T, some la, lc, L⟩) ((t : Nat) : Int)).s1 + 1).toNat → ∀ l ∈ ALp (Tr.d ⟨(nd : Int), shift, size, some ta, tc, T, some la, lc, L⟩) t f j, f ≤ l ∧ l < f + 10 := fun f j hj => alp_bd hn (by omega) (by simp only [Tr.d, List.length_map]; omega) f j hj
       have hFbd := fun q => asF_bd hn hFb hRb hM.1 a (t := t) (f0 := f0) (n := N0) (by omega) (by simp only [Tr.d, List.length_map]; omega) (by omega) (by omega) q
       have hal := fun f l => alo_last hn (a := t) (d := f) (l := l) (by omega) (by simp only [Tr.d, List.length_map]; omega)
       rw [htw] at hAL0 hALs htN hALb
       obtain ⟨oo, oc, ro, rc', O, s1, s2, pay, lot, rent, RR, cold, cut⟩ := tn
       have hs := htN.s
       dsimp only at hs hAL0 hALs hALb
       have e3 := fun (w' : World) (hw' : Below w.heap.size w w') => rd_flds (hTi w' hw') htn ((t : Nat) : Int) rfl 1 [iv s1, iv s2] (fun j v hj => by
        match j, hj with
        | 0, hj => exact hj
        | 1, hj => exact hj)
       repeat'
        conv => whnf
        first
         | refine zA ?_ | refine zB ?_ | refine zC ?_ | refine zD ?_ | refine zE ?_ | refine zF ?_ | refine zG ?_ | refine zH ?_ | refine zJ ?_ | refine zI ?_ | refine splT ?_ | refine splF ?_ | refine splNot ?_
         | ((first | refine splIn ?_ ?_ | refine splD ?_ ?_ | refine splE ?_ ?_ | refine splNE ?_ ?_) <;> intro hc <;> first | (exfalso; omega) | (exfalso; dsimp only at hc; omega) | skip)
         | ((with_reducible show CallEv _ _ 72 _ _ _ _ _); refine callE (k := 72) (fun β w' hbw => h72u w' hbw) ?_)
         | ((with_reducible show CallEv _ _ 83 _ _ _ _ _); refine callR [6, 7, 8] [] (stB ⟨(nd : Int), shift, size, some ta, tc, T, some la, lc, L⟩ (t : Nat) f0 6) (.fn (.func 114) [.ptr 6 0, .ptr 7 0, .ptr 8 0]) rfl (fun i b hm => by simp only [stB, List.mem_cons, Prod.mk.injEq, List.not_mem_nil, or_false] at hm ⊢; omega) (fun β w' _ hbw => by (have := stops_R ⟨(nd : Int), shift, size, some ta, tc, T, some la, lc, L⟩ (t : Nat) f0 6 β w'); (rw [← hf0] at this ⊢); exact this) ?_)
       all_goals first | (exfalso; omega) | skip
       refine rf_inline env mixed 1000 [4, 5, 6, 7, 8, 11, 12, 49, 50] Try.func114 has114 Try.ntmps114 rfl rfl (by decide) rfl rfl ?_
       intro lp asg bdy hasg hbdy
       repeat'
        conv => whnf
        first
         | refine zA ?_ | refine zB ?_ | refine zC ?_ | refine zD ?_ | refine zE ?_ | refine zF ?_ | refine zG ?_ | refine zH ?_ | refine zJ ?_ | refine zI ?_ | refine splT ?_ | refine splF ?_ | refine splNot ?_
         | ((first | refine splIn ?_ ?_ | refine splD ?_ ?_ | refine splE ?_ ?_ | refine splNE ?_ ?_) <;> intro hc <;> first | (exfalso; omega) | (exfalso; dsimp only at hc; omega) | skip)
         | refine Exists.intro (α := List Value) [iv s1, iv s2] ⟨⟨rfl, fun w' hw' => e3 w' hw'⟩, ?_⟩
       all_goals first | (exfalso; omega) | skip
       obtain ⟨Q, hQ⟩ : ∃ Q, nd - f0 = Q := ⟨_, rfl⟩
       rw [hQ] at hs1
       refine loopN 10 (fun q : Nat => [(0, .v (.func (.yield lp) #[] #[])), (1, .ptr 6 0), (2, .ptr 7 0), (5, .ptr 9 0), (6, .v (iv ((f0 + q : Nat) : Int)))]) (fun q => [(0, .cells [.v (iv nd), .v (iv shift), .v (iv size), .v (.slice (some ta) T.length tc), .v (.slice (some la) L.length lc)] 35), (1, .cells [.v (.slice (some fa) F.length fc)] 43), (2, .cells [.v (.slice (some ba) R.length bc)] 44), (3, .cells [.v (iv a)] 3), (4, .cells [.v (iv (asF (Tr.d ⟨(nd : Int), shift, size, some ta, tc, T, some la, lc, L⟩) F (R.map Iw.xs) a t f0 q N0))] 3), (5, .cells [.v (iv t)] 3), (6, .cells [.v (iv nd), .v (iv shift), .v (iv size), .v (.slice (some ta) T.length tc), .v (.slice (some la) L.length lc)] 35), (7, .cells [.v (iv t)] 3), (8, .cells [.v (iv f0)] 3), (9, .cells [.v (iv s1), .v (iv s2)] 55)]) (fun q => q ≤ Q) (fun q => Q - q) 0 (Nat.zero_le _) ⟨rfl, rfl, rfl, rfl, (by (show some (SV.v (iv (imax 0 (f0 : Int)))) = some (SV.v (iv ((f0 + 0 : Nat) : Int)))); rw [hmx]; rfl), trivial⟩ ⟨rfl, rfl, rfl, rfl, rfl, rfl, rfl, rfl, rfl, rfl, trivial⟩ (fun _ _ => ⟨rfl, rfl⟩) ?_
       intro q hq'
       have hFq := hFbd q
       have hFs : asF (Tr.d ⟨(nd : Int), shift, size, some ta, tc, T, some la, lc, L⟩) F (R.map Iw.xs) a t f0 (q + 1) N0 = asL (Tr.d ⟨(nd : Int), shift, size, some ta, tc, T, some la, lc, L⟩) F (R.map Iw.xs) a t (f0 + q) (ALO (Tr.d ⟨(nd : Int), shift, size, some ta, tc, T, some la, lc, L⟩) t (f0 + q)) (asF (Tr.d ⟨(nd : Int), shift, size, some ta, tc, T, some la, lc, L⟩) F (R.map Iw.xs) a t f0 q N0) := rfl
       obtain ⟨N1, hN1⟩ : ∃ N1, asF (Tr.d ⟨(nd : Int), shift, size, some ta, tc, T, some la, lc, L⟩) F (R.map Iw.xs) a t f0 q N0 = N1 := ⟨_, rfl⟩
       rw [hN1] at hFq hFs ⊢
       rcases Nat.lt_or_ge q Q with hql | hql
       · obtain ⟨N, hN⟩ : ∃ N, (s2 - s1 + 1).toNat = N := ⟨_, rfl⟩
         have hAE := hAL0 (f0 + q)
         have hAs := hALs (f0 + q)
         have hAb := hALb (f0 + q)
         rw [hN] at hAE hAb
         repeat'
          conv => whnf
          first
           | refine zA ?_ | refine zB ?_ | refine zC ?_ | refine zD ?_ | refine zE ?_ | refine zF ?_ | refine zG ?_ | refine zH ?_ | refine zJ ?_ | refine zI ?_ | refine splT ?_ | refine splF ?_ | refine splNot ?_
           | ((first | refine splIn ?_ ?_ | refine splD ?_ ?_ | refine splE ?_ ?_ | refine splNE ?_ ?_) <;> intro hc <;> first | (exfalso; omega) | (exfalso; dsimp only at hc; omega) | skip)
         all_goals first | (exfalso; omega) | skip
         refine loopN 10 (fun j : Nat => [(0, .v (.func (.yield lp) #[] #[])), (1, .ptr 6 0), (2, .ptr 7 0), (5, .ptr 9 0), (6, .v (iv ((f0 + q : Nat) : Int))), (7, .v (iv (s1 + (j : Nat))))]) (fun j => [(0, .cells [.v (iv nd), .v (iv shift), .v (iv size), .v (.slice (some ta) T.length tc), .v (.slice (some la) L.length lc)] 35), (1, .cells [.v (.slice (some fa) F.length fc)] 43), (2, .cells [.v (.slice (some ba) R.length bc)] 44), (3, .cells [.v (iv a)] 3), (4, .cells [.v (iv (asL (Tr.d ⟨(nd : Int), shift, size, some ta, tc, T, some la, lc, L⟩) F (R.map Iw.xs) a t (f0 + q) (ALp (Tr.d ⟨(nd : Int), shift, size, some ta, tc, T, some la, lc, L⟩) t (f0 + q) j) N1))] 3), (5, .cells [.v (iv t)] 3), (6, .cells [.v (iv nd), .v (iv shift), .v (iv size), .v (.slice (some ta) T.length tc), .v (.slice (some la) L.length lc)] 35), (7, .cells [.v (iv t)] 3), (8, .cells [.v (iv f0)] 3), (9, .cells [.v (iv s1), .v (iv s2)] 55)]) (fun j => j ≤ N) (fun j => N - j) 0 (Nat.zero_le _) ⟨rfl, rfl, rfl, rfl, rfl, by rw [Int.natCast_zero, Int.add_zero]; rfl, trivial⟩ ⟨rfl, rfl, rfl, rfl, rfl, rfl, rfl, rfl, rfl, rfl, trivial⟩ (fun _ _ => ⟨rfl, rfl⟩) ?_
         intro j hj
         have hLb := asL_bd hn hFb hRb hM.1 a (t := t) (f := f0 + q) (by omega) (ALp (Tr.d ⟨(nd : Int), shift, size, some ta, tc, T, some la, lc, L⟩) t (f0 + q) j) (hAb j hj) N1 (by omega) (by omega)
         have hsn := fun l => asL_snoc (Tr.d ⟨(nd : Int), shift, size, some ta, tc, T, some la, lc, L⟩) F (R.map Iw.xs) a t (f0 + q) l (ALp (Tr.d ⟨(nd : Int), shift, size, some ta, tc, T, some la, lc, L⟩) t (f0 + q) j) N1
         obtain ⟨NN, hNN⟩ : ∃ NN, asL (Tr.d ⟨(nd : Int), shift, size, some ta, tc, T, some la, lc, L⟩) F (R.map Iw.xs) a t (f0 + q) (ALp (Tr.d ⟨(nd : Int), shift, size, some ta, tc, T, some la, lc, L⟩) t (f0 + q) j) N1 = NN := ⟨_, rfl⟩
         rw [hNN] at hLb hsn
         rcases Nat.lt_or_ge j N with hjN | hjN
         · rw [hNN]
           have hCn := hAs j
           have hsj : s1 + ((j + 1 : Nat) : Int) = s1 + (j : Int) + 1 := by omega
           obtain ⟨lN, hlN⟩ : ∃ lN : Nat, ((f0 + q : Nat) : Int) + (s1 + (j : Int)) - 1 = lN := ⟨(((f0 + q : Nat) : Int) + (s1 + (j : Int)) - 1).toNat, by omega⟩
           have h115 := fun w' (hb : Below w.heap.size w w') => alone_ok ⟨(nd : Int), shift, size, some ta, tc, T, some la, lc, L⟩ ((t : Nat) : Int) ((f0 + q : Nat) : Int) (((f0 + q : Nat) : Int) + (s1 + (j : Int)) - 1) w' (h.below hb) hn ⟨by omega, by omega⟩
           have hba : decide (fltO (Tr.d ⟨(nd : Int), shift, size, some ta, tc, T, some la, lc, L⟩) [(((t : Nat) : Int), ((f0 + q : Nat) : Int), ((f0 + q : Nat) : Int) + (s1 + (j : Int)) - 1)] 0 ((t : Nat) : Int) ((f0 + q : Nat) : Int) (((f0 + q : Nat) : Int) + (s1 + (j : Int)) - 1) 4 = 0) = aloB (Tr.d ⟨(nd : Int), shift, size, some ta, tc, T, some la, lc, L⟩) ((t : Nat) : Int) ((f0 + q : Nat) : Int) (((f0 + q : Nat) : Int) + (s1 + (j : Int)) - 1) := rfl
           have halj := hal ((f0 + q : Nat) : Int) (((f0 + q : Nat) : Int) + (s1 + (j : Int)) - 1)
           obtain ⟨b, hb⟩ : ∃ b, aloB (Tr.d ⟨(nd : Int), shift, size, some ta, tc, T, some la, lc, L⟩) ((t : Nat) : Int) ((f0 + q : Nat) : Int) (((f0 + q : Nat) : Int) + (s1 + (j : Int)) - 1) = b := ⟨_, rfl⟩
           rw [hb] at hCn hba halj
           simp only [hba] at h115
           cases b with
           | false =>
            rw [if_neg (by decide)] at hCn
            repeat'
             conv => whnf
             first
              | refine zA ?_ | refine zB ?_ | refine zC ?_ | refine zD ?_ | refine zE ?_ | refine zF ?_ | refine zG ?_ | refine zH ?_ | refine zJ ?_ | refine zI ?_ | refine splT ?_ | refine splF ?_ | refine splNot ?_
              | ((first | refine splIn ?_ ?_ | refine splD ?_ ?_ | refine splE ?_ ?_ | refine splNE ?_ ?_) <;> intro hc <;> first | (exfalso; omega) | (exfalso; dsimp only at hc; omega) | skip)
              | ((with_reducible show CallEv _ _ 115 _ _ _ _ _); refine callE (k := 115) (fun β w' hbw => h115 w' hbw) ?_)
            all_goals first | (exfalso; omega) | exact ⟨j + 1, by omega, by omega, Ent.weak rfl ⟨rfl, rfl, rfl, rfl, rfl, by rw [hsj]; rfl, trivial⟩ (by rw [hCn, hNN]; exact ⟨rfl, rfl, rfl, rfl, rfl, rfl, rfl, rfl, rfl, rfl, trivial⟩) fun _ h => h⟩
           | true =>
            have hlast := halj rfl
            dsimp only [Tr.d] at hlast
            have hlt0 : (((f0 + q : Nat) : Int) + (s1 + (j : Int)) - 1).toNat = lN := by omega
            rw [if_pos rfl, hlt0] at hCn
            obtain ⟨tv, htv, hCv, htvb⟩ := hwz (lN + 1) (by omega)
            have ev := fun w' (hb : Below w.heap.size w w') => rd_atz (hwR.below hb) htv (((f0 + q : Nat) : Int) + (s1 + (j : Int)) - 1 + 1) (by omega)
            obtain ⟨G, hG⟩ : ∃ G, gnO (Tr.d ⟨(nd : Int), shift, size, some ta, tc, T, some la, lc, L⟩) t ((f0 + q : Nat) : Int) (lN : Int) = G := ⟨_, rfl⟩
            have hGb := hgb t (f0 + q) lN (by omega) ⟨by omega, by omega⟩
            have h101 := fun w' (hb : Below w.heap.size w w') => gain_ok ⟨(nd : Int), shift, size, some ta, tc, T, some la, lc, L⟩ t ((f0 + q : Nat) : Int) (((f0 + q : Nat) : Int) + (s1 + (j : Int)) - 1) w' (h.below hb) hn (by omega) (show t < T.length by omega) ⟨by omega, by omega, by omega, by omega⟩
            have hg : asG (Tr.d ⟨(nd : Int), shift, size, some ta, tc, T, some la, lc, L⟩) F (R.map Iw.xs) a t (f0 + q) lN = G - p2 - fe + tv := by unfold asG; rw [hG, hcp, hfe, hCv]; rfl
            rw [hG] at hGb
            rw [hlN, hG, ← hlN] at h101
            have hsl := hsn lN
            rw [hg] at hsl
            repeat'
             conv => whnf
             first
              | refine zA ?_ | refine zB ?_ | refine zC ?_ | refine zD ?_ | refine zE ?_ | refine zF ?_ | refine zG ?_ | refine zH ?_ | refine zJ ?_ | refine zI ?_ | refine splT ?_ | refine splF ?_ | refine splNot ?_
              | ((first | refine splIn ?_ ?_ | refine splD ?_ ?_ | refine splE ?_ ?_ | refine splNE ?_ ?_) <;> intro hc <;> first | (exfalso; omega) | (exfalso; dsimp only at hc; omega) | skip)
              | ((with_reducible show CallEv _ _ 115 _ _ _ _ _); refine callE (k := 115) (fun β w' hbw => h115 w' hbw) ?_)
              | refine And.intro (a := (_ : List _) = [] ∧ (_ : List _) = []) ⟨rfl, rfl⟩ ?_
              | refine yield_inline env mixed 0 2000 [4, 5, 6, 7, 8, 11, 12, 49, 50] [0, 1, 2, 5, 6, 7, 41] rfl rfl rfl rfl rfl rfl rfl ?_
              | refine vc_eq env hasg ?_
              | refine vc_eq env hbdy ?_
              | refine nilE rfl rfl ?_
              | ((with_reducible show CallEv _ _ 101 _ _ _ _ _); refine callE (k := 101) (fun β w' hbw => h101 w' hbw) ?_)
              | refine Exists.intro (α := List Value) [.slice (some ra) T.length rc] ⟨⟨rfl, fun w' hw' => eL w' hw'⟩, ?_⟩
              | refine Exists.intro (α := List Value) [iv p2] ⟨⟨rfl, fun w' hw' => ep w' hw'⟩, ?_⟩
              | refine Exists.intro (α := List Value) [iv fe] ⟨⟨rfl, fun w' hw' => ef w' hw'⟩, ?_⟩
              | refine Exists.intro (α := List Value) [.slice (some wa) xs.length wc] ⟨⟨rfl, fun w' hw' => er w' hw'⟩, ?_⟩
              | refine Exists.intro (α := List Value) [iv tv] ⟨⟨rfl, fun w' hw' => ev w' hw'⟩, ?_⟩
              | ((with_reducible show CallEv _ _ 98 _ _ _ _ _); refine callM [12] (fun β w' hbk hbw => max2_ok NN (G - p2 - fe + tv) (β 12) 2 w' (rd2 (hbk 12 (by simp) _ rfl))) ?_)
            all_goals first | (exfalso; omega) | exact ⟨j + 1, by omega, by omega, Ent.ren (rho []) rfl rfl ⟨rfl, rfl, rfl, rfl, rfl, by rw [hsj]; rfl, trivial⟩ (by rw [hCn, hsl]; exact ⟨rfl, rfl, rfl, rfl, rfl, rfl, rfl, rfl, rfl, rfl, trivial⟩) fun _ h => h⟩
         · obtain rfl : j = N := by omega
           rw [← hAE, ← hFs]
           repeat'
            conv => whnf
            first
             | refine zA ?_ | refine zB ?_ | refine zC ?_ | refine zD ?_ | refine zE ?_ | refine zF ?_ | refine zG ?_ | refine zH ?_ | refine zJ ?_ | refine zI ?_ | refine splT ?_ | refine splF ?_ | refine splNot ?_
             | ((first | refine splIn ?_ ?_ | refine splD ?_ ?_ | refine splE ?_ ?_ | refine splNE ?_ ?_) <;> intro hc <;> first | (exfalso; omega) | (exfalso; dsimp only at hc; omega) | skip)
           all_goals first | (exfalso; omega) | exact ⟨q + 1, by omega, by omega, Ent.weak rfl ⟨rfl, rfl, rfl, rfl, rfl, trivial⟩ ⟨rfl, rfl, rfl, rfl, rfl, rfl, rfl, rfl, rfl, rfl, trivial⟩ fun _ h => h⟩
       · obtain rfl : q = Q := by omega
         rw [← hN1, ← hs1]
         repeat'
          conv => whnf
          first
           | refine zA ?_ | refine zB ?_ | refine zC ?_ | refine zD ?_ | refine zE ?_ | refine zF ?_ | refine zG ?_ | refine zH ?_ | refine zJ ?_ | refine zI ?_ | refine splT ?_ | refine splF ?_ | refine splNot ?_
           | ((first | refine splIn ?_ ?_ | refine splD ?_ ?_ | refine splE ?_ ?_ | refine splNE ?_ ?_) <;> intro hc <;> first | (exfalso; omega) | (exfalso; dsimp only at hc; omega) | skip)
         all_goals first | (exfalso; omega) | exact ⟨t + 1, by omega, by omega, Ent.ren (rho []) rfl rfl ⟨rfl, rfl, rfl, rfl, rfl, rfl, rfl, rfl, trivial⟩ ⟨rfl, rfl, rfl, rfl, rfl, trivial⟩ fun _ h => h⟩
   · obtain rfl : t = T.length := by omega
     repeat'
      conv => whnf
      first
       | refine zA ?_ | refine zB ?_ | refine zC ?_ | refine zD ?_ | refine zE ?_ | refine zF ?_ | refine zG ?_ | refine zH ?_ | refine zJ ?_ | refine zI ?_ | refine splT ?_ | refine splF ?_ | refine splNot ?_
       | ((first | refine splIn ?_ ?_ | refine splD ?_ ?_ | refine splE ?_ ?_ | refine splNE ?_ ?_) <;> intro hc <;> first | (exfalso; omega) | (exfalso; dsimp only at hc; omega) | skip)
     all_goals first | (exfalso; omega) | exact ⟨fun β => rfl, fun w' h => h⟩
end Go.Proofs.Ythfabodamhdhaaa
namespace Go.Proofs.Ythfabodamhdhaaa
open Go Tx Go.RowKit
set_option linter.unusedSimpArgs false
set_option linter.unusedVariables false
structure TbG where
 o : Nat
 c : Nat
 D : List (Nat × Nat)
abbrev TbG.v (y : TbG) : Value := .slice (some ⟨y.o, 0, none⟩) y.D.length y.c
structure TbIn (m N : Nat) (y : TbG) (C : List (List Int)) (w : World) : Prop where
 l : C.length = y.D.length
 n : ∀ r ∈ C, r.length = N
 h : w.ownsRow 0 43 1 (.slice (some ⟨y.o, 0, none⟩) y.D.length y.c) y.D.length (y.D.map fun p => .slice (some ⟨p.1, 0, none⟩) N p.2)
 r : ∀ (i : Nat) (p : Nat × Nat) (xs : List Int), y.D[i]? = some p → C[i]? = some xs → w.ownsRow 0 3 1 (.slice (some ⟨p.1, 0, none⟩) N p.2) N (xs.flatMap iF)
 d : (y.D.map Prod.fst).Nodup
 a : ∀ p ∈ y.D, m ≤ p.1 ∧ p.1 ≠ y.o
 m : m ≤ y.o
def TbG.rw (y : TbG) (C : List (List Int)) : List Iw := (y.D.zip C).map fun p => ⟨some ⟨p.1.1, 0, none⟩, p.1.2, p.2⟩
theorem TbG.rw_len {y : TbG} {C : List (List Int)} (h : C.length = y.D.length) : (y.rw C).length = y.D.length := by simp [TbG.rw, h]
theorem TbG.rw_at {y : TbG} {C : List (List Int)} {i : Nat} {p : Nat × Nat} {xs : List Int} (h1 : y.D[i]? = some p) (h2 : C[i]? = some xs) : (y.rw C)[i]? = some ⟨some ⟨p.1, 0, none⟩, p.2, xs⟩ := by
 have hz : (y.D.zip C)[i]? = some (p, xs) := List.getElem?_zip_eq_some.2 ⟨h1, h2⟩
 simp only [TbG.rw, List.getElem?_map, hz, Option.map_some]
theorem TbG.rw_xs {y : TbG} {C : List (List Int)} (h : C.length = y.D.length) : (y.rw C).map Iw.xs = C := by
 have : (Iw.xs ∘ fun p : (Nat × Nat) × List Int => (⟨some ⟨p.1.1, 0, none⟩, p.1.2, p.2⟩ : Iw)) = Prod.snd := rfl
 rw [TbG.rw, List.map_map, this, List.map_snd_zip (by omega)]
theorem TbG.rw_mem {y : TbG} {C : List (List Int)} {r : Iw} (h : r ∈ y.rw C) : ∃ (i : Nat) (p : Nat × Nat) (xs : List Int), y.D[i]? = some p ∧ C[i]? = some xs ∧ r = ⟨some ⟨p.1, 0, none⟩, p.2, xs⟩ := by
 obtain ⟨i, hi⟩ := List.mem_iff_getElem?.1 h
 simp only [TbG.rw, List.getElem?_map] at hi
 cases hz : (y.D.zip C)[i]? with
 | none => rw [hz] at hi; cases hi
 | some q =>
  rw [hz, Option.map_some, Option.some.injEq] at hi
  obtain ⟨h1, h2⟩ := List.getElem?_zip_eq_some.1 hz
  exact ⟨i, q.1, q.2, h1, h2, hi.symm⟩
theorem TbIn.out {m N : Nat} {y : TbG} {C : List (List Int)} {w : World} (h : TbIn m N y C w) : Rd 1 Iw.cs (.slice (some ⟨y.o, 0, none⟩) y.D.length y.c) (y.rw C) w :=
 .inr ⟨⟨y.o, 0, none⟩, y.c, by rw [TbG.rw_len h.l], fun k b hk j v hv => by
  obtain ⟨i, p, xs, h1, h2, rfl⟩ : ∃ (i : Nat) (p : Nat × Nat) (xs : List Int), y.D[k]? = some p ∧ C[k]? = some xs ∧ b = ⟨some ⟨p.1, 0, none⟩, p.2, xs⟩ := by
   simp only [TbG.rw, List.getElem?_map] at hk
   cases hz : (y.D.zip C)[k]? with
   | none => rw [hz] at hk; cases hk
   | some q =>
    rw [hz, Option.map_some, Option.some.injEq] at hk
    obtain ⟨h1, h2⟩ := List.getElem?_zip_eq_some.1 hz
    exact ⟨k, q.1, q.2, h1, h2, hk.symm⟩
  match j, hv with
  | 0, hv =>
   have hN := h.n xs (List.mem_of_getElem? h2)
   have hv2 : (y.D.map fun p => Value.slice (some ⟨p.1, 0, none⟩) N p.2)[k]? = some v := by
    rw [List.getElem?_map, h1, Option.map_some, ← hN]; exact hv
   have := h.h.cells (g := y.o) rfl _ _ hv2
   rw [own_add, Nat.zero_add] at this
   rw [own_add, own_add, Nat.zero_add, Nat.mul_one]
   exact this⟩
theorem TbIn.row {m N : Nat} {y : TbG} {C : List (List Int)} {w : World} (h : TbIn m N y C w) : ∀ r ∈ y.rw C, Rd 1 iF (.slice r.o r.xs.length r.c) r.xs w := fun r hr => by
 obtain ⟨i, p, xs, h1, h2, rfl⟩ := TbG.rw_mem hr
 have hN := h.n xs (List.mem_of_getElem? h2)
 dsimp only
 have := h.r i p xs h1 h2
 rw [← hN] at this
 exact Rd.of_owns (sz := 1) (f := iF) (fun _ => rfl) rfl rfl this
theorem TbIn.keep {m N : Nat} {y : TbG} {C : List (List Int)} {w w2 : World} (h : TbIn m N y C w) (hs : ∀ c, m ≤ c → c < w.heap.size → w2.heap[c]? = w.heap[c]?) : TbIn m N y C w2 :=
 ⟨h.l, h.n, own_keep h.h (hs _ h.m (by obtain ⟨c, hc⟩ := own_heap h.h; exact (Array.getElem?_eq_some_iff.1 hc).1)), fun i p xs h1 h2 => own_keep (h.r i p xs h1 h2) (hs _ (h.a p (List.mem_of_getElem? h1)).1 (by obtain ⟨c, hc⟩ := own_heap (h.r i p xs h1 h2); exact (Array.getElem?_eq_some_iff.1 hc).1)), h.d, h.a, h.m⟩
theorem TbIn.st {m N : Nat} {y : TbG} {C : List (List Int)} {w : World} (h : TbIn m N y C w) : St m (TbIn m N y C) w := fun w2 k => h.keep fun c h1 h2 => k.same c h1 h2
theorem TbIn.set {m N : Nat} {y : TbG} {C : List (List Int)} {w : World} {i j : Nat} {p : Nat × Nat} {xs0 : List Int} {v : Int} (h : TbIn m N y C w) (hr : y.D[i]? = some p) (hx0 : C[i]? = some xs0) (hj : j < N) :
 TbIn m N y (C.set i (xs0.set j v)) (w.setCell ⟨p.1, j, none⟩ (iv v)) := by
 have hpa := h.a p (List.mem_of_getElem? hr)
 have hN := h.n xs0 (List.mem_of_getElem? hx0)
 refine ⟨by rw [List.length_set]; exact h.l, fun r hm => ?_, own_keep h.h (setCell_other fun e => hpa.2 e.symm), fun k q xs hq hx => ?_, h.d, h.a, h.m⟩
 · rcases List.mem_or_eq_of_mem_set hm with hm | rfl
   · exact h.n r hm
   · rw [List.length_set]; exact hN
 · by_cases hp : k = i
   · subst hp
     rw [hr, Option.some.injEq] at hq
     subst hq
     rw [List.getElem?_set, if_pos rfl, if_pos (List.getElem?_eq_some_iff.1 hx0).1, Option.some.injEq] at hx
     subst hx
     have := (World.ownsRow.stored (h.r k p xs0 hr hx0) j (iv v)).1
     have e : (xs0.flatMap iF).set j (iv v) = (xs0.set j v).flatMap iF := by
      rw [← setF (by omega), List.set_eq_take_append_cons_drop, if_pos (by rw [lenF]; omega)]; rfl
     rw [e] at this
     exact this
   · rw [List.getElem?_set, if_neg (fun e => hp e.symm)] at hx
     refine own_keep (h.r k q xs hq hx) (setCell_other fun e => ?_)
     have e1 : (y.D.map Prod.fst)[k]? = some q.1 := by rw [List.getElem?_map, hq]; rfl
     have e2 : (y.D.map Prod.fst)[i]? = some p.1 := by rw [List.getElem?_map, hr]; rfl
     have e : q.1 = p.1 := e
     rw [e] at e1
     exact hp ((List.getElem?_inj (List.getElem?_eq_some_iff.1 e1).1 h.d).1 (e1.trans e2.symm))
theorem TbIn.at {m N : Nat} {y : TbG} {C : List (List Int)} {w : World} {i j : Nat} {p : Nat × Nat} {xs0 : List Int} (h : TbIn m N y C w) (hr : y.D[i]? = some p) (hx0 : C[i]? = some xs0) (hj : j < N) :
 (∃ cs ty fr, w.heap[p.1]? = some (.cells cs ty fr) ∧ j < cs.size) ∧ w.frozen? ⟨p.1, j, none⟩ = false := by
 have q3 := h.r i p xs0 hr hx0
 have hN := h.n xs0 (List.mem_of_getElem? hx0)
 obtain ⟨e1, (⟨h1, _⟩ | ⟨g, cap, cur, h1, _, h2, h3, _, h4, h5⟩)⟩ := h.r i p xs0 hr hx0
 · cases h1
 · simp only [Value.slice.injEq, Option.some.injEq, Addr.mk.injEq] at h1
   obtain ⟨⟨rfl, _⟩, _⟩ := h1
   refine ⟨⟨cur, _, _, h2, ?_⟩, World.ownsRow.frozenAt q3 j⟩
   have h3 : N ≤ _ := h3
   omega
theorem below_set {n : Nat} {w w2 : World} {ad : Addr} {v : Value} (h : Below n w w2) (hn : n ≤ ad.block) : Below n w (w2.setCell ad v) := by
 have h3 : (w2.setCell ad v).heap.size = w2.heap.size := setCell_size
 refine ⟨h.os, h.tape, h.output, by rw [h3]; exact h.size, fun b hb => ?_⟩
 rw [setCell_other (by omega)]
 exact h.block b hb
def setT (R : List (List Int)) (a d : Nat) (v : Int) : List (List Int) := R.set a (((R[a]?).getD []).set d v)
def tabA (x : To) (F : List Int) (d : Nat) : Nat → List (List Int) → List (List Int)
 | 0, R => R
 | a + 1, R => setT (tabA x F d a R) a d (asO x F (tabA x F d a R) a d)
def tabK (x : To) (F : List Int) : Nat → List (List Int)
 | 0 => List.replicate x.T.length (List.replicate (x.days.toNat + 1) 0)
 | k + 1 => tabA x F (x.days.toNat - k) x.T.length (tabK x F k)
def tabO (x : To) (F : List Int) : List (List Int) := tabK x F (x.days.toNat + 1)
def bdO (F : List Int) (R : List (List Int)) : Int := smO F (tbO R 0 0)
structure TbS (n N : Nat) (M : Int) (R : List (List Int)) : Prop where
 l : R.length = n
 n : ∀ r ∈ R, r.length = N
 b : TbB M R
theorem setT_s {n N : Nat} {M M' : Int} {R : List (List Int)} (h : TbS n N M R) (hM : M ≤ M') {a d : Nat} {v : Int} (hv : -1000000000000 ≤ v ∧ v ≤ M') (ha : a < n) : TbS n N M' (setT R a d v) := by
 obtain ⟨r, hr⟩ : ∃ r, R[a]? = some r := ⟨_, List.getElem?_eq_getElem (by rw [h.l]; exact ha)⟩
 have hm := List.mem_of_getElem? hr
 unfold setT
 rw [hr, Option.getD_some]
 refine ⟨by rw [List.length_set]; exact h.l, fun q hq => ?_, fun q hq k hk => ?_⟩
 · rcases List.mem_or_eq_of_mem_set hq with hq | rfl
   · exact h.n q hq
   · rw [List.length_set]; exact h.n r hm
 · rcases List.mem_or_eq_of_mem_set hq with hq | rfl
   · have := h.b q hq k hk; omega
   · rcases List.mem_or_eq_of_mem_set hk with hk | rfl
     · have := h.b r hm k hk; omega
     · exact hv
theorem tabA_s {x : To} {F : List Int} (hn : ToN x) (hF : FeB F) {N d : Nat} {M : Int} (hM : 0 ≤ M) {R : List (List Int)} (h : TbS x.T.length N M R) : ∀ a, a ≤ x.T.length → TbS x.T.length N (M + 10000000 * a) (tabA x F d a R)
 | 0, _ => by simpa [tabA] using h
 | a + 1, ha => by
  have ih := tabA_s hn hF hM h (d := d) a (by omega)
  have hb := asO_bd hn hF ih.b (by omega) a d
  exact setT_s ih (by omega) ⟨hb.1, by omega⟩ (by omega)
theorem tabK_s {x : To} {F : List Int} (hn : ToN x) (hF : FeB F) : ∀ k : Nat, TbS x.T.length (x.days.toNat + 1) (90000000 * (k : Int)) (tabK x F k)
 | 0 => ⟨by simp [tabK], fun r hr => by rw [tabK] at hr; rw [List.eq_of_mem_replicate hr, List.length_replicate], fun r hr n hnr => by rw [tabK] at hr; rw [List.eq_of_mem_replicate hr] at hnr; rw [List.eq_of_mem_replicate hnr]; omega⟩
 | k + 1 => by
  have ih := tabK_s hn hF k
  have h := tabA_s hn hF (d := x.days.toNat - k) (by omega) ih x.T.length (Nat.le_refl _)
  have h9 := hn.n
  refine ⟨h.l, h.n, fun r hr n hm => ?_⟩
  have := h.b r hr n hm
  omega
end Go.Proofs.Ythfabodamhdhaaa
namespace Go.Proofs.Ythfabodamhdhaaa.Tx
open Go Go.RowKit
set_option linter.unusedSimpArgs false
set_option linter.unusedVariables false
theorem Dis.mk5 {α : Type} {nt nb nb' : Nat} {t : List (Nat × SV)} {m : List (Nat × Blk)} {h : World → Prop} {z : Gz} (ρ : Nat → Nat) (L : List Nat) {t' : α → List (Nat × SV)} {m' : α → List (Nat × Blk)} {h' : α → World → Prop} {pre : α → Prop} {w0 : World}
 (hz : GEqR ρ z.g) (hL : ∀ i ∈ L, ∃ b, lk m i = some b ∧ b.live = true) (hbel : ∀ w, h w → Below w0.heap.size w0 w)
 (hx : ∀ β w, (∀ i b, lk m i = some b → b.ok β w (β i)) → h w → (∀ i b, lk m i = some b → b.live = true → w0.heap.size ≤ β i) → (∀ i b c, lk m i = some b → b.live = true → (∀ w, h w → ∃ cs ty fr, w.heap[c]? = some (.cells cs ty fr)) → β i ≠ c) → (∀ i j bi bj, lk m i = some bi → lk m j = some bj → bi.live = true → bj.live = true → i ≠ j → β i ≠ β j) →
  ∃ x, pre x ∧ TEqR ρ β t (t' x) ∧ MEqR ρ L β m (m' x) ∧ injR ρ (m' x) = true ∧ ∀ w2, h w2 → (∀ i ∈ L, ∀ b, lk m i = some b → b.ok β w2 (β i)) → h' x w2) :
 Dis ⟨nt, t, m, nb, h, z⟩ (fun x => ⟨nt, t' x, m' x, nb', h' x, z⟩) pre := by
 unfold Dis
 rintro X a w ⟨β, D, hs⟩
 have hmem := hs.mem
 obtain ⟨x, hp, ht, hm, hinj, hh⟩ := hx β w hs.m (hs.h w (Chg.refl _ _)) (fun i b hi hl => Nat.le_of_not_lt fun hlt => hmem.out i b hi hl (hmem.old hbel hlt)) (fun i b c hi hl hc e => hs.out i b hi hl (by rw [e]; exact hs.dof hc)) (fun i j bi bj hi hj l1 l2 hne => hs.inj i j bi bj hi hj l1 l2 hne)
 have hLc : ∀ i ∈ L, ∃ o, w.heap[β i]? = some o ∧ IsMem o := fun i hi => by
  obtain ⟨b, h1, h2⟩ := hL i hi
  exact Blk.ok_cells h2 (hs.m i b h1)
 have hno : ∀ (d : Nat) (o : Obj), w.heap[d]? = some o → Other o → ¬ ∃ i ∈ L, β i = d := by
  rintro d o h1 h2 ⟨i, hi, rfl⟩
  obtain ⟨o3, h3, h4⟩ := hLc i hi
  rw [h1] at h3
  cases h3
  exact h2 h4
 refine ⟨x, hp, fun i => β (ρ i), fun b => D b ∨ ∃ i ∈ L, β i = b, ?_, hs.size, ?_, ?_, ?_, ?_, ?_, ?_, ?_⟩
 · obtain ⟨l, l1, l2, l3⟩ := hs.defers
   refine ⟨l, l1, l2, fun d hd => ⟨(l3 d hd).1, ?_, (l3 d hd).2.2⟩⟩
   rintro (h1 | h1)
   · exact (l3 d hd).2.1 h1
   · exact hno d _ (l3 d hd).1 (fun h => h) h1
 · intro k s hk
   obtain ⟨s', h1, h2⟩ := ht.get k s hk
   rw [← h2]; exact hs.t k s' h1
 · intro i b hi
   obtain ⟨_, b', h1, _, h2⟩ := hm.get i b hi
   exact h2 _ _ (hs.m _ b' h1)
 · intro i j bi bj hi hj h1 h2 hne
   obtain ⟨_, b', hi', l1, _⟩ := hm.get i bi hi
   obtain ⟨_, b2', hj', l2, _⟩ := hm.get j bj hj
   exact hs.inj _ _ _ _ hi' hj' (l1 h1) (l2 h2) (injR_spec hinj i j (lk_key hi) (lk_key hj) hne)
 · intro i b hi hl
   obtain ⟨hn, b', hi', l1, _⟩ := hm.get i b hi
   rintro (h1 | ⟨j, hj, h1⟩)
   · exact hs.out _ _ hi' (l1 hl) h1
   · obtain ⟨bj, h2, h3⟩ := hL j hj
     refine hs.inj j _ _ _ h2 hi' h3 (l1 hl) (fun e => ?_) h1
     subst e
     exact nin_iff.1 hn hj
 · rintro b (h1 | ⟨j, hj, rfl⟩)
   · exact hs.dlt b h1
   · obtain ⟨o3, h3, _⟩ := hLc j hj
     exact (Array.getElem?_eq_some_iff.1 h3).1
 · intro w2 hc
   refine hh w2 (hs.h w2 ⟨hc.os, hc.tape, hc.output, hc.size, fun b hb hd => hc.same b hb fun h1 => hd fun h2 => h1 (.inl h2)⟩) fun i hi b hb => ?_
   obtain ⟨o3, h3, _⟩ := hLc i hi
   exact Blk.keep_at (hc.same _ (Array.getElem?_eq_some_iff.1 h3).1 fun h1 => h1 (.inr ⟨i, hi, rfl⟩)) (hs.m i b hb)
 · refine ⟨fun k s hk => (hs.amb.g k s hk).trans (hz.get k s hk β).symm, fun p hp' => ⟨(hs.amb.la p hp').1, ?_⟩, hs.amb.lq, hs.amb.dep, hs.amb.nd, fun d hd => ⟨(hs.amb.pr d hd).1, ?_⟩⟩
   · rintro (h1 | h1)
     · exact (hs.amb.la p hp').2 h1
     · obtain ⟨st, pd, h2⟩ := (hs.amb.la p hp').1
       exact hno _ _ h2 (fun h => h) h1
   · rintro (h1 | h1)
     · exact (hs.amb.pr d hd).2 h1
     · exact hno _ _ (hs.amb.pr d hd).1 (fun h => h) h1
theorem stL {P : Program} {o : Oper} {gs : List Nat} {σ : Sg} {K : Ef → Prop} {b : Bool} {k : KT} (hs : OpEvS P o gs σ K (some k)) (h : b = true := by kernel_rfl) : OpEvS P o gs σ K (ifK b k) := by subst h; exact hs
end Go.Proofs.Ythfabodamhdhaaa.Tx
namespace Go.Proofs.Ythfabodamhdhaaa
open Go Tx Go.RowKit
set_option linter.unusedSimpArgs false
set_option linter.unusedVariables false
theorem fm_one {α : Type} (g : α → Value) (D : List α) : D.flatMap (fun p => [g p]) = D.map g := by
 induction D with
 | nil => rfl
 | cons a D ih => rw [List.flatMap_cons, ih]; rfl
theorem zr_flat (n : Nat) : (List.replicate n (0 : Int)).flatMap iF = (List.replicate n [iv 0]).flatten := by
 induction n with
 | zero => rfl
 | succ n ih => rw [List.replicate_succ, List.replicate_succ, List.flatMap_cons, List.flatten_cons, ih]
theorem feB_n {n : Nat} {F : List Int} (h : feB n F = true) : F.length = n ∧ FeB F := by
 simp only [feB, Bool.and_eq_true, decide_eq_true_eq, List.all_eq_true, inB] at h
 exact ⟨h.1, fun f hf => h.2.2 f hf⟩
set_option maxHeartbeats 8000000 in
set_option maxRecDepth 100000 in
theorem Bound_yes (x : Tr) (fo : Option Addr) (fc : Nat) (F : List Int) (w : World) (h : TrIn x w) (hF : Rd 1 iF (.slice fo F.length fc) F w) (hb1 : toB x.d = true) (hb2 : feB x.T.length F = true) :
 Calls Try.prog 28 #[x.v, .slice fo F.length fc] w fun e w' => ∃ y : TbG, e = .returned (.tuple #[iv (bdO F (tabO x.d F)), y.v, iv 0]) ∧ Below w.heap.size w w' ∧ St w.heap.size (TbIn w.heap.size (x.days.toNat + 1) y (tabO x.d F)) w' := by
 have hv := fun w' hb => valid_ok x w' (h.below hb)
 rw [hb1] at hv
 obtain ⟨hFl, hFb⟩ := feB_n hb2
 have hn := toB_n hb1
 have hday := hn.d
 have hnT := hn.n
 have hf := fun w' (hb : Below w.heap.size w w') h1 h2 => fees_ok x fo fc F w' (hF.below hb) h1 h2
 rw [hb2] at hf
 have hTS := fun k => tabK_s hn hFb k
 obtain ⟨days, shift, size, to, tc, T, lo, lc, L⟩ := x
 dsimp only [Tr.d] at hday hnT
 dsimp only at hFl
 simp only [List.length_map] at hnT
 have hnd : ∃ nd : Nat, days = nd := ⟨days.toNat, by omega⟩
 obtain ⟨nd, rfl⟩ := hnd
 have hmS : (Tr.d ⟨(nd : Int), shift, size, to, tc, T, lo, lc, L⟩).T.length = T.length := List.length_map ..
 have hf2 := fun w' hb => hf w' hb (by omega) (show 1 ≤ T.length by omega)
 obtain ⟨_, fa, rfl, _⟩ := hF.ptr (by omega)
 obtain ⟨_, ta, rfl, _⟩ := h.t.ptr (by show 1 ≤ T.length; omega)
 dsimp only
 rw [Int.toNat_natCast]
 refine calls_fam2V env mixed Try.func28 has28 Try.ntmps28 [.agg #[iv nd, iv shift, iv size, .slice (some ta) T.length tc, .slice lo L.length lc], .slice (some fa) F.length fc] (by simp) ?_
 have hz0 : ∀ xs, xs ∈ (tabK (Tr.d ⟨(nd : Int), shift, size, some ta, tc, T, lo, lc, L⟩) F 0) → xs = List.replicate (nd + 1) (0 : Int) := fun xs hxs => by
  rw [tabK] at hxs
  exact List.eq_of_mem_replicate hxs
 have hC0l : ((tabK (Tr.d ⟨(nd : Int), shift, size, some ta, tc, T, lo, lc, L⟩) F 0)).length = T.length := by rw [tabK, List.length_replicate]; exact hmS
 refine VC.cutD env mixed 3 1 (fun y : TbG => [(1, .v (.slice (some fa) F.length fc)), (2, .ptr 0 0), (5, .v y.v)]) (fun _ => [(0, .cells [.v (iv nd), .v (iv shift), .v (iv size), .v (.slice (some ta) T.length tc), .v (.slice lo L.length lc)] 35)]) (fun y w2 => Below w.heap.size w w2 ∧ TbIn w.heap.size (nd + 1) y (tabK (Tr.d ⟨(nd : Int), shift, size, some ta, tc, T, lo, lc, L⟩) F 0) w2) (fun y => y.D.length = T.length) (fun _ _ => ⟨rfl, rfl⟩) ?_ ?_
 · skip
   repeat'
    conv => whnf
    first
     | refine zA ?_ | refine zB ?_ | refine zC ?_ | refine zD ?_ | refine zE ?_ | refine zF ?_ | refine zG ?_ | refine zH ?_ | refine zJ ?_ | refine zI ?_ | refine splT ?_ | refine splF ?_ | refine splNot ?_
     | ((first | refine splIn ?_ ?_ | refine splD ?_ ?_ | refine splE ?_ ?_ | refine splNE ?_ ?_) <;> intro hc <;> first | (exfalso; omega) | (exfalso; dsimp only at hc; omega) | skip)
     | ((with_reducible show CallEv _ _ 56 _ _ _ _ _); refine callE (k := 56) (fun β w' hbw => hv w' hbw) ?_)
     | ((with_reducible show CallEv _ _ 65 _ _ _ _ _); refine callE (k := 65) (fun β w' hbw => hf2 w' hbw) ?_)
   all_goals first | (exfalso; omega) | skip
   refine loopD 3 (fun D : List (Nat × Nat) => [(1, .v (.slice (some fa) F.length fc)), (2, .ptr 0 0), (5, oSV 1 2 D), (20, .v (iv T.length)), (21, .v (iv D.length))]) (fun D => (0, .cells [.v (iv nd), .v (iv shift), .v (iv size), .v (.slice (some ta) T.length tc), .v (.slice lo L.length lc)] 35) :: oM 1 2 1 (fun p : Nat × Nat => [Value.slice (some ⟨p.1, 0, none⟩) (nd + 1) p.2]) 43 D) (fun (D : List (Nat × Nat)) w' => Below w.heap.size w w' ∧ ∀ p ∈ D, w.heap.size ≤ p.1 ∧ w'.ownsRow 0 3 1 (.slice (some ⟨p.1, 0, none⟩) (nd + 1) p.2) (nd + 1) ((List.replicate (nd + 1) (0 : Int)).flatMap iF)) (fun D => D.length ≤ T.length ∧ (D.map Prod.fst).Nodup) (fun D => T.length - D.length)
    (Dis.ent (x := []) ⟨Nat.zero_le _, List.nodup_nil⟩ (Ent.weak rfl ⟨rfl, rfl, rfl, rfl, rfl, trivial⟩ ⟨rfl, trivial⟩ (fun w' h => ⟨h, fun p hp => by cases hp⟩))) (fun D _ => by cases D <;> exact ⟨rfl, rfl⟩) ?_
   intro D ⟨hk, hnd⟩
   rcases Nat.lt_or_ge D.length T.length with hkl | hkl
   · have hcell : ∀ q ∈ D, ∀ w', (fun (D : List (Nat × Nat)) w' => Below w.heap.size w w' ∧ ∀ p ∈ D, w.heap.size ≤ p.1 ∧ w'.ownsRow 0 3 1 (.slice (some ⟨p.1, 0, none⟩) (nd + 1) p.2) (nd + 1) ((List.replicate (nd + 1) (0 : Int)).flatMap iF)) D w' → ∃ cs ty fr, w'.heap[q.1]? = some (.cells cs ty fr) := fun q hq w' hw' => by
      obtain ⟨cur, hc⟩ := own_heap (hw'.2 q hq).2
      exact ⟨cur, _, _, hc⟩
     have hnew : ∀ p : Nat × Nat, (∀ q ∈ D, p.1 ≠ q.1) → ((D ++ [p]).map Prod.fst).Nodup := fun p hp => by
      rw [List.map_append, List.nodup_append]
      refine ⟨hnd, by simp, fun a ha b hb e => ?_⟩
      obtain ⟨r, hr, rfl⟩ := List.mem_map.1 ha
      simp only [List.map_cons, List.map_nil, List.mem_singleton] at hb
      exact hp r hr (e.trans hb).symm
     have hh : ∀ (p : Nat × Nat) w', w.heap.size ≤ p.1 → (fun (D : List (Nat × Nat)) w' => Below w.heap.size w w' ∧ ∀ p ∈ D, w.heap.size ≤ p.1 ∧ w'.ownsRow 0 3 1 (.slice (some ⟨p.1, 0, none⟩) (nd + 1) p.2) (nd + 1) ((List.replicate (nd + 1) (0 : Int)).flatMap iF)) D w' → w'.ownsRow 0 3 1 (.slice (some ⟨p.1, 0, none⟩) (nd + 1) p.2) (nd + 1) ((List.replicate (nd + 1) (0 : Int)).flatMap iF) → (fun (D : List (Nat × Nat)) w' => Below w.heap.size w w' ∧ ∀ p ∈ D, w.heap.size ≤ p.1 ∧ w'.ownsRow 0 3 1 (.slice (some ⟨p.1, 0, none⟩) (nd + 1) p.2) (nd + 1) ((List.replicate (nd + 1) (0 : Int)).flatMap iF)) (D ++ [p]) w' := fun p w' hge hw' ho => ⟨hw'.1, fun r hr => by
      rcases List.mem_append.1 hr with hr | hr
      · exact hw'.2 r hr
      · rw [List.mem_singleton] at hr; subst hr; exact ⟨hge, ho⟩⟩
     have hl2 : ∀ p : Nat × Nat, (D ++ [p]).length = D.length + 1 := fun p => by simp
     generalize hDn : D.length = n at *
     cases D with
     | nil =>
      repeat'
       conv => whnf
       first
        | refine zA ?_ | refine zB ?_ | refine zC ?_ | refine zD ?_ | refine zE ?_ | refine zF ?_ | refine zG ?_ | refine zH ?_ | refine zJ ?_ | refine zI ?_ | refine splT ?_ | refine splF ?_ | refine splNot ?_
        | ((first | refine splIn ?_ ?_ | refine splD ?_ ?_ | refine splE ?_ ?_ | refine splNE ?_ ?_) <;> intro hc <;> first | (exfalso; omega) | (exfalso; dsimp only at hc; omega) | skip)
        | refine mkO env 3 (nd + 1) ((List.replicate (nd + 1) (0 : Int)).flatMap iF) rfl rfl rfl (by decide) rfl (by omega) (by decide) (zr_flat _) rfl ?_
        | refine appG env 5 1 1 [.os 3 4 (nd + 1)] 43 0 [] [] rfl rfl rfl rfl rfl (by decide) rfl rfl rfl (fun _ => Nat.le_refl _) (by omega) (by decide) rfl (.inl ⟨rfl, rfl, rfl, rfl⟩) rfl ?_
      all_goals first | (exfalso; omega) | skip
      refine Dis.mk5 (w0 := w) (rho [(1, 6), (2, 7)]) [3] (by exact trivial) (fun i hi => by rw [List.mem_singleton] at hi; subst hi; exact ⟨_, rfl, rfl⟩) (fun w' h => h.1) (fun β w1 hok hw1 hge hne hij => ⟨[(β 3, β 4)], ⟨⟨by have := hl2 (0, 0); simp only [List.nil_append, List.length_singleton] at this ⊢; omega, by simp⟩, by have := hl2 (0, 0); simp only [List.nil_append, List.length_singleton] at this ⊢; omega⟩, ⟨⟨_, rfl, rfl⟩, ⟨_, rfl, rfl⟩, ⟨_, rfl, rfl⟩, ⟨_, rfl, rfl⟩, ⟨_, rfl, by rw [← hDn]; rfl⟩, trivial⟩,
       ⟨⟨rfl, _, rfl, fun _ => rfl, fun w2 y hy => hy⟩, ⟨rfl, _, rfl, fun _ => rfl, fun w2 y hy => hy⟩, trivial⟩, rfl, fun w2 hw2 hLo => hh (β 3, β 4) w2 (hge 3 _ rfl rfl) hw2 (hLo 3 (by simp) _ rfl)⟩)
     | cons a D =>
      simp only [List.length_cons] at hDn
      repeat'
       conv => whnf
       first
        | refine zA ?_ | refine zB ?_ | refine zC ?_ | refine zD ?_ | refine zE ?_ | refine zF ?_ | refine zG ?_ | refine zH ?_ | refine zJ ?_ | refine zI ?_ | refine splT ?_ | refine splF ?_ | refine splNot ?_
        | ((first | refine splIn ?_ ?_ | refine splD ?_ ?_ | refine splE ?_ ?_ | refine splNE ?_ ?_) <;> intro hc <;> first | (exfalso; omega) | (exfalso; dsimp only at hc; omega) | skip)
        | refine mkO env 3 (nd + 1) ((List.replicate (nd + 1) (0 : Int)).flatMap iF) rfl rfl rfl (by decide) rfl (by omega) (by decide) (zr_flat _) rfl ?_
        | refine appG env 5 1 1 [.os 3 4 (nd + 1)] 43 (D.length + 1) ((a :: D).flatMap (fun p : Nat × Nat => [Value.slice (some ⟨p.1, 0, none⟩) (nd + 1) p.2])) [1] rfl rfl rfl rfl rfl (by decide) rfl rfl rfl (fun h => by cases h) (by omega) (by show (D.length + 1 + 1) * 24 ≤ 140737488355328; omega) rfl (.inr ⟨1, 2, rfl, rfl, rfl, (by show 1 < 6; decide)⟩) rfl ?_
      all_goals first | (exfalso; omega) | skip
      have hl3 : ∀ p : Nat × Nat, (a :: D ++ [p]).length = D.length + 1 + 1 := fun y => by rw [hl2]; omega
      refine Dis.mk5 (w0 := w) (rho [(1, 6), (2, 7)]) [3] (by exact trivial) (fun i hi => by rw [List.mem_singleton] at hi; subst hi; exact ⟨_, rfl, rfl⟩) (fun w' h => h.1) (fun β w1 hok hw1 hge hne hij => ⟨a :: D ++ [(β 3, β 4)], ⟨⟨by have := hl3 (β 3, β 4); omega, hnew (β 3, β 4) fun q hq => hne 3 _ q.1 rfl rfl (fun w' hw' => hcell q hq w' hw')⟩, by have := hl3 (β 3, β 4); omega⟩, ⟨⟨_, rfl, rfl⟩, ⟨_, rfl, rfl⟩, ⟨_, rfl, by simp [oSV]; rfl⟩, ⟨_, rfl, rfl⟩, ⟨_, rfl, by rw [hl3 (β 3, β 4), ← hDn]; rfl⟩, trivial⟩,
       ⟨⟨rfl, _, rfl, fun _ => rfl, fun w2 y hy => hy⟩, by simp [oM]; exact ⟨⟨rfl, _, rfl, fun _ => rfl, fun w2 y hy => by simp [Blk.ok] at hy ⊢; exact hy⟩, trivial⟩⟩, rfl, fun w2 hw2 hLo => hh (β 3, β 4) w2 (hge 3 _ rfl rfl) hw2 (hLo 3 (by simp) _ rfl)⟩)
   · have hDn : D.length = T.length := by omega
     cases D with
     | nil => simp at hDn; omega
     | cons a D =>
      repeat'
       conv => whnf
       first
        | refine zA ?_ | refine zB ?_ | refine zC ?_ | refine zD ?_ | refine zE ?_ | refine zF ?_ | refine zG ?_ | refine zH ?_ | refine zJ ?_ | refine zI ?_ | refine splT ?_ | refine splF ?_ | refine splNot ?_
        | ((first | refine splIn ?_ ?_ | refine splD ?_ ?_ | refine splE ?_ ?_ | refine splNE ?_ ?_) <;> intro hc <;> first | (exfalso; omega) | (exfalso; dsimp only at hc; omega) | skip)
      all_goals first | (exfalso; omega) | skip
      refine ⟨rfl, Dis.mk5 (w0 := w) id [1] (by exact trivial) (fun i hi => by rw [List.mem_singleton] at hi; subst hi; exact ⟨_, rfl, rfl⟩) (fun w' h => h.1) (fun β w1 hok hw1 hge hne hij => ⟨⟨β 1, β 2, a :: D⟩, hDn, ⟨⟨_, rfl, rfl⟩, ⟨_, rfl, rfl⟩, ⟨_, rfl, rfl⟩, trivial⟩, ⟨⟨rfl, _, rfl, fun _ => rfl, fun w2 y hy => hy⟩, trivial⟩, rfl, fun w2 hw2 hLo => ⟨hw2.1, ?_⟩⟩)⟩
      have ho := hLo 1 (by simp) _ rfl
      simp only [Blk.ok, fm_one] at ho
      refine ⟨by rw [hC0l]; exact hDn.symm, fun r hr => by rw [hz0 r hr, List.length_replicate], ho, fun i p xs h1 h2 => ?_, hnd, fun p hp => ⟨(hw2.2 p hp).1, fun e => hne 1 _ p.1 rfl rfl (fun w' hw' => ?_) e.symm⟩, hge 1 _ rfl rfl⟩
      · rw [hz0 xs (List.mem_of_getElem? h2)]
        exact (hw2.2 p (List.mem_of_getElem? h1)).2
      · obtain ⟨cur, hc⟩ := own_heap (hw'.2 p hp).2
        exact ⟨cur, _, _, hc⟩
 · intro y hyl
   refine VC.of env mixed ?_
   repeat'
    conv => whnf
    first
     | refine zA ?_ | refine zB ?_ | refine zC ?_ | refine zD ?_ | refine zE ?_ | refine zF ?_ | refine zG ?_ | refine zH ?_ | refine zJ ?_ | refine zI ?_ | refine splT ?_ | refine splF ?_ | refine splNot ?_
     | ((first | refine splIn ?_ ?_ | refine splD ?_ ?_ | refine splE ?_ ?_ | refine splNE ?_ ?_) <;> intro hc <;> first | (exfalso; omega) | (exfalso; dsimp only at hc; omega) | skip)
   all_goals first | (exfalso; omega) | skip
   refine loopH 1 (fun k : Nat => [(1, .v (.slice (some fa) F.length fc)), (2, .ptr 0 0), (5, .v y.v), (7, .v (iv ((nd : Int) - (k : Nat))))]) (fun _ => [(0, .cells [.v (iv nd), .v (iv shift), .v (iv size), .v (.slice (some ta) T.length tc), .v (.slice lo L.length lc)] 35)]) (fun (k : Nat) w2 => Below w.heap.size w w2 ∧ TbIn w.heap.size (nd + 1) y (tabK (Tr.d ⟨(nd : Int), shift, size, some ta, tc, T, lo, lc, L⟩) F k) w2) (fun k => k ≤ nd + 1) (fun k => nd + 1 - k) 0 (Nat.zero_le _) ⟨rfl, rfl, rfl, by rw [Int.natCast_zero, Int.sub_zero]; rfl, trivial⟩ ⟨rfl, trivial⟩ (fun w2 h => h) (fun _ _ => ⟨rfl, rfl⟩) ?_
   intro k hk
   have hKs := hTS k
   rw [hmS] at hKs
   rcases Nat.lt_or_ge k (nd + 1) with hkl | hkl
   · obtain ⟨d, hd⟩ : ∃ d : Nat, (nd : Int) - (k : Nat) = d := ⟨nd - k, by omega⟩
     have hK1 : tabK (Tr.d ⟨(nd : Int), shift, size, some ta, tc, T, lo, lc, L⟩) F (k + 1) = tabA (Tr.d ⟨(nd : Int), shift, size, some ta, tc, T, lo, lc, L⟩) F d T.length (tabK (Tr.d ⟨(nd : Int), shift, size, some ta, tc, T, lo, lc, L⟩) F k) := by
      show tabA (Tr.d ⟨(nd : Int), shift, size, some ta, tc, T, lo, lc, L⟩) F ((nd : Int).toNat - k) (Tr.d ⟨(nd : Int), shift, size, some ta, tc, T, lo, lc, L⟩).T.length (tabK (Tr.d ⟨(nd : Int), shift, size, some ta, tc, T, lo, lc, L⟩) F k) = _
      rw [hmS, Int.toNat_natCast, show nd - k = d from by omega]
     have hA := fun a (ha : a ≤ T.length) => tabA_s hn hFb (d := d) (M := 90000000 * (k : Int)) (by omega) (hTS k) a (by rw [hmS]; exact ha)
     rw [hd]
     repeat'
      conv => whnf
      first
       | refine zA ?_ | refine zB ?_ | refine zC ?_ | refine zD ?_ | refine zE ?_ | refine zF ?_ | refine zG ?_ | refine zH ?_ | refine zJ ?_ | refine zI ?_ | refine splT ?_ | refine splF ?_ | refine splNot ?_
       | ((first | refine splIn ?_ ?_ | refine splD ?_ ?_ | refine splE ?_ ?_ | refine splNE ?_ ?_) <;> intro hc <;> first | (exfalso; omega) | (exfalso; dsimp only at hc; omega) | skip)
     all_goals first | (exfalso; omega) | skip
     refine loopH 1 (fun a : Nat => [(1, .v (.slice (some fa) F.length fc)), (2, .ptr 0 0), (5, .v y.v), (7, .v (iv d)), (39, .v (iv T.length)), (40, .v (iv a))]) (fun _ => [(0, .cells [.v (iv nd), .v (iv shift), .v (iv size), .v (.slice (some ta) T.length tc), .v (.slice lo L.length lc)] 35)]) (fun (a : Nat) w2 => Below w.heap.size w w2 ∧ TbIn w.heap.size (nd + 1) y (tabA (Tr.d ⟨(nd : Int), shift, size, some ta, tc, T, lo, lc, L⟩) F d a (tabK (Tr.d ⟨(nd : Int), shift, size, some ta, tc, T, lo, lc, L⟩) F k)) w2) (fun a => a ≤ T.length) (fun a => T.length - a) 0 (Nat.zero_le _) ⟨rfl, rfl, rfl, rfl, rfl, rfl, trivial⟩ ⟨rfl, trivial⟩ (fun w2 h => h) (fun _ _ => ⟨rfl, rfl⟩) ?_
     intro a ha
     rcases Nat.lt_or_ge a T.length with hal | hal
     · have hAs := hA a ha
       rw [hmS] at hAs
       have hA1 : tabA (Tr.d ⟨(nd : Int), shift, size, some ta, tc, T, lo, lc, L⟩) F d (a + 1) (tabK (Tr.d ⟨(nd : Int), shift, size, some ta, tc, T, lo, lc, L⟩) F k) = setT (tabA (Tr.d ⟨(nd : Int), shift, size, some ta, tc, T, lo, lc, L⟩) F d a (tabK (Tr.d ⟨(nd : Int), shift, size, some ta, tc, T, lo, lc, L⟩) F k)) a d (asO (Tr.d ⟨(nd : Int), shift, size, some ta, tc, T, lo, lc, L⟩) F (tabA (Tr.d ⟨(nd : Int), shift, size, some ta, tc, T, lo, lc, L⟩) F d a (tabK (Tr.d ⟨(nd : Int), shift, size, some ta, tc, T, lo, lc, L⟩) F k)) a d) := rfl
       obtain ⟨CC, hCC⟩ : ∃ CC, tabA (Tr.d ⟨(nd : Int), shift, size, some ta, tc, T, lo, lc, L⟩) F d a (tabK (Tr.d ⟨(nd : Int), shift, size, some ta, tc, T, lo, lc, L⟩) F k) = CC := ⟨_, rfl⟩
       rw [hCC] at hAs hA1
       obtain ⟨p, hp⟩ : ∃ p, y.D[a]? = some p := ⟨_, List.getElem?_eq_getElem (by omega)⟩
       obtain ⟨xs, hxs⟩ : ∃ xs, CC[a]? = some xs := ⟨_, List.getElem?_eq_getElem (by rw [hAs.l]; exact hal)⟩
       have h66 := fun w' (hw' : Below w.heap.size w w' ∧ TbIn w.heap.size (nd + 1) y CC w') => by
        have := asked_ok ⟨(nd : Int), shift, size, some ta, tc, T, lo, lc, L⟩ (some fa) fc F (some ⟨y.o, 0, none⟩) y.c (y.rw CC) (90000000 * (k : Int) + 10000000 * (a : Int)) a d w' (h.below hw'.1) hn (hF.below hw'.1) hFb hFl (by rw [TbG.rw_len hw'.2.l]; exact hw'.2.out) hw'.2.row (by rw [TbG.rw_len hw'.2.l]; exact hyl) (fun r hr => by obtain ⟨i, q, zs, h1, h2, rfl⟩ := TbG.rw_mem hr; exact hw'.2.n zs (List.mem_of_getElem? h2)) (by rw [TbG.rw_xs hw'.2.l]; exact hAs.b) (by omega) hal (by show d ≤ (nd : Int).toNat; rw [Int.toNat_natCast]; omega)
        rw [TbG.rw_len hw'.2.l, TbG.rw_xs hw'.2.l] at this
        exact this
       obtain ⟨v, hv⟩ : ∃ v, asO (Tr.d ⟨(nd : Int), shift, size, some ta, tc, T, lo, lc, L⟩) F CC a d = v := ⟨_, rfl⟩
       rw [hv] at h66 hA1
       have hA2 : setT CC a d v = CC.set a (xs.set d v) := by unfold setT; rw [hxs]; rfl
       rw [hA2] at hA1
       have er : ∀ w2, Below w.heap.size w w2 ∧ TbIn w.heap.size (nd + 1) y CC w2 → ∀ q z, [Value.slice (some ⟨p.1, 0, none⟩) (nd + 1) p.2][q]? = some z → w2.cell? (((⟨y.o, 0, none⟩ : Addr).add ((a : Int).toNat * 1)).add q) = some z := fun w2 hw2 => by
        have := rd_ati hw2.2.out (TbG.rw_at hp hxs)
        rw [show Iw.cs ⟨some ⟨p.1, 0, none⟩, p.2, xs⟩ = [Value.slice (some ⟨p.1, 0, none⟩) (nd + 1) p.2] from by show [Value.slice _ xs.length _] = _; rw [hw2.2.n xs (List.mem_of_getElem? hxs)]] at this
        exact this
       have hspt : ∀ q, ((⟨p.1, 0, none⟩ : Addr).add q).spot = none := fun q => by rw [own_add]
       have hax : (⟨p.1, 0, none⟩ : Addr).add ((d : Int).toNat * 1) = ⟨p.1, d, none⟩ := by rw [own_add, Int.toNat_natCast, Nat.mul_one, Nat.zero_add]
       have hset : ∀ w2, Below w.heap.size w w2 ∧ TbIn w.heap.size (nd + 1) y CC w2 → Below w.heap.size w (w2.setCell ((⟨p.1, 0, none⟩ : Addr).add ((d : Int).toNat * 1)) (iv v)) ∧ TbIn w.heap.size (nd + 1) y (CC.set a (xs.set d v)) (w2.setCell ((⟨p.1, 0, none⟩ : Addr).add ((d : Int).toNat * 1)) (iv v)) := fun w2 hw2 => by
        rw [hax]
        exact ⟨below_set hw2.1 (hw2.2.a p (List.mem_of_getElem? hp)).1, hw2.2.set hp hxs (by omega)⟩
       have hat : ∀ w2, Below w.heap.size w w2 ∧ TbIn w.heap.size (nd + 1) y CC w2 → (∃ cs ty fr, w2.heap[((⟨p.1, 0, none⟩ : Addr).add ((d : Int).toNat * 1)).block]? = some (.cells cs ty fr) ∧ ((⟨p.1, 0, none⟩ : Addr).add ((d : Int).toNat * 1)).off < cs.size) ∧ w2.frozen? ((⟨p.1, 0, none⟩ : Addr).add ((d : Int).toNat * 1)) = false := fun w2 hw2 => by
        rw [hax]
        exact hw2.2.at hp hxs (show d < nd + 1 by omega)
       rw [hCC]
       repeat'
        conv => whnf
        first
         | refine zA ?_ | refine zB ?_ | refine zC ?_ | refine zD ?_ | refine zE ?_ | refine zF ?_ | refine zG ?_ | refine zH ?_ | refine zJ ?_ | refine zI ?_ | refine splT ?_ | refine splF ?_ | refine splNot ?_
         | ((first | refine splIn ?_ ?_ | refine splD ?_ ?_ | refine splE ?_ ?_ | refine splNE ?_ ?_) <;> intro hc <;> first | (exfalso; omega) | (exfalso; dsimp only at hc; omega) | skip)
         | refine Exists.intro (α := List Value) [.slice (some ⟨p.1, 0, none⟩) (nd + 1) p.2] ⟨⟨rfl, fun w' hw' => er w' hw'⟩, ?_⟩
         | ((with_reducible show CallEv _ _ 66 _ _ _ _ _); refine callE (k := 66) (fun β w' hbw => h66 w' hbw) ?_)
         | refine stL (stF env rfl rfl rfl rfl rfl rfl (hspt _) (fun w2 => Below w.heap.size w w2 ∧ TbIn w.heap.size (nd + 1) y (CC.set a (xs.set d v)) w2) (fun w' hw' => hat w' hw') (fun w' hw' => hset w' hw') ?_)
       all_goals first | (exfalso; omega) | exact ⟨a + 1, by omega, by omega, Ent.weak rfl ⟨rfl, rfl, rfl, rfl, rfl, rfl, trivial⟩ ⟨rfl, trivial⟩ fun w2 h => ⟨h.1, by rw [hA1]; exact h.2⟩⟩
     · obtain rfl : a = T.length := by omega
       rw [← hK1]
       repeat'
        conv => whnf
        first
         | refine zA ?_ | refine zB ?_ | refine zC ?_ | refine zD ?_ | refine zE ?_ | refine zF ?_ | refine zG ?_ | refine zH ?_ | refine zJ ?_ | refine zI ?_ | refine splT ?_ | refine splF ?_ | refine splNot ?_
         | ((first | refine splIn ?_ ?_ | refine splD ?_ ?_ | refine splE ?_ ?_ | refine splNE ?_ ?_) <;> intro hc <;> first | (exfalso; omega) | (exfalso; dsimp only at hc; omega) | skip)
       all_goals first | (exfalso; omega) | exact ⟨k + 1, by omega, by omega, Ent.weak rfl ⟨rfl, rfl, rfl, by rw [show (nd : Int) - ((k + 1 : Nat) : Int) = (d : Int) - 1 from by omega]; rfl, trivial⟩ ⟨rfl, trivial⟩ fun w2 h => h⟩
   · obtain rfl : k = nd + 1 := by omega
     have hT : tabO (Tr.d ⟨(nd : Int), shift, size, some ta, tc, T, lo, lc, L⟩) F = tabK (Tr.d ⟨(nd : Int), shift, size, some ta, tc, T, lo, lc, L⟩) F (nd + 1) := rfl
     rw [hT]
     obtain ⟨CC, hCC⟩ : ∃ CC, tabK (Tr.d ⟨(nd : Int), shift, size, some ta, tc, T, lo, lc, L⟩) F (nd + 1) = CC := ⟨_, rfl⟩
     rw [hCC] at hKs
     rw [hCC]
     obtain ⟨p, hp⟩ : ∃ p, y.D[0]? = some p := ⟨_, List.getElem?_eq_getElem (by omega)⟩
     obtain ⟨xs, hxs⟩ : ∃ xs, CC[0]? = some xs := ⟨_, List.getElem?_eq_getElem (by rw [hKs.l]; omega)⟩
     have hxn := hKs.n xs (List.mem_of_getElem? hxs)
     obtain ⟨z, hz⟩ : ∃ z, xs[0]? = some z := ⟨_, List.getElem?_eq_getElem (by rw [hxn]; omega)⟩
     have hzb := hKs.b xs (List.mem_of_getElem? hxs) z (List.mem_of_getElem? hz)
     have hbd : bdO F CC = smO F z := by unfold bdO tbO; rw [hxs, Option.getD_some, hz]; rfl
     rw [hbd]
     have h67 := fun w' (hw' : Below w.heap.size w w' ∧ TbIn w.heap.size (nd + 1) y CC w') => by
      have := bounded_ok (some fa) fc F (some ⟨y.o, 0, none⟩) y.c (y.rw CC) ⟨some ⟨p.1, 0, none⟩, p.2, xs⟩ z w' (hF.below hw'.1) (by omega) hFb (by rw [TbG.rw_len hw'.2.l]; exact hw'.2.out) (TbG.rw_at hp hxs) (hw'.2.row _ (List.mem_of_getElem? (TbG.rw_at hp hxs))) hz (by omega) (by rw [TbG.rw_len hw'.2.l]; omega) (by (show xs.length ≤ 1000000); rw [hxn]; show (nd : Int).toNat + 1 ≤ 1000000; omega)
      rw [TbG.rw_len hw'.2.l] at this
      exact this
     repeat'
      conv => whnf
      first
       | refine zA ?_ | refine zB ?_ | refine zC ?_ | refine zD ?_ | refine zE ?_ | refine zF ?_ | refine zG ?_ | refine zH ?_ | refine zJ ?_ | refine zI ?_ | refine splT ?_ | refine splF ?_ | refine splNot ?_
       | ((first | refine splIn ?_ ?_ | refine splD ?_ ?_ | refine splE ?_ ?_ | refine splNE ?_ ?_) <;> intro hc <;> first | (exfalso; omega) | (exfalso; dsimp only at hc; omega) | skip)
       | ((with_reducible show CallEv _ _ 67 _ _ _ _ _); refine callE (k := 67) (fun β w' hbw => h67 w' hbw) ?_)
     all_goals first | (exfalso; omega) | exact ⟨fun w' h => h.1, fun β w' hB hB2 hblk => ⟨y, rfl, hB2, hB.2.st⟩⟩
end Go.Proofs.Ythfabodamhdhaaa
namespace Go.Proofs.Ythfabodamhdhaaa
open Go Tx Go.RowKit
set_option linter.unusedSimpArgs false
set_option linter.unusedVariables false
def thL : List (List (Int × Int)) := [[(0, 0), (9, 30), (9, 30), (9, 30)], [(9, 30), (0, 0), (9, 30), (9, 30)], [(9, 30), (9, 30), (0, 0), (9, 30)], [(9, 30), (9, 30), (9, 30), (0, 0)]]
def thT : List Tw := [⟨[], 0, 0, 0, 0, 0, [], 0, 0⟩, ⟨[(0, 4)], 1, 3, 100, 60, 10, [], 0, 0⟩, ⟨[(2, 9)], 2, 2, 150, 50, 20, [(3, 3)], 1, 400⟩, ⟨[(0, 9)], 1, 10, 900, 40, 0, [], 0, 0⟩]
def thD : To := ⟨10, 8, 50, thT, thL⟩
theorem cells_st {α : Type} {sz : Nat} {f : α → List Value} (hf : ∀ x, (f x).length = sz) {bs : List α} {w : World} {m b : Nat} {ty : TypeId} {c n : Nat} (hn : n = bs.length) (hb : m ≤ b) (h : w.heap[b]? = some (.cells (bs.flatMap f).toArray ty (0, 0))) :
 St m (Rd sz f (.slice (some ⟨b, 0, none⟩) n c) bs) w := fun w2 k => Rd.of_cells hf hn (by rw [k.same b hb (Array.getElem?_eq_some_iff.1 h).1]; exact h)
set_option maxHeartbeats 4000000 in
set_option maxRecDepth 100000 in
theorem Three_ok (w : World) : Calls Try.prog 49 #[] w fun e w' => ∃ y : Tr, e = .returned y.v ∧ Below w.heap.size w w' ∧ St w.heap.size (fun w2 => TrIn y w2 ∧ y.d = thD) w' := by
 refine calls_famV env mixed Try.func49 has49 Try.ntmps49 [] (by simp) ?_
 refine VC.of env mixed ?_
 repeat'
  conv => whnf
  first
   | refine zA ?_ | refine zB ?_ | refine zC ?_ | refine zD ?_ | refine zE ?_ | refine zF ?_ | refine zG ?_ | refine zH ?_ | refine zJ ?_ | refine zI ?_ | refine splT ?_ | refine splF ?_ | refine splNot ?_
   | ((first | refine splIn ?_ ?_ | refine splD ?_ ?_ | refine splE ?_ ?_ | refine splNE ?_ ?_) <;> intro hc <;> first | (exfalso; omega) | (exfalso; dsimp only at hc; omega) | skip)
 refine loopD 9 (fun D : List Lr => [(0, .ptr 0 0), (1, .ptr 6 0), (2, .v (iv D.length))]) (fun D => (0, .cells [.v (iv 0), .v (iv 0), .v (iv 0), .v (.slice none 0 0), .v (.slice none 0 0)] 35) :: (1, .cells [.v (iv 0), .v (iv 4)] 55) :: (2, .cells [.v (iv 2), .v (iv 9)] 55) :: (3, .cells [.v (iv 3), .v (iv 3)] 55) :: (4, .cells [.v (iv 0), .v (iv 9)] 55) :: (5, .cells [.v (.slice none 0 0), .v (iv 0), .v (iv 0), .v (iv 0), .v (iv 0), .v (iv 0), .v (.slice none 0 0), .v (iv 0), .v (iv 0), .sl 1 0 1 1, .v (iv 1), .v (iv 3), .v (iv 100), .v (iv 60), .v (iv 10), .v (.slice none 0 0), .v (iv 0), .v (iv 0), .sl 2 0 1 1, .v (iv 2), .v (iv 2), .v (iv 150), .v (iv 50), .v (iv 20), .sl 3 0 1 1, .v (iv 1), .v (iv 400), .sl 4 0 1 1, .v (iv 1), .v (iv 10), .v (iv 900), .v (iv 40), .v (iv 0), .v (.slice none 0 0), .v (iv 0), .v (iv 0)] 57) :: (6, .cells [.v (iv 10), .v (iv 8), .v (iv 50), .sl 5 0 4 4, oSV 7 8 D] 35) :: oM 7 8 1 Lr.cs 61 D) (fun (D : List Lr) w' => Below w.heap.size w w' ∧ ∀ r ∈ D, St w.heap.size (Rd 2 prF (.slice r.o r.L.length r.c) r.L) w') (fun D => D.length ≤ 4 ∧ D.map Lr.L = thL.take D.length) (fun D => 4 - D.length)
  (Dis.ent (x := []) ⟨Nat.zero_le _, rfl⟩ (Ent.weak rfl ⟨rfl, rfl, rfl, trivial⟩ ⟨rfl, rfl, rfl, rfl, rfl, rfl, rfl, trivial⟩ (fun w' h => ⟨h, fun p hp => by cases hp⟩))) (fun D _ => by cases D <;> exact ⟨rfl, rfl⟩) ?_
 intro D ⟨hk, hmap⟩
 rcases D with _ | ⟨a, _ | ⟨b, _ | ⟨c, _ | ⟨d, D⟩⟩⟩⟩
 · rw [show ((([] : List Lr).length : Nat) : Int) = 0 from rfl]
   have hm : ∀ x : Lr, x.L = [(0, 0), (9, 30), (9, 30), (9, 30)] → ([] ++ [x]).map Lr.L = thL.take 1 := fun x hx => by
    rw [List.map_append, hmap]
    show thL.take 0 ++ [x.L] = _
    rw [hx]; rfl
   repeat'
    conv => whnf
    first
     | refine zA ?_ | refine zB ?_ | refine zC ?_ | refine zD ?_ | refine zE ?_ | refine zF ?_ | refine zG ?_ | refine zH ?_ | refine zJ ?_ | refine zI ?_ | refine splT ?_ | refine splF ?_ | refine splNot ?_
     | ((first | refine splIn ?_ ?_ | refine splD ?_ ?_ | refine splE ?_ ?_ | refine splNE ?_ ?_) <;> intro hc <;> first | (exfalso; omega) | (exfalso; dsimp only at hc; omega) | skip)
     | refine appG env 10 1 1 [.sl 9 0 4 4] 61 0 [] [] rfl rfl rfl rfl rfl (by decide) rfl rfl rfl (fun _ => Nat.le_refl _) (by omega) (by decide) rfl (.inl ⟨rfl, rfl, rfl, rfl⟩) rfl ?_
   all_goals first | (exfalso; omega) | skip
   refine Dis.mk5 (w0 := w) (rho [(7, 11), (8, 12)]) [9] (by exact trivial) (fun i hi => by rw [List.mem_singleton] at hi; subst hi; exact ⟨_, rfl, rfl⟩) (fun w' h => h.1) (fun β w1 hok hw1 hge hne hij => ⟨[⟨some ⟨β 9, 0, none⟩, 4, [(0, 0), (9, 30), (9, 30), (9, 30)]⟩], ⟨⟨by simp, hm _ rfl⟩, by (show 4 - 1 < 4 - 0); omega⟩, ⟨⟨_, rfl, rfl⟩, ⟨_, rfl, rfl⟩, ⟨_, rfl, rfl⟩, trivial⟩,
    ⟨⟨rfl, _, rfl, fun _ => rfl, fun w2 y hy => hy⟩, ⟨rfl, _, rfl, fun _ => rfl, fun w2 y hy => hy⟩, ⟨rfl, _, rfl, fun _ => rfl, fun w2 y hy => hy⟩, ⟨rfl, _, rfl, fun _ => rfl, fun w2 y hy => hy⟩, ⟨rfl, _, rfl, fun _ => rfl, fun w2 y hy => hy⟩, ⟨rfl, _, rfl, fun _ => rfl, fun w2 y hy => hy⟩, ⟨rfl, _, rfl, fun _ => rfl, fun w2 y hy => hy⟩, ⟨rfl, _, rfl, fun _ => rfl, fun w2 y hy => hy⟩, trivial⟩, rfl, fun w2 hw2 hLo => ⟨hw2.1, fun r hr => ?_⟩⟩)
   simp only [List.mem_cons, List.not_mem_nil, or_false] at hr
   rcases hr with rfl
   · exact cells_st (f := prF) (fun _ => rfl) rfl (hge 9 _ rfl rfl) (hLo 9 (by simp) _ rfl)
 · rw [show ((([a] : List Lr).length : Nat) : Int) = 1 from rfl]
   have hm : ∀ x : Lr, x.L = [(9, 30), (0, 0), (9, 30), (9, 30)] → ([a] ++ [x]).map Lr.L = thL.take 2 := fun x hx => by
    rw [List.map_append, hmap]
    show thL.take 1 ++ [x.L] = _
    rw [hx]; rfl
   repeat'
    conv => whnf
    first
     | refine zA ?_ | refine zB ?_ | refine zC ?_ | refine zD ?_ | refine zE ?_ | refine zF ?_ | refine zG ?_ | refine zH ?_ | refine zJ ?_ | refine zI ?_ | refine splT ?_ | refine splF ?_ | refine splNot ?_
     | ((first | refine splIn ?_ ?_ | refine splD ?_ ?_ | refine splE ?_ ?_ | refine splNE ?_ ?_) <;> intro hc <;> first | (exfalso; omega) | (exfalso; dsimp only at hc; omega) | skip)
     | refine appG env 10 1 1 [.sl 9 0 4 4] 61 1 (([a] : List Lr).flatMap Lr.cs) [7] rfl rfl rfl rfl rfl (by decide) rfl rfl rfl (fun h => by cases h) (by omega) (by decide) rfl (.inr ⟨7, 8, rfl, rfl, rfl, (by show 7 < 11; decide)⟩) rfl ?_
   all_goals first | (exfalso; omega) | skip
   refine Dis.mk5 (w0 := w) (rho [(7, 11), (8, 12)]) [9] (by exact trivial) (fun i hi => by rw [List.mem_singleton] at hi; subst hi; exact ⟨_, rfl, rfl⟩) (fun w' h => h.1) (fun β w1 hok hw1 hge hne hij => ⟨[a, ⟨some ⟨β 9, 0, none⟩, 4, [(9, 30), (0, 0), (9, 30), (9, 30)]⟩], ⟨⟨by simp, hm _ rfl⟩, by (show 4 - 2 < 4 - 1); omega⟩, ⟨⟨_, rfl, rfl⟩, ⟨_, rfl, rfl⟩, ⟨_, rfl, rfl⟩, trivial⟩,
    ⟨⟨rfl, _, rfl, fun _ => rfl, fun w2 y hy => hy⟩, ⟨rfl, _, rfl, fun _ => rfl, fun w2 y hy => hy⟩, ⟨rfl, _, rfl, fun _ => rfl, fun w2 y hy => hy⟩, ⟨rfl, _, rfl, fun _ => rfl, fun w2 y hy => hy⟩, ⟨rfl, _, rfl, fun _ => rfl, fun w2 y hy => hy⟩, ⟨rfl, _, rfl, fun _ => rfl, fun w2 y hy => hy⟩, ⟨rfl, _, rfl, fun _ => rfl, fun w2 y hy => hy⟩, ⟨rfl, _, rfl, fun _ => rfl, fun w2 y hy => hy⟩, trivial⟩, rfl, fun w2 hw2 hLo => ⟨hw2.1, fun r hr => ?_⟩⟩)
   simp only [List.mem_cons, List.not_mem_nil, or_false] at hr
   rcases hr with rfl | rfl
   · exact hw2.2 _ (by simp)
   · exact cells_st (f := prF) (fun _ => rfl) rfl (hge 9 _ rfl rfl) (hLo 9 (by simp) _ rfl)
 · rw [show ((([a, b] : List Lr).length : Nat) : Int) = 2 from rfl]
   have hm : ∀ x : Lr, x.L = [(9, 30), (9, 30), (0, 0), (9, 30)] → ([a, b] ++ [x]).map Lr.L = thL.take 3 := fun x hx => by
    rw [List.map_append, hmap]
    show thL.take 2 ++ [x.L] = _
    rw [hx]; rfl
   repeat'
    conv => whnf
    first
     | refine zA ?_ | refine zB ?_ | refine zC ?_ | refine zD ?_ | refine zE ?_ | refine zF ?_ | refine zG ?_ | refine zH ?_ | refine zJ ?_ | refine zI ?_ | refine splT ?_ | refine splF ?_ | refine splNot ?_
     | ((first | refine splIn ?_ ?_ | refine splD ?_ ?_ | refine splE ?_ ?_ | refine splNE ?_ ?_) <;> intro hc <;> first | (exfalso; omega) | (exfalso; dsimp only at hc; omega) | skip)
     | refine appG env 10 1 1 [.sl 9 0 4 4] 61 2 (([a, b] : List Lr).flatMap Lr.cs) [7] rfl rfl rfl rfl rfl (by decide) rfl rfl rfl (fun h => by cases h) (by omega) (by decide) rfl (.inr ⟨7, 8, rfl, rfl, rfl, (by show 7 < 11; decide)⟩) rfl ?_
   all_goals first | (exfalso; omega) | skip
   refine Dis.mk5 (w0 := w) (rho [(7, 11), (8, 12)]) [9] (by exact trivial) (fun i hi => by rw [List.mem_singleton] at hi; subst hi; exact ⟨_, rfl, rfl⟩) (fun w' h => h.1) (fun β w1 hok hw1 hge hne hij => ⟨[a, b, ⟨some ⟨β 9, 0, none⟩, 4, [(9, 30), (9, 30), (0, 0), (9, 30)]⟩], ⟨⟨by simp, hm _ rfl⟩, by (show 4 - 3 < 4 - 2); omega⟩, ⟨⟨_, rfl, rfl⟩, ⟨_, rfl, rfl⟩, ⟨_, rfl, rfl⟩, trivial⟩,
    ⟨⟨rfl, _, rfl, fun _ => rfl, fun w2 y hy => hy⟩, ⟨rfl, _, rfl, fun _ => rfl, fun w2 y hy => hy⟩, ⟨rfl, _, rfl, fun _ => rfl, fun w2 y hy => hy⟩, ⟨rfl, _, rfl, fun _ => rfl, fun w2 y hy => hy⟩, ⟨rfl, _, rfl, fun _ => rfl, fun w2 y hy => hy⟩, ⟨rfl, _, rfl, fun _ => rfl, fun w2 y hy => hy⟩, ⟨rfl, _, rfl, fun _ => rfl, fun w2 y hy => hy⟩, ⟨rfl, _, rfl, fun _ => rfl, fun w2 y hy => hy⟩, trivial⟩, rfl, fun w2 hw2 hLo => ⟨hw2.1, fun r hr => ?_⟩⟩)
   simp only [List.mem_cons, List.not_mem_nil, or_false] at hr
   rcases hr with rfl | rfl | rfl
   · exact hw2.2 _ (by simp)
   · exact hw2.2 _ (by simp)
   · exact cells_st (f := prF) (fun _ => rfl) rfl (hge 9 _ rfl rfl) (hLo 9 (by simp) _ rfl)
 · rw [show ((([a, b, c] : List Lr).length : Nat) : Int) = 3 from rfl]
   have hm : ∀ x : Lr, x.L = [(9, 30), (9, 30), (9, 30), (0, 0)] → ([a, b, c] ++ [x]).map Lr.L = thL.take 4 := fun x hx => by
    rw [List.map_append, hmap]
    show thL.take 3 ++ [x.L] = _
    rw [hx]; rfl
   repeat'
    conv => whnf
    first
     | refine zA ?_ | refine zB ?_ | refine zC ?_ | refine zD ?_ | refine zE ?_ | refine zF ?_ | refine zG ?_ | refine zH ?_ | refine zJ ?_ | refine zI ?_ | refine splT ?_ | refine splF ?_ | refine splNot ?_
     | ((first | refine splIn ?_ ?_ | refine splD ?_ ?_ | refine splE ?_ ?_ | refine splNE ?_ ?_) <;> intro hc <;> first | (exfalso; omega) | (exfalso; dsimp only at hc; omega) | skip)
     | refine appG env 10 1 1 [.sl 9 0 4 4] 61 3 (([a, b, c] : List Lr).flatMap Lr.cs) [7] rfl rfl rfl rfl rfl (by decide) rfl rfl rfl (fun h => by cases h) (by omega) (by decide) rfl (.inr ⟨7, 8, rfl, rfl, rfl, (by show 7 < 11; decide)⟩) rfl ?_
   all_goals first | (exfalso; omega) | skip
   refine Dis.mk5 (w0 := w) (rho [(7, 11), (8, 12)]) [9] (by exact trivial) (fun i hi => by rw [List.mem_singleton] at hi; subst hi; exact ⟨_, rfl, rfl⟩) (fun w' h => h.1) (fun β w1 hok hw1 hge hne hij => ⟨[a, b, c, ⟨some ⟨β 9, 0, none⟩, 4, [(9, 30), (9, 30), (9, 30), (0, 0)]⟩], ⟨⟨by simp, hm _ rfl⟩, by (show 4 - 4 < 4 - 3); omega⟩, ⟨⟨_, rfl, rfl⟩, ⟨_, rfl, rfl⟩, ⟨_, rfl, rfl⟩, trivial⟩,
    ⟨⟨rfl, _, rfl, fun _ => rfl, fun w2 y hy => hy⟩, ⟨rfl, _, rfl, fun _ => rfl, fun w2 y hy => hy⟩, ⟨rfl, _, rfl, fun _ => rfl, fun w2 y hy => hy⟩, ⟨rfl, _, rfl, fun _ => rfl, fun w2 y hy => hy⟩, ⟨rfl, _, rfl, fun _ => rfl, fun w2 y hy => hy⟩, ⟨rfl, _, rfl, fun _ => rfl, fun w2 y hy => hy⟩, ⟨rfl, _, rfl, fun _ => rfl, fun w2 y hy => hy⟩, ⟨rfl, _, rfl, fun _ => rfl, fun w2 y hy => hy⟩, trivial⟩, rfl, fun w2 hw2 hLo => ⟨hw2.1, fun r hr => ?_⟩⟩)
   simp only [List.mem_cons, List.not_mem_nil, or_false] at hr
   rcases hr with rfl | rfl | rfl | rfl
   · exact hw2.2 _ (by simp)
   · exact hw2.2 _ (by simp)
   · exact hw2.2 _ (by simp)
   · exact cells_st (f := prF) (fun _ => rfl) rfl (hge 9 _ rfl rfl) (hLo 9 (by simp) _ rfl)
 · obtain rfl : D = [] := List.length_eq_zero_iff.1 (by simp only [List.length_cons] at hk; omega)
   rw [show ((([a, b, c, d] : List Lr).length : Nat) : Int) = 4 from rfl]
   simp only [List.map_cons, List.map_nil, List.length_cons, List.length_nil, thL, List.take, List.cons.injEq, and_true] at hmap
   obtain ⟨ha, hb, hc, hd⟩ := hmap
   repeat'
    conv => whnf
    first
     | refine zA ?_ | refine zB ?_ | refine zC ?_ | refine zD ?_ | refine zE ?_ | refine zF ?_ | refine zG ?_ | refine zH ?_ | refine zJ ?_ | refine zI ?_ | refine splT ?_ | refine splF ?_ | refine splNot ?_
     | ((first | refine splIn ?_ ?_ | refine splD ?_ ?_ | refine splE ?_ ?_ | refine splNE ?_ ?_) <;> intro hc <;> first | (exfalso; omega) | (exfalso; dsimp only at hc; omega) | skip)
   all_goals first | (exfalso; omega) | skip
   refine ⟨fun w' h => h.1, fun β w' hw' hblk => ?_⟩
   refine ⟨⟨10, 8, 50, some ⟨β 5, 0, none⟩, 4, [⟨none, 0, none, 0, ⟨[], 0, 0, 0, 0, 0, [], 0, 0⟩⟩, ⟨some ⟨β 1, 0, none⟩, 1, none, 0, ⟨[(0, 4)], 1, 3, 100, 60, 10, [], 0, 0⟩⟩, ⟨some ⟨β 2, 0, none⟩, 1, some ⟨β 3, 0, none⟩, 1, ⟨[(2, 9)], 2, 2, 150, 50, 20, [(3, 3)], 1, 400⟩⟩, ⟨some ⟨β 4, 0, none⟩, 1, none, 0, ⟨[(0, 9)], 1, 10, 900, 40, 0, [], 0, 0⟩⟩], some ⟨β 7, 0, none⟩, β 8, [a, b, c, d]⟩, rfl, fun w2 k2 => ⟨?_, ?_⟩⟩
   · refine ⟨Rd.of_cells (f := Tn.cs) (fun _ => rfl) rfl (hblk 5 _ rfl rfl w2 k2), fun t ht => ?_, Rd.of_owns (sz := 1) (f := Lr.cs) (fun _ => rfl) rfl rfl (hblk 7 _ rfl rfl w2 k2), fun r hr => hw'.2 r hr w2 k2, by (show 4 ≤ 1000000); decide, by (show 4 ≤ 1000000); decide, fun r hr => ?_, by (show 4 ≤ 4); decide⟩
     · simp only [List.mem_cons, List.not_mem_nil, or_false] at ht
       rcases ht with rfl | rfl | rfl | rfl
       · exact ⟨.inl ⟨rfl, rfl⟩, .inl ⟨rfl, rfl⟩, by simp, by simp⟩
       · exact ⟨Rd.of_cells (f := prF) (fun _ => rfl) rfl (hblk 1 _ rfl rfl w2 k2), .inl ⟨rfl, rfl⟩, by simp, by simp⟩
       · exact ⟨Rd.of_cells (f := prF) (fun _ => rfl) rfl (hblk 2 _ rfl rfl w2 k2), Rd.of_cells (f := prF) (fun _ => rfl) rfl (hblk 3 _ rfl rfl w2 k2), by simp, by simp⟩
       · exact ⟨Rd.of_cells (f := prF) (fun _ => rfl) rfl (hblk 4 _ rfl rfl w2 k2), .inl ⟨rfl, rfl⟩, by simp, by simp⟩
     · simp only [List.mem_cons, List.not_mem_nil, or_false] at hr
       rcases hr with rfl | rfl | rfl | rfl
       · rw [ha]; decide
       · rw [hb]; decide
       · rw [hc]; decide
       · rw [hd]; decide
   · simp only [Tr.d, List.map_cons, List.map_nil, ha, hb, hc, hd]; rfl
end Go.Proofs.Ythfabodamhdhaaa
namespace Go.Proofs.Ythfabodamhdhaaa
open Go Tx Go.RowKit
set_option linter.unusedSimpArgs false
set_option linter.unusedVariables false
set_option maxRecDepth 100000
theorem th_toB : toB thD = true := by kernel_rfl
theorem th_lost : lostV thD 0 1 = (1, 0) := by kernel_rfl
theorem th_day : dayV thD 2 4 = (90, 0) := by kernel_rfl
def thS : List (Int × Int × Int) := [(1, 0, 1), (2, 3, 4), (3, 5, 5), (1, 9, 9)]
theorem th_flt : flV thD thS = ([(0, 6), (2, 2), (3, 4)], 0) := by kernel_rfl
theorem th_best : hmO thD (ALO thD) 0 0 0 = 440 := by kernel_rfl
theorem th_bnd : bdO [0, 0, 0, 0] (tabO thD [0, 0, 0, 0]) = 440 := by kernel_rfl
theorem th_fee : feB 4 [0, 0, 0, 0] = true := by kernel_rfl
set_option maxHeartbeats 4000000 in
theorem awake_ok (w : World) : Calls Try.prog 19 #[] w fun e w' => e = .returned (.bool true) ∧ Below w.heap.size w w' := by
 have h35 : ∀ y w', TrIn y w' ∧ y.d = thD → Calls Try.prog 35 #[y.v, iv 0, iv 1] w' fun e w2 => e = .returned (.tuple #[iv 1, iv 0]) ∧ Below w'.heap.size w' w2 := fun y w' h => by
  have := Lost_ok y 0 1 w' h.1
  rw [h.2, th_lost] at this
  exact this
 have h34 : ∀ y w', TrIn y w' ∧ y.d = thD → Calls Try.prog 34 #[y.v, iv 2, iv 4] w' fun e w2 => e = .returned (.tuple #[iv 90, iv 0]) ∧ Below w'.heap.size w' w2 := fun y w' h => by
  have := Day_ok y 2 4 w' h.1
  rw [h.2, th_day] at this
  exact this
 have h40 : ∀ y w' b, TrIn y w' ∧ y.d = thD → w'.heap[b]? = some (.cells (thS.flatMap spF).toArray 96 (0, 0)) → Calls Try.prog 40 #[y.v, .slice (some ⟨b, 0, none⟩) 4 4] w' fun e w2 => ∃ z : Addr × Nat, e = .returned (.tuple #[.slice (some z.1) 3 z.2, iv 0]) ∧ Below w'.heap.size w' w2 ∧ St w'.heap.size (Rd 2 flF (.slice (some z.1) 3 z.2) [(0, 6), (2, 2), (3, 4)]) w2 := fun y w' b h hb => by
  have := Faults_ok y (some ⟨b, 0, none⟩) 4 thS w' h.1 ⟨Rd.of_cells (f := spF) (fun _ => rfl) rfl hb, by decide, by decide, by decide⟩
  rw [h.2, th_flt] at this
  refine this.mono fun e w2 ⟨z, h1, h2, h3⟩ => ?_
  obtain ⟨_, a, ha, _⟩ := (St.now h3).ptr (show 1 ≤ 3 by decide)
  obtain ⟨z1, z2⟩ := z
  change z1 = some a at ha
  subst ha
  exact ⟨(a, z2), h1, h2, h3⟩
 have h20 : ∀ y w', TrIn y w' ∧ y.d = thD → Calls Try.prog 20 #[y.v] w' fun e w2 => ∃ z : Option Addr × Nat, e = .returned (.tuple #[.slice z.1 (bsS thD).length z.2, iv 440, iv 0]) ∧ Below w'.heap.size w' w2 ∧ St w'.heap.size (fun _ => True) w2 := fun y w' h => by
  have := Best_ok y w' h.1
  have e : bsV thD = (bsS thD, 440, 0) := by unfold bsV; rw [th_toB, if_pos rfl, th_best]
  rw [h.2, e] at this
  exact this.mono fun e w2 ⟨z, h1, h2, h3⟩ => ⟨z, h1, h2, fun _ _ => trivial⟩
 have h28 : ∀ y w' b, TrIn y w' ∧ y.d = thD → w'.heap[b]? = some (.cells (([0, 0, 0, 0] : List Int).flatMap iF).toArray 3 (0, 0)) → Calls Try.prog 28 #[y.v, .slice (some ⟨b, 0, none⟩) 4 4] w' fun e w2 => ∃ z : TbG, e = .returned (.tuple #[iv 440, z.v, iv 0]) ∧ Below w'.heap.size w' w2 ∧ St w'.heap.size (fun _ => True) w2 := fun y w' b h hb => by
  have hl : y.T.length = 4 := by
   have := congrArg (fun x : To => x.T.length) h.2
   simpa [Tr.d, thD, thT] using this
  have := Bound_yes y (some ⟨b, 0, none⟩) 4 [0, 0, 0, 0] w' h.1 (Rd.of_cells (f := iF) (fun _ => rfl) rfl hb) (by rw [h.2]; exact th_toB) (by rw [hl]; exact th_fee)
  rw [h.2, th_bnd] at this
  exact this.mono fun e w2 ⟨z, h1, h2, h3⟩ => ⟨z, h1, h2, fun _ _ => trivial⟩
 refine calls_val env mixed Try.func19 has19 Try.ntmps19 [] (by simp) ?_
 repeat'
  conv => whnf
  first
   | refine zA ?_ | refine zB ?_ | refine zC ?_ | refine zD ?_ | refine zE ?_ | refine zF ?_ | refine zG ?_ | refine zH ?_ | refine zJ ?_ | refine zI ?_ | refine splT ?_ | refine splF ?_ | refine splNot ?_
   | ((first | refine splIn ?_ ?_ | refine splD ?_ ?_ | refine splE ?_ ?_ | refine splNE ?_ ?_) <;> intro hc <;> first | (exfalso; omega) | (exfalso; dsimp only at hc; omega) | skip)
   | ((with_reducible show CallEv _ _ 49 _ _ _ _ _); refine callF [] (fun y : Tr => y.v) (fun y w2 => TrIn y w2 ∧ y.d = thD) (fun β w' _ hbw => Three_ok w') ?_; intro y)
   | ((with_reducible show CallEv _ _ 35 _ _ _ _ _); refine callE (k := 35) (fun β w' hbw => h35 y w' hbw.2) ?_)
   | ((with_reducible show CallEv _ _ 34 _ _ _ _ _); refine callE (k := 34) (fun β w' hbw => h34 y w' hbw.2) ?_)
   | ((with_reducible show CallEv _ _ 40 _ _ _ _ _); refine callF [0] (fun z : Addr × Nat => .tuple #[.slice (some z.1) 3 z.2, iv 0]) (fun z w2 => Rd 2 flF (.slice (some z.1) 3 z.2) [(0, 6), (2, 2), (3, 4)] w2) (fun β w' hbk hbw => h40 y w' (β 0) hbw.2 (hbk 0 (by simp) _ rfl)) ?_; intro zf)
   | ((with_reducible show CallEv _ _ 20 _ _ _ _ _); refine callF [] (fun z : Option Addr × Nat => .tuple #[.slice z.1 (bsS thD).length z.2, iv 440, iv 0]) (fun _ _ => True) (fun β w' hbk hbw => h20 y w' hbw.2) ?_; intro zb)
   | ((with_reducible show CallEv _ _ 28 _ _ _ _ _); refine callF [1] (fun z : TbG => .tuple #[iv 440, z.v, iv 0]) (fun _ _ => True) (fun β w' hbk hbw => h28 y w' (β 1) hbw.2 (hbk 1 (by simp) _ rfl)) ?_; intro zt)
   | refine Exists.intro (α := List Value) [iv 0, .int .u8 6] ⟨⟨rfl, fun w' hw' => rd_atz hw'.1.1.1.1.2 (k := 0) rfl (0 : Int) rfl⟩, ?_⟩
   | refine Exists.intro (α := List Value) [iv 2, .int .u8 2] ⟨⟨rfl, fun w' hw' => rd_atz hw'.1.1.1.1.2 (k := 1) rfl (1 : Int) rfl⟩, ?_⟩
   | refine Exists.intro (α := List Value) [iv 3, .int .u8 4] ⟨⟨rfl, fun w' hw' => rd_atz hw'.1.1.1.1.2 (k := 2) rfl (2 : Int) rfl⟩, ?_⟩
   | refine eqlE81 (q := true) rfl ?_
 all_goals first | (exfalso; omega) | exact ⟨fun β => rfl, fun w' h => h.1.1.1.1.1.1.1.1⟩
end Go.Proofs.Ythfabodamhdhaaa
namespace Go.Proofs.Ythfabodamhdhaaa
open Go Tx Go.RowKit
set_option linter.unusedSimpArgs false
set_option linter.unusedVariables false
theorem ends_ok (r1 r2 lo hi : Int) (w : World) : Calls Try.prog 102 #[.agg #[iv r1, iv r2], iv lo, iv hi] w fun e w' => e = .returned (.bool (rgB lo hi (r1, r2))) ∧ Below w.heap.size w w' := by
 refine calls_val env mixed Try.func102 has102 Try.ntmps102 [.agg #[iv r1, iv r2], iv lo, iv hi] (by simp) ?_
 repeat'
  conv => whnf
  first
   | refine zA ?_ | refine zB ?_ | refine zC ?_ | refine zD ?_ | refine zE ?_ | refine zF ?_ | refine zG ?_ | refine zH ?_ | refine zJ ?_ | refine zI ?_ | refine splT ?_ | refine splF ?_ | refine splNot ?_
   | ((first | refine splIn ?_ ?_ | refine splD ?_ ?_ | refine splE ?_ ?_ | refine splNE ?_ ?_) <;> intro hc <;> first | (exfalso; omega) | (exfalso; dsimp only at hc; omega) | skip)
 all_goals exact ⟨fun β => congrArg Value.bool (by simp [rgB, *]), fun w' h => h⟩
theorem names67 : namesB Try.prog 67 = true := by kernel_rfl
theorem guard67 : Try.prog.eqGuardType Try.prog.depth 67 = false := by kernel_rfl
theorem eqIn67 (a b c e : Int) (w : World) : (Op.equalIn 10000 67 (.agg #[iv a, iv b]) (.agg #[iv c, iv e])).run Try.prog w = .ok (a == c && b == e) w :=
 equalIn_two tok67 rfl (by decide) names67 (part3 _ 0 _ w rfl) (part3 _ 1 _ w rfl) (part3 _ 0 _ w rfl) (part3 _ 1 _ w rfl) (eqIn3 9998 _ _ w) (eqIn3 9998 _ _ w)
theorem names127 : namesB Try.prog 127 = true := by kernel_rfl
theorem guard127 : Try.prog.eqGuardType Try.prog.depth 127 = false := by kernel_rfl
theorem eqIn127 (a b c e : Int) (w : World) : (Op.equalIn 10000 127 (.agg #[iv a, iv b]) (.agg #[iv c, iv e])).run Try.prog w = .ok (a == c && b == e) w :=
 equalIn_two tok127 rfl (by decide) names127 (part3 _ 0 _ w rfl) (part3 _ 1 _ w rfl) (part3 _ 0 _ w rfl) (part3 _ 1 _ w rfl) (eqIn3 9998 _ _ w) (eqIn3 9998 _ _ w)
theorem eqlE67 {a b c e : Int} {q : Bool} {x y : Operand} {K : Value → Prop} (hq : (a == c && b == e) = q) (h : K (.bool q)) : ∃ v, (∀ _ : Nat → Nat, RunIs Try.prog (do eqGuard .eql 67 x y (.agg #[iv a, iv b]) (.agg #[iv c, iv e]); binOp .eql 67 (.agg #[iv a, iv b]) (.agg #[iv c, iv e])) v) ∧ K v :=
 ⟨_, fun _ => runIs_eql guard67 fun w => eqIn67 _ _ _ _ w, by rw [hq]; exact h⟩
theorem neqE127 {a b c e : Int} {q : Bool} {x y : Operand} {K : Value → Prop} (hq : (!(a == c && b == e)) = q) (h : K (.bool q)) : ∃ v, (∀ _ : Nat → Nat, RunIs Try.prog (do eqGuard .neq 127 x y (.agg #[iv a, iv b]) (.agg #[iv c, iv e]); binOp .neq 127 (.agg #[iv a, iv b]) (.agg #[iv c, iv e])) v) ∧ K v :=
 ⟨_, fun _ => runIs_neq guard127 fun w => eqIn127 _ _ _ _ w, by rw [hq]; exact h⟩
theorem empty_ok (t : Tn) (w : World) : Calls Try.prog 61 #[.agg t.cs.toArray] w fun e w' => e = .returned (.bool (quB t.d)) ∧ Below w.heap.size w w' := by
 obtain ⟨oo, oc, ro, rc, O, s1, s2, pay, lot, rent, R, cold, cut⟩ := t
 refine calls_val env mixed Try.func61 has61 Try.ntmps61 [.agg #[.slice oo O.length oc, iv s1, iv s2, iv pay, iv lot, iv rent, .slice ro R.length rc, iv cold, iv cut]] (by simp) ?_
 have hq : quB ⟨O, s1, s2, pay, lot, rent, R, cold, cut⟩ = (decide ((O.length : Int) = 0) && ((s1 == 0 && s2 == 0) && (decide (pay = 0) && (decide (lot = 0) && (decide (rent = 0) && (decide ((R.length : Int) = 0) && (decide (cold = 0) && decide (cut = 0)))))))) := by
  rw [Bool.eq_iff_iff]
  simp only [quB, Bool.and_eq_true, decide_eq_true_eq, beq_iff_eq]
  omega
 dsimp only
 rw [hq]
 obtain ⟨b, hb⟩ : ∃ b, (s1 == 0 && s2 == 0) = b := ⟨_, rfl⟩
 rw [hb]
 cases b
 all_goals skip
 repeat'
  conv => whnf
  first
   | refine zA ?_ | refine zB ?_ | refine zC ?_ | refine zD ?_ | refine zE ?_ | refine zF ?_ | refine zG ?_ | refine zH ?_ | refine zJ ?_ | refine zI ?_ | refine splT ?_ | refine splF ?_ | refine splNot ?_
   | ((first | refine splIn ?_ ?_ | refine splD ?_ ?_ | refine splE ?_ ?_ | refine splNE ?_ ?_) <;> intro hc <;> first | (exfalso; omega) | (exfalso; dsimp only at hc; omega) | skip)
   | refine eqlE67 hb ?_
 all_goals first | (exfalso; omega) | exact ⟨fun β => congrArg Value.bool (by first | (simp [*]; done) | (simp [*]; rfl) | (simp [*]; intros; first | assumption | omega) | simp_all), fun w' h => h⟩
structure TnI0 (t : Tn) (w : World) : Prop where
 o : Rd 2 prF (.slice t.oo t.d.O.length t.oc) t.d.O w
 r : Rd 2 prF (.slice t.ro t.d.R.length t.rc) t.d.R w
 ol : t.d.O.length ≤ 9223372036854775807
 rl : t.d.R.length ≤ 9223372036854775807
structure TrI0 (x : Tr) (w : World) : Prop where
 t : Rd 9 Tn.cs (.slice x.to x.T.length x.tc) x.T w
 ti : ∀ t ∈ x.T, TnI0 t w
 l : Rd 1 Lr.cs (.slice x.lo x.L.length x.lc) x.L w
 li : ∀ r ∈ x.L, Rd 2 prF (.slice r.o r.L.length r.c) r.L w
 tl : x.T.length ≤ 9223372036854775807
 ll : x.L.length ≤ 9223372036854775807
 lr : ∀ r ∈ x.L, r.L.length ≤ 9223372036854775807
 tcap : x.T.length ≤ x.tc
theorem TnI0.below {t : Tn} {w w' : World} (h : TnI0 t w) (hb : Below w.heap.size w w') : TnI0 t w' := ⟨h.o.below hb, h.r.below hb, h.ol, h.rl⟩
theorem TrI0.below {x : Tr} {w w' : World} (h : TrI0 x w) (hb : Below w.heap.size w w') : TrI0 x w' := ⟨h.t.below hb, fun t ht => (h.ti t ht).below hb, h.l.below hb, fun r hr => (h.li r hr).below hb, h.tl, h.ll, h.lr, h.tcap⟩
def lst (O : List (Int × Int)) : Nat → Int
 | 0 => -1
 | k + 1 => ((O[k]?).getD (0, 0)).2
theorem apB_step {days : Int} {O : List (Int × Int)} {i : Nat} {r : Int × Int} (h : O[i]? = some r) : apB days (lst O i) (O.drop i) = ((decide (lst O i + 1 ≤ r.1) && (decide (r.1 ≤ r.2) && decide (r.2 ≤ days - 1))) && apB days (lst O (i + 1)) (O.drop (i + 1))) := by
 obtain ⟨hi, rfl⟩ := List.getElem?_eq_some_iff.1 h
 rw [List.drop_eq_getElem_cons hi]
 show ((_ && (_ && _)) && apB days (O[i]).2 (O.drop (i + 1))) = _
 rw [show lst O (i + 1) = (O[i]).2 from by simp [lst, h]]
set_option maxHeartbeats 4000000 in
set_option maxRecDepth 100000 in
theorem rtown_ok (t : Tn) (days : Int) (w : World) (h : TnI0 t w) (hd : 1 ≤ days ∧ days ≤ 60) : Calls Try.prog 62 #[.agg t.cs.toArray, iv days] w fun e w' => e = .returned (.bool (twB days t.d)) ∧ Below w.heap.size w w' := by
 obtain ⟨oo, oc, ro, rc, O, s1, s2, pay, lot, rent, R, cold, cut⟩ := t
 have h00 : lst O 0 = -1 := rfl
 obtain ⟨hO, hR, hol, hrl⟩ := h
 dsimp only at h00 hO hR hol hrl ⊢
 refine calls_val env mixed Try.func62 has62 Try.ntmps62 [.agg #[.slice oo O.length oc, iv s1, iv s2, iv pay, iv lot, iv rent, .slice ro R.length rc, iv cold, iv cut], iv days] (by simp) ?_
 have htw : twB days ⟨O, s1, s2, pay, lot, rent, R, cold, cut⟩ = (apB days (-1) O && ((R.all fun r => rgB (-60) 60 r) && (inB O.length 1 3 && (rgB 1 10 (s1, s2) && (inB pay 0 1000000 && (inB lot 0 100000 && (inB rent 0 1000000 && (decide (R.length ≤ 3) && (inB cold 0 60 && inB cut 0 1000))))))))) := by
  simp only [twB, rgB]
  cases apB days (-1) O <;> cases (R.all fun r => decide (-60 ≤ r.1) && (decide (r.1 ≤ r.2) && decide (r.2 ≤ 60))) <;> simp
 rw [htw]
 clear htw
 repeat'
  conv => whnf
  first
   | refine zA ?_ | refine zB ?_ | refine zC ?_ | refine zD ?_ | refine zE ?_ | refine zF ?_ | refine zG ?_ | refine zH ?_ | refine zJ ?_ | refine zI ?_ | refine splT ?_ | refine splF ?_ | refine splNot ?_
   | ((first | refine splIn ?_ ?_ | refine splD ?_ ?_ | refine splE ?_ ?_ | refine splNE ?_ ?_) <;> intro hc <;> first | (exfalso; omega) | (exfalso; dsimp only at hc; omega) | skip)
 refine loopE (fun i : Nat => [(1, .v (iv days)), (2, .ptr 0 0), (5, .v (iv i))]) (fun _ => [(0, .cells [.v (.slice oo O.length oc), .v (iv s1), .v (iv s2), .v (iv pay), .v (iv lot), .v (iv rent), .v (.slice ro R.length rc), .v (iv cold), .v (iv cut)] 69)])
  (fun i => i ≤ O.length ∧ 0 ≤ lst O i + 1 ∧ apB days (-1) O = apB days (lst O i) (O.drop i)) (fun i => O.length - i) 0 ⟨Nat.zero_le _, by (show (0 : Int) ≤ -1 + 1); decide, rfl⟩ ⟨rfl, rfl, rfl, trivial⟩ ⟨rfl, trivial⟩ (fun _ => ⟨rfl, rfl⟩) ?_
 intro i ⟨hi, hlst, hap⟩
 rcases Nat.lt_or_ge i O.length with hil | hil
 · obtain ⟨⟨r1, r2⟩, hr⟩ : ∃ r, O[i]? = some r := ⟨_, List.getElem?_eq_getElem hil⟩
   have hst := apB_step (days := days) hr
   dsimp only at hst
   obtain ⟨_, ad, rfl, _⟩ := hO.ptr (by omega)
   have e0 := fun (w' : World) hw' => rd_ati (hO.below (w' := w') hw') hr
   have e1 := fun (w' : World) hw' => rd_fldz (hO.below (w' := w') hw') hr _ rfl 0 (iv r1) rfl
   have hls1 : lst O (i + 1) = r2 := by simp [lst, hr]
   rw [hap, hst, hls1]
   by_cases he : 0 ≤ r1 ∧ r1 ≤ r2 ∧ r2 ≤ days - 1
   · have h102 : ∀ w' : World, Calls Try.prog 102 #[.agg #[iv r1, iv r2], iv 0, iv (days - 1)] w' fun e w2 => e = .returned (.bool true) ∧ Below w'.heap.size w' w2 := fun w' => by
      have := ends_ok r1 r2 0 (days - 1) w'
      rwa [show rgB 0 (days - 1) (r1, r2) = true from by simp [rgB]; omega] at this
     cases i with
     | zero =>
      rw [show (decide (lst O 0 + 1 ≤ r1) && (decide (r1 ≤ r2) && decide (r2 ≤ days - 1))) = true from by (rw [h00]; simp; omega), Bool.true_and]
      rw [hst, hls1, show (decide (lst O 0 + 1 ≤ r1) && (decide (r1 ≤ r2) && decide (r2 ≤ days - 1))) = true from by (rw [h00]; simp; omega), Bool.true_and] at hap
      repeat'
       conv => whnf
       first
        | refine zA ?_ | refine zB ?_ | refine zC ?_ | refine zD ?_ | refine zE ?_ | refine zF ?_ | refine zG ?_ | refine zH ?_ | refine zJ ?_ | refine zI ?_ | refine splT ?_ | refine splF ?_ | refine splNot ?_
        | ((first | refine splIn ?_ ?_ | refine splD ?_ ?_ | refine splE ?_ ?_ | refine splNE ?_ ?_) <;> intro hc <;> first | (exfalso; omega) | (exfalso; dsimp only at hc; omega) | skip)
        | refine Exists.intro (α := List Value) [iv r1, iv r2] ⟨⟨rfl, fun w' hw' => e0 w' hw'⟩, ?_⟩
        | ((with_reducible show CallEv _ _ 102 _ _ _ _ _); refine callE (k := 102) (fun β w' hbw => h102 w') ?_)
      all_goals first | (exfalso; omega) | exact ⟨0 + 1, ⟨by omega, by rw [hls1]; omega, by rw [hls1]⟩, by omega, Ent.weak rfl ⟨rfl, rfl, rfl, trivial⟩ ⟨rfl, trivial⟩ fun _ h => h⟩
     | succ k =>
      obtain ⟨⟨p1, p2⟩, hp⟩ : ∃ r, O[k]? = some r := ⟨_, List.getElem?_eq_getElem (by omega)⟩
      have e2 := fun (w' : World) hw' => rd_fldz (hO.below (w' := w') hw') hp (((k + 1 : Nat) : Int) - 1) (by omega) 1 (iv p2) rfl
      have hlp : lst O (k + 1) = p2 := by simp [lst, hp]
      rw [hlp] at hst hap ⊢
      by_cases hlt : r1 ≤ p2
      · rw [show (decide (p2 + 1 ≤ r1) && (decide (r1 ≤ r2) && decide (r2 ≤ days - 1))) = false from by rw [decide_eq_false (by omega), Bool.false_and], Bool.false_and, Bool.false_and]
        repeat'
         conv => whnf
         first
          | refine zA ?_ | refine zB ?_ | refine zC ?_ | refine zD ?_ | refine zE ?_ | refine zF ?_ | refine zG ?_ | refine zH ?_ | refine zJ ?_ | refine zI ?_ | refine splT ?_ | refine splF ?_ | refine splNot ?_
          | ((first | refine splIn ?_ ?_ | refine splD ?_ ?_ | refine splE ?_ ?_ | refine splNE ?_ ?_) <;> intro hc <;> first | (exfalso; omega) | (exfalso; dsimp only at hc; omega) | skip)
          | refine Exists.intro (α := List Value) [iv r1, iv r2] ⟨⟨rfl, fun w' hw' => e0 w' hw'⟩, ?_⟩
          | ((with_reducible show CallEv _ _ 102 _ _ _ _ _); refine callE (k := 102) (fun β w' hbw => h102 w') ?_)
          | refine Exists.intro (α := List Value) [iv r1] ⟨⟨rfl, fun w' hw' => e1 w' hw'⟩, ?_⟩
          | refine Exists.intro (α := List Value) [iv p2] ⟨⟨rfl, fun w' hw' => e2 w' hw'⟩, ?_⟩
        all_goals first | (exfalso; omega) | exact ⟨fun β => rfl, fun w' h => h⟩
      · rw [show (decide (p2 + 1 ≤ r1) && (decide (r1 ≤ r2) && decide (r2 ≤ days - 1))) = true from by simp; omega, Bool.true_and]
        rw [hst, hls1, show (decide (p2 + 1 ≤ r1) && (decide (r1 ≤ r2) && decide (r2 ≤ days - 1))) = true from by simp; omega, Bool.true_and] at hap
        repeat'
         conv => whnf
         first
          | refine zA ?_ | refine zB ?_ | refine zC ?_ | refine zD ?_ | refine zE ?_ | refine zF ?_ | refine zG ?_ | refine zH ?_ | refine zJ ?_ | refine zI ?_ | refine splT ?_ | refine splF ?_ | refine splNot ?_
          | ((first | refine splIn ?_ ?_ | refine splD ?_ ?_ | refine splE ?_ ?_ | refine splNE ?_ ?_) <;> intro hc <;> first | (exfalso; omega) | (exfalso; dsimp only at hc; omega) | skip)
          | refine Exists.intro (α := List Value) [iv r1, iv r2] ⟨⟨rfl, fun w' hw' => e0 w' hw'⟩, ?_⟩
          | ((with_reducible show CallEv _ _ 102 _ _ _ _ _); refine callE (k := 102) (fun β w' hbw => h102 w') ?_)
          | refine Exists.intro (α := List Value) [iv r1] ⟨⟨rfl, fun w' hw' => e1 w' hw'⟩, ?_⟩
          | refine Exists.intro (α := List Value) [iv p2] ⟨⟨rfl, fun w' hw' => e2 w' hw'⟩, ?_⟩
        all_goals first | (exfalso; omega) | exact ⟨k + 1 + 1, ⟨by omega, by rw [hls1]; omega, by rw [hls1]⟩, by omega, Ent.weak rfl ⟨rfl, rfl, rfl, trivial⟩ ⟨rfl, trivial⟩ fun _ h => h⟩
   · have h102 : ∀ w' : World, Calls Try.prog 102 #[.agg #[iv r1, iv r2], iv 0, iv (days - 1)] w' fun e w2 => e = .returned (.bool false) ∧ Below w'.heap.size w' w2 := fun w' => by
      have := ends_ok r1 r2 0 (days - 1) w'
      rwa [show rgB 0 (days - 1) (r1, r2) = false from by (cases hb : rgB 0 (days - 1) (r1, r2) with | false => rfl | true => (simp [rgB] at hb; omega))] at this
     rw [show (decide (lst O i + 1 ≤ r1) && (decide (r1 ≤ r2) && decide (r2 ≤ days - 1))) = false from by (cases hb : (decide (lst O i + 1 ≤ r1) && (decide (r1 ≤ r2) && decide (r2 ≤ days - 1))) with | false => rfl | true => (simp at hb; omega)), Bool.false_and, Bool.false_and]
     repeat'
      conv => whnf
      first
       | refine zA ?_ | refine zB ?_ | refine zC ?_ | refine zD ?_ | refine zE ?_ | refine zF ?_ | refine zG ?_ | refine zH ?_ | refine zJ ?_ | refine zI ?_ | refine splT ?_ | refine splF ?_ | refine splNot ?_
       | ((first | refine splIn ?_ ?_ | refine splD ?_ ?_ | refine splE ?_ ?_ | refine splNE ?_ ?_) <;> intro hc <;> first | (exfalso; omega) | (exfalso; dsimp only at hc; omega) | skip)
       | refine Exists.intro (α := List Value) [iv r1, iv r2] ⟨⟨rfl, fun w' hw' => e0 w' hw'⟩, ?_⟩
       | ((with_reducible show CallEv _ _ 102 _ _ _ _ _); refine callE (k := 102) (fun β w' hbw => h102 w') ?_)
     all_goals first | (exfalso; omega) | exact ⟨fun β => rfl, fun w' h => h⟩
 · rw [List.drop_eq_nil_of_le hil] at hap
   rw [hap]
   show vc _ _ _ _
   rw [show (apB days (lst O i) [] && ((R.all fun r => rgB (-60) 60 r) && (inB O.length 1 3 && (rgB 1 10 (s1, s2) && (inB pay 0 1000000 && (inB lot 0 100000 && (inB rent 0 1000000 && (decide (R.length ≤ 3) && (inB cold 0 60 && inB cut 0 1000))))))))) = ((R.all fun r => rgB (-60) 60 r) && (inB O.length 1 3 && (rgB 1 10 (s1, s2) && (inB pay 0 1000000 && (inB lot 0 100000 && (inB rent 0 1000000 && (decide (R.length ≤ 3) && (inB cold 0 60 && inB cut 0 1000)))))))) from Bool.true_and _]
   repeat'
    conv => whnf
    first
     | refine zA ?_ | refine zB ?_ | refine zC ?_ | refine zD ?_ | refine zE ?_ | refine zF ?_ | refine zG ?_ | refine zH ?_ | refine zJ ?_ | refine zI ?_ | refine splT ?_ | refine splF ?_ | refine splNot ?_
     | ((first | refine splIn ?_ ?_ | refine splD ?_ ?_ | refine splE ?_ ?_ | refine splNE ?_ ?_) <;> intro hc <;> first | (exfalso; omega) | (exfalso; dsimp only at hc; omega) | skip)
   all_goals first | (exfalso; omega) | skip
   refine loopE (fun j : Nat => [(2, .ptr 0 0), (6, .v (iv j))]) (fun _ => [(0, .cells [.v (.slice oo O.length oc), .v (iv s1), .v (iv s2), .v (iv pay), .v (iv lot), .v (iv rent), .v (.slice ro R.length rc), .v (iv cold), .v (iv cut)] 69)])
    (fun j => j ≤ R.length ∧ (R.take j).all (fun r => rgB (-60) 60 r) = true) (fun j => R.length - j) 0 ⟨Nat.zero_le _, rfl⟩ ⟨rfl, rfl, trivial⟩ ⟨rfl, trivial⟩ (fun _ => ⟨rfl, rfl⟩) ?_
   intro j ⟨hj, hall⟩
   rcases Nat.lt_or_ge j R.length with hjl | hjl
   · obtain ⟨⟨r1, r2⟩, hr⟩ : ∃ r, R[j]? = some r := ⟨_, List.getElem?_eq_getElem hjl⟩
     obtain ⟨_, ad, rfl, _⟩ := hR.ptr (by omega)
     have e0 := fun (w' : World) hw' => rd_ati (hR.below (w' := w') hw') hr
     have h102 := fun w' : World => ends_ok r1 r2 (-60) 60 w'
     have hat := all_take (p := fun r => rgB (-60) 60 r) hr
     rw [hall, Bool.true_and] at hat
     obtain ⟨v, hv⟩ : ∃ v, rgB (-60) 60 (r1, r2) = v := ⟨_, rfl⟩
     have hno := all_no (p := fun r => rgB (-60) 60 r) hr
     rw [hv] at h102 hat hno
     cases v with
     | true =>
      repeat'
       conv => whnf
       first
        | refine zA ?_ | refine zB ?_ | refine zC ?_ | refine zD ?_ | refine zE ?_ | refine zF ?_ | refine zG ?_ | refine zH ?_ | refine zJ ?_ | refine zI ?_ | refine splT ?_ | refine splF ?_ | refine splNot ?_
        | ((first | refine splIn ?_ ?_ | refine splD ?_ ?_ | refine splE ?_ ?_ | refine splNE ?_ ?_) <;> intro hc <;> first | (exfalso; omega) | (exfalso; dsimp only at hc; omega) | skip)
        | refine Exists.intro (α := List Value) [iv r1, iv r2] ⟨⟨rfl, fun w' hw' => e0 w' hw'⟩, ?_⟩
        | ((with_reducible show CallEv _ _ 102 _ _ _ _ _); refine callE (k := 102) (fun β w' hbw => h102 w') ?_)
      all_goals first | (exfalso; omega) | exact ⟨j + 1, ⟨by omega, hat⟩, by omega, Ent.weak rfl ⟨rfl, rfl, trivial⟩ ⟨rfl, trivial⟩ fun _ h => h⟩
     | false =>
      rw [hno rfl, Bool.false_and]
      repeat'
       conv => whnf
       first
        | refine zA ?_ | refine zB ?_ | refine zC ?_ | refine zD ?_ | refine zE ?_ | refine zF ?_ | refine zG ?_ | refine zH ?_ | refine zJ ?_ | refine zI ?_ | refine splT ?_ | refine splF ?_ | refine splNot ?_
        | ((first | refine splIn ?_ ?_ | refine splD ?_ ?_ | refine splE ?_ ?_ | refine splNE ?_ ?_) <;> intro hc <;> first | (exfalso; omega) | (exfalso; dsimp only at hc; omega) | skip)
        | refine Exists.intro (α := List Value) [iv r1, iv r2] ⟨⟨rfl, fun w' hw' => e0 w' hw'⟩, ?_⟩
        | ((with_reducible show CallEv _ _ 102 _ _ _ _ _); refine callE (k := 102) (fun β w' hbw => h102 w') ?_)
      all_goals first | (exfalso; omega) | exact ⟨fun β => rfl, fun w' h => h⟩
   · rw [List.take_of_length_le hjl] at hall
     rw [hall, Bool.true_and]
     have hI := fun n lo hi (w' : World) => In_ok n lo hi w'
     have hE := fun (w' : World) => ends_ok s1 s2 1 10 w'
     clear hall hap
     generalize inB = f at *
     generalize rgB 1 10 (s1, s2) = g at *
     repeat'
      conv => whnf
      first
       | refine zA ?_ | refine zB ?_ | refine zC ?_ | refine zD ?_ | refine zE ?_ | refine zF ?_ | refine zG ?_ | refine zH ?_ | refine zJ ?_ | refine zI ?_ | refine splT ?_ | refine splF ?_ | refine splNot ?_
       | ((first | refine splIn ?_ ?_ | refine splD ?_ ?_ | refine splE ?_ ?_ | refine splNE ?_ ?_) <;> intro hc <;> first | (exfalso; omega) | (exfalso; dsimp only at hc; omega) | skip)
       | ((with_reducible show CallEv _ _ 37 _ _ _ _ _); refine callE (k := 37) (fun β w' hbw => hI _ _ _ w') ?_)
       | ((with_reducible show CallEv _ _ 102 _ _ _ _ _); refine callE (k := 102) (fun β w' hbw => hE w') ?_)
       | refine And.intro (a := (_ : Bool) = true → _) (fun hc => ?_) (fun hc => ?_)
     all_goals first | (exfalso; omega) | exact ⟨fun β => congrArg Value.bool (by first | (simp [*]; done) | (simp [*]; rfl) | (simp [*]; intros; first | assumption | omega) | simp_all), fun w' h => h⟩
end Go.Proofs.Ythfabodamhdhaaa
namespace Go.Proofs.Ythfabodamhdhaaa
open Go Tx Go.RowKit
set_option linter.unusedSimpArgs false
set_option linter.unusedVariables false
theorem toB_iff (days shift size : Int) (to : Option Addr) (tc : Nat) (T : List Tn) (lo : Option Addr) (lc : Nat) (L : List Lr) : toB (Tr.d ⟨days, shift, size, to, tc, T, lo, lc, L⟩) = true ↔ ((1 ≤ days ∧ days ≤ 60) ∧ (1 ≤ shift ∧ shift ≤ 24) ∧ (0 ≤ size ∧ size ≤ 100000) ∧ (2 ≤ T.length ∧ T.length ≤ 9) ∧ L.length = T.length) ∧
 (∃ t, T[0]? = some t ∧ quB t.d = true) ∧ ∀ i < T.length, (i = 0 ∨ ∃ t, T[i]? = some t ∧ twB days t.d = true) ∧ ∃ r, L[i]? = some r ∧ lgB T.length i r.L = true := by
 simp only [toB, inB, Tr.d, Bool.and_eq_true, decide_eq_true_eq, List.all_eq_true, List.mem_range, List.length_map]
 constructor
 · rintro ⟨⟨h1, h2, h3, h4, h5⟩, ⟨h6, h7⟩, h8⟩
   refine ⟨⟨h1, h2, h3, by omega, h5⟩, ?_, fun i hi => ⟨?_, ?_⟩⟩
   · rw [List.getElem?_map] at h6
     cases ht : T[0]? with
     | none => rw [ht] at h6; cases h6
     | some t => rw [ht] at h6; exact ⟨t, rfl, h6⟩
   · by_cases hi0 : i = 0
     · exact .inl hi0
     · refine .inr ⟨T[i], List.getElem?_eq_getElem hi, h7 _ ?_⟩
       rw [List.mem_iff_getElem?]
       exact ⟨i - 1, by rw [List.getElem?_drop, show 1 + (i - 1) = i from by omega, List.getElem?_map, List.getElem?_eq_getElem hi]; rfl⟩
   · have hl : i < L.length := by omega
     have := h8 i hl
     rw [List.getElem?_map, List.getElem?_eq_getElem hl] at this
     exact ⟨L[i], List.getElem?_eq_getElem hl, this⟩
 · rintro ⟨⟨h1, h2, h3, h4, h5⟩, ⟨t, h6, h6'⟩, h8⟩
   refine ⟨⟨h1, h2, h3, by omega, h5⟩, ⟨?_, fun u hu => ?_⟩, fun i hi => ?_⟩
   · rw [List.getElem?_map, h6]; exact h6'
   · obtain ⟨k, hk⟩ := List.mem_iff_getElem?.1 hu
     rw [List.getElem?_drop, List.getElem?_map, Option.map_eq_some_iff] at hk
     obtain ⟨v, hv, rfl⟩ := hk
     have hlt := (List.getElem?_eq_some_iff.1 hv).1
     rcases (h8 (1 + k) hlt).1 with h | ⟨v', hv', h⟩
     · omega
     · rw [hv, Option.some.injEq] at hv'; subst hv'; exact h
   · obtain ⟨r, hr, h⟩ := (h8 i (by omega)).2
     rw [List.getElem?_map, hr]; exact h
set_option maxHeartbeats 4000000 in
set_option maxRecDepth 100000 in
theorem Right_ok (x : Tr) (w : World) (h : TrI0 x w) : Calls Try.prog 22 #[x.v] w fun e w' => e = .returned (.bool (toB x.d)) ∧ Below w.heap.size w w' := by
 obtain ⟨days, shift, size, to, tc, T, lo, lc, L⟩ := x
 obtain ⟨hT, hTi, hL, hLi, htl, hll, hlr, htc⟩ := h
 dsimp only at hT hTi hL hLi htl hll hlr htc ⊢
 have hiff := toB_iff days shift size to tc T lo lc L
 obtain ⟨V, hV⟩ : ∃ V, toB (Tr.d ⟨days, shift, size, to, tc, T, lo, lc, L⟩) = V := ⟨_, rfl⟩
 rw [hV] at hiff ⊢
 clear hV
 refine calls_val env mixed Try.func22 has22 Try.ntmps22 [.agg #[iv days, iv shift, iv size, .slice to T.length tc, .slice lo L.length lc]] (by simp) ?_
 by_cases hA : (1 ≤ days ∧ days ≤ 60) ∧ (1 ≤ shift ∧ shift ≤ 24) ∧ (0 ≤ size ∧ size ≤ 100000) ∧ (2 ≤ T.length ∧ T.length ≤ 9) ∧ L.length = T.length
 · obtain ⟨t0, ht0⟩ : ∃ t, T[0]? = some t := ⟨_, List.getElem?_eq_getElem (by omega)⟩
   obtain ⟨_, ad, rfl, _⟩ := hT.ptr (by omega)
   obtain ⟨_, al, rfl, _⟩ := hL.ptr (by omega)
   have e0 := fun (w' : World) hw' => rd_atz (hT.below (w' := w') hw') ht0 (0 : Int) rfl
   have h61 := fun w' : World => empty_ok t0 w'
   have hq0 : (∃ t, T[0]? = some t ∧ quB t.d = true) ↔ quB t0.d = true := ⟨fun ⟨t, h1, h2⟩ => by rw [ht0, Option.some.injEq] at h1; subst h1; exact h2, fun h => ⟨t0, ht0, h⟩⟩
   obtain ⟨oo, oc, ro, rc, O, s1, s2, pay, lot, rent, R, cold, cut⟩ := t0
   dsimp only at h61 e0 hq0 ⊢
   obtain ⟨vq, hvq⟩ : ∃ v, quB ⟨O, s1, s2, pay, lot, rent, R, cold, cut⟩ = v := ⟨_, rfl⟩
   rw [hvq] at h61 hq0
   cases vq with
   | false =>
    have hVf : false = V := by
     cases V with
     | false => rfl
     | true => have := hq0.1 (hiff.1 rfl).2.1; cases this
    repeat'
     conv => whnf
     first
      | refine zA ?_ | refine zB ?_ | refine zC ?_ | refine zD ?_ | refine zE ?_ | refine zF ?_ | refine zG ?_ | refine zH ?_ | refine zJ ?_ | refine zI ?_ | refine splT ?_ | refine splF ?_ | refine splNot ?_
      | ((first | refine splIn ?_ ?_ | refine splD ?_ ?_ | refine splE ?_ ?_ | refine splNE ?_ ?_) <;> intro hc <;> first | (exfalso; omega) | (exfalso; dsimp only at hc; omega) | skip)
      | ((with_reducible show CallEv _ _ 37 _ _ _ _ _); refine callE (k := 37) (fun β w' hbw => In_ok _ _ _ w') ?_)
      | refine Exists.intro (α := List Value) [.slice oo O.length oc, iv s1, iv s2, iv pay, iv lot, iv rent, .slice ro R.length rc, iv cold, iv cut] ⟨⟨rfl, fun w' hw' => e0 w' hw'⟩, ?_⟩
      | ((with_reducible show CallEv _ _ 61 _ _ _ _ _); refine callE (k := 61) (fun β w' hbw => h61 w') ?_)
    all_goals first | (exfalso; omega) | exact ⟨fun β => congrArg Value.bool hVf, fun w' h => h⟩
   | true =>
    repeat'
     conv => whnf
     first
      | refine zA ?_ | refine zB ?_ | refine zC ?_ | refine zD ?_ | refine zE ?_ | refine zF ?_ | refine zG ?_ | refine zH ?_ | refine zJ ?_ | refine zI ?_ | refine splT ?_ | refine splF ?_ | refine splNot ?_
      | ((first | refine splIn ?_ ?_ | refine splD ?_ ?_ | refine splE ?_ ?_ | refine splNE ?_ ?_) <;> intro hc <;> first | (exfalso; omega) | (exfalso; dsimp only at hc; omega) | skip)
      | ((with_reducible show CallEv _ _ 37 _ _ _ _ _); refine callE (k := 37) (fun β w' hbw => In_ok _ _ _ w') ?_)
      | refine Exists.intro (α := List Value) [.slice oo O.length oc, iv s1, iv s2, iv pay, iv lot, iv rent, .slice ro R.length rc, iv cold, iv cut] ⟨⟨rfl, fun w' hw' => e0 w' hw'⟩, ?_⟩
      | ((with_reducible show CallEv _ _ 61 _ _ _ _ _); refine callE (k := 61) (fun β w' hbw => h61 w') ?_)
    all_goals first | (exfalso; omega) | skip
    refine loopE (fun i : Nat => [(1, .ptr 0 0), (3, .v (iv T.length)), (4, .v (iv i))]) (fun _ => [(0, .cells [.v (iv days), .v (iv shift), .v (iv size), .v (.slice (some ad) T.length tc), .v (.slice (some al) L.length lc)] 25)])
     (fun i => i ≤ T.length ∧ ∀ k < i, (k = 0 ∨ ∃ t, T[k]? = some t ∧ twB days t.d = true) ∧ ∃ r, L[k]? = some r ∧ lgB T.length k r.L = true) (fun i => T.length - i) 0 ⟨Nat.zero_le _, fun k hk => by omega⟩ ⟨rfl, rfl, rfl, trivial⟩ ⟨rfl, trivial⟩ (fun _ => ⟨rfl, rfl⟩) ?_
    intro i ⟨hi, hall⟩
    rcases Nat.lt_or_ge i T.length with hil | hil
    · obtain ⟨ti, hti⟩ : ∃ t, T[i]? = some t := ⟨_, List.getElem?_eq_getElem hil⟩
      obtain ⟨⟨ro', rc', row⟩, hri⟩ : ∃ r, L[i]? = some r := ⟨_, List.getElem?_eq_getElem (by omega)⟩
      have e1 := fun (w' : World) hw' => rd_ati (hT.below (w' := w') hw') hti
      have e2 := fun (w' : World) hw' => rd_ati (hL.below (w' := w') hw') hri
      have h62 := fun w' hb => rtown_ok ti days w' ((hTi ti (List.mem_of_getElem? hti)).below hb) (by omega)
      have hrow := hLi _ (List.mem_of_getElem? hri)
      have hrl := hlr _ (List.mem_of_getElem? hri)
      dsimp only at hrow hrl e2
      have hno : ¬ ((i = 0 ∨ twB days ti.d = true) ∧ lgB T.length i row = true) → false = V := fun hn => by
       cases V with
       | false => rfl
       | true =>
        obtain ⟨h1, r, h2, h3⟩ := (hiff.1 rfl).2.2 i hil
        rw [hri, Option.some.injEq] at h2
        subst h2
        refine absurd ⟨?_, h3⟩ hn
        rcases h1 with h1 | ⟨t, h1, h4⟩
        · exact .inl h1
        · rw [hti, Option.some.injEq] at h1; subst h1; exact .inr h4
      have hyes : (i = 0 ∨ twB days ti.d = true) → lgB T.length i row = true → ∀ k < i + 1, (k = 0 ∨ ∃ t, T[k]? = some t ∧ twB days t.d = true) ∧ ∃ r, L[k]? = some r ∧ lgB T.length k r.L = true := fun h1 h2 k hk => by
       rcases (by omega : k < i ∨ k = i) with hk | rfl
       · exact hall k hk
       · exact ⟨h1.imp id fun h => ⟨ti, hti, h⟩, _, hri, h2⟩
      obtain ⟨vt, hvt⟩ : ∃ v, twB days ti.d = v := ⟨_, rfl⟩
      rw [hvt] at h62 hno hyes
      obtain ⟨oo1, oc1, ro1, rc1, O1, s11, s21, pay1, lot1, rent1, R1, cold1, cut1⟩ := ti
      by_cases hok1 : i = 0 ∨ vt = true
      · by_cases hrn : row.length = T.length
        · obtain ⟨_, ar, rfl, _⟩ := hrow.ptr (by omega)
          have hi0 : vt = false → i = 0 := fun e => by
           rcases hok1 with h | h
           · exact h
           · rw [e] at h; cases h
          cases vt
          all_goals first | (have hi1 := hi0 rfl) | skip
          all_goals clear hi0
          repeat'
           conv => whnf
           first
            | refine zA ?_ | refine zB ?_ | refine zC ?_ | refine zD ?_ | refine zE ?_ | refine zF ?_ | refine zG ?_ | refine zH ?_ | refine zJ ?_ | refine zI ?_ | refine splT ?_ | refine splF ?_ | refine splNot ?_
            | ((first | refine splIn ?_ ?_ | refine splD ?_ ?_ | refine splE ?_ ?_ | refine splNE ?_ ?_) <;> intro hc <;> first | (exfalso; omega) | (exfalso; dsimp only at hc; omega) | skip)
            | refine Exists.intro (α := List Value) [.slice oo1 O1.length oc1, iv s11, iv s21, iv pay1, iv lot1, iv rent1, .slice ro1 R1.length rc1, iv cold1, iv cut1] ⟨⟨rfl, fun w' hw' => e1 w' hw'⟩, ?_⟩
            | ((with_reducible show CallEv _ _ 62 _ _ _ _ _); refine callE (k := 62) (fun β w' hbw => h62 w' hbw) ?_)
            | refine Exists.intro (α := List Value) [.slice (some ar) row.length rc'] ⟨⟨rfl, fun w' hw' => e2 w' hw'⟩, ?_⟩
          all_goals first | (exfalso; omega) | skip
          all_goals refine loopE (fun j : Nat => [(1, .ptr 0 0), (3, .v (iv T.length)), (4, .v (iv i)), (5, .v (iv j))]) (fun _ => [(0, .cells [.v (iv days), .v (iv shift), .v (iv size), .v (.slice (some ad) T.length tc), .v (.slice (some al) L.length lc)] 25)]) (fun j => j ≤ T.length ∧ ∀ k < j, ∀ p, row[k]? = some p → ((0 ≤ p.1 ∧ p.1 ≤ 200) ∧ (0 ≤ p.2 ∧ p.2 ≤ 1000000)) ∧ (i = k → p.1 = 0 ∧ p.2 = 0)) (fun j => T.length - j) 0 ⟨Nat.zero_le _, fun k hk => by omega⟩ ⟨rfl, rfl, rfl, rfl, trivial⟩ ⟨rfl, trivial⟩ (fun _ => ⟨rfl, rfl⟩) ?_
          all_goals
           intro j ⟨hj, hlegs⟩
           rcases Nat.lt_or_ge j T.length with hjl | hjl
           · obtain ⟨⟨p1, p2⟩, hp⟩ : ∃ p, row[j]? = some p := ⟨_, List.getElem?_eq_getElem (by omega)⟩
             have e3 := fun (w' : World) hw' => rd_ati (hrow.below (w' := w') hw') hp
             by_cases hok : ((0 ≤ p1 ∧ p1 ≤ 200) ∧ (0 ≤ p2 ∧ p2 ≤ 1000000)) ∧ (i = j → p1 = 0 ∧ p2 = 0)
             · have hnx : ∀ k < j + 1, ∀ p, row[k]? = some p → ((0 ≤ p.1 ∧ p.1 ≤ 200) ∧ (0 ≤ p.2 ∧ p.2 ≤ 1000000)) ∧ (i = k → p.1 = 0 ∧ p.2 = 0) := fun k hk p hpk => by
                rcases (by omega : k < j ∨ k = j) with hk | rfl
                · exact hlegs k hk p hpk
                · rw [hp, Option.some.injEq] at hpk; subst hpk; exact hok
               by_cases hz0 : p1 = 0 ∧ p2 = 0
               · have hz : (!(p1 == 0 && p2 == 0)) = false := by simp [hz0.1, hz0.2]
                 repeat'
                  conv => whnf
                  first
                   | refine zA ?_ | refine zB ?_ | refine zC ?_ | refine zD ?_ | refine zE ?_ | refine zF ?_ | refine zG ?_ | refine zH ?_ | refine zJ ?_ | refine zI ?_ | refine splT ?_ | refine splF ?_ | refine splNot ?_
                   | ((first | refine splIn ?_ ?_ | refine splD ?_ ?_ | refine splE ?_ ?_ | refine splNE ?_ ?_) <;> intro hc <;> first | (exfalso; omega) | (exfalso; dsimp only at hc; omega) | skip)
                   | refine Exists.intro (α := List Value) [.slice (some ar) row.length rc'] ⟨⟨rfl, fun w' hw' => e2 w' hw'⟩, ?_⟩
                   | refine Exists.intro (α := List Value) [iv p1, iv p2] ⟨⟨rfl, fun w' hw' => e3 w' hw'⟩, ?_⟩
                   | ((with_reducible show CallEv _ _ 37 _ _ _ _ _); refine callE (k := 37) (fun β w' hbw => In_ok _ _ _ w') ?_)
                   | refine neqE127 hz ?_
                 all_goals first | (exfalso; omega) | exact ⟨j + 1, ⟨by omega, hnx⟩, by omega, Ent.weak rfl ⟨rfl, rfl, rfl, rfl, trivial⟩ ⟨rfl, trivial⟩ fun _ h => h⟩
               · have hz : (!(p1 == 0 && p2 == 0)) = true := by
                  cases hb : (p1 == 0 && p2 == 0) with
                  | false => rfl
                  | true => simp at hb; exact absurd hb hz0
                 repeat'
                  conv => whnf
                  first
                   | refine zA ?_ | refine zB ?_ | refine zC ?_ | refine zD ?_ | refine zE ?_ | refine zF ?_ | refine zG ?_ | refine zH ?_ | refine zJ ?_ | refine zI ?_ | refine splT ?_ | refine splF ?_ | refine splNot ?_
                   | ((first | refine splIn ?_ ?_ | refine splD ?_ ?_ | refine splE ?_ ?_ | refine splNE ?_ ?_) <;> intro hc <;> first | (exfalso; omega) | (exfalso; dsimp only at hc; omega) | skip)
                   | refine Exists.intro (α := List Value) [.slice (some ar) row.length rc'] ⟨⟨rfl, fun w' hw' => e2 w' hw'⟩, ?_⟩
                   | refine Exists.intro (α := List Value) [iv p1, iv p2] ⟨⟨rfl, fun w' hw' => e3 w' hw'⟩, ?_⟩
                   | ((with_reducible show CallEv _ _ 37 _ _ _ _ _); refine callE (k := 37) (fun β w' hbw => In_ok _ _ _ w') ?_)
                   | refine neqE127 hz ?_
                 all_goals first | (exfalso; omega) | exact ⟨j + 1, ⟨by omega, hnx⟩, by omega, Ent.weak rfl ⟨rfl, rfl, rfl, rfl, trivial⟩ ⟨rfl, trivial⟩ fun _ h => h⟩
             · have hVf : false = V := hno fun hh => hok (by
                have h2 := hh.2
                simp only [lgB, inB, Bool.and_eq_true, decide_eq_true_eq, List.all_eq_true] at h2
                refine ⟨h2.2.2 (p1, p2) (List.mem_of_getElem? hp), fun e => ?_⟩
                subst e
                rw [hp, Option.some.injEq, Prod.mk.injEq] at h2
                exact h2.2.1)
               obtain ⟨vz, hz⟩ : ∃ v, (!(p1 == 0 && p2 == 0)) = v := ⟨_, rfl⟩
               have hz2 : vz = false → p1 = 0 ∧ p2 = 0 := fun e => by subst e; simpa using hz
               cases vz
               all_goals skip
               all_goals have hz2 := hz2
               · have hz3 := hz2 rfl
                 repeat'
                  conv => whnf
                  first
                   | refine zA ?_ | refine zB ?_ | refine zC ?_ | refine zD ?_ | refine zE ?_ | refine zF ?_ | refine zG ?_ | refine zH ?_ | refine zJ ?_ | refine zI ?_ | refine splT ?_ | refine splF ?_ | refine splNot ?_
                   | ((first | refine splIn ?_ ?_ | refine splD ?_ ?_ | refine splE ?_ ?_ | refine splNE ?_ ?_) <;> intro hc <;> first | (exfalso; omega) | (exfalso; dsimp only at hc; omega) | skip)
                   | refine Exists.intro (α := List Value) [.slice (some ar) row.length rc'] ⟨⟨rfl, fun w' hw' => e2 w' hw'⟩, ?_⟩
                   | refine Exists.intro (α := List Value) [iv p1, iv p2] ⟨⟨rfl, fun w' hw' => e3 w' hw'⟩, ?_⟩
                   | ((with_reducible show CallEv _ _ 37 _ _ _ _ _); refine callE (k := 37) (fun β w' hbw => In_ok _ _ _ w') ?_)
                   | refine neqE127 hz ?_
                 all_goals first | (exfalso; omega) | exact ⟨fun β => congrArg Value.bool hVf, fun w' h => h⟩
               · clear hz2
                 repeat'
                  conv => whnf
                  first
                   | refine zA ?_ | refine zB ?_ | refine zC ?_ | refine zD ?_ | refine zE ?_ | refine zF ?_ | refine zG ?_ | refine zH ?_ | refine zJ ?_ | refine zI ?_ | refine splT ?_ | refine splF ?_ | refine splNot ?_
                   | ((first | refine splIn ?_ ?_ | refine splD ?_ ?_ | refine splE ?_ ?_ | refine splNE ?_ ?_) <;> intro hc <;> first | (exfalso; omega) | (exfalso; dsimp only at hc; omega) | skip)
                   | refine Exists.intro (α := List Value) [.slice (some ar) row.length rc'] ⟨⟨rfl, fun w' hw' => e2 w' hw'⟩, ?_⟩
                   | refine Exists.intro (α := List Value) [iv p1, iv p2] ⟨⟨rfl, fun w' hw' => e3 w' hw'⟩, ?_⟩
                   | ((with_reducible show CallEv _ _ 37 _ _ _ _ _); refine callE (k := 37) (fun β w' hbw => In_ok _ _ _ w') ?_)
                   | refine neqE127 hz ?_
                 all_goals first | (exfalso; omega) | exact ⟨fun β => congrArg Value.bool hVf, fun w' h => h⟩
           · have hlg : lgB T.length i row = true := by
              simp only [lgB, inB, Bool.and_eq_true, decide_eq_true_eq, List.all_eq_true]
              refine ⟨hrn, ?_, fun p hp => ?_⟩
              · obtain ⟨p, hp⟩ : ∃ p, row[i]? = some p := ⟨_, List.getElem?_eq_getElem (by omega)⟩
                have := (hlegs i (by omega) p hp).2 rfl
                rw [hp]
                obtain ⟨a, b⟩ := p
                simp only [Option.some.injEq, Prod.mk.injEq]
                exact this
              · obtain ⟨k, hk⟩ := List.mem_iff_getElem?.1 hp
                exact (hlegs k (by have := (List.getElem?_eq_some_iff.1 hk).1; omega) p hk).1
             repeat'
              conv => whnf
              first
               | refine zA ?_ | refine zB ?_ | refine zC ?_ | refine zD ?_ | refine zE ?_ | refine zF ?_ | refine zG ?_ | refine zH ?_ | refine zJ ?_ | refine zI ?_ | refine splT ?_ | refine splF ?_ | refine splNot ?_
               | ((first | refine splIn ?_ ?_ | refine splD ?_ ?_ | refine splE ?_ ?_ | refine splNE ?_ ?_) <;> intro hc <;> first | (exfalso; omega) | (exfalso; dsimp only at hc; omega) | skip)
             all_goals first | (exfalso; omega) | exact ⟨i + 1, ⟨by omega, hyes hok1 hlg⟩, by omega, Ent.weak rfl ⟨rfl, rfl, rfl, trivial⟩ ⟨rfl, trivial⟩ fun _ h => h⟩
        · have hVf : false = V := hno fun hh => hrn (by
           have h2 := hh.2
           simp only [lgB, Bool.and_eq_true, decide_eq_true_eq] at h2
           exact h2.1)
          cases vt
          all_goals skip
          repeat'
           conv => whnf
           first
            | refine zA ?_ | refine zB ?_ | refine zC ?_ | refine zD ?_ | refine zE ?_ | refine zF ?_ | refine zG ?_ | refine zH ?_ | refine zJ ?_ | refine zI ?_ | refine splT ?_ | refine splF ?_ | refine splNot ?_
            | ((first | refine splIn ?_ ?_ | refine splD ?_ ?_ | refine splE ?_ ?_ | refine splNE ?_ ?_) <;> intro hc <;> first | (exfalso; omega) | (exfalso; dsimp only at hc; omega) | skip)
            | refine Exists.intro (α := List Value) [.slice oo1 O1.length oc1, iv s11, iv s21, iv pay1, iv lot1, iv rent1, .slice ro1 R1.length rc1, iv cold1, iv cut1] ⟨⟨rfl, fun w' hw' => e1 w' hw'⟩, ?_⟩
            | ((with_reducible show CallEv _ _ 62 _ _ _ _ _); refine callE (k := 62) (fun β w' hbw => h62 w' hbw) ?_)
            | refine Exists.intro (α := List Value) [.slice ro' row.length rc'] ⟨⟨rfl, fun w' hw' => e2 w' hw'⟩, ?_⟩
          all_goals first | (exfalso; omega) | exact ⟨fun β => congrArg Value.bool hVf, fun w' h => h⟩
      · have hVf : false = V := hno fun hh => hok1 hh.1
        cases vt with
        | true => exact absurd (.inr rfl) hok1
        | false =>
         have hi0 : i ≠ 0 := fun e => hok1 (.inl e)
         repeat'
          conv => whnf
          first
           | refine zA ?_ | refine zB ?_ | refine zC ?_ | refine zD ?_ | refine zE ?_ | refine zF ?_ | refine zG ?_ | refine zH ?_ | refine zJ ?_ | refine zI ?_ | refine splT ?_ | refine splF ?_ | refine splNot ?_
           | ((first | refine splIn ?_ ?_ | refine splD ?_ ?_ | refine splE ?_ ?_ | refine splNE ?_ ?_) <;> intro hc <;> first | (exfalso; omega) | (exfalso; dsimp only at hc; omega) | skip)
           | refine Exists.intro (α := List Value) [.slice oo1 O1.length oc1, iv s11, iv s21, iv pay1, iv lot1, iv rent1, .slice ro1 R1.length rc1, iv cold1, iv cut1] ⟨⟨rfl, fun w' hw' => e1 w' hw'⟩, ?_⟩
           | ((with_reducible show CallEv _ _ 62 _ _ _ _ _); refine callE (k := 62) (fun β w' hbw => h62 w' hbw) ?_)
           | refine Exists.intro (α := List Value) [.slice ro' row.length rc'] ⟨⟨rfl, fun w' hw' => e2 w' hw'⟩, ?_⟩
         all_goals first | (exfalso; omega) | exact ⟨fun β => congrArg Value.bool hVf, fun w' h => h⟩
    · have hVt : true = V := (hiff.2 ⟨hA, hq0.2 rfl, fun k hk => hall k (by omega)⟩).symm
      repeat'
       conv => whnf
       first
        | refine zA ?_ | refine zB ?_ | refine zC ?_ | refine zD ?_ | refine zE ?_ | refine zF ?_ | refine zG ?_ | refine zH ?_ | refine zJ ?_ | refine zI ?_ | refine splT ?_ | refine splF ?_ | refine splNot ?_
        | ((first | refine splIn ?_ ?_ | refine splD ?_ ?_ | refine splE ?_ ?_ | refine splNE ?_ ?_) <;> intro hc <;> first | (exfalso; omega) | (exfalso; dsimp only at hc; omega) | skip)
      all_goals first | (exfalso; omega) | exact ⟨fun β => congrArg Value.bool hVt, fun w' h => h⟩
 · have hVf : false = V := by
    cases V with
    | false => rfl
    | true => exact absurd (hiff.1 rfl).1 hA
   repeat'
    conv => whnf
    first
     | refine zA ?_ | refine zB ?_ | refine zC ?_ | refine zD ?_ | refine zE ?_ | refine zF ?_ | refine zG ?_ | refine zH ?_ | refine zJ ?_ | refine zI ?_ | refine splT ?_ | refine splF ?_ | refine splNot ?_
     | ((first | refine splIn ?_ ?_ | refine splD ?_ ?_ | refine splE ?_ ?_ | refine splNE ?_ ?_) <;> intro hc <;> first | (exfalso; omega) | (exfalso; dsimp only at hc; omega) | skip)
     | ((with_reducible show CallEv _ _ 37 _ _ _ _ _); refine callE (k := 37) (fun β w' hbw => In_ok _ _ _ w') ?_)
   all_goals first | (exfalso; omega) | exact ⟨fun β => congrArg Value.bool hVf, fun w' h => h⟩
end Go.Proofs.Ythfabodamhdhaaa
namespace Go.Proofs.Ythfabodamhdhaaa
open Go Tx Go.RowKit
set_option linter.unusedSimpArgs false
set_option linter.unusedVariables false
structure TrB (x : Tr) : Prop where
 t : ∀ t ∈ x.T, t.d.O.length ≤ 100 ∧ t.d.R.length ≤ 100
 l : ∀ r ∈ x.L, r.L.length ≤ 100
 tl : x.T.length ≤ 100
 ll : x.L.length ≤ 100
theorem TrI0.b {x : Tr} {w : World} (h : TrI0 x w) (hb : TrB x) : TrIn x w :=
 ⟨h.t, fun t ht => ⟨(h.ti t ht).o, (h.ti t ht).r, by have := hb.t t ht; omega, by have := hb.t t ht; omega⟩, h.l, h.li, by have := hb.tl; omega, by have := hb.ll; omega, fun r hr => by have := hb.l r hr; omega, h.tcap⟩
theorem toB_b {x : Tr} (h : toB x.d = true) : TrB x := by
 have hn := toB_n h
 obtain ⟨days, shift, size, to, tc, T, lo, lc, L⟩ := x
 have h0 := (toB_iff days shift size to tc T lo lc L).1 h
 have h9 := hn.n
 have hl := hn.l
 simp only [Tr.d, List.length_map] at h9 hl
 refine ⟨fun t ht => ?_, fun r hr => ?_, by show T.length ≤ 100; omega, by show L.length ≤ 100; omega⟩
 · obtain ⟨k, hk⟩ := List.mem_iff_getElem?.1 ht
   have hkl := (List.getElem?_eq_some_iff.1 hk).1
   rcases (h0.2.2 k hkl).1 with rfl | ⟨t', h1, h2⟩
   · obtain ⟨t', h1, h2⟩ := h0.2.1
     rw [hk, Option.some.injEq] at h1
     subst h1
     simp only [quB, Bool.and_eq_true, decide_eq_true_eq] at h2
     omega
   · rw [hk, Option.some.injEq] at h1
     subst h1
     simp only [twB, inB, Bool.and_eq_true, decide_eq_true_eq] at h2
     omega
 · have := hn.lr r.L (List.mem_map.2 ⟨r, hr, rfl⟩)
   have h3 := this.1
   simp only [Tr.d, List.length_map] at h3
   omega
set_option maxHeartbeats 4000000 in
set_option maxRecDepth 100000 in
theorem ranges_ok (L : List (Int × Int)) (o : Option Addr) (c : Nat) (w : World) (hrd : Rd 2 prF (.slice o L.length c) L w) (hl : L.length ≤ 1000) :
 Calls Try.prog 60 #[.slice o L.length c] w fun e w' => (L = [] → e = .returned (.slice none 0 0) ∧ Below w.heap.size w w') ∧ (L ≠ [] → ∃ b d, e = .returned (.slice (some ⟨b, 0, none⟩) L.length d) ∧ w.heap.size ≤ b ∧ Below w.heap.size w w' ∧ w'.ownsRow 0 55 2 (.slice (some ⟨b, 0, none⟩) L.length d) L.length (L.flatMap prF)) := by
 refine calls_fam2 env mixed Try.func60 has60 Try.ntmps60 [.slice o L.length c] (by simp) ?_
 repeat'
  conv => whnf
  first
   | refine zA ?_ | refine zB ?_ | refine zC ?_ | refine zD ?_ | refine zE ?_ | refine zF ?_ | refine zG ?_ | refine zH ?_ | refine zJ ?_ | refine zI ?_ | refine splT ?_ | refine splF ?_ | refine splNot ?_
   | ((first | refine splIn ?_ ?_ | refine splD ?_ ?_ | refine splE ?_ ?_ | refine splNE ?_ ?_) <;> intro hc <;> first | (exfalso; omega) | (exfalso; dsimp only at hc; omega) | skip)
 refine loopN 2 (fun k : Nat => [(0, .v (.slice o L.length c)), (3, oSV 0 1 (L.take k)), (4, .v (iv k))]) (fun k => oM 0 1 2 prF 55 (L.take k)) (fun k => k ≤ L.length) (fun k => L.length - k) 0 (Nat.zero_le _) ⟨rfl, rfl, rfl, trivial⟩ trivial (fun k _ => by cases L.take k <;> exact ⟨rfl, rfl⟩) ?_
 intro k hk
 rcases Nat.lt_or_ge k L.length with hkl | hkl
 · obtain ⟨⟨p1, p2⟩, hx⟩ : ∃ b, L[k]? = some b := ⟨_, List.getElem?_eq_getElem hkl⟩
   obtain ⟨_, ad, rfl, _⟩ := hrd.ptr (by omega)
   have e0 := fun (w' : World) hw' => rd_fldz (hrd.below (w' := w') hw') hx _ rfl 0 (iv p1) rfl
   have e1 := fun (w' : World) hw' => rd_fldz (hrd.below (w' := w') hw') hx _ rfl 1 (iv p2) rfl
   have ht : L.take (k + 1) = L.take k ++ [(p1, p2)] := by rw [List.take_add_one, hx]; rfl
   have hlen : (L.take k).length = k := by rw [List.length_take]; omega
   generalize L.take k = D at *
   cases D with
   | nil =>
    repeat'
     conv => whnf
     first
      | refine zA ?_ | refine zB ?_ | refine zC ?_ | refine zD ?_ | refine zE ?_ | refine zF ?_ | refine zG ?_ | refine zH ?_ | refine zJ ?_ | refine zI ?_ | refine splT ?_ | refine splF ?_ | refine splNot ?_
      | ((first | refine splIn ?_ ?_ | refine splD ?_ ?_ | refine splE ?_ ?_ | refine splNE ?_ ?_) <;> intro hc <;> first | (exfalso; omega) | (exfalso; dsimp only at hc; omega) | skip)
      | refine Exists.intro (α := List Value) [iv p1] ⟨⟨rfl, fun w' hw' => e0 w' hw'⟩, ?_⟩
      | refine Exists.intro (α := List Value) [iv p2] ⟨⟨rfl, fun w' hw' => e1 w' hw'⟩, ?_⟩
    all_goals first | (exfalso; omega) | exact ⟨k + 1, by omega, by omega, Ent.ren (rho [(0, 3), (1, 4)]) rfl (by rw [ht]; rfl) ⟨rfl, by rw [ht]; rfl, rfl, trivial⟩ (by rw [ht]; exact ⟨rfl, trivial⟩) fun _ h => h⟩
   | cons a D =>
    simp only [List.length_cons] at hlen
    repeat'
     conv => whnf
     first
      | refine zA ?_ | refine zB ?_ | refine zC ?_ | refine zD ?_ | refine zE ?_ | refine zF ?_ | refine zG ?_ | refine zH ?_ | refine zJ ?_ | refine zI ?_ | refine splT ?_ | refine splF ?_ | refine splNot ?_
      | ((first | refine splIn ?_ ?_ | refine splD ?_ ?_ | refine splE ?_ ?_ | refine splNE ?_ ?_) <;> intro hc <;> first | (exfalso; omega) | (exfalso; dsimp only at hc; omega) | skip)
      | refine Exists.intro (α := List Value) [iv p1] ⟨⟨rfl, fun w' hw' => e0 w' hw'⟩, ?_⟩
      | refine Exists.intro (α := List Value) [iv p2] ⟨⟨rfl, fun w' hw' => e1 w' hw'⟩, ?_⟩
    all_goals first | (exfalso; omega) | exact ⟨k + 1, by omega, by omega, Ent.ren (rho [(0, 3), (1, 4)]) rfl (by rw [ht]; rfl) ⟨rfl, by rw [ht]; simp [oSV]; rfl, rfl, trivial⟩ (by rw [ht]; exact ⟨by simp [oM]; rfl, trivial⟩) fun _ h => h⟩
 · obtain rfl : k = L.length := by omega
   rw [List.take_length]
   cases L with
   | nil =>
    repeat'
     conv => whnf
     first
      | refine zA ?_ | refine zB ?_ | refine zC ?_ | refine zD ?_ | refine zE ?_ | refine zF ?_ | refine zG ?_ | refine zH ?_ | refine zJ ?_ | refine zI ?_ | refine splT ?_ | refine splF ?_ | refine splNot ?_
      | ((first | refine splIn ?_ ?_ | refine splD ?_ ?_ | refine splE ?_ ?_ | refine splNE ?_ ?_) <;> intro hc <;> first | (exfalso; omega) | (exfalso; dsimp only at hc; omega) | skip)
    all_goals first | (exfalso; omega) | exact ⟨fun w' h => h, fun β w' hB hB2 hblk => ⟨fun _ => ⟨rfl, hB2⟩, fun h => absurd rfl h⟩⟩
   | cons a D =>
    repeat'
     conv => whnf
     first
      | refine zA ?_ | refine zB ?_ | refine zC ?_ | refine zD ?_ | refine zE ?_ | refine zF ?_ | refine zG ?_ | refine zH ?_ | refine zJ ?_ | refine zI ?_ | refine splT ?_ | refine splF ?_ | refine splNot ?_
      | ((first | refine splIn ?_ ?_ | refine splD ?_ ?_ | refine splE ?_ ?_ | refine splNE ?_ ?_) <;> intro hc <;> first | (exfalso; omega) | (exfalso; dsimp only at hc; omega) | skip)
    all_goals first | (exfalso; omega) | exact ⟨fun w' h => h, fun β w' hB hB2 hblk => ⟨(fun h => by cases h), fun _ => ⟨β 0, β 1, rfl, (hblk 0 _ rfl rfl).1, hB2, (hblk 0 _ rfl rfl).2⟩⟩⟩
end Go.Proofs.Ythfabodamhdhaaa
namespace Go.Proofs.Ythfabodamhdhaaa
open Go Tx Go.RowKit
set_option linter.unusedSimpArgs false
set_option linter.unusedVariables false
theorem rows_st {α : Type} {sz : Nat} {f : α → List Value} (hf : ∀ x, (f x).length = sz) {bs : List α} {w : World} {m b n ty c : Nat} {xs : List Value} (hn : n = bs.length) (hx : xs = bs.flatMap f) (hb : m ≤ b) (h : w.ownsRow 0 ty sz (.slice (some ⟨b, 0, none⟩) n c) n xs) :
 St m (Rd sz f (.slice (some ⟨b, 0, none⟩) n c) bs) w := fun w2 k => by
 obtain ⟨cur, hc⟩ := own_heap h
 exact Rd.of_owns (sz := sz) (f := f) hf hx hn (own_keep h (k.same b hb (Array.getElem?_eq_some_iff.1 hc).1))
theorem own_cap {w : World} {b n c sz ty : Nat} {xs : List Value} (h : w.ownsRow 0 ty sz (.slice (some ⟨b, 0, none⟩) n c) n xs) : n ≤ c := by
 rcases h.2 with ⟨h', _⟩ | ⟨g, cap, cur, q0, q1, q2, q3, _⟩
 · cases h'
 · simp only [Value.slice.injEq] at q0
   obtain ⟨_, _, rfl⟩ := q0
   exact q3
set_option maxHeartbeats 8000000 in
set_option maxRecDepth 100000 in
theorem Tour_ok (x : Tr) (w : World) (h : TrIn x w) (hB : TrB x) : Calls Try.prog 21 #[x.v] w fun e w' => ∃ y : Tr, e = .returned y.v ∧ Below w.heap.size w w' ∧ St w.heap.size (fun w2 => TrIn y w2 ∧ y.d = x.d) w' := by
 obtain ⟨days, shift, size, to, tc, T, lo, lc, L⟩ := x
 obtain ⟨hT, hTi, hL, hLi, -, -, -, htc⟩ := h
 obtain ⟨hBt, hBl, htl, hll⟩ := hB
 dsimp only at hT hTi hL hLi htc hBt hBl htl hll ⊢
 refine calls_famV env mixed Try.func21 has21 Try.ntmps21 [.agg #[iv days, iv shift, iv size, .slice to T.length tc, .slice lo L.length lc]] (by simp) ?_
 refine VC.cutD env mixed 3 3 (fun _ : (Option Addr × Nat) × List Tn => [(1, .ptr 0 0), (2, .ptr 1 0), (3, .ptr 2 0)]) (fun y => [(0, .cells [.v (iv days), .v (iv shift), .v (iv size), .v (.slice to T.length tc), .v (.slice lo L.length lc)] 25), (1, .cells [.v (iv 0), .v (iv 0), .v (iv 0), .v (.slice none 0 0), .v (.slice none 0 0)] 35), (2, .cells [.v (iv days), .v (iv shift), .v (iv size), .v (.slice y.1.1 T.length y.1.2), .v (.slice none 0 0)] 35)]) (fun y w2 => Below w.heap.size w w2 ∧ (St w.heap.size (Rd 9 Tn.cs (.slice y.1.1 T.length y.1.2) y.2) w2 ∧ ∀ t ∈ y.2, St w.heap.size (TnIn t) w2)) (fun y => y.2.map Tn.d = T.map Tn.d ∧ T.length ≤ y.1.2) (fun _ _ => ⟨rfl, rfl⟩) ?_ ?_
 · skip
   repeat'
    conv => whnf
    first
     | refine zA ?_ | refine zB ?_ | refine zC ?_ | refine zD ?_ | refine zE ?_ | refine zF ?_ | refine zG ?_ | refine zH ?_ | refine zJ ?_ | refine zI ?_ | refine splT ?_ | refine splF ?_ | refine splNot ?_
     | ((first | refine splIn ?_ ?_ | refine splD ?_ ?_ | refine splE ?_ ?_ | refine splNE ?_ ?_) <;> intro hc <;> first | (exfalso; omega) | (exfalso; dsimp only at hc; omega) | skip)
   all_goals first | (exfalso; omega) | skip
   refine loopD 5 (fun D : List Tn => [(1, .ptr 0 0), (2, .ptr 1 0), (3, .ptr 2 0), (4, .v (iv D.length))]) (fun D => (0, .cells [.v (iv days), .v (iv shift), .v (iv size), .v (.slice to T.length tc), .v (.slice lo L.length lc)] 25) :: (1, .cells [.v (iv 0), .v (iv 0), .v (iv 0), .v (.slice none 0 0), .v (.slice none 0 0)] 35) :: (2, .cells [.v (iv days), .v (iv shift), .v (iv size), oSV 3 4 D, .v (.slice none 0 0)] 35) :: oM 3 4 9 Tn.cs 57 D) (fun (D : List Tn) w' => Below w.heap.size w w' ∧ ∀ t ∈ D, St w.heap.size (TnIn t) w') (fun D => D.length ≤ T.length ∧ D.map Tn.d = (T.map Tn.d).take D.length) (fun D => T.length - D.length)
    (Dis.ent (x := []) ⟨Nat.zero_le _, rfl⟩ (Ent.weak rfl ⟨rfl, rfl, rfl, rfl, trivial⟩ ⟨rfl, rfl, rfl, trivial⟩ (fun w' h => ⟨h, fun p hp => by cases hp⟩))) (fun D _ => by cases D <;> exact ⟨rfl, rfl⟩) ?_
   intro D ⟨hk, hmap⟩
   rcases Nat.lt_or_ge D.length T.length with hkl | hkl
   · obtain ⟨⟨oo, oc, ro, rc, O, s1, s2, pay, lot, rent, R, cold, cut⟩, hx⟩ : ∃ b, T[D.length]? = some b := ⟨_, List.getElem?_eq_getElem hkl⟩
     obtain ⟨_, ad, rfl, _⟩ := hT.ptr (by omega)
     have e0 := fun (w' : World) hw' => rd_ati (hT.below (w' := w') hw') hx
     have hti := hTi _ (List.mem_of_getElem? hx)
     have hbt := hBt _ (List.mem_of_getElem? hx)
     obtain ⟨htO, htR, -, -⟩ := hti
     dsimp only at htO htR hbt
     have hO60 := fun w' (hb : Below w.heap.size w w') => ranges_ok O oo oc w' (htO.below hb) (by omega)
     have hR60 := fun w' (hb : Below w.heap.size w w') => ranges_ok R ro rc w' (htR.below hb) (by omega)
     have hm : (T.map Tn.d)[D.length]? = some ⟨O, s1, s2, pay, lot, rent, R, cold, cut⟩ := by rw [List.getElem?_map, hx]; rfl
     have hnew : ∀ t : Tn, t.d = ⟨O, s1, s2, pay, lot, rent, R, cold, cut⟩ → (D ++ [t]).map Tn.d = (T.map Tn.d).take (D ++ [t]).length := fun t ht => by
      rw [List.map_append, hmap, List.length_append, List.length_singleton, List.take_add_one, hm]
      show _ ++ [t.d] = _
      rw [ht]; rfl
     have hl2 : ∀ t : Tn, (D ++ [t]).length = D.length + 1 := fun t => by simp
     have hh : ∀ (t : Tn) w', (fun (D : List Tn) w' => Below w.heap.size w w' ∧ ∀ t ∈ D, St w.heap.size (TnIn t) w') D w' → t.d = ⟨O, s1, s2, pay, lot, rent, R, cold, cut⟩ → St w.heap.size (TnIn t) w' → (fun (D : List Tn) w' => Below w.heap.size w w' ∧ ∀ t ∈ D, St w.heap.size (TnIn t) w') (D ++ [t]) w' := fun t w' hw' _ ht => ⟨hw'.1, fun r hr => by
      rcases List.mem_append.1 hr with hr | hr
      · exact hw'.2 r hr
      · rw [List.mem_singleton] at hr; subst hr; exact ht⟩
     generalize hn : D.length = n at *
     by_cases hOn : O = []
     · subst hOn
       have hO1 := fun w' hb => (hO60 w' hb).mono fun e w2 h => h.1 rfl
       by_cases hRn : R = []
       · subst hRn
         have hR1 := fun w' hb => (hR60 w' hb).mono fun e w2 h => h.1 rfl
         clear hO60 hR60
         cases D with
         | nil =>
          repeat'
           conv => whnf
           first
            | refine zA ?_ | refine zB ?_ | refine zC ?_ | refine zD ?_ | refine zE ?_ | refine zF ?_ | refine zG ?_ | refine zH ?_ | refine zJ ?_ | refine zI ?_ | refine splT ?_ | refine splF ?_ | refine splNot ?_
            | ((first | refine splIn ?_ ?_ | refine splD ?_ ?_ | refine splE ?_ ?_ | refine splNE ?_ ?_) <;> intro hc <;> first | (exfalso; omega) | (exfalso; dsimp only at hc; omega) | skip)
            | refine Exists.intro (α := List Value) [.slice oo ([] : List (Int × Int)).length oc, iv s1, iv s2, iv pay, iv lot, iv rent, .slice ro ([] : List (Int × Int)).length rc, iv cold, iv cut] ⟨⟨rfl, fun w' hw' => e0 w' hw'.1⟩, ?_⟩
            | ((with_reducible show CallEv _ _ 60 [.v (.slice oo ([] : List (Int × Int)).length oc)] _ _ _ _); refine callE (k := 60) (fun β w' hbw => hO1 w' hbw.1) ?_)
            | ((with_reducible show CallEv _ _ 60 [.v (.slice ro ([] : List (Int × Int)).length rc)] _ _ _ _); refine callE (k := 60) (fun β w' hbw => hR1 w' hbw.1) ?_)
          all_goals first | (exfalso; omega) | skip
          exact Dis.mk5 (w0 := w) (rho [(3, 7), (4, 8)]) [] (by exact trivial) (fun i hi => by cases hi) (fun w' h => h.1) (fun β w1 hok hw1 hge hne hij => ⟨[] ++ [(⟨none, 0, none, 0, ⟨[], s1, s2, pay, lot, rent, [], cold, cut⟩⟩ : Tn)], ⟨⟨by (show 1 ≤ T.length); omega, hnew (⟨none, 0, none, 0, ⟨[], s1, s2, pay, lot, rent, [], cold, cut⟩⟩ : Tn) rfl⟩, by (have hn0 : n = 0 := hn.symm); (show T.length - 1 < T.length - n); omega⟩, ⟨⟨_, rfl, rfl⟩, ⟨_, rfl, rfl⟩, ⟨_, rfl, rfl⟩, ⟨_, rfl, by rw [← hn]; rfl⟩, trivial⟩,
           ⟨⟨rfl, _, rfl, fun _ => rfl, fun w2 y hy => hy⟩, ⟨rfl, _, rfl, fun _ => rfl, fun w2 y hy => hy⟩, ⟨rfl, _, rfl, fun _ => rfl, fun w2 y hy => hy⟩, ⟨rfl, _, rfl, fun _ => rfl, fun w2 y hy => hy⟩, trivial⟩, rfl, fun w2 hw2 hLo => hh (⟨none, 0, none, 0, ⟨[], s1, s2, pay, lot, rent, [], cold, cut⟩⟩ : Tn) w2 hw2 rfl (fun w3 k3 => ⟨.inl ⟨rfl, rfl⟩, .inl ⟨rfl, rfl⟩, by (show ([] : List (Int × Int)).length ≤ 1000000); omega, by (show ([] : List (Int × Int)).length ≤ 1000000); omega⟩)⟩)
         | cons a D =>
          simp only [List.length_cons] at hn
          have hl3 : ∀ t : Tn, (a :: D ++ [t]).length = D.length + 1 + 1 := fun t => by rw [hl2]; omega
          have hoS : ∀ t : Tn, oSV 3 4 (a :: D ++ [t]) = .os 3 4 (D.length + 1 + 1) := fun t => by simp [oSV]
          repeat'
           conv => whnf
           first
            | refine zA ?_ | refine zB ?_ | refine zC ?_ | refine zD ?_ | refine zE ?_ | refine zF ?_ | refine zG ?_ | refine zH ?_ | refine zJ ?_ | refine zI ?_ | refine splT ?_ | refine splF ?_ | refine splNot ?_
            | ((first | refine splIn ?_ ?_ | refine splD ?_ ?_ | refine splE ?_ ?_ | refine splNE ?_ ?_) <;> intro hc <;> first | (exfalso; omega) | (exfalso; dsimp only at hc; omega) | skip)
            | refine Exists.intro (α := List Value) [.slice oo ([] : List (Int × Int)).length oc, iv s1, iv s2, iv pay, iv lot, iv rent, .slice ro ([] : List (Int × Int)).length rc, iv cold, iv cut] ⟨⟨rfl, fun w' hw' => e0 w' hw'.1⟩, ?_⟩
            | ((with_reducible show CallEv _ _ 60 [.v (.slice oo ([] : List (Int × Int)).length oc)] _ _ _ _); refine callE (k := 60) (fun β w' hbw => hO1 w' hbw.1) ?_)
            | ((with_reducible show CallEv _ _ 60 [.v (.slice ro ([] : List (Int × Int)).length rc)] _ _ _ _); refine callE (k := 60) (fun β w' hbw => hR1 w' hbw.1) ?_)
          all_goals first | (exfalso; omega) | skip
          exact Dis.mk5 (w0 := w) (rho [(3, 7), (4, 8)]) [] (by exact trivial) (fun i hi => by cases hi) (fun w' h => h.1) (fun β w1 hok hw1 hge hne hij => ⟨a :: D ++ [(⟨none, 0, none, 0, ⟨[], s1, s2, pay, lot, rent, [], cold, cut⟩⟩ : Tn)], ⟨⟨by have := hl3 (⟨none, 0, none, 0, ⟨[], s1, s2, pay, lot, rent, [], cold, cut⟩⟩ : Tn); omega, hnew (⟨none, 0, none, 0, ⟨[], s1, s2, pay, lot, rent, [], cold, cut⟩⟩ : Tn) rfl⟩, by have := hl3 (⟨none, 0, none, 0, ⟨[], s1, s2, pay, lot, rent, [], cold, cut⟩⟩ : Tn); omega⟩, ⟨⟨_, rfl, rfl⟩, ⟨_, rfl, rfl⟩, ⟨_, rfl, rfl⟩, ⟨_, rfl, by rw [hl3 (⟨none, 0, none, 0, ⟨[], s1, s2, pay, lot, rent, [], cold, cut⟩⟩ : Tn), ← hn]; rfl⟩, trivial⟩,
           ⟨⟨rfl, _, rfl, fun _ => rfl, fun w2 y hy => hy⟩, ⟨rfl, _, rfl, fun _ => rfl, fun w2 y hy => hy⟩, ⟨rfl, _, rfl, fun _ => rfl, fun w2 y hy => by rw [hoS (⟨none, 0, none, 0, ⟨[], s1, s2, pay, lot, rent, [], cold, cut⟩⟩ : Tn)]; exact hy⟩, by simp [oM]; exact ⟨⟨rfl, _, rfl, fun _ => rfl, fun w2 y hy => by simp [Blk.ok] at hy ⊢; exact hy⟩, trivial⟩⟩, rfl, fun w2 hw2 hLo => hh (⟨none, 0, none, 0, ⟨[], s1, s2, pay, lot, rent, [], cold, cut⟩⟩ : Tn) w2 hw2 rfl (fun w3 k3 => ⟨.inl ⟨rfl, rfl⟩, .inl ⟨rfl, rfl⟩, by (show ([] : List (Int × Int)).length ≤ 1000000); omega, by (show ([] : List (Int × Int)).length ≤ 1000000); omega⟩)⟩)
       · have hR2 := fun w' hb => (hR60 w' hb).mono fun e w2 h => h.2 hRn
         clear hO60 hR60
         cases D with
         | nil =>
          repeat'
           conv => whnf
           first
            | refine zA ?_ | refine zB ?_ | refine zC ?_ | refine zD ?_ | refine zE ?_ | refine zF ?_ | refine zG ?_ | refine zH ?_ | refine zJ ?_ | refine zI ?_ | refine splT ?_ | refine splF ?_ | refine splNot ?_
            | ((first | refine splIn ?_ ?_ | refine splD ?_ ?_ | refine splE ?_ ?_ | refine splNE ?_ ?_) <;> intro hc <;> first | (exfalso; omega) | (exfalso; dsimp only at hc; omega) | skip)
            | refine Exists.intro (α := List Value) [.slice oo ([] : List (Int × Int)).length oc, iv s1, iv s2, iv pay, iv lot, iv rent, .slice ro R.length rc, iv cold, iv cut] ⟨⟨rfl, fun w' hw' => e0 w' hw'.1⟩, ?_⟩
            | ((with_reducible show CallEv _ _ 60 [.v (.slice oo ([] : List (Int × Int)).length oc)] _ _ _ _); refine callE (k := 60) (fun β w' hbw => hO1 w' hbw.1) ?_)
            | ((with_reducible show CallEv _ _ 60 [.v (.slice ro R.length rc)] _ _ _ _); refine callO 6 [] (.os 6 7 R.length) R.length 2 (R.flatMap prF) 55 rfl (fun β w' _ hbw => (hR2 w' hbw.1).mono fun _ _ ⟨b, c, h1, h2, h3, h4⟩ => ⟨b, c, h1, h2, h3, h4⟩) ?_)
            | refine appG env 8 1 1 [.v (.slice none 0 0), .v (iv s1), .v (iv s2), .v (iv pay), .v (iv lot), .v (iv rent), .os 6 7 R.length, .v (iv cold), .v (iv cut)] 57 0 [] [] rfl rfl rfl rfl rfl (by decide) rfl rfl rfl (fun _ => Nat.le_refl _) (by omega) (by decide) rfl (.inl ⟨rfl, rfl, rfl, rfl⟩) rfl ?_
          all_goals first | (exfalso; omega) | skip
          exact Dis.mk5 (w0 := w) (rho [(3, 9), (4, 10)]) [6] (by exact trivial) (fun i hi => by rw [List.mem_singleton] at hi; subst hi; exact ⟨_, rfl, rfl⟩) (fun w' h => h.1) (fun β w1 hok hw1 hge hne hij => ⟨[] ++ [(⟨none, 0, some ⟨β 6, 0, none⟩, β 7, ⟨[], s1, s2, pay, lot, rent, R, cold, cut⟩⟩ : Tn)], ⟨⟨by (show 1 ≤ T.length); omega, hnew (⟨none, 0, some ⟨β 6, 0, none⟩, β 7, ⟨[], s1, s2, pay, lot, rent, R, cold, cut⟩⟩ : Tn) rfl⟩, by (have hn0 : n = 0 := hn.symm); (show T.length - 1 < T.length - n); omega⟩, ⟨⟨_, rfl, rfl⟩, ⟨_, rfl, rfl⟩, ⟨_, rfl, rfl⟩, ⟨_, rfl, by rw [← hn]; rfl⟩, trivial⟩,
           ⟨⟨rfl, _, rfl, fun _ => rfl, fun w2 y hy => hy⟩, ⟨rfl, _, rfl, fun _ => rfl, fun w2 y hy => hy⟩, ⟨rfl, _, rfl, fun _ => rfl, fun w2 y hy => hy⟩, ⟨rfl, _, rfl, fun _ => rfl, fun w2 y hy => hy⟩, trivial⟩, rfl, fun w2 hw2 hLo => hh (⟨none, 0, some ⟨β 6, 0, none⟩, β 7, ⟨[], s1, s2, pay, lot, rent, R, cold, cut⟩⟩ : Tn) w2 hw2 rfl (fun w3 k3 => ⟨.inl ⟨rfl, rfl⟩, rows_st (f := prF) (fun _ => rfl) rfl rfl (hge 6 _ rfl rfl) (hLo 6 (by simp) _ rfl) w3 k3, by (show ([] : List (Int × Int)).length ≤ 1000000); omega, by (show R.length ≤ 1000000); omega⟩)⟩)
         | cons a D =>
          simp only [List.length_cons] at hn
          have hl3 : ∀ t : Tn, (a :: D ++ [t]).length = D.length + 1 + 1 := fun t => by rw [hl2]; omega
          have hoS : ∀ t : Tn, oSV 3 4 (a :: D ++ [t]) = .os 3 4 (D.length + 1 + 1) := fun t => by simp [oSV]
          repeat'
           conv => whnf
           first
            | refine zA ?_ | refine zB ?_ | refine zC ?_ | refine zD ?_ | refine zE ?_ | refine zF ?_ | refine zG ?_ | refine zH ?_ | refine zJ ?_ | refine zI ?_ | refine splT ?_ | refine splF ?_ | refine splNot ?_
            | ((first | refine splIn ?_ ?_ | refine splD ?_ ?_ | refine splE ?_ ?_ | refine splNE ?_ ?_) <;> intro hc <;> first | (exfalso; omega) | (exfalso; dsimp only at hc; omega) | skip)
            | refine Exists.intro (α := List Value) [.slice oo ([] : List (Int × Int)).length oc, iv s1, iv s2, iv pay, iv lot, iv rent, .slice ro R.length rc, iv cold, iv cut] ⟨⟨rfl, fun w' hw' => e0 w' hw'.1⟩, ?_⟩
            | ((with_reducible show CallEv _ _ 60 [.v (.slice oo ([] : List (Int × Int)).length oc)] _ _ _ _); refine callE (k := 60) (fun β w' hbw => hO1 w' hbw.1) ?_)
            | ((with_reducible show CallEv _ _ 60 [.v (.slice ro R.length rc)] _ _ _ _); refine callO 6 [] (.os 6 7 R.length) R.length 2 (R.flatMap prF) 55 rfl (fun β w' _ hbw => (hR2 w' hbw.1).mono fun _ _ ⟨b, c, h1, h2, h3, h4⟩ => ⟨b, c, h1, h2, h3, h4⟩) ?_)
            | refine appG env 8 1 1 [.v (.slice none 0 0), .v (iv s1), .v (iv s2), .v (iv pay), .v (iv lot), .v (iv rent), .os 6 7 R.length, .v (iv cold), .v (iv cut)] 57 (D.length + 1) ((a :: D).flatMap Tn.cs) [3] rfl rfl rfl rfl rfl (by decide) rfl rfl rfl (fun h => by cases h) (by omega) (by show (D.length + 1 + 1) * 104 ≤ 140737488355328; omega) rfl (.inr ⟨3, 4, rfl, rfl, rfl, (by show 3 < 9; decide)⟩) rfl ?_
          all_goals first | (exfalso; omega) | skip
          exact Dis.mk5 (w0 := w) (rho [(3, 9), (4, 10)]) [6] (by exact trivial) (fun i hi => by rw [List.mem_singleton] at hi; subst hi; exact ⟨_, rfl, rfl⟩) (fun w' h => h.1) (fun β w1 hok hw1 hge hne hij => ⟨a :: D ++ [(⟨none, 0, some ⟨β 6, 0, none⟩, β 7, ⟨[], s1, s2, pay, lot, rent, R, cold, cut⟩⟩ : Tn)], ⟨⟨by have := hl3 (⟨none, 0, some ⟨β 6, 0, none⟩, β 7, ⟨[], s1, s2, pay, lot, rent, R, cold, cut⟩⟩ : Tn); omega, hnew (⟨none, 0, some ⟨β 6, 0, none⟩, β 7, ⟨[], s1, s2, pay, lot, rent, R, cold, cut⟩⟩ : Tn) rfl⟩, by have := hl3 (⟨none, 0, some ⟨β 6, 0, none⟩, β 7, ⟨[], s1, s2, pay, lot, rent, R, cold, cut⟩⟩ : Tn); omega⟩, ⟨⟨_, rfl, rfl⟩, ⟨_, rfl, rfl⟩, ⟨_, rfl, rfl⟩, ⟨_, rfl, by rw [hl3 (⟨none, 0, some ⟨β 6, 0, none⟩, β 7, ⟨[], s1, s2, pay, lot, rent, R, cold, cut⟩⟩ : Tn), ← hn]; rfl⟩, trivial⟩,
           ⟨⟨rfl, _, rfl, fun _ => rfl, fun w2 y hy => hy⟩, ⟨rfl, _, rfl, fun _ => rfl, fun w2 y hy => hy⟩, ⟨rfl, _, rfl, fun _ => rfl, fun w2 y hy => by rw [hoS (⟨none, 0, some ⟨β 6, 0, none⟩, β 7, ⟨[], s1, s2, pay, lot, rent, R, cold, cut⟩⟩ : Tn)]; exact hy⟩, by simp [oM]; exact ⟨⟨rfl, _, rfl, fun _ => rfl, fun w2 y hy => by simp [Blk.ok] at hy ⊢; exact hy⟩, trivial⟩⟩, rfl, fun w2 hw2 hLo => hh (⟨none, 0, some ⟨β 6, 0, none⟩, β 7, ⟨[], s1, s2, pay, lot, rent, R, cold, cut⟩⟩ : Tn) w2 hw2 rfl (fun w3 k3 => ⟨.inl ⟨rfl, rfl⟩, rows_st (f := prF) (fun _ => rfl) rfl rfl (hge 6 _ rfl rfl) (hLo 6 (by simp) _ rfl) w3 k3, by (show ([] : List (Int × Int)).length ≤ 1000000); omega, by (show R.length ≤ 1000000); omega⟩)⟩)
     · have hO2 := fun w' hb => (hO60 w' hb).mono fun e w2 h => h.2 hOn
       by_cases hRn : R = []
       · subst hRn
         have hR1 := fun w' hb => (hR60 w' hb).mono fun e w2 h => h.1 rfl
         clear hO60 hR60
         cases D with
         | nil =>
          repeat'
           conv => whnf
           first
            | refine zA ?_ | refine zB ?_ | refine zC ?_ | refine zD ?_ | refine zE ?_ | refine zF ?_ | refine zG ?_ | refine zH ?_ | refine zJ ?_ | refine zI ?_ | refine splT ?_ | refine splF ?_ | refine splNot ?_
            | ((first | refine splIn ?_ ?_ | refine splD ?_ ?_ | refine splE ?_ ?_ | refine splNE ?_ ?_) <;> intro hc <;> first | (exfalso; omega) | (exfalso; dsimp only at hc; omega) | skip)
            | refine Exists.intro (α := List Value) [.slice oo O.length oc, iv s1, iv s2, iv pay, iv lot, iv rent, .slice ro ([] : List (Int × Int)).length rc, iv cold, iv cut] ⟨⟨rfl, fun w' hw' => e0 w' hw'.1⟩, ?_⟩
            | ((with_reducible show CallEv _ _ 60 [.v (.slice oo O.length oc)] _ _ _ _); refine callO 6 [] (.os 6 7 O.length) O.length 2 (O.flatMap prF) 55 rfl (fun β w' _ hbw => (hO2 w' hbw.1).mono fun _ _ ⟨b, c, h1, h2, h3, h4⟩ => ⟨b, c, h1, h2, h3, h4⟩) ?_)
            | ((with_reducible show CallEv _ _ 60 [.v (.slice ro ([] : List (Int × Int)).length rc)] _ _ _ _); refine callE (k := 60) (fun β w' hbw => hR1 w' hbw.1) ?_)
            | refine appG env 8 1 1 [.os 6 7 O.length, .v (iv s1), .v (iv s2), .v (iv pay), .v (iv lot), .v (iv rent), .v (.slice none 0 0), .v (iv cold), .v (iv cut)] 57 0 [] [] rfl rfl rfl rfl rfl (by decide) rfl rfl rfl (fun _ => Nat.le_refl _) (by omega) (by decide) rfl (.inl ⟨rfl, rfl, rfl, rfl⟩) rfl ?_
          all_goals first | (exfalso; omega) | skip
          exact Dis.mk5 (w0 := w) (rho [(3, 9), (4, 10)]) [6] (by exact trivial) (fun i hi => by rw [List.mem_singleton] at hi; subst hi; exact ⟨_, rfl, rfl⟩) (fun w' h => h.1) (fun β w1 hok hw1 hge hne hij => ⟨[] ++ [(⟨some ⟨β 6, 0, none⟩, β 7, none, 0, ⟨O, s1, s2, pay, lot, rent, [], cold, cut⟩⟩ : Tn)], ⟨⟨by (show 1 ≤ T.length); omega, hnew (⟨some ⟨β 6, 0, none⟩, β 7, none, 0, ⟨O, s1, s2, pay, lot, rent, [], cold, cut⟩⟩ : Tn) rfl⟩, by (have hn0 : n = 0 := hn.symm); (show T.length - 1 < T.length - n); omega⟩, ⟨⟨_, rfl, rfl⟩, ⟨_, rfl, rfl⟩, ⟨_, rfl, rfl⟩, ⟨_, rfl, by rw [← hn]; rfl⟩, trivial⟩,
           ⟨⟨rfl, _, rfl, fun _ => rfl, fun w2 y hy => hy⟩, ⟨rfl, _, rfl, fun _ => rfl, fun w2 y hy => hy⟩, ⟨rfl, _, rfl, fun _ => rfl, fun w2 y hy => hy⟩, ⟨rfl, _, rfl, fun _ => rfl, fun w2 y hy => hy⟩, trivial⟩, rfl, fun w2 hw2 hLo => hh (⟨some ⟨β 6, 0, none⟩, β 7, none, 0, ⟨O, s1, s2, pay, lot, rent, [], cold, cut⟩⟩ : Tn) w2 hw2 rfl (fun w3 k3 => ⟨rows_st (f := prF) (fun _ => rfl) rfl rfl (hge 6 _ rfl rfl) (hLo 6 (by simp) _ rfl) w3 k3, .inl ⟨rfl, rfl⟩, by (show O.length ≤ 1000000); omega, by (show ([] : List (Int × Int)).length ≤ 1000000); omega⟩)⟩)
         | cons a D =>
          simp only [List.length_cons] at hn
          have hl3 : ∀ t : Tn, (a :: D ++ [t]).length = D.length + 1 + 1 := fun t => by rw [hl2]; omega
          have hoS : ∀ t : Tn, oSV 3 4 (a :: D ++ [t]) = .os 3 4 (D.length + 1 + 1) := fun t => by simp [oSV]
          repeat'
           conv => whnf
           first
            | refine zA ?_ | refine zB ?_ | refine zC ?_ | refine zD ?_ | refine zE ?_ | refine zF ?_ | refine zG ?_ | refine zH ?_ | refine zJ ?_ | refine zI ?_ | refine splT ?_ | refine splF ?_ | refine splNot ?_
            | ((first | refine splIn ?_ ?_ | refine splD ?_ ?_ | refine splE ?_ ?_ | refine splNE ?_ ?_) <;> intro hc <;> first | (exfalso; omega) | (exfalso; dsimp only at hc; omega) | skip)
            | refine Exists.intro (α := List Value) [.slice oo O.length oc, iv s1, iv s2, iv pay, iv lot, iv rent, .slice ro ([] : List (Int × Int)).length rc, iv cold, iv cut] ⟨⟨rfl, fun w' hw' => e0 w' hw'.1⟩, ?_⟩
            | ((with_reducible show CallEv _ _ 60 [.v (.slice oo O.length oc)] _ _ _ _); refine callO 6 [] (.os 6 7 O.length) O.length 2 (O.flatMap prF) 55 rfl (fun β w' _ hbw => (hO2 w' hbw.1).mono fun _ _ ⟨b, c, h1, h2, h3, h4⟩ => ⟨b, c, h1, h2, h3, h4⟩) ?_)
            | ((with_reducible show CallEv _ _ 60 [.v (.slice ro ([] : List (Int × Int)).length rc)] _ _ _ _); refine callE (k := 60) (fun β w' hbw => hR1 w' hbw.1) ?_)
            | refine appG env 8 1 1 [.os 6 7 O.length, .v (iv s1), .v (iv s2), .v (iv pay), .v (iv lot), .v (iv rent), .v (.slice none 0 0), .v (iv cold), .v (iv cut)] 57 (D.length + 1) ((a :: D).flatMap Tn.cs) [3] rfl rfl rfl rfl rfl (by decide) rfl rfl rfl (fun h => by cases h) (by omega) (by show (D.length + 1 + 1) * 104 ≤ 140737488355328; omega) rfl (.inr ⟨3, 4, rfl, rfl, rfl, (by show 3 < 9; decide)⟩) rfl ?_
          all_goals first | (exfalso; omega) | skip
          exact Dis.mk5 (w0 := w) (rho [(3, 9), (4, 10)]) [6] (by exact trivial) (fun i hi => by rw [List.mem_singleton] at hi; subst hi; exact ⟨_, rfl, rfl⟩) (fun w' h => h.1) (fun β w1 hok hw1 hge hne hij => ⟨a :: D ++ [(⟨some ⟨β 6, 0, none⟩, β 7, none, 0, ⟨O, s1, s2, pay, lot, rent, [], cold, cut⟩⟩ : Tn)], ⟨⟨by have := hl3 (⟨some ⟨β 6, 0, none⟩, β 7, none, 0, ⟨O, s1, s2, pay, lot, rent, [], cold, cut⟩⟩ : Tn); omega, hnew (⟨some ⟨β 6, 0, none⟩, β 7, none, 0, ⟨O, s1, s2, pay, lot, rent, [], cold, cut⟩⟩ : Tn) rfl⟩, by have := hl3 (⟨some ⟨β 6, 0, none⟩, β 7, none, 0, ⟨O, s1, s2, pay, lot, rent, [], cold, cut⟩⟩ : Tn); omega⟩, ⟨⟨_, rfl, rfl⟩, ⟨_, rfl, rfl⟩, ⟨_, rfl, rfl⟩, ⟨_, rfl, by rw [hl3 (⟨some ⟨β 6, 0, none⟩, β 7, none, 0, ⟨O, s1, s2, pay, lot, rent, [], cold, cut⟩⟩ : Tn), ← hn]; rfl⟩, trivial⟩,
           ⟨⟨rfl, _, rfl, fun _ => rfl, fun w2 y hy => hy⟩, ⟨rfl, _, rfl, fun _ => rfl, fun w2 y hy => hy⟩, ⟨rfl, _, rfl, fun _ => rfl, fun w2 y hy => by rw [hoS (⟨some ⟨β 6, 0, none⟩, β 7, none, 0, ⟨O, s1, s2, pay, lot, rent, [], cold, cut⟩⟩ : Tn)]; exact hy⟩, by simp [oM]; exact ⟨⟨rfl, _, rfl, fun _ => rfl, fun w2 y hy => by simp [Blk.ok] at hy ⊢; exact hy⟩, trivial⟩⟩, rfl, fun w2 hw2 hLo => hh (⟨some ⟨β 6, 0, none⟩, β 7, none, 0, ⟨O, s1, s2, pay, lot, rent, [], cold, cut⟩⟩ : Tn) w2 hw2 rfl (fun w3 k3 => ⟨rows_st (f := prF) (fun _ => rfl) rfl rfl (hge 6 _ rfl rfl) (hLo 6 (by simp) _ rfl) w3 k3, .inl ⟨rfl, rfl⟩, by (show O.length ≤ 1000000); omega, by (show ([] : List (Int × Int)).length ≤ 1000000); omega⟩)⟩)
       · have hR2 := fun w' hb => (hR60 w' hb).mono fun e w2 h => h.2 hRn
         clear hO60 hR60
         cases D with
         | nil =>
          repeat'
           conv => whnf
           first
            | refine zA ?_ | refine zB ?_ | refine zC ?_ | refine zD ?_ | refine zE ?_ | refine zF ?_ | refine zG ?_ | refine zH ?_ | refine zJ ?_ | refine zI ?_ | refine splT ?_ | refine splF ?_ | refine splNot ?_
            | ((first | refine splIn ?_ ?_ | refine splD ?_ ?_ | refine splE ?_ ?_ | refine splNE ?_ ?_) <;> intro hc <;> first | (exfalso; omega) | (exfalso; dsimp only at hc; omega) | skip)
            | refine Exists.intro (α := List Value) [.slice oo O.length oc, iv s1, iv s2, iv pay, iv lot, iv rent, .slice ro R.length rc, iv cold, iv cut] ⟨⟨rfl, fun w' hw' => e0 w' hw'.1⟩, ?_⟩
            | ((with_reducible show CallEv _ _ 60 [.v (.slice oo O.length oc)] _ _ _ _); refine callO 6 [] (.os 6 7 O.length) O.length 2 (O.flatMap prF) 55 rfl (fun β w' _ hbw => (hO2 w' hbw.1).mono fun _ _ ⟨b, c, h1, h2, h3, h4⟩ => ⟨b, c, h1, h2, h3, h4⟩) ?_)
            | ((with_reducible show CallEv _ _ 60 [.v (.slice ro R.length rc)] _ _ _ _); refine callO 8 [] (.os 8 9 R.length) R.length 2 (R.flatMap prF) 55 rfl (fun β w' _ hbw => (hR2 w' hbw.1).mono fun _ _ ⟨b, c, h1, h2, h3, h4⟩ => ⟨b, c, h1, h2, h3, h4⟩) ?_)
            | refine appG env 10 1 1 [.os 6 7 O.length, .v (iv s1), .v (iv s2), .v (iv pay), .v (iv lot), .v (iv rent), .os 8 9 R.length, .v (iv cold), .v (iv cut)] 57 0 [] [] rfl rfl rfl rfl rfl (by decide) rfl rfl rfl (fun _ => Nat.le_refl _) (by omega) (by decide) rfl (.inl ⟨rfl, rfl, rfl, rfl⟩) rfl ?_
          all_goals first | (exfalso; omega) | skip
          exact Dis.mk5 (w0 := w) (rho [(3, 11), (4, 12)]) [6, 8] (by exact trivial) (fun i hi => by simp only [List.mem_cons, List.not_mem_nil, or_false] at hi; rcases hi with rfl | rfl <;> exact ⟨_, rfl, rfl⟩) (fun w' h => h.1) (fun β w1 hok hw1 hge hne hij => ⟨[] ++ [(⟨some ⟨β 6, 0, none⟩, β 7, some ⟨β 8, 0, none⟩, β 9, ⟨O, s1, s2, pay, lot, rent, R, cold, cut⟩⟩ : Tn)], ⟨⟨by (show 1 ≤ T.length); omega, hnew (⟨some ⟨β 6, 0, none⟩, β 7, some ⟨β 8, 0, none⟩, β 9, ⟨O, s1, s2, pay, lot, rent, R, cold, cut⟩⟩ : Tn) rfl⟩, by (have hn0 : n = 0 := hn.symm); (show T.length - 1 < T.length - n); omega⟩, ⟨⟨_, rfl, rfl⟩, ⟨_, rfl, rfl⟩, ⟨_, rfl, rfl⟩, ⟨_, rfl, by rw [← hn]; rfl⟩, trivial⟩,
           ⟨⟨rfl, _, rfl, fun _ => rfl, fun w2 y hy => hy⟩, ⟨rfl, _, rfl, fun _ => rfl, fun w2 y hy => hy⟩, ⟨rfl, _, rfl, fun _ => rfl, fun w2 y hy => hy⟩, ⟨rfl, _, rfl, fun _ => rfl, fun w2 y hy => hy⟩, trivial⟩, rfl, fun w2 hw2 hLo => hh (⟨some ⟨β 6, 0, none⟩, β 7, some ⟨β 8, 0, none⟩, β 9, ⟨O, s1, s2, pay, lot, rent, R, cold, cut⟩⟩ : Tn) w2 hw2 rfl (fun w3 k3 => ⟨rows_st (f := prF) (fun _ => rfl) rfl rfl (hge 6 _ rfl rfl) (hLo 6 (by simp) _ rfl) w3 k3, rows_st (f := prF) (fun _ => rfl) rfl rfl (hge 8 _ rfl rfl) (hLo 8 (by simp) _ rfl) w3 k3, by (show O.length ≤ 1000000); omega, by (show R.length ≤ 1000000); omega⟩)⟩)
         | cons a D =>
          simp only [List.length_cons] at hn
          have hl3 : ∀ t : Tn, (a :: D ++ [t]).length = D.length + 1 + 1 := fun t => by rw [hl2]; omega
          have hoS : ∀ t : Tn, oSV 3 4 (a :: D ++ [t]) = .os 3 4 (D.length + 1 + 1) := fun t => by simp [oSV]
          repeat'
           conv => whnf
           first
            | refine zA ?_ | refine zB ?_ | refine zC ?_ | refine zD ?_ | refine zE ?_ | refine zF ?_ | refine zG ?_ | refine zH ?_ | refine zJ ?_ | refine zI ?_ | refine splT ?_ | refine splF ?_ | refine splNot ?_
            | ((first | refine splIn ?_ ?_ | refine splD ?_ ?_ | refine splE ?_ ?_ | refine splNE ?_ ?_) <;> intro hc <;> first | (exfalso; omega) | (exfalso; dsimp only at hc; omega) | skip)
            | refine Exists.intro (α := List Value) [.slice oo O.length oc, iv s1, iv s2, iv pay, iv lot, iv rent, .slice ro R.length rc, iv cold, iv cut] ⟨⟨rfl, fun w' hw' => e0 w' hw'.1⟩, ?_⟩
            | ((with_reducible show CallEv _ _ 60 [.v (.slice oo O.length oc)] _ _ _ _); refine callO 6 [] (.os 6 7 O.length) O.length 2 (O.flatMap prF) 55 rfl (fun β w' _ hbw => (hO2 w' hbw.1).mono fun _ _ ⟨b, c, h1, h2, h3, h4⟩ => ⟨b, c, h1, h2, h3, h4⟩) ?_)
            | ((with_reducible show CallEv _ _ 60 [.v (.slice ro R.length rc)] _ _ _ _); refine callO 8 [] (.os 8 9 R.length) R.length 2 (R.flatMap prF) 55 rfl (fun β w' _ hbw => (hR2 w' hbw.1).mono fun _ _ ⟨b, c, h1, h2, h3, h4⟩ => ⟨b, c, h1, h2, h3, h4⟩) ?_)
            | refine appG env 10 1 1 [.os 6 7 O.length, .v (iv s1), .v (iv s2), .v (iv pay), .v (iv lot), .v (iv rent), .os 8 9 R.length, .v (iv cold), .v (iv cut)] 57 (D.length + 1) ((a :: D).flatMap Tn.cs) [3] rfl rfl rfl rfl rfl (by decide) rfl rfl rfl (fun h => by cases h) (by omega) (by show (D.length + 1 + 1) * 104 ≤ 140737488355328; omega) rfl (.inr ⟨3, 4, rfl, rfl, rfl, (by show 3 < 11; decide)⟩) rfl ?_
          all_goals first | (exfalso; omega) | skip
          exact Dis.mk5 (w0 := w) (rho [(3, 11), (4, 12)]) [6, 8] (by exact trivial) (fun i hi => by simp only [List.mem_cons, List.not_mem_nil, or_false] at hi; rcases hi with rfl | rfl <;> exact ⟨_, rfl, rfl⟩) (fun w' h => h.1) (fun β w1 hok hw1 hge hne hij => ⟨a :: D ++ [(⟨some ⟨β 6, 0, none⟩, β 7, some ⟨β 8, 0, none⟩, β 9, ⟨O, s1, s2, pay, lot, rent, R, cold, cut⟩⟩ : Tn)], ⟨⟨by have := hl3 (⟨some ⟨β 6, 0, none⟩, β 7, some ⟨β 8, 0, none⟩, β 9, ⟨O, s1, s2, pay, lot, rent, R, cold, cut⟩⟩ : Tn); omega, hnew (⟨some ⟨β 6, 0, none⟩, β 7, some ⟨β 8, 0, none⟩, β 9, ⟨O, s1, s2, pay, lot, rent, R, cold, cut⟩⟩ : Tn) rfl⟩, by have := hl3 (⟨some ⟨β 6, 0, none⟩, β 7, some ⟨β 8, 0, none⟩, β 9, ⟨O, s1, s2, pay, lot, rent, R, cold, cut⟩⟩ : Tn); omega⟩, ⟨⟨_, rfl, rfl⟩, ⟨_, rfl, rfl⟩, ⟨_, rfl, rfl⟩, ⟨_, rfl, by rw [hl3 (⟨some ⟨β 6, 0, none⟩, β 7, some ⟨β 8, 0, none⟩, β 9, ⟨O, s1, s2, pay, lot, rent, R, cold, cut⟩⟩ : Tn), ← hn]; rfl⟩, trivial⟩,
           ⟨⟨rfl, _, rfl, fun _ => rfl, fun w2 y hy => hy⟩, ⟨rfl, _, rfl, fun _ => rfl, fun w2 y hy => hy⟩, ⟨rfl, _, rfl, fun _ => rfl, fun w2 y hy => by rw [hoS (⟨some ⟨β 6, 0, none⟩, β 7, some ⟨β 8, 0, none⟩, β 9, ⟨O, s1, s2, pay, lot, rent, R, cold, cut⟩⟩ : Tn)]; exact hy⟩, by simp [oM]; exact ⟨⟨rfl, _, rfl, fun _ => rfl, fun w2 y hy => by simp [Blk.ok] at hy ⊢; exact hy⟩, trivial⟩⟩, rfl, fun w2 hw2 hLo => hh (⟨some ⟨β 6, 0, none⟩, β 7, some ⟨β 8, 0, none⟩, β 9, ⟨O, s1, s2, pay, lot, rent, R, cold, cut⟩⟩ : Tn) w2 hw2 rfl (fun w3 k3 => ⟨rows_st (f := prF) (fun _ => rfl) rfl rfl (hge 6 _ rfl rfl) (hLo 6 (by simp) _ rfl) w3 k3, rows_st (f := prF) (fun _ => rfl) rfl rfl (hge 8 _ rfl rfl) (hLo 8 (by simp) _ rfl) w3 k3, by (show O.length ≤ 1000000); omega, by (show R.length ≤ 1000000); omega⟩)⟩)
   · have hk2 : D.length = T.length := by omega
     rw [hk2, List.take_of_length_le (Nat.le_of_eq (List.length_map ..))] at hmap
     cases D with
     | nil =>
      have hT0 : T = [] := List.length_eq_zero_iff.1 hk2.symm
      subst hT0
      repeat'
       conv => whnf
       first
        | refine zA ?_ | refine zB ?_ | refine zC ?_ | refine zD ?_ | refine zE ?_ | refine zF ?_ | refine zG ?_ | refine zH ?_ | refine zJ ?_ | refine zI ?_ | refine splT ?_ | refine splF ?_ | refine splNot ?_
        | ((first | refine splIn ?_ ?_ | refine splD ?_ ?_ | refine splE ?_ ?_ | refine splNE ?_ ?_) <;> intro hc <;> first | (exfalso; omega) | (exfalso; dsimp only at hc; omega) | skip)
      all_goals first | (exfalso; omega) | skip
      exact ⟨rfl, Dis.ent (x := ((none, 0), [])) ⟨rfl, Nat.le_refl _⟩ (Ent.weak rfl ⟨rfl, rfl, rfl, trivial⟩ ⟨rfl, rfl, rfl, trivial⟩ fun w2 h => ⟨h.1, fun _ _ => .inl ⟨rfl, rfl⟩, fun t ht => by cases ht⟩)⟩
     | cons a D =>
      simp only [List.length_cons] at hk2
      repeat'
       conv => whnf
       first
        | refine zA ?_ | refine zB ?_ | refine zC ?_ | refine zD ?_ | refine zE ?_ | refine zF ?_ | refine zG ?_ | refine zH ?_ | refine zJ ?_ | refine zI ?_ | refine splT ?_ | refine splF ?_ | refine splNot ?_
        | ((first | refine splIn ?_ ?_ | refine splD ?_ ?_ | refine splE ?_ ?_ | refine splNE ?_ ?_) <;> intro hc <;> first | (exfalso; omega) | (exfalso; dsimp only at hc; omega) | skip)
      all_goals first | (exfalso; omega) | skip
      exact ⟨rfl, Dis.mk5 (w0 := w) id [3] (by exact trivial) (fun i hi => by rw [List.mem_singleton] at hi; subst hi; exact ⟨_, rfl, rfl⟩) (fun w' h => h.1) (fun β w1 hok hw1 hge hne hij => ⟨((some ⟨β 3, 0, none⟩, β 4), a :: D), ⟨hmap, by have := own_cap (hok 3 _ rfl); (show T.length ≤ β 4); omega⟩, ⟨⟨_, rfl, rfl⟩, ⟨_, rfl, rfl⟩, ⟨_, rfl, rfl⟩, trivial⟩, ⟨⟨rfl, _, rfl, fun _ => rfl, fun w2 y hy => hy⟩, ⟨rfl, _, rfl, fun _ => rfl, fun w2 y hy => hy⟩, ⟨rfl, _, rfl, fun _ => rfl, fun w2 y hy => by rw [← hk2]; exact hy⟩, trivial⟩, rfl, fun w2 hw2 hLo => ⟨hw2.1, by rw [← hk2]; exact rows_st (f := Tn.cs) (fun _ => rfl) rfl rfl (hge 3 _ rfl rfl) (hLo 3 (by simp) _ rfl), hw2.2⟩⟩)⟩
 · intro y ⟨hyd, hyc⟩
   have hyl : y.2.length = T.length := by have := congrArg List.length hyd; simpa using this
   refine VC.of env mixed ?_
   repeat'
    conv => whnf
    first
     | refine zA ?_ | refine zB ?_ | refine zC ?_ | refine zD ?_ | refine zE ?_ | refine zF ?_ | refine zG ?_ | refine zH ?_ | refine zJ ?_ | refine zI ?_ | refine splT ?_ | refine splF ?_ | refine splNot ?_
     | ((first | refine splIn ?_ ?_ | refine splD ?_ ?_ | refine splE ?_ ?_ | refine splNE ?_ ?_) <;> intro hc <;> first | (exfalso; omega) | (exfalso; dsimp only at hc; omega) | skip)
   all_goals first | (exfalso; omega) | skip
   refine loopD 5 (fun E : List Lr => [(1, .ptr 0 0), (2, .ptr 1 0), (3, .ptr 2 0), (6, .v (iv E.length))]) (fun E => (0, .cells [.v (iv days), .v (iv shift), .v (iv size), .v (.slice to T.length tc), .v (.slice lo L.length lc)] 25) :: (1, .cells [.v (iv 0), .v (iv 0), .v (iv 0), .v (.slice none 0 0), .v (.slice none 0 0)] 35) :: (2, .cells [.v (iv days), .v (iv shift), .v (iv size), .v (.slice y.1.1 T.length y.1.2), oSV 3 4 E] 35) :: (oM 3 4 1 Lr.cs 61 E)) (fun (E : List Lr) w' => (Below w.heap.size w w' ∧ (St w.heap.size (Rd 9 Tn.cs (.slice y.1.1 T.length y.1.2) y.2) w' ∧ ∀ t ∈ y.2, St w.heap.size (TnIn t) w')) ∧ ∀ r ∈ E, St w.heap.size (Rd 2 prF (.slice r.o r.L.length r.c) r.L) w') (fun E => E.length ≤ L.length ∧ E.map Lr.L = (L.map Lr.L).take E.length) (fun E => L.length - E.length)
    (Dis.ent (x := []) ⟨Nat.zero_le _, rfl⟩ (Ent.weak rfl ⟨rfl, rfl, rfl, rfl, trivial⟩ ⟨rfl, rfl, rfl, trivial⟩ (fun w' h => ⟨h, fun p hp => by cases hp⟩))) (fun E _ => by cases E <;> exact ⟨rfl, rfl⟩) ?_
   intro E ⟨hk, hmap⟩
   rcases Nat.lt_or_ge E.length L.length with hkl | hkl
   · obtain ⟨⟨ro, rc, row⟩, hx⟩ : ∃ b, L[E.length]? = some b := ⟨_, List.getElem?_eq_getElem hkl⟩
     obtain ⟨_, al, rfl, _⟩ := hL.ptr (by omega)
     have e0 := fun (w' : World) hw' => rd_ati (hL.below (w' := w') hw') hx
     have hrow := hLi _ (List.mem_of_getElem? hx)
     have hbl := hBl _ (List.mem_of_getElem? hx)
     dsimp only at hrow hbl
     have hm : (L.map Lr.L)[E.length]? = some row := by rw [List.getElem?_map, hx]; rfl
     have hnew : ∀ t : Lr, t.L = row → (E ++ [t]).map Lr.L = (L.map Lr.L).take (E ++ [t]).length := fun t ht => by
      rw [List.map_append, hmap, List.length_append, List.length_singleton, List.take_add_one, hm]
      show _ ++ [t.L] = _
      rw [ht]; rfl
     have hl2 : ∀ t : Lr, (E ++ [t]).length = E.length + 1 := fun t => by simp
     have hh : ∀ (t : Lr) w', (fun (E : List Lr) w' => (Below w.heap.size w w' ∧ (St w.heap.size (Rd 9 Tn.cs (.slice y.1.1 T.length y.1.2) y.2) w' ∧ ∀ t ∈ y.2, St w.heap.size (TnIn t) w')) ∧ ∀ r ∈ E, St w.heap.size (Rd 2 prF (.slice r.o r.L.length r.c) r.L) w') E w' → St w.heap.size (Rd 2 prF (.slice t.o t.L.length t.c) t.L) w' → (fun (E : List Lr) w' => (Below w.heap.size w w' ∧ (St w.heap.size (Rd 9 Tn.cs (.slice y.1.1 T.length y.1.2) y.2) w' ∧ ∀ t ∈ y.2, St w.heap.size (TnIn t) w')) ∧ ∀ r ∈ E, St w.heap.size (Rd 2 prF (.slice r.o r.L.length r.c) r.L) w') (E ++ [t]) w' := fun t w' hw' ht => ⟨hw'.1, fun r hr => by
      rcases List.mem_append.1 hr with hr | hr
      · exact hw'.2 r hr
      · rw [List.mem_singleton] at hr; subst hr; exact ht⟩
     generalize hn : E.length = n at *
     cases E with
     | nil =>
      repeat'
       conv => whnf
       first
        | refine zA ?_ | refine zB ?_ | refine zC ?_ | refine zD ?_ | refine zE ?_ | refine zF ?_ | refine zG ?_ | refine zH ?_ | refine zJ ?_ | refine zI ?_ | refine splT ?_ | refine splF ?_ | refine splNot ?_
        | ((first | refine splIn ?_ ?_ | refine splD ?_ ?_ | refine splE ?_ ?_ | refine splNE ?_ ?_) <;> intro hc <;> first | (exfalso; omega) | (exfalso; dsimp only at hc; omega) | skip)
        | refine Exists.intro (α := List Value) [.slice ro row.length rc] ⟨⟨rfl, fun w' hw' => e0 w' hw'.1.1⟩, ?_⟩
      all_goals first | (exfalso; omega) | skip
      refine loopN 7 (fun j : Nat => [(1, .ptr 0 0), (2, .ptr 1 0), (3, .ptr 2 0), (6, .v (iv n)), (7, oSV 5 6 (row.take j)), (8, .v (iv j))]) (fun j => (0, .cells [.v (iv days), .v (iv shift), .v (iv size), .v (.slice to T.length tc), .v (.slice (some al) L.length lc)] 25) :: (1, .cells [.v (iv 0), .v (iv 0), .v (iv 0), .v (.slice none 0 0), .v (.slice none 0 0)] 35) :: (2, .cells [.v (iv days), .v (iv shift), .v (iv size), .v (.slice y.1.1 T.length y.1.2), oSV 3 4 ([] : List Lr)] 35) :: (oM 3 4 1 Lr.cs 61 ([] : List Lr) ++ oM 5 6 2 prF 60 (row.take j))) (fun j => j ≤ row.length) (fun j => row.length - j) 0 (Nat.zero_le _) ⟨rfl, rfl, rfl, rfl, rfl, rfl, trivial⟩ ⟨rfl, rfl, rfl, trivial⟩ (fun j _ => by cases row.take j <;> exact ⟨rfl, rfl⟩) ?_
      intro j hj
      rcases Nat.lt_or_ge j row.length with hjl | hjl
      · obtain ⟨⟨p1, p2⟩, hp⟩ : ∃ p, row[j]? = some p := ⟨_, List.getElem?_eq_getElem hjl⟩
        obtain ⟨_, ar, rfl, _⟩ := hrow.ptr (by omega)
        have e1 := fun (w' : World) hw' => rd_fldz (hrow.below (w' := w') hw') hp _ rfl 0 (iv p1) rfl
        have e2 := fun (w' : World) hw' => rd_fldz (hrow.below (w' := w') hw') hp _ rfl 1 (iv p2) rfl
        have ht : row.take (j + 1) = row.take j ++ [(p1, p2)] := by rw [List.take_add_one, hp]; rfl
        have hlen : (row.take j).length = j := by rw [List.length_take]; omega
        generalize row.take j = P at *
        cases P with
        | nil =>
         repeat'
          conv => whnf
          first
           | refine zA ?_ | refine zB ?_ | refine zC ?_ | refine zD ?_ | refine zE ?_ | refine zF ?_ | refine zG ?_ | refine zH ?_ | refine zJ ?_ | refine zI ?_ | refine splT ?_ | refine splF ?_ | refine splNot ?_
           | ((first | refine splIn ?_ ?_ | refine splD ?_ ?_ | refine splE ?_ ?_ | refine splNE ?_ ?_) <;> intro hc <;> first | (exfalso; omega) | (exfalso; dsimp only at hc; omega) | skip)
           | refine Exists.intro (α := List Value) [.slice (some ar) row.length rc] ⟨⟨rfl, fun w' hw' => e0 w' hw'.1.1⟩, ?_⟩
           | refine Exists.intro (α := List Value) [iv p1] ⟨⟨rfl, fun w' hw' => e1 w' hw'.1.1⟩, ?_⟩
           | refine Exists.intro (α := List Value) [iv p2] ⟨⟨rfl, fun w' hw' => e2 w' hw'.1.1⟩, ?_⟩
         all_goals first | (exfalso; omega) | exact ⟨j + 1, by omega, by omega, Ent.ren (rho [(5, 8), (6, 9)]) rfl (by rw [ht]; rfl) ⟨rfl, rfl, rfl, rfl, by rw [ht]; rfl, rfl, trivial⟩ (by rw [ht]; exact ⟨rfl, rfl, rfl, rfl, trivial⟩) fun _ h => h⟩
        | cons q P =>
         simp only [List.length_cons] at hlen
         repeat'
          conv => whnf
          first
           | refine zA ?_ | refine zB ?_ | refine zC ?_ | refine zD ?_ | refine zE ?_ | refine zF ?_ | refine zG ?_ | refine zH ?_ | refine zJ ?_ | refine zI ?_ | refine splT ?_ | refine splF ?_ | refine splNot ?_
           | ((first | refine splIn ?_ ?_ | refine splD ?_ ?_ | refine splE ?_ ?_ | refine splNE ?_ ?_) <;> intro hc <;> first | (exfalso; omega) | (exfalso; dsimp only at hc; omega) | skip)
           | refine Exists.intro (α := List Value) [.slice (some ar) row.length rc] ⟨⟨rfl, fun w' hw' => e0 w' hw'.1.1⟩, ?_⟩
           | refine Exists.intro (α := List Value) [iv p1] ⟨⟨rfl, fun w' hw' => e1 w' hw'.1.1⟩, ?_⟩
           | refine Exists.intro (α := List Value) [iv p2] ⟨⟨rfl, fun w' hw' => e2 w' hw'.1.1⟩, ?_⟩
         all_goals first | (exfalso; omega) | exact ⟨j + 1, by omega, by omega, Ent.ren (rho [(5, 8), (6, 9)]) rfl (by rw [ht]; rfl) ⟨rfl, rfl, rfl, rfl, by rw [ht]; simp [oSV]; rfl, rfl, trivial⟩ (by rw [ht]; exact ⟨rfl, rfl, rfl, by simp [oM]; rfl, trivial⟩) fun _ h => h⟩
      · obtain rfl : j = row.length := by omega
        rw [List.take_length]
        cases row with
        | nil =>
         repeat'
          conv => whnf
          first
           | refine zA ?_ | refine zB ?_ | refine zC ?_ | refine zD ?_ | refine zE ?_ | refine zF ?_ | refine zG ?_ | refine zH ?_ | refine zJ ?_ | refine zI ?_ | refine splT ?_ | refine splF ?_ | refine splNot ?_
           | ((first | refine splIn ?_ ?_ | refine splD ?_ ?_ | refine splE ?_ ?_ | refine splNE ?_ ?_) <;> intro hc <;> first | (exfalso; omega) | (exfalso; dsimp only at hc; omega) | skip)
           | refine Exists.intro (α := List Value) [.slice ro ([] : List (Int × Int)).length rc] ⟨⟨rfl, fun w' hw' => e0 w' hw'.1.1⟩, ?_⟩
         all_goals first | (exfalso; omega) | skip
         exact Dis.ent (x := ([] : List Lr) ++ [(⟨none, 0, []⟩ : Lr)]) ⟨⟨by have := hl2 (⟨none, 0, []⟩ : Lr); omega, hnew (⟨none, 0, []⟩ : Lr) rfl⟩, by have := hl2 (⟨none, 0, []⟩ : Lr); omega⟩ (Ent.ren (rho [(3, 8), (4, 9)]) rfl rfl ⟨rfl, rfl, rfl, by rw [hl2 (⟨none, 0, []⟩ : Lr), ← hn]; rfl, trivial⟩ ⟨rfl, rfl, rfl, rfl, trivial⟩ fun w2 hw2 => hh (⟨none, 0, []⟩ : Lr) w2 hw2 fun _ _ => .inl ⟨rfl, rfl⟩)
        | cons p P =>
         repeat'
          conv => whnf
          first
           | refine zA ?_ | refine zB ?_ | refine zC ?_ | refine zD ?_ | refine zE ?_ | refine zF ?_ | refine zG ?_ | refine zH ?_ | refine zJ ?_ | refine zI ?_ | refine splT ?_ | refine splF ?_ | refine splNot ?_
           | ((first | refine splIn ?_ ?_ | refine splD ?_ ?_ | refine splE ?_ ?_ | refine splNE ?_ ?_) <;> intro hc <;> first | (exfalso; omega) | (exfalso; dsimp only at hc; omega) | skip)
           | refine Exists.intro (α := List Value) [.slice ro (p :: P).length rc] ⟨⟨rfl, fun w' hw' => e0 w' hw'.1.1⟩, ?_⟩
           | refine appG env 7 1 1 [.os 5 6 (P.length + 1)] 61 0 [] [] rfl rfl rfl rfl rfl (by decide) rfl rfl rfl (fun _ => Nat.le_refl _) (by omega) (by decide) rfl (.inl ⟨rfl, rfl, rfl, rfl⟩) rfl ?_
         all_goals first | (exfalso; omega) | skip
         exact Dis.mk5 (w0 := w) (rho [(3, 8), (4, 9)]) [5] (by exact trivial) (fun i hi => by rw [List.mem_singleton] at hi; subst hi; exact ⟨_, rfl, rfl⟩) (fun w' h => h.1.1) (fun β w1 hok hw1 hge hne hij => ⟨([] : List Lr) ++ [(⟨some ⟨β 5, 0, none⟩, β 6, p :: P⟩ : Lr)], ⟨⟨by have := hl2 (⟨some ⟨β 5, 0, none⟩, β 6, p :: P⟩ : Lr); omega, hnew (⟨some ⟨β 5, 0, none⟩, β 6, p :: P⟩ : Lr) rfl⟩, by have := hl2 (⟨some ⟨β 5, 0, none⟩, β 6, p :: P⟩ : Lr); omega⟩, ⟨⟨_, rfl, rfl⟩, ⟨_, rfl, rfl⟩, ⟨_, rfl, rfl⟩, ⟨_, rfl, by rw [hl2 (⟨some ⟨β 5, 0, none⟩, β 6, p :: P⟩ : Lr), ← hn]; rfl⟩, trivial⟩,
          ⟨⟨rfl, _, rfl, fun _ => rfl, fun w2 y hy => hy⟩, ⟨rfl, _, rfl, fun _ => rfl, fun w2 y hy => hy⟩, ⟨rfl, _, rfl, fun _ => rfl, fun w2 y hy => hy⟩, ⟨rfl, _, rfl, fun _ => rfl, fun w2 y hy => hy⟩, trivial⟩, rfl, fun w2 hw2 hLo => hh (⟨some ⟨β 5, 0, none⟩, β 6, p :: P⟩ : Lr) w2 hw2 (rows_st (f := prF) (fun _ => rfl) rfl rfl (hge 5 _ rfl rfl) (hLo 5 (by simp) _ rfl))⟩)
     | cons a E =>
      simp only [List.length_cons] at hn
      have hoS : ∀ t : Lr, oSV 3 4 (a :: E ++ [t]) = .os 3 4 (E.length + 1 + 1) := fun t => by simp [oSV]
      repeat'
       conv => whnf
       first
        | refine zA ?_ | refine zB ?_ | refine zC ?_ | refine zD ?_ | refine zE ?_ | refine zF ?_ | refine zG ?_ | refine zH ?_ | refine zJ ?_ | refine zI ?_ | refine splT ?_ | refine splF ?_ | refine splNot ?_
        | ((first | refine splIn ?_ ?_ | refine splD ?_ ?_ | refine splE ?_ ?_ | refine splNE ?_ ?_) <;> intro hc <;> first | (exfalso; omega) | (exfalso; dsimp only at hc; omega) | skip)
        | refine Exists.intro (α := List Value) [.slice ro row.length rc] ⟨⟨rfl, fun w' hw' => e0 w' hw'.1.1⟩, ?_⟩
      all_goals first | (exfalso; omega) | skip
      refine loopN 7 (fun j : Nat => [(1, .ptr 0 0), (2, .ptr 1 0), (3, .ptr 2 0), (6, .v (iv n)), (7, oSV 5 6 (row.take j)), (8, .v (iv j))]) (fun j => (0, .cells [.v (iv days), .v (iv shift), .v (iv size), .v (.slice to T.length tc), .v (.slice (some al) L.length lc)] 25) :: (1, .cells [.v (iv 0), .v (iv 0), .v (iv 0), .v (.slice none 0 0), .v (.slice none 0 0)] 35) :: (2, .cells [.v (iv days), .v (iv shift), .v (iv size), .v (.slice y.1.1 T.length y.1.2), oSV 3 4 (a :: E : List Lr)] 35) :: (oM 3 4 1 Lr.cs 61 (a :: E : List Lr) ++ oM 5 6 2 prF 60 (row.take j))) (fun j => j ≤ row.length) (fun j => row.length - j) 0 (Nat.zero_le _) ⟨rfl, rfl, rfl, rfl, rfl, rfl, trivial⟩ ⟨rfl, rfl, rfl, rfl, trivial⟩ (fun j _ => by cases row.take j <;> exact ⟨rfl, rfl⟩) ?_
      intro j hj
      rcases Nat.lt_or_ge j row.length with hjl | hjl
      · obtain ⟨⟨p1, p2⟩, hp⟩ : ∃ p, row[j]? = some p := ⟨_, List.getElem?_eq_getElem hjl⟩
        obtain ⟨_, ar, rfl, _⟩ := hrow.ptr (by omega)
        have e1 := fun (w' : World) hw' => rd_fldz (hrow.below (w' := w') hw') hp _ rfl 0 (iv p1) rfl
        have e2 := fun (w' : World) hw' => rd_fldz (hrow.below (w' := w') hw') hp _ rfl 1 (iv p2) rfl
        have ht : row.take (j + 1) = row.take j ++ [(p1, p2)] := by rw [List.take_add_one, hp]; rfl
        have hlen : (row.take j).length = j := by rw [List.length_take]; omega
        generalize row.take j = P at *
        cases P with
        | nil =>
         repeat'
          conv => whnf
          first
           | refine zA ?_ | refine zB ?_ | refine zC ?_ | refine zD ?_ | refine zE ?_ | refine zF ?_ | refine zG ?_ | refine zH ?_ | refine zJ ?_ | refine zI ?_ | refine splT ?_ | refine splF ?_ | refine splNot ?_
           | ((first | refine splIn ?_ ?_ | refine splD ?_ ?_ | refine splE ?_ ?_ | refine splNE ?_ ?_) <;> intro hc <;> first | (exfalso; omega) | (exfalso; dsimp only at hc; omega) | skip)
           | refine Exists.intro (α := List Value) [.slice (some ar) row.length rc] ⟨⟨rfl, fun w' hw' => e0 w' hw'.1.1⟩, ?_⟩
           | refine Exists.intro (α := List Value) [iv p1] ⟨⟨rfl, fun w' hw' => e1 w' hw'.1.1⟩, ?_⟩
           | refine Exists.intro (α := List Value) [iv p2] ⟨⟨rfl, fun w' hw' => e2 w' hw'.1.1⟩, ?_⟩
         all_goals first | (exfalso; omega) | exact ⟨j + 1, by omega, by omega, Ent.ren (rho [(5, 8), (6, 9)]) rfl (by rw [ht]; rfl) ⟨rfl, rfl, rfl, rfl, by rw [ht]; rfl, rfl, trivial⟩ (by rw [ht]; exact ⟨rfl, rfl, rfl, rfl, rfl, trivial⟩) fun _ h => h⟩
        | cons q P =>
         simp only [List.length_cons] at hlen
         repeat'
          conv => whnf
          first
           | refine zA ?_ | refine zB ?_ | refine zC ?_ | refine zD ?_ | refine zE ?_ | refine zF ?_ | refine zG ?_ | refine zH ?_ | refine zJ ?_ | refine zI ?_ | refine splT ?_ | refine splF ?_ | refine splNot ?_
           | ((first | refine splIn ?_ ?_ | refine splD ?_ ?_ | refine splE ?_ ?_ | refine splNE ?_ ?_) <;> intro hc <;> first | (exfalso; omega) | (exfalso; dsimp only at hc; omega) | skip)
           | refine Exists.intro (α := List Value) [.slice (some ar) row.length rc] ⟨⟨rfl, fun w' hw' => e0 w' hw'.1.1⟩, ?_⟩
           | refine Exists.intro (α := List Value) [iv p1] ⟨⟨rfl, fun w' hw' => e1 w' hw'.1.1⟩, ?_⟩
           | refine Exists.intro (α := List Value) [iv p2] ⟨⟨rfl, fun w' hw' => e2 w' hw'.1.1⟩, ?_⟩
         all_goals first | (exfalso; omega) | exact ⟨j + 1, by omega, by omega, Ent.ren (rho [(5, 8), (6, 9)]) rfl (by rw [ht]; rfl) ⟨rfl, rfl, rfl, rfl, by rw [ht]; simp [oSV]; rfl, rfl, trivial⟩ (by rw [ht]; exact ⟨rfl, rfl, rfl, rfl, by simp [oM]; rfl, trivial⟩) fun _ h => h⟩
      · obtain rfl : j = row.length := by omega
        rw [List.take_length]
        cases row with
        | nil =>
         repeat'
          conv => whnf
          first
           | refine zA ?_ | refine zB ?_ | refine zC ?_ | refine zD ?_ | refine zE ?_ | refine zF ?_ | refine zG ?_ | refine zH ?_ | refine zJ ?_ | refine zI ?_ | refine splT ?_ | refine splF ?_ | refine splNot ?_
           | ((first | refine splIn ?_ ?_ | refine splD ?_ ?_ | refine splE ?_ ?_ | refine splNE ?_ ?_) <;> intro hc <;> first | (exfalso; omega) | (exfalso; dsimp only at hc; omega) | skip)
           | refine Exists.intro (α := List Value) [.slice ro ([] : List (Int × Int)).length rc] ⟨⟨rfl, fun w' hw' => e0 w' hw'.1.1⟩, ?_⟩
         all_goals first | (exfalso; omega) | skip
         exact Dis.ent (x := a :: E ++ [(⟨none, 0, []⟩ : Lr)]) ⟨⟨by have := hl2 (⟨none, 0, []⟩ : Lr); omega, hnew (⟨none, 0, []⟩ : Lr) rfl⟩, by have := hl2 (⟨none, 0, []⟩ : Lr); omega⟩ (Ent.ren (rho [(3, 8), (4, 9)]) rfl rfl ⟨rfl, rfl, rfl, by rw [hl2 (⟨none, 0, []⟩ : Lr), ← hn]; rfl, trivial⟩ ⟨rfl, rfl, by rw [hoS (⟨none, 0, []⟩ : Lr)]; rfl, by simp [oM]; rfl, trivial⟩ fun w2 hw2 => hh (⟨none, 0, []⟩ : Lr) w2 hw2 fun _ _ => .inl ⟨rfl, rfl⟩)
        | cons p P =>
         repeat'
          conv => whnf
          first
           | refine zA ?_ | refine zB ?_ | refine zC ?_ | refine zD ?_ | refine zE ?_ | refine zF ?_ | refine zG ?_ | refine zH ?_ | refine zJ ?_ | refine zI ?_ | refine splT ?_ | refine splF ?_ | refine splNot ?_
           | ((first | refine splIn ?_ ?_ | refine splD ?_ ?_ | refine splE ?_ ?_ | refine splNE ?_ ?_) <;> intro hc <;> first | (exfalso; omega) | (exfalso; dsimp only at hc; omega) | skip)
           | refine Exists.intro (α := List Value) [.slice ro (p :: P).length rc] ⟨⟨rfl, fun w' hw' => e0 w' hw'.1.1⟩, ?_⟩
           | refine appG env 7 1 1 [.os 5 6 (P.length + 1)] 61 (E.length + 1) ((a :: E).flatMap Lr.cs) [3] rfl rfl rfl rfl rfl (by decide) rfl rfl rfl (fun h => by cases h) (by omega) (by show (E.length + 1 + 1) * 24 ≤ 140737488355328; omega) rfl (.inr ⟨3, 4, rfl, rfl, rfl, (by show 3 < 8; decide)⟩) rfl ?_
         all_goals first | (exfalso; omega) | skip
         exact Dis.mk5 (w0 := w) (rho [(3, 8), (4, 9)]) [5] (by exact trivial) (fun i hi => by rw [List.mem_singleton] at hi; subst hi; exact ⟨_, rfl, rfl⟩) (fun w' h => h.1.1) (fun β w1 hok hw1 hge hne hij => ⟨a :: E ++ [(⟨some ⟨β 5, 0, none⟩, β 6, p :: P⟩ : Lr)], ⟨⟨by have := hl2 (⟨some ⟨β 5, 0, none⟩, β 6, p :: P⟩ : Lr); omega, hnew (⟨some ⟨β 5, 0, none⟩, β 6, p :: P⟩ : Lr) rfl⟩, by have := hl2 (⟨some ⟨β 5, 0, none⟩, β 6, p :: P⟩ : Lr); omega⟩, ⟨⟨_, rfl, rfl⟩, ⟨_, rfl, rfl⟩, ⟨_, rfl, rfl⟩, ⟨_, rfl, by rw [hl2 (⟨some ⟨β 5, 0, none⟩, β 6, p :: P⟩ : Lr), ← hn]; rfl⟩, trivial⟩,
          ⟨⟨rfl, _, rfl, fun _ => rfl, fun w2 y hy => hy⟩, ⟨rfl, _, rfl, fun _ => rfl, fun w2 y hy => hy⟩, ⟨rfl, _, rfl, fun _ => rfl, fun w2 y hy => by rw [hoS (⟨some ⟨β 5, 0, none⟩, β 6, p :: P⟩ : Lr)]; exact hy⟩, by simp [oM]; exact ⟨⟨rfl, _, rfl, fun _ => rfl, fun w2 y hy => by simp [Blk.ok] at hy ⊢; exact hy⟩, trivial⟩⟩, rfl, fun w2 hw2 hLo => hh (⟨some ⟨β 5, 0, none⟩, β 6, p :: P⟩ : Lr) w2 hw2 (rows_st (f := prF) (fun _ => rfl) rfl rfl (hge 5 _ rfl rfl) (hLo 5 (by simp) _ rfl))⟩)
   · have hk2 : E.length = L.length := by omega
     rw [hk2, List.take_of_length_le (Nat.le_of_eq (List.length_map ..))] at hmap
     have hfin : ∀ (o : Option Addr) (c : Nat) w2, ((St w.heap.size (Rd 9 Tn.cs (.slice y.1.1 T.length y.1.2) y.2) w2 ∧ ∀ t ∈ y.2, St w.heap.size (TnIn t) w2) ∧ ∀ r ∈ E, St w.heap.size (Rd 2 prF (.slice r.o r.L.length r.c) r.L) w2) → Rd 1 Lr.cs (.slice o E.length c) E w2 → TrIn ⟨days, shift, size, y.1.1, y.1.2, y.2, o, c, E⟩ w2 := fun o c w2 hw2 hr =>
      ⟨by (show Rd 9 Tn.cs (.slice y.1.1 y.2.length y.1.2) y.2 w2); rw [hyl]; exact St.now hw2.1.1, fun t ht => St.now (hw2.1.2 t ht), hr, fun r hr => St.now (hw2.2 r hr), by (show y.2.length ≤ 1000000); omega, by (show E.length ≤ 1000000); omega, fun r hr => by
       have h1 : r.L ∈ L.map Lr.L := by rw [← hmap]; exact List.mem_map.2 ⟨r, hr, rfl⟩
       obtain ⟨r', h2, h3⟩ := List.mem_map.1 h1
       have := hBl r' h2
       rw [h3] at this
       omega, by (show y.2.length ≤ y.1.2); omega⟩
     have hkeep : ∀ w1 w2, (fun (E : List Lr) w' => (Below w.heap.size w w' ∧ (St w.heap.size (Rd 9 Tn.cs (.slice y.1.1 T.length y.1.2) y.2) w' ∧ ∀ t ∈ y.2, St w.heap.size (TnIn t) w')) ∧ ∀ r ∈ E, St w.heap.size (Rd 2 prF (.slice r.o r.L.length r.c) r.L) w') E w1 → Keep w.heap.size w1 w2 → ((St w.heap.size (Rd 9 Tn.cs (.slice y.1.1 T.length y.1.2) y.2) w2 ∧ ∀ t ∈ y.2, St w.heap.size (TnIn t) w2) ∧ ∀ r ∈ E, St w.heap.size (Rd 2 prF (.slice r.o r.L.length r.c) r.L) w2) := fun w1 w2 h k => ⟨⟨h.1.2.1.keep k, fun t ht => (h.1.2.2 t ht).keep k⟩, fun r hr => (h.2 r hr).keep k⟩
     have hyd2 : ∀ (o : Option Addr) (c : Nat), Tr.d ⟨days, shift, size, y.1.1, y.1.2, y.2, o, c, E⟩ = Tr.d ⟨days, shift, size, to, tc, T, lo, lc, L⟩ := fun o c => by simp only [Tr.d, hyd, hmap]
     have hval : ∀ (o : Option Addr) (c : Nat), Value.agg #[iv days, iv shift, iv size, .slice y.1.1 T.length y.1.2, .slice o E.length c] = Tr.v ⟨days, shift, size, y.1.1, y.1.2, y.2, o, c, E⟩ := fun o c => by simp only [Tr.v, hyl]
     cases E with
     | nil =>
      repeat'
       conv => whnf
       first
        | refine zA ?_ | refine zB ?_ | refine zC ?_ | refine zD ?_ | refine zE ?_ | refine zF ?_ | refine zG ?_ | refine zH ?_ | refine zJ ?_ | refine zI ?_ | refine splT ?_ | refine splF ?_ | refine splNot ?_
        | ((first | refine splIn ?_ ?_ | refine splD ?_ ?_ | refine splE ?_ ?_ | refine splNE ?_ ?_) <;> intro hc <;> first | (exfalso; omega) | (exfalso; dsimp only at hc; omega) | skip)
      all_goals first | (exfalso; omega) | skip
      exact ⟨fun w' h => h.1.1, fun β w' hw' hblk => ⟨⟨days, shift, size, y.1.1, y.1.2, y.2, none, 0, []⟩, hval none 0, fun w2 k2 => ⟨hfin none 0 w2 (hkeep w' w2 hw' k2) (.inl ⟨rfl, rfl⟩), hyd2 none 0⟩⟩⟩
     | cons a E =>
      repeat'
       conv => whnf
       first
        | refine zA ?_ | refine zB ?_ | refine zC ?_ | refine zD ?_ | refine zE ?_ | refine zF ?_ | refine zG ?_ | refine zH ?_ | refine zJ ?_ | refine zI ?_ | refine splT ?_ | refine splF ?_ | refine splNot ?_
        | ((first | refine splIn ?_ ?_ | refine splD ?_ ?_ | refine splE ?_ ?_ | refine splNE ?_ ?_) <;> intro hc <;> first | (exfalso; omega) | (exfalso; dsimp only at hc; omega) | skip)
      all_goals first | (exfalso; omega) | skip
      exact ⟨fun w' h => h.1.1, fun β w' hw' hblk => ⟨⟨days, shift, size, y.1.1, y.1.2, y.2, some ⟨β 3, 0, none⟩, β 4, a :: E⟩, hval (some ⟨β 3, 0, none⟩) (β 4), fun w2 k2 => ⟨hfin (some ⟨β 3, 0, none⟩) (β 4) w2 (hkeep w' w2 hw' k2) (Rd.of_owns (sz := 1) (f := Lr.cs) (fun _ => rfl) rfl rfl (hblk 3 _ rfl rfl w2 k2)), hyd2 (some ⟨β 3, 0, none⟩) (β 4)⟩⟩⟩
end Go.Proofs.Ythfabodamhdhaaa
namespace Go.Proofs.Ythfabodamhdhaaa
open Go Tx Go.RowKit
set_option linter.unusedSimpArgs false
set_option linter.unusedVariables false
def RI (ty : Nat) (o : Option Addr) (c : Nat) (L : List (Int × Int)) (w : World) : Prop := (L = [] ∧ o = none ∧ c = 0) ∨ L ≠ [] ∧ ∃ b, o = some ⟨b, 0, none⟩ ∧ w.ownsRow 0 ty 2 (.slice o L.length c) L.length (L.flatMap prF)
def bkO : Option Addr → List Nat
 | none => []
 | some a => [a.block]
def tbk (D : List Tn) : List Nat := D.flatMap fun t => bkO t.oo ++ bkO t.ro
def lbk (D : List Lr) : List Nat := D.flatMap fun r => bkO r.o
abbrev TnW (t : Tn) (w : World) : Prop := RI 55 t.oo t.oc t.d.O w ∧ RI 55 t.ro t.rc t.d.R w
theorem RI.cells {ty : Nat} {o : Option Addr} {c : Nat} {L : List (Int × Int)} {w : World} (h : RI ty o c L w) {b : Nat} (hb : b ∈ bkO o) : ∃ cs fr, w.heap[b]? = some (.cells cs ty fr) := by
 rcases h with ⟨_, rfl, _⟩ | ⟨_, b', rfl, h⟩
 · cases hb
 · simp only [bkO, List.mem_singleton] at hb
   subst hb
   obtain ⟨cur, hc⟩ := own_heap h
   exact ⟨cur, _, hc⟩
theorem RI.keep {ty : Nat} {o : Option Addr} {c : Nat} {L : List (Int × Int)} {w w2 : World} (h : RI ty o c L w) (hk : ∀ b ∈ bkO o, w2.heap[b]? = w.heap[b]?) : RI ty o c L w2 := by
 rcases h with h | ⟨h0, b', rfl, h⟩
 · exact .inl h
 · exact .inr ⟨h0, b', rfl, own_keep h (hk _ (by simp [bkO]))⟩
theorem RI.rd {ty : Nat} {o : Option Addr} {c : Nat} {L : List (Int × Int)} {w : World} (h : RI ty o c L w) : Rd 2 prF (.slice o L.length c) L w := by
 rcases h with ⟨rfl, rfl, rfl⟩ | ⟨_, b', rfl, h⟩
 · exact .inl ⟨rfl, rfl⟩
 · exact Rd.of_owns (sz := 2) (f := prF) (fun _ => rfl) rfl rfl h
theorem ri_st {ty m b n c : Nat} {xs : List Value} {L : List (Int × Int)} {w : World} (hn : n = L.length) (hx : xs = L.flatMap prF) (h0 : L ≠ []) (hb : m ≤ b) (h : w.ownsRow 0 ty 2 (.slice (some ⟨b, 0, none⟩) n c) n xs) : St m (RI ty (some ⟨b, 0, none⟩) c L) w := fun w2 k => by
 obtain ⟨cur, hc⟩ := own_heap h
 subst hn hx
 exact .inr ⟨h0, b, rfl, own_keep h (k.same b hb (Array.getElem?_eq_some_iff.1 hc).1)⟩
def HdW (w : World) (D : List Tn) (w' : World) : Prop := Below w.heap.size w w' ∧ (∀ t ∈ D, St w.heap.size (TnW t) w') ∧ (tbk D).Nodup ∧ ∀ b ∈ tbk D, w.heap.size ≤ b
theorem hd_cells {w w' : World} {D : List Tn} (h : HdW w D w') {b : Nat} (hb : b ∈ tbk D) : ∃ cs ty fr, w'.heap[b]? = some (.cells cs ty fr) := by
 obtain ⟨t, ht, hb⟩ := List.mem_flatMap.1 hb
 have h1 := (h.2.1 t ht).now
 rcases List.mem_append.1 hb with hb | hb
 · obtain ⟨cs, fr, h2⟩ := h1.1.cells hb; exact ⟨cs, _, fr, h2⟩
 · obtain ⟨cs, fr, h2⟩ := h1.2.cells hb; exact ⟨cs, _, fr, h2⟩
theorem hd_add {w w' : World} {D : List Tn} {t : Tn} (h : HdW w D w') (ht : St w.heap.size (TnW t) w') (hn : (bkO t.oo ++ bkO t.ro).Nodup) (hb : ∀ b ∈ bkO t.oo ++ bkO t.ro, b ∉ tbk D ∧ w.heap.size ≤ b) : HdW w (D ++ [t]) w' := by
 obtain ⟨h1, h2, h3, h4⟩ := h
 have e : tbk (D ++ [t]) = tbk D ++ (bkO t.oo ++ bkO t.ro) := by simp [tbk]
 refine ⟨h1, fun r hr => ?_, ?_, fun b hr => ?_⟩
 · rcases List.mem_append.1 hr with hr | hr
   · exact h2 r hr
   · rw [List.mem_singleton] at hr; subst hr; exact ht
 · rw [e, List.nodup_append]
   exact ⟨h3, hn, fun a ha b hb' e => by subst e; exact (hb a hb').1 ha⟩
 · rw [e] at hr
   rcases List.mem_append.1 hr with hr | hr
   · exact h4 b hr
   · exact (hb b hr).2
abbrev TO (b c : Nat) (D : List Tn) (w : World) : Prop := w.ownsRow 0 57 9 (.slice (some ⟨b, 0, none⟩) D.length c) D.length (D.flatMap Tn.cs)
abbrev LO (b c : Nat) (E : List Lr) (w : World) : Prop := w.ownsRow 0 61 1 (.slice (some ⟨b, 0, none⟩) E.length c) E.length (E.flatMap Lr.cs)
def LeW (w : World) (E : List Lr) (w' : World) : Prop := (∀ r ∈ E, St w.heap.size (RI 60 r.o r.c r.L) w') ∧ (lbk E).Nodup ∧ ∀ b ∈ lbk E, w.heap.size ≤ b
theorem le_cells {w w' : World} {E : List Lr} (h : LeW w E w') {b : Nat} (hb : b ∈ lbk E) : ∃ cs ty fr, w'.heap[b]? = some (.cells cs ty fr) := by
 obtain ⟨t, ht, hb⟩ := List.mem_flatMap.1 hb
 obtain ⟨cs, fr, h2⟩ := (h.1 t ht).now.cells hb
 exact ⟨cs, _, fr, h2⟩
theorem le_add {w w' : World} {E : List Lr} {t : Lr} (h : LeW w E w') (ht : St w.heap.size (RI 60 t.o t.c t.L) w') (hn : (bkO t.o).Nodup) (hb : ∀ b ∈ bkO t.o, b ∉ lbk E ∧ w.heap.size ≤ b) : LeW w (E ++ [t]) w' := by
 obtain ⟨h2, h3, h4⟩ := h
 have e : lbk (E ++ [t]) = lbk E ++ bkO t.o := by simp [lbk]
 refine ⟨fun r hr => ?_, ?_, fun b hr => ?_⟩
 · rcases List.mem_append.1 hr with hr | hr
   · exact h2 r hr
   · rw [List.mem_singleton] at hr; subst hr; exact ht
 · rw [e, List.nodup_append]
   exact ⟨h3, hn, fun a ha b hb' e => by subst e; exact (hb a hb').1 ha⟩
 · rw [e] at hr
   rcases List.mem_append.1 hr with hr | hr
   · exact h4 b hr
   · exact (hb b hr).2
structure TrW (n : Nat) (y : Tr) (w : World) : Prop where
 t : ∃ b, y.to = some ⟨b, 0, none⟩ ∧ n ≤ b ∧ TO b y.tc y.T w
 ti : ∀ t ∈ y.T, TnW t w
 tb : (tbk y.T).Nodup
 tn : ∀ b ∈ tbk y.T, n ≤ b
 l : ∃ b, y.lo = some ⟨b, 0, none⟩ ∧ n ≤ b ∧ LO b y.lc y.L w
 li : ∀ r ∈ y.L, RI 60 r.o r.c r.L w
 lb : (lbk y.L).Nodup
 ln : ∀ b ∈ lbk y.L, n ≤ b
theorem own_st {m b n c sz ty : Nat} {xs : List Value} {w : World} (hb : m ≤ b) (h : w.ownsRow 0 ty sz (.slice (some ⟨b, 0, none⟩) n c) n xs) : St m (fun w2 => w2.ownsRow 0 ty sz (.slice (some ⟨b, 0, none⟩) n c) n xs) w := fun w2 k => by
 obtain ⟨cur, hc⟩ := own_heap h
 exact own_keep h (k.same b hb (Array.getElem?_eq_some_iff.1 hc).1)
theorem st_own_ge {n b m c sz ty : Nat} {xs : List Value} {w : World} (h : St n (fun w2 => w2.ownsRow 0 ty sz (.slice (some ⟨b, 0, none⟩) m c) m xs) w) : n ≤ b := by
 refine Nat.le_of_not_lt fun hlt => ?_
 obtain ⟨cur, hc⟩ := own_heap h.now
 have hb := (Array.getElem?_eq_some_iff.1 hc).1
 have h2 := h { w with heap := w.heap.set b (.cells #[] (ty + 1) (0, 0)) hb } ⟨by simp, fun i h1 h2 => by
  show (w.heap.set b _ hb)[i]? = _
  rw [Array.getElem?_set, if_neg (by omega)]⟩
 obtain ⟨cur', hc'⟩ := own_heap h2
 have hc2 : (w.heap.set b (.cells #[] (ty + 1) (0, 0)) hb)[b]? = some (.cells cur' ty (0, 0)) := hc'
 rw [Array.getElem?_set, if_pos rfl] at hc2
 simp at hc2
set_option maxHeartbeats 8000000 in
set_option maxRecDepth 100000 in
theorem TourW_ok (x : Tr) (w : World) (h : TrIn x w) (hB : TrB x) (hT0 : x.T ≠ []) (hL0 : x.L ≠ []) : Calls Try.prog 21 #[x.v] w fun e w' => ∃ y : Tr, e = .returned y.v ∧ Below w.heap.size w w' ∧ St w.heap.size (fun w2 => TrW w.heap.size y w2 ∧ y.d = x.d) w' := by
 obtain ⟨days, shift, size, to, tc, T, lo, lc, L⟩ := x
 obtain ⟨hT, hTi, hL, hLi, -, -, -, htc⟩ := h
 obtain ⟨hBt, hBl, htl, hll⟩ := hB
 dsimp only at hT hTi hL hLi htc hBt hBl htl hll hT0 hL0 ⊢
 refine calls_famV env mixed Try.func21 has21 Try.ntmps21 [.agg #[iv days, iv shift, iv size, .slice to T.length tc, .slice lo L.length lc]] (by simp) ?_
 refine VC.cutD env mixed 3 3 (fun _ : (Nat × Nat) × List Tn => [(1, .ptr 0 0), (2, .ptr 1 0), (3, .ptr 2 0)]) (fun y => [(0, .cells [.v (iv days), .v (iv shift), .v (iv size), .v (.slice to T.length tc), .v (.slice lo L.length lc)] 25), (1, .cells [.v (iv 0), .v (iv 0), .v (iv 0), .v (.slice none 0 0), .v (.slice none 0 0)] 35), (2, .cells [.v (iv days), .v (iv shift), .v (iv size), .v (.slice (some ⟨y.1.1, 0, none⟩) T.length y.1.2), .v (.slice none 0 0)] 35)]) (fun y w2 => HdW w y.2 w2 ∧ St w.heap.size (TO y.1.1 y.1.2 y.2) w2) (fun y => y.2.map Tn.d = T.map Tn.d ∧ w.heap.size ≤ y.1.1) (fun _ _ => ⟨rfl, rfl⟩) ?_ ?_
 · skip
   repeat'
    conv => whnf
    first
     | refine zA ?_ | refine zB ?_ | refine zC ?_ | refine zD ?_ | refine zE ?_ | refine zF ?_ | refine zG ?_ | refine zH ?_ | refine zJ ?_ | refine zI ?_ | refine splT ?_ | refine splF ?_ | refine splNot ?_
     | ((first | refine splIn ?_ ?_ | refine splD ?_ ?_ | refine splE ?_ ?_ | refine splNE ?_ ?_) <;> intro hc <;> first | (exfalso; omega) | (exfalso; dsimp only at hc; omega) | skip)
   all_goals first | (exfalso; omega) | skip
   refine loopD 5 (fun D : List Tn => [(1, .ptr 0 0), (2, .ptr 1 0), (3, .ptr 2 0), (4, .v (iv D.length))]) (fun D => (0, .cells [.v (iv days), .v (iv shift), .v (iv size), .v (.slice to T.length tc), .v (.slice lo L.length lc)] 25) :: (1, .cells [.v (iv 0), .v (iv 0), .v (iv 0), .v (.slice none 0 0), .v (.slice none 0 0)] 35) :: (2, .cells [.v (iv days), .v (iv shift), .v (iv size), oSV 3 4 D, .v (.slice none 0 0)] 35) :: oM 3 4 9 Tn.cs 57 D) (fun (D : List Tn) w' => HdW w D w') (fun D => D.length ≤ T.length ∧ D.map Tn.d = (T.map Tn.d).take D.length) (fun D => T.length - D.length)
    (Dis.ent (x := []) ⟨Nat.zero_le _, rfl⟩ (Ent.weak rfl ⟨rfl, rfl, rfl, rfl, trivial⟩ ⟨rfl, rfl, rfl, trivial⟩ (fun w' h => ⟨h, (fun p hp => by cases hp), List.nodup_nil, fun p hp => by cases hp⟩))) (fun D _ => by cases D <;> exact ⟨rfl, rfl⟩) ?_
   intro D ⟨hk, hmap⟩
   rcases Nat.lt_or_ge D.length T.length with hkl | hkl
   · obtain ⟨⟨oo, oc, ro, rc, O, s1, s2, pay, lot, rent, R, cold, cut⟩, hx⟩ : ∃ b, T[D.length]? = some b := ⟨_, List.getElem?_eq_getElem hkl⟩
     obtain ⟨_, ad, rfl, _⟩ := hT.ptr (by omega)
     have e0 := fun (w' : World) hw' => rd_ati (hT.below (w' := w') hw') hx
     have hti := hTi _ (List.mem_of_getElem? hx)
     have hbt := hBt _ (List.mem_of_getElem? hx)
     obtain ⟨htO, htR, -, -⟩ := hti
     dsimp only at htO htR hbt
     have hO60 := fun w' (hb : Below w.heap.size w w') => ranges_ok O oo oc w' (htO.below hb) (by omega)
     have hR60 := fun w' (hb : Below w.heap.size w w') => ranges_ok R ro rc w' (htR.below hb) (by omega)
     have hm : (T.map Tn.d)[D.length]? = some ⟨O, s1, s2, pay, lot, rent, R, cold, cut⟩ := by rw [List.getElem?_map, hx]; rfl
     have hnew : ∀ t : Tn, t.d = ⟨O, s1, s2, pay, lot, rent, R, cold, cut⟩ → (D ++ [t]).map Tn.d = (T.map Tn.d).take (D ++ [t]).length := fun t ht => by
      rw [List.map_append, hmap, List.length_append, List.length_singleton, List.take_add_one, hm]
      show _ ++ [t.d] = _
      rw [ht]; rfl
     have hl2 : ∀ t : Tn, (D ++ [t]).length = D.length + 1 := fun t => by simp
     generalize hn : D.length = n at *
     by_cases hOn : O = []
     · subst hOn
       have hO1 := fun w' hb => (hO60 w' hb).mono fun e w2 h => h.1 rfl
       by_cases hRn : R = []
       · subst hRn
         have hR1 := fun w' hb => (hR60 w' hb).mono fun e w2 h => h.1 rfl
         clear hO60 hR60
         cases D with
         | nil =>
          repeat'
           conv => whnf
           first
            | refine zA ?_ | refine zB ?_ | refine zC ?_ | refine zD ?_ | refine zE ?_ | refine zF ?_ | refine zG ?_ | refine zH ?_ | refine zJ ?_ | refine zI ?_ | refine splT ?_ | refine splF ?_ | refine splNot ?_
            | ((first | refine splIn ?_ ?_ | refine splD ?_ ?_ | refine splE ?_ ?_ | refine splNE ?_ ?_) <;> intro hc <;> first | (exfalso; omega) | (exfalso; dsimp only at hc; omega) | skip)
            | refine Exists.intro (α := List Value) [.slice oo ([] : List (Int × Int)).length oc, iv s1, iv s2, iv pay, iv lot, iv rent, .slice ro ([] : List (Int × Int)).length rc, iv cold, iv cut] ⟨⟨rfl, fun w' hw' => e0 w' hw'.1⟩, ?_⟩
            | ((with_reducible show CallEv _ _ 60 [.v (.slice oo ([] : List (Int × Int)).length oc)] _ _ _ _); refine callE (k := 60) (fun β w' hbw => hO1 w' hbw.1) ?_)
            | ((with_reducible show CallEv _ _ 60 [.v (.slice ro ([] : List (Int × Int)).length rc)] _ _ _ _); refine callE (k := 60) (fun β w' hbw => hR1 w' hbw.1) ?_)
          all_goals first | (exfalso; omega) | skip
          exact Dis.mk5 (w0 := w) (rho [(3, 7), (4, 8)]) [] (by exact trivial) (fun i hi => by cases hi) (fun w' h => h.1) (fun β w1 hok hw1 hge hne hij => ⟨[] ++ [(⟨none, 0, none, 0, ⟨[], s1, s2, pay, lot, rent, [], cold, cut⟩⟩ : Tn)], ⟨⟨by (show 1 ≤ T.length); omega, hnew (⟨none, 0, none, 0, ⟨[], s1, s2, pay, lot, rent, [], cold, cut⟩⟩ : Tn) rfl⟩, by (have hn0 : n = 0 := hn.symm); (show T.length - 1 < T.length - n); omega⟩, ⟨⟨_, rfl, rfl⟩, ⟨_, rfl, rfl⟩, ⟨_, rfl, rfl⟩, ⟨_, rfl, by rw [← hn]; rfl⟩, trivial⟩,
           ⟨⟨rfl, _, rfl, fun _ => rfl, fun w2 y hy => hy⟩, ⟨rfl, _, rfl, fun _ => rfl, fun w2 y hy => hy⟩, ⟨rfl, _, rfl, fun _ => rfl, fun w2 y hy => hy⟩, ⟨rfl, _, rfl, fun _ => rfl, fun w2 y hy => hy⟩, trivial⟩, rfl, fun w2 hw2 hLo => hd_add (t := (⟨none, 0, none, 0, ⟨[], s1, s2, pay, lot, rent, [], cold, cut⟩⟩ : Tn)) hw2 (fun w3 k3 => ⟨.inl ⟨rfl, rfl, rfl⟩, .inl ⟨rfl, rfl, rfl⟩⟩) List.nodup_nil (fun b hb => by cases hb)⟩)
         | cons a D =>
          simp only [List.length_cons] at hn
          have hl3 : ∀ t : Tn, (a :: D ++ [t]).length = D.length + 1 + 1 := fun t => by rw [hl2]; omega
          have hoS : ∀ t : Tn, oSV 3 4 (a :: D ++ [t]) = .os 3 4 (D.length + 1 + 1) := fun t => by simp [oSV]
          repeat'
           conv => whnf
           first
            | refine zA ?_ | refine zB ?_ | refine zC ?_ | refine zD ?_ | refine zE ?_ | refine zF ?_ | refine zG ?_ | refine zH ?_ | refine zJ ?_ | refine zI ?_ | refine splT ?_ | refine splF ?_ | refine splNot ?_
            | ((first | refine splIn ?_ ?_ | refine splD ?_ ?_ | refine splE ?_ ?_ | refine splNE ?_ ?_) <;> intro hc <;> first | (exfalso; omega) | (exfalso; dsimp only at hc; omega) | skip)
            | refine Exists.intro (α := List Value) [.slice oo ([] : List (Int × Int)).length oc, iv s1, iv s2, iv pay, iv lot, iv rent, .slice ro ([] : List (Int × Int)).length rc, iv cold, iv cut] ⟨⟨rfl, fun w' hw' => e0 w' hw'.1⟩, ?_⟩
            | ((with_reducible show CallEv _ _ 60 [.v (.slice oo ([] : List (Int × Int)).length oc)] _ _ _ _); refine callE (k := 60) (fun β w' hbw => hO1 w' hbw.1) ?_)
            | ((with_reducible show CallEv _ _ 60 [.v (.slice ro ([] : List (Int × Int)).length rc)] _ _ _ _); refine callE (k := 60) (fun β w' hbw => hR1 w' hbw.1) ?_)
          all_goals first | (exfalso; omega) | skip
          exact Dis.mk5 (w0 := w) (rho [(3, 7), (4, 8)]) [] (by exact trivial) (fun i hi => by cases hi) (fun w' h => h.1) (fun β w1 hok hw1 hge hne hij => ⟨a :: D ++ [(⟨none, 0, none, 0, ⟨[], s1, s2, pay, lot, rent, [], cold, cut⟩⟩ : Tn)], ⟨⟨by have := hl3 (⟨none, 0, none, 0, ⟨[], s1, s2, pay, lot, rent, [], cold, cut⟩⟩ : Tn); omega, hnew (⟨none, 0, none, 0, ⟨[], s1, s2, pay, lot, rent, [], cold, cut⟩⟩ : Tn) rfl⟩, by have := hl3 (⟨none, 0, none, 0, ⟨[], s1, s2, pay, lot, rent, [], cold, cut⟩⟩ : Tn); omega⟩, ⟨⟨_, rfl, rfl⟩, ⟨_, rfl, rfl⟩, ⟨_, rfl, rfl⟩, ⟨_, rfl, by rw [hl3 (⟨none, 0, none, 0, ⟨[], s1, s2, pay, lot, rent, [], cold, cut⟩⟩ : Tn), ← hn]; rfl⟩, trivial⟩,
           ⟨⟨rfl, _, rfl, fun _ => rfl, fun w2 y hy => hy⟩, ⟨rfl, _, rfl, fun _ => rfl, fun w2 y hy => hy⟩, ⟨rfl, _, rfl, fun _ => rfl, fun w2 y hy => by rw [hoS (⟨none, 0, none, 0, ⟨[], s1, s2, pay, lot, rent, [], cold, cut⟩⟩ : Tn)]; exact hy⟩, by simp [oM]; exact ⟨⟨rfl, _, rfl, fun _ => rfl, fun w2 y hy => by simp [Blk.ok] at hy ⊢; exact hy⟩, trivial⟩⟩, rfl, fun w2 hw2 hLo => hd_add (t := (⟨none, 0, none, 0, ⟨[], s1, s2, pay, lot, rent, [], cold, cut⟩⟩ : Tn)) hw2 (fun w3 k3 => ⟨.inl ⟨rfl, rfl, rfl⟩, .inl ⟨rfl, rfl, rfl⟩⟩) List.nodup_nil (fun b hb => by cases hb)⟩)
       · have hR2 := fun w' hb => (hR60 w' hb).mono fun e w2 h => h.2 hRn
         clear hO60 hR60
         cases D with
         | nil =>
          repeat'
           conv => whnf
           first
            | refine zA ?_ | refine zB ?_ | refine zC ?_ | refine zD ?_ | refine zE ?_ | refine zF ?_ | refine zG ?_ | refine zH ?_ | refine zJ ?_ | refine zI ?_ | refine splT ?_ | refine splF ?_ | refine splNot ?_
            | ((first | refine splIn ?_ ?_ | refine splD ?_ ?_ | refine splE ?_ ?_ | refine splNE ?_ ?_) <;> intro hc <;> first | (exfalso; omega) | (exfalso; dsimp only at hc; omega) | skip)
            | refine Exists.intro (α := List Value) [.slice oo ([] : List (Int × Int)).length oc, iv s1, iv s2, iv pay, iv lot, iv rent, .slice ro R.length rc, iv cold, iv cut] ⟨⟨rfl, fun w' hw' => e0 w' hw'.1⟩, ?_⟩
            | ((with_reducible show CallEv _ _ 60 [.v (.slice oo ([] : List (Int × Int)).length oc)] _ _ _ _); refine callE (k := 60) (fun β w' hbw => hO1 w' hbw.1) ?_)
            | ((with_reducible show CallEv _ _ 60 [.v (.slice ro R.length rc)] _ _ _ _); refine callO 6 [] (.os 6 7 R.length) R.length 2 (R.flatMap prF) 55 rfl (fun β w' _ hbw => (hR2 w' hbw.1).mono fun _ _ ⟨b, c, h1, h2, h3, h4⟩ => ⟨b, c, h1, h2, h3, h4⟩) ?_)
            | refine appG env 8 1 1 [.v (.slice none 0 0), .v (iv s1), .v (iv s2), .v (iv pay), .v (iv lot), .v (iv rent), .os 6 7 R.length, .v (iv cold), .v (iv cut)] 57 0 [] [] rfl rfl rfl rfl rfl (by decide) rfl rfl rfl (fun _ => Nat.le_refl _) (by omega) (by decide) rfl (.inl ⟨rfl, rfl, rfl, rfl⟩) rfl ?_
          all_goals first | (exfalso; omega) | skip
          exact Dis.mk5 (w0 := w) (rho [(3, 9), (4, 10)]) [6] (by exact trivial) (fun i hi => by rw [List.mem_singleton] at hi; subst hi; exact ⟨_, rfl, rfl⟩) (fun w' h => h.1) (fun β w1 hok hw1 hge hne hij => ⟨[] ++ [(⟨none, 0, some ⟨β 6, 0, none⟩, β 7, ⟨[], s1, s2, pay, lot, rent, R, cold, cut⟩⟩ : Tn)], ⟨⟨by (show 1 ≤ T.length); omega, hnew (⟨none, 0, some ⟨β 6, 0, none⟩, β 7, ⟨[], s1, s2, pay, lot, rent, R, cold, cut⟩⟩ : Tn) rfl⟩, by (have hn0 : n = 0 := hn.symm); (show T.length - 1 < T.length - n); omega⟩, ⟨⟨_, rfl, rfl⟩, ⟨_, rfl, rfl⟩, ⟨_, rfl, rfl⟩, ⟨_, rfl, by rw [← hn]; rfl⟩, trivial⟩,
           ⟨⟨rfl, _, rfl, fun _ => rfl, fun w2 y hy => hy⟩, ⟨rfl, _, rfl, fun _ => rfl, fun w2 y hy => hy⟩, ⟨rfl, _, rfl, fun _ => rfl, fun w2 y hy => hy⟩, ⟨rfl, _, rfl, fun _ => rfl, fun w2 y hy => hy⟩, trivial⟩, rfl, fun w2 hw2 hLo => hd_add (t := (⟨none, 0, some ⟨β 6, 0, none⟩, β 7, ⟨[], s1, s2, pay, lot, rent, R, cold, cut⟩⟩ : Tn)) hw2 (fun w3 k3 => ⟨.inl ⟨rfl, rfl, rfl⟩, ri_st rfl rfl hRn (hge 6 _ rfl rfl) (hLo 6 (by simp) _ rfl) w3 k3⟩) (by simp [bkO]) (fun b hb => by simp [bkO] at hb; subst hb; exact ⟨fun hc => hne 6 _ _ rfl rfl (fun w h => hd_cells h hc) rfl, hge 6 _ rfl rfl⟩)⟩)
         | cons a D =>
          simp only [List.length_cons] at hn
          have hl3 : ∀ t : Tn, (a :: D ++ [t]).length = D.length + 1 + 1 := fun t => by rw [hl2]; omega
          have hoS : ∀ t : Tn, oSV 3 4 (a :: D ++ [t]) = .os 3 4 (D.length + 1 + 1) := fun t => by simp [oSV]
          repeat'
           conv => whnf
           first
            | refine zA ?_ | refine zB ?_ | refine zC ?_ | refine zD ?_ | refine zE ?_ | refine zF ?_ | refine zG ?_ | refine zH ?_ | refine zJ ?_ | refine zI ?_ | refine splT ?_ | refine splF ?_ | refine splNot ?_
            | ((first | refine splIn ?_ ?_ | refine splD ?_ ?_ | refine splE ?_ ?_ | refine splNE ?_ ?_) <;> intro hc <;> first | (exfalso; omega) | (exfalso; dsimp only at hc; omega) | skip)
            | refine Exists.intro (α := List Value) [.slice oo ([] : List (Int × Int)).length oc, iv s1, iv s2, iv pay, iv lot, iv rent, .slice ro R.length rc, iv cold, iv cut] ⟨⟨rfl, fun w' hw' => e0 w' hw'.1⟩, ?_⟩
            | ((with_reducible show CallEv _ _ 60 [.v (.slice oo ([] : List (Int × Int)).length oc)] _ _ _ _); refine callE (k := 60) (fun β w' hbw => hO1 w' hbw.1) ?_)
            | ((with_reducible show CallEv _ _ 60 [.v (.slice ro R.length rc)] _ _ _ _); refine callO 6 [] (.os 6 7 R.length) R.length 2 (R.flatMap prF) 55 rfl (fun β w' _ hbw => (hR2 w' hbw.1).mono fun _ _ ⟨b, c, h1, h2, h3, h4⟩ => ⟨b, c, h1, h2, h3, h4⟩) ?_)
            | refine appG env 8 1 1 [.v (.slice none 0 0), .v (iv s1), .v (iv s2), .v (iv pay), .v (iv lot), .v (iv rent), .os 6 7 R.length, .v (iv cold), .v (iv cut)] 57 (D.length + 1) ((a :: D).flatMap Tn.cs) [3] rfl rfl rfl rfl rfl (by decide) rfl rfl rfl (fun h => by cases h) (by omega) (by show (D.length + 1 + 1) * 104 ≤ 140737488355328; omega) rfl (.inr ⟨3, 4, rfl, rfl, rfl, (by show 3 < 9; decide)⟩) rfl ?_
          all_goals first | (exfalso; omega) | skip
          exact Dis.mk5 (w0 := w) (rho [(3, 9), (4, 10)]) [6] (by exact trivial) (fun i hi => by rw [List.mem_singleton] at hi; subst hi; exact ⟨_, rfl, rfl⟩) (fun w' h => h.1) (fun β w1 hok hw1 hge hne hij => ⟨a :: D ++ [(⟨none, 0, some ⟨β 6, 0, none⟩, β 7, ⟨[], s1, s2, pay, lot, rent, R, cold, cut⟩⟩ : Tn)], ⟨⟨by have := hl3 (⟨none, 0, some ⟨β 6, 0, none⟩, β 7, ⟨[], s1, s2, pay, lot, rent, R, cold, cut⟩⟩ : Tn); omega, hnew (⟨none, 0, some ⟨β 6, 0, none⟩, β 7, ⟨[], s1, s2, pay, lot, rent, R, cold, cut⟩⟩ : Tn) rfl⟩, by have := hl3 (⟨none, 0, some ⟨β 6, 0, none⟩, β 7, ⟨[], s1, s2, pay, lot, rent, R, cold, cut⟩⟩ : Tn); omega⟩, ⟨⟨_, rfl, rfl⟩, ⟨_, rfl, rfl⟩, ⟨_, rfl, rfl⟩, ⟨_, rfl, by rw [hl3 (⟨none, 0, some ⟨β 6, 0, none⟩, β 7, ⟨[], s1, s2, pay, lot, rent, R, cold, cut⟩⟩ : Tn), ← hn]; rfl⟩, trivial⟩,
           ⟨⟨rfl, _, rfl, fun _ => rfl, fun w2 y hy => hy⟩, ⟨rfl, _, rfl, fun _ => rfl, fun w2 y hy => hy⟩, ⟨rfl, _, rfl, fun _ => rfl, fun w2 y hy => by rw [hoS (⟨none, 0, some ⟨β 6, 0, none⟩, β 7, ⟨[], s1, s2, pay, lot, rent, R, cold, cut⟩⟩ : Tn)]; exact hy⟩, by simp [oM]; exact ⟨⟨rfl, _, rfl, fun _ => rfl, fun w2 y hy => by simp [Blk.ok] at hy ⊢; exact hy⟩, trivial⟩⟩, rfl, fun w2 hw2 hLo => hd_add (t := (⟨none, 0, some ⟨β 6, 0, none⟩, β 7, ⟨[], s1, s2, pay, lot, rent, R, cold, cut⟩⟩ : Tn)) hw2 (fun w3 k3 => ⟨.inl ⟨rfl, rfl, rfl⟩, ri_st rfl rfl hRn (hge 6 _ rfl rfl) (hLo 6 (by simp) _ rfl) w3 k3⟩) (by simp [bkO]) (fun b hb => by simp [bkO] at hb; subst hb; exact ⟨fun hc => hne 6 _ _ rfl rfl (fun w h => hd_cells h hc) rfl, hge 6 _ rfl rfl⟩)⟩)
     · have hO2 := fun w' hb => (hO60 w' hb).mono fun e w2 h => h.2 hOn
       by_cases hRn : R = []
       · subst hRn
         have hR1 := fun w' hb => (hR60 w' hb).mono fun e w2 h => h.1 rfl
         clear hO60 hR60
         cases D with
         | nil =>
          repeat'
           conv => whnf
           first
            | refine zA ?_ | refine zB ?_ | refine zC ?_ | refine zD ?_ | refine zE ?_ | refine zF ?_ | refine zG ?_ | refine zH ?_ | refine zJ ?_ | refine zI ?_ | refine splT ?_ | refine splF ?_ | refine splNot ?_
            | ((first | refine splIn ?_ ?_ | refine splD ?_ ?_ | refine splE ?_ ?_ | refine splNE ?_ ?_) <;> intro hc <;> first | (exfalso; omega) | (exfalso; dsimp only at hc; omega) | skip)
            | refine Exists.intro (α := List Value) [.slice oo O.length oc, iv s1, iv s2, iv pay, iv lot, iv rent, .slice ro ([] : List (Int × Int)).length rc, iv cold, iv cut] ⟨⟨rfl, fun w' hw' => e0 w' hw'.1⟩, ?_⟩
            | ((with_reducible show CallEv _ _ 60 [.v (.slice oo O.length oc)] _ _ _ _); refine callO 6 [] (.os 6 7 O.length) O.length 2 (O.flatMap prF) 55 rfl (fun β w' _ hbw => (hO2 w' hbw.1).mono fun _ _ ⟨b, c, h1, h2, h3, h4⟩ => ⟨b, c, h1, h2, h3, h4⟩) ?_)
            | ((with_reducible show CallEv _ _ 60 [.v (.slice ro ([] : List (Int × Int)).length rc)] _ _ _ _); refine callE (k := 60) (fun β w' hbw => hR1 w' hbw.1) ?_)
            | refine appG env 8 1 1 [.os 6 7 O.length, .v (iv s1), .v (iv s2), .v (iv pay), .v (iv lot), .v (iv rent), .v (.slice none 0 0), .v (iv cold), .v (iv cut)] 57 0 [] [] rfl rfl rfl rfl rfl (by decide) rfl rfl rfl (fun _ => Nat.le_refl _) (by omega) (by decide) rfl (.inl ⟨rfl, rfl, rfl, rfl⟩) rfl ?_
          all_goals first | (exfalso; omega) | skip
          exact Dis.mk5 (w0 := w) (rho [(3, 9), (4, 10)]) [6] (by exact trivial) (fun i hi => by rw [List.mem_singleton] at hi; subst hi; exact ⟨_, rfl, rfl⟩) (fun w' h => h.1) (fun β w1 hok hw1 hge hne hij => ⟨[] ++ [(⟨some ⟨β 6, 0, none⟩, β 7, none, 0, ⟨O, s1, s2, pay, lot, rent, [], cold, cut⟩⟩ : Tn)], ⟨⟨by (show 1 ≤ T.length); omega, hnew (⟨some ⟨β 6, 0, none⟩, β 7, none, 0, ⟨O, s1, s2, pay, lot, rent, [], cold, cut⟩⟩ : Tn) rfl⟩, by (have hn0 : n = 0 := hn.symm); (show T.length - 1 < T.length - n); omega⟩, ⟨⟨_, rfl, rfl⟩, ⟨_, rfl, rfl⟩, ⟨_, rfl, rfl⟩, ⟨_, rfl, by rw [← hn]; rfl⟩, trivial⟩,
           ⟨⟨rfl, _, rfl, fun _ => rfl, fun w2 y hy => hy⟩, ⟨rfl, _, rfl, fun _ => rfl, fun w2 y hy => hy⟩, ⟨rfl, _, rfl, fun _ => rfl, fun w2 y hy => hy⟩, ⟨rfl, _, rfl, fun _ => rfl, fun w2 y hy => hy⟩, trivial⟩, rfl, fun w2 hw2 hLo => hd_add (t := (⟨some ⟨β 6, 0, none⟩, β 7, none, 0, ⟨O, s1, s2, pay, lot, rent, [], cold, cut⟩⟩ : Tn)) hw2 (fun w3 k3 => ⟨ri_st rfl rfl hOn (hge 6 _ rfl rfl) (hLo 6 (by simp) _ rfl) w3 k3, .inl ⟨rfl, rfl, rfl⟩⟩) (by simp [bkO]) (fun b hb => by simp [bkO] at hb; subst hb; exact ⟨fun hc => hne 6 _ _ rfl rfl (fun w h => hd_cells h hc) rfl, hge 6 _ rfl rfl⟩)⟩)
         | cons a D =>
          simp only [List.length_cons] at hn
          have hl3 : ∀ t : Tn, (a :: D ++ [t]).length = D.length + 1 + 1 := fun t => by rw [hl2]; omega
          have hoS : ∀ t : Tn, oSV 3 4 (a :: D ++ [t]) = .os 3 4 (D.length + 1 + 1) := fun t => by simp [oSV]
          repeat'
           conv => whnf
           first
            | refine zA ?_ | refine zB ?_ | refine zC ?_ | refine zD ?_ | refine zE ?_ | refine zF ?_ | refine zG ?_ | refine zH ?_ | refine zJ ?_ | refine zI ?_ | refine splT ?_ | refine splF ?_ | refine splNot ?_
            | ((first | refine splIn ?_ ?_ | refine splD ?_ ?_ | refine splE ?_ ?_ | refine splNE ?_ ?_) <;> intro hc <;> first | (exfalso; omega) | (exfalso; dsimp only at hc; omega) | skip)
            | refine Exists.intro (α := List Value) [.slice oo O.length oc, iv s1, iv s2, iv pay, iv lot, iv rent, .slice ro ([] : List (Int × Int)).length rc, iv cold, iv cut] ⟨⟨rfl, fun w' hw' => e0 w' hw'.1⟩, ?_⟩
            | ((with_reducible show CallEv _ _ 60 [.v (.slice oo O.length oc)] _ _ _ _); refine callO 6 [] (.os 6 7 O.length) O.length 2 (O.flatMap prF) 55 rfl (fun β w' _ hbw => (hO2 w' hbw.1).mono fun _ _ ⟨b, c, h1, h2, h3, h4⟩ => ⟨b, c, h1, h2, h3, h4⟩) ?_)
            | ((with_reducible show CallEv _ _ 60 [.v (.slice ro ([] : List (Int × Int)).length rc)] _ _ _ _); refine callE (k := 60) (fun β w' hbw => hR1 w' hbw.1) ?_)
            | refine appG env 8 1 1 [.os 6 7 O.length, .v (iv s1), .v (iv s2), .v (iv pay), .v (iv lot), .v (iv rent), .v (.slice none 0 0), .v (iv cold), .v (iv cut)] 57 (D.length + 1) ((a :: D).flatMap Tn.cs) [3] rfl rfl rfl rfl rfl (by decide) rfl rfl rfl (fun h => by cases h) (by omega) (by show (D.length + 1 + 1) * 104 ≤ 140737488355328; omega) rfl (.inr ⟨3, 4, rfl, rfl, rfl, (by show 3 < 9; decide)⟩) rfl ?_
          all_goals first | (exfalso; omega) | skip
          exact Dis.mk5 (w0 := w) (rho [(3, 9), (4, 10)]) [6] (by exact trivial) (fun i hi => by rw [List.mem_singleton] at hi; subst hi; exact ⟨_, rfl, rfl⟩) (fun w' h => h.1) (fun β w1 hok hw1 hge hne hij => ⟨a :: D ++ [(⟨some ⟨β 6, 0, none⟩, β 7, none, 0, ⟨O, s1, s2, pay, lot, rent, [], cold, cut⟩⟩ : Tn)], ⟨⟨by have := hl3 (⟨some ⟨β 6, 0, none⟩, β 7, none, 0, ⟨O, s1, s2, pay, lot, rent, [], cold, cut⟩⟩ : Tn); omega, hnew (⟨some ⟨β 6, 0, none⟩, β 7, none, 0, ⟨O, s1, s2, pay, lot, rent, [], cold, cut⟩⟩ : Tn) rfl⟩, by have := hl3 (⟨some ⟨β 6, 0, none⟩, β 7, none, 0, ⟨O, s1, s2, pay, lot, rent, [], cold, cut⟩⟩ : Tn); omega⟩, ⟨⟨_, rfl, rfl⟩, ⟨_, rfl, rfl⟩, ⟨_, rfl, rfl⟩, ⟨_, rfl, by rw [hl3 (⟨some ⟨β 6, 0, none⟩, β 7, none, 0, ⟨O, s1, s2, pay, lot, rent, [], cold, cut⟩⟩ : Tn), ← hn]; rfl⟩, trivial⟩,
           ⟨⟨rfl, _, rfl, fun _ => rfl, fun w2 y hy => hy⟩, ⟨rfl, _, rfl, fun _ => rfl, fun w2 y hy => hy⟩, ⟨rfl, _, rfl, fun _ => rfl, fun w2 y hy => by rw [hoS (⟨some ⟨β 6, 0, none⟩, β 7, none, 0, ⟨O, s1, s2, pay, lot, rent, [], cold, cut⟩⟩ : Tn)]; exact hy⟩, by simp [oM]; exact ⟨⟨rfl, _, rfl, fun _ => rfl, fun w2 y hy => by simp [Blk.ok] at hy ⊢; exact hy⟩, trivial⟩⟩, rfl, fun w2 hw2 hLo => hd_add (t := (⟨some ⟨β 6, 0, none⟩, β 7, none, 0, ⟨O, s1, s2, pay, lot, rent, [], cold, cut⟩⟩ : Tn)) hw2 (fun w3 k3 => ⟨ri_st rfl rfl hOn (hge 6 _ rfl rfl) (hLo 6 (by simp) _ rfl) w3 k3, .inl ⟨rfl, rfl, rfl⟩⟩) (by simp [bkO]) (fun b hb => by simp [bkO] at hb; subst hb; exact ⟨fun hc => hne 6 _ _ rfl rfl (fun w h => hd_cells h hc) rfl, hge 6 _ rfl rfl⟩)⟩)
       · have hR2 := fun w' hb => (hR60 w' hb).mono fun e w2 h => h.2 hRn
         clear hO60 hR60
         cases D with
         | nil =>
          repeat'
           conv => whnf
           first
            | refine zA ?_ | refine zB ?_ | refine zC ?_ | refine zD ?_ | refine zE ?_ | refine zF ?_ | refine zG ?_ | refine zH ?_ | refine zJ ?_ | refine zI ?_ | refine splT ?_ | refine splF ?_ | refine splNot ?_
            | ((first | refine splIn ?_ ?_ | refine splD ?_ ?_ | refine splE ?_ ?_ | refine splNE ?_ ?_) <;> intro hc <;> first | (exfalso; omega) | (exfalso; dsimp only at hc; omega) | skip)
            | refine Exists.intro (α := List Value) [.slice oo O.length oc, iv s1, iv s2, iv pay, iv lot, iv rent, .slice ro R.length rc, iv cold, iv cut] ⟨⟨rfl, fun w' hw' => e0 w' hw'.1⟩, ?_⟩
            | ((with_reducible show CallEv _ _ 60 [.v (.slice oo O.length oc)] _ _ _ _); refine callO 6 [] (.os 6 7 O.length) O.length 2 (O.flatMap prF) 55 rfl (fun β w' _ hbw => (hO2 w' hbw.1).mono fun _ _ ⟨b, c, h1, h2, h3, h4⟩ => ⟨b, c, h1, h2, h3, h4⟩) ?_)
            | ((with_reducible show CallEv _ _ 60 [.v (.slice ro R.length rc)] _ _ _ _); refine callO 8 [] (.os 8 9 R.length) R.length 2 (R.flatMap prF) 55 rfl (fun β w' _ hbw => (hR2 w' hbw.1).mono fun _ _ ⟨b, c, h1, h2, h3, h4⟩ => ⟨b, c, h1, h2, h3, h4⟩) ?_)
            | refine appG env 10 1 1 [.os 6 7 O.length, .v (iv s1), .v (iv s2), .v (iv pay), .v (iv lot), .v (iv rent), .os 8 9 R.length, .v (iv cold), .v (iv cut)] 57 0 [] [] rfl rfl rfl rfl rfl (by decide) rfl rfl rfl (fun _ => Nat.le_refl _) (by omega) (by decide) rfl (.inl ⟨rfl, rfl, rfl, rfl⟩) rfl ?_
          all_goals first | (exfalso; omega) | skip
          exact Dis.mk5 (w0 := w) (rho [(3, 11), (4, 12)]) [6, 8] (by exact trivial) (fun i hi => by simp only [List.mem_cons, List.not_mem_nil, or_false] at hi; rcases hi with rfl | rfl <;> exact ⟨_, rfl, rfl⟩) (fun w' h => h.1) (fun β w1 hok hw1 hge hne hij => ⟨[] ++ [(⟨some ⟨β 6, 0, none⟩, β 7, some ⟨β 8, 0, none⟩, β 9, ⟨O, s1, s2, pay, lot, rent, R, cold, cut⟩⟩ : Tn)], ⟨⟨by (show 1 ≤ T.length); omega, hnew (⟨some ⟨β 6, 0, none⟩, β 7, some ⟨β 8, 0, none⟩, β 9, ⟨O, s1, s2, pay, lot, rent, R, cold, cut⟩⟩ : Tn) rfl⟩, by (have hn0 : n = 0 := hn.symm); (show T.length - 1 < T.length - n); omega⟩, ⟨⟨_, rfl, rfl⟩, ⟨_, rfl, rfl⟩, ⟨_, rfl, rfl⟩, ⟨_, rfl, by rw [← hn]; rfl⟩, trivial⟩,
           ⟨⟨rfl, _, rfl, fun _ => rfl, fun w2 y hy => hy⟩, ⟨rfl, _, rfl, fun _ => rfl, fun w2 y hy => hy⟩, ⟨rfl, _, rfl, fun _ => rfl, fun w2 y hy => hy⟩, ⟨rfl, _, rfl, fun _ => rfl, fun w2 y hy => hy⟩, trivial⟩, rfl, fun w2 hw2 hLo => hd_add (t := (⟨some ⟨β 6, 0, none⟩, β 7, some ⟨β 8, 0, none⟩, β 9, ⟨O, s1, s2, pay, lot, rent, R, cold, cut⟩⟩ : Tn)) hw2 (fun w3 k3 => ⟨ri_st rfl rfl hOn (hge 6 _ rfl rfl) (hLo 6 (by simp) _ rfl) w3 k3, ri_st rfl rfl hRn (hge 8 _ rfl rfl) (hLo 8 (by simp) _ rfl) w3 k3⟩) (by simp [bkO]; exact hij 6 8 _ _ rfl rfl rfl rfl (by decide)) (fun b hb => by simp [bkO] at hb; rcases hb with rfl | rfl; exact ⟨fun hc => hne 6 _ _ rfl rfl (fun w h => hd_cells h hc) rfl, hge 6 _ rfl rfl⟩; exact ⟨fun hc => hne 8 _ _ rfl rfl (fun w h => hd_cells h hc) rfl, hge 8 _ rfl rfl⟩)⟩)
         | cons a D =>
          simp only [List.length_cons] at hn
          have hl3 : ∀ t : Tn, (a :: D ++ [t]).length = D.length + 1 + 1 := fun t => by rw [hl2]; omega
          have hoS : ∀ t : Tn, oSV 3 4 (a :: D ++ [t]) = .os 3 4 (D.length + 1 + 1) := fun t => by simp [oSV]
          repeat'
           conv => whnf
           first
            | refine zA ?_ | refine zB ?_ | refine zC ?_ | refine zD ?_ | refine zE ?_ | refine zF ?_ | refine zG ?_ | refine zH ?_ | refine zJ ?_ | refine zI ?_ | refine splT ?_ | refine splF ?_ | refine splNot ?_
            | ((first | refine splIn ?_ ?_ | refine splD ?_ ?_ | refine splE ?_ ?_ | refine splNE ?_ ?_) <;> intro hc <;> first | (exfalso; omega) | (exfalso; dsimp only at hc; omega) | skip)
            | refine Exists.intro (α := List Value) [.slice oo O.length oc, iv s1, iv s2, iv pay, iv lot, iv rent, .slice ro R.length rc, iv cold, iv cut] ⟨⟨rfl, fun w' hw' => e0 w' hw'.1⟩, ?_⟩
            | ((with_reducible show CallEv _ _ 60 [.v (.slice oo O.length oc)] _ _ _ _); refine callO 6 [] (.os 6 7 O.length) O.length 2 (O.flatMap prF) 55 rfl (fun β w' _ hbw => (hO2 w' hbw.1).mono fun _ _ ⟨b, c, h1, h2, h3, h4⟩ => ⟨b, c, h1, h2, h3, h4⟩) ?_)
            | ((with_reducible show CallEv _ _ 60 [.v (.slice ro R.length rc)] _ _ _ _); refine callO 8 [] (.os 8 9 R.length) R.length 2 (R.flatMap prF) 55 rfl (fun β w' _ hbw => (hR2 w' hbw.1).mono fun _ _ ⟨b, c, h1, h2, h3, h4⟩ => ⟨b, c, h1, h2, h3, h4⟩) ?_)
            | refine appG env 10 1 1 [.os 6 7 O.length, .v (iv s1), .v (iv s2), .v (iv pay), .v (iv lot), .v (iv rent), .os 8 9 R.length, .v (iv cold), .v (iv cut)] 57 (D.length + 1) ((a :: D).flatMap Tn.cs) [3] rfl rfl rfl rfl rfl (by decide) rfl rfl rfl (fun h => by cases h) (by omega) (by show (D.length + 1 + 1) * 104 ≤ 140737488355328; omega) rfl (.inr ⟨3, 4, rfl, rfl, rfl, (by show 3 < 11; decide)⟩) rfl ?_
          all_goals first | (exfalso; omega) | skip
          exact Dis.mk5 (w0 := w) (rho [(3, 11), (4, 12)]) [6, 8] (by exact trivial) (fun i hi => by simp only [List.mem_cons, List.not_mem_nil, or_false] at hi; rcases hi with rfl | rfl <;> exact ⟨_, rfl, rfl⟩) (fun w' h => h.1) (fun β w1 hok hw1 hge hne hij => ⟨a :: D ++ [(⟨some ⟨β 6, 0, none⟩, β 7, some ⟨β 8, 0, none⟩, β 9, ⟨O, s1, s2, pay, lot, rent, R, cold, cut⟩⟩ : Tn)], ⟨⟨by have := hl3 (⟨some ⟨β 6, 0, none⟩, β 7, some ⟨β 8, 0, none⟩, β 9, ⟨O, s1, s2, pay, lot, rent, R, cold, cut⟩⟩ : Tn); omega, hnew (⟨some ⟨β 6, 0, none⟩, β 7, some ⟨β 8, 0, none⟩, β 9, ⟨O, s1, s2, pay, lot, rent, R, cold, cut⟩⟩ : Tn) rfl⟩, by have := hl3 (⟨some ⟨β 6, 0, none⟩, β 7, some ⟨β 8, 0, none⟩, β 9, ⟨O, s1, s2, pay, lot, rent, R, cold, cut⟩⟩ : Tn); omega⟩, ⟨⟨_, rfl, rfl⟩, ⟨_, rfl, rfl⟩, ⟨_, rfl, rfl⟩, ⟨_, rfl, by rw [hl3 (⟨some ⟨β 6, 0, none⟩, β 7, some ⟨β 8, 0, none⟩, β 9, ⟨O, s1, s2, pay, lot, rent, R, cold, cut⟩⟩ : Tn), ← hn]; rfl⟩, trivial⟩,
           ⟨⟨rfl, _, rfl, fun _ => rfl, fun w2 y hy => hy⟩, ⟨rfl, _, rfl, fun _ => rfl, fun w2 y hy => hy⟩, ⟨rfl, _, rfl, fun _ => rfl, fun w2 y hy => by rw [hoS (⟨some ⟨β 6, 0, none⟩, β 7, some ⟨β 8, 0, none⟩, β 9, ⟨O, s1, s2, pay, lot, rent, R, cold, cut⟩⟩ : Tn)]; exact hy⟩, by simp [oM]; exact ⟨⟨rfl, _, rfl, fun _ => rfl, fun w2 y hy => by simp [Blk.ok] at hy ⊢; exact hy⟩, trivial⟩⟩, rfl, fun w2 hw2 hLo => hd_add (t := (⟨some ⟨β 6, 0, none⟩, β 7, some ⟨β 8, 0, none⟩, β 9, ⟨O, s1, s2, pay, lot, rent, R, cold, cut⟩⟩ : Tn)) hw2 (fun w3 k3 => ⟨ri_st rfl rfl hOn (hge 6 _ rfl rfl) (hLo 6 (by simp) _ rfl) w3 k3, ri_st rfl rfl hRn (hge 8 _ rfl rfl) (hLo 8 (by simp) _ rfl) w3 k3⟩) (by simp [bkO]; exact hij 6 8 _ _ rfl rfl rfl rfl (by decide)) (fun b hb => by simp [bkO] at hb; rcases hb with rfl | rfl; exact ⟨fun hc => hne 6 _ _ rfl rfl (fun w h => hd_cells h hc) rfl, hge 6 _ rfl rfl⟩; exact ⟨fun hc => hne 8 _ _ rfl rfl (fun w h => hd_cells h hc) rfl, hge 8 _ rfl rfl⟩)⟩)
   · have hk2 : D.length = T.length := by omega
     rw [hk2, List.take_of_length_le (Nat.le_of_eq (List.length_map ..))] at hmap
     cases D with
     | nil =>
      exact absurd (List.length_eq_zero_iff.1 hk2.symm) hT0
     | cons a D =>
      simp only [List.length_cons] at hk2
      repeat'
       conv => whnf
       first
        | refine zA ?_ | refine zB ?_ | refine zC ?_ | refine zD ?_ | refine zE ?_ | refine zF ?_ | refine zG ?_ | refine zH ?_ | refine zJ ?_ | refine zI ?_ | refine splT ?_ | refine splF ?_ | refine splNot ?_
        | ((first | refine splIn ?_ ?_ | refine splD ?_ ?_ | refine splE ?_ ?_ | refine splNE ?_ ?_) <;> intro hc <;> first | (exfalso; omega) | (exfalso; dsimp only at hc; omega) | skip)
      all_goals first | (exfalso; omega) | skip
      exact ⟨rfl, Dis.mk5 (w0 := w) id [3] (by exact trivial) (fun i hi => by rw [List.mem_singleton] at hi; subst hi; exact ⟨_, rfl, rfl⟩) (fun w' h => h.1) (fun β w1 hok hw1 hge hne hij => ⟨((β 3, β 4), a :: D), ⟨hmap, hge 3 _ rfl rfl⟩, ⟨⟨_, rfl, rfl⟩, ⟨_, rfl, rfl⟩, ⟨_, rfl, rfl⟩, trivial⟩, ⟨⟨rfl, _, rfl, fun _ => rfl, fun w2 y hy => hy⟩, ⟨rfl, _, rfl, fun _ => rfl, fun w2 y hy => hy⟩, ⟨rfl, _, rfl, fun _ => rfl, fun w2 y hy => by rw [← hk2]; exact hy⟩, trivial⟩, rfl, fun w2 hw2 hLo => ⟨hw2, own_st (hge 3 _ rfl rfl) (hLo 3 (by simp) _ rfl)⟩⟩)⟩
 · intro y ⟨hyd, hyb⟩
   have hyl : y.2.length = T.length := by have := congrArg List.length hyd; simpa using this
   refine VC.of env mixed ?_
   repeat'
    conv => whnf
    first
     | refine zA ?_ | refine zB ?_ | refine zC ?_ | refine zD ?_ | refine zE ?_ | refine zF ?_ | refine zG ?_ | refine zH ?_ | refine zJ ?_ | refine zI ?_ | refine splT ?_ | refine splF ?_ | refine splNot ?_
     | ((first | refine splIn ?_ ?_ | refine splD ?_ ?_ | refine splE ?_ ?_ | refine splNE ?_ ?_) <;> intro hc <;> first | (exfalso; omega) | (exfalso; dsimp only at hc; omega) | skip)
   all_goals first | (exfalso; omega) | skip
   refine loopD 5 (fun E : List Lr => [(1, .ptr 0 0), (2, .ptr 1 0), (3, .ptr 2 0), (6, .v (iv E.length))]) (fun E => (0, .cells [.v (iv days), .v (iv shift), .v (iv size), .v (.slice to T.length tc), .v (.slice lo L.length lc)] 25) :: (1, .cells [.v (iv 0), .v (iv 0), .v (iv 0), .v (.slice none 0 0), .v (.slice none 0 0)] 35) :: (2, .cells [.v (iv days), .v (iv shift), .v (iv size), .v (.slice (some ⟨y.1.1, 0, none⟩) T.length y.1.2), oSV 3 4 E] 35) :: (oM 3 4 1 Lr.cs 61 E)) (fun (E : List Lr) w' => (HdW w y.2 w' ∧ St w.heap.size (TO y.1.1 y.1.2 y.2) w') ∧ LeW w E w') (fun E => E.length ≤ L.length ∧ E.map Lr.L = (L.map Lr.L).take E.length) (fun E => L.length - E.length)
    (Dis.ent (x := []) ⟨Nat.zero_le _, rfl⟩ (Ent.weak rfl ⟨rfl, rfl, rfl, rfl, trivial⟩ ⟨rfl, rfl, rfl, trivial⟩ (fun w' h => ⟨h, (fun p hp => by cases hp), List.nodup_nil, fun p hp => by cases hp⟩))) (fun E _ => by cases E <;> exact ⟨rfl, rfl⟩) ?_
   intro E ⟨hk, hmap⟩
   rcases Nat.lt_or_ge E.length L.length with hkl | hkl
   · obtain ⟨⟨ro, rc, row⟩, hx⟩ : ∃ b, L[E.length]? = some b := ⟨_, List.getElem?_eq_getElem hkl⟩
     obtain ⟨_, al, rfl, _⟩ := hL.ptr (by omega)
     have e0 := fun (w' : World) hw' => rd_ati (hL.below (w' := w') hw') hx
     have hrow := hLi _ (List.mem_of_getElem? hx)
     have hbl := hBl _ (List.mem_of_getElem? hx)
     dsimp only at hrow hbl
     have hm : (L.map Lr.L)[E.length]? = some row := by rw [List.getElem?_map, hx]; rfl
     have hnew : ∀ t : Lr, t.L = row → (E ++ [t]).map Lr.L = (L.map Lr.L).take (E ++ [t]).length := fun t ht => by
      rw [List.map_append, hmap, List.length_append, List.length_singleton, List.take_add_one, hm]
      show _ ++ [t.L] = _
      rw [ht]; rfl
     have hl2 : ∀ t : Lr, (E ++ [t]).length = E.length + 1 := fun t => by simp
     generalize hn : E.length = n at *
     cases E with
     | nil =>
      repeat'
       conv => whnf
       first
        | refine zA ?_ | refine zB ?_ | refine zC ?_ | refine zD ?_ | refine zE ?_ | refine zF ?_ | refine zG ?_ | refine zH ?_ | refine zJ ?_ | refine zI ?_ | refine splT ?_ | refine splF ?_ | refine splNot ?_
        | ((first | refine splIn ?_ ?_ | refine splD ?_ ?_ | refine splE ?_ ?_ | refine splNE ?_ ?_) <;> intro hc <;> first | (exfalso; omega) | (exfalso; dsimp only at hc; omega) | skip)
        | refine Exists.intro (α := List Value) [.slice ro row.length rc] ⟨⟨rfl, fun w' hw' => e0 w' hw'.1.1.1⟩, ?_⟩
      all_goals first | (exfalso; omega) | skip
      refine loopN 7 (fun j : Nat => [(1, .ptr 0 0), (2, .ptr 1 0), (3, .ptr 2 0), (6, .v (iv n)), (7, oSV 5 6 (row.take j)), (8, .v (iv j))]) (fun j => (0, .cells [.v (iv days), .v (iv shift), .v (iv size), .v (.slice to T.length tc), .v (.slice (some al) L.length lc)] 25) :: (1, .cells [.v (iv 0), .v (iv 0), .v (iv 0), .v (.slice none 0 0), .v (.slice none 0 0)] 35) :: (2, .cells [.v (iv days), .v (iv shift), .v (iv size), .v (.slice (some ⟨y.1.1, 0, none⟩) T.length y.1.2), oSV 3 4 ([] : List Lr)] 35) :: (oM 3 4 1 Lr.cs 61 ([] : List Lr) ++ oM 5 6 2 prF 60 (row.take j))) (fun j => j ≤ row.length) (fun j => row.length - j) 0 (Nat.zero_le _) ⟨rfl, rfl, rfl, rfl, rfl, rfl, trivial⟩ ⟨rfl, rfl, rfl, trivial⟩ (fun j _ => by cases row.take j <;> exact ⟨rfl, rfl⟩) ?_
      intro j hj
      rcases Nat.lt_or_ge j row.length with hjl | hjl
      · obtain ⟨⟨p1, p2⟩, hp⟩ : ∃ p, row[j]? = some p := ⟨_, List.getElem?_eq_getElem hjl⟩
        obtain ⟨_, ar, rfl, _⟩ := hrow.ptr (by omega)
        have e1 := fun (w' : World) hw' => rd_fldz (hrow.below (w' := w') hw') hp _ rfl 0 (iv p1) rfl
        have e2 := fun (w' : World) hw' => rd_fldz (hrow.below (w' := w') hw') hp _ rfl 1 (iv p2) rfl
        have ht : row.take (j + 1) = row.take j ++ [(p1, p2)] := by rw [List.take_add_one, hp]; rfl
        have hlen : (row.take j).length = j := by rw [List.length_take]; omega
        generalize row.take j = P at *
        cases P with
        | nil =>
         repeat'
          conv => whnf
          first
           | refine zA ?_ | refine zB ?_ | refine zC ?_ | refine zD ?_ | refine zE ?_ | refine zF ?_ | refine zG ?_ | refine zH ?_ | refine zJ ?_ | refine zI ?_ | refine splT ?_ | refine splF ?_ | refine splNot ?_
           | ((first | refine splIn ?_ ?_ | refine splD ?_ ?_ | refine splE ?_ ?_ | refine splNE ?_ ?_) <;> intro hc <;> first | (exfalso; omega) | (exfalso; dsimp only at hc; omega) | skip)
           | refine Exists.intro (α := List Value) [.slice (some ar) row.length rc] ⟨⟨rfl, fun w' hw' => e0 w' hw'.1.1.1⟩, ?_⟩
           | refine Exists.intro (α := List Value) [iv p1] ⟨⟨rfl, fun w' hw' => e1 w' hw'.1.1.1⟩, ?_⟩
           | refine Exists.intro (α := List Value) [iv p2] ⟨⟨rfl, fun w' hw' => e2 w' hw'.1.1.1⟩, ?_⟩
         all_goals first | (exfalso; omega) | exact ⟨j + 1, by omega, by omega, Ent.ren (rho [(5, 8), (6, 9)]) rfl (by rw [ht]; rfl) ⟨rfl, rfl, rfl, rfl, by rw [ht]; rfl, rfl, trivial⟩ (by rw [ht]; exact ⟨rfl, rfl, rfl, rfl, trivial⟩) fun _ h => h⟩
        | cons q P =>
         simp only [List.length_cons] at hlen
         repeat'
          conv => whnf
          first
           | refine zA ?_ | refine zB ?_ | refine zC ?_ | refine zD ?_ | refine zE ?_ | refine zF ?_ | refine zG ?_ | refine zH ?_ | refine zJ ?_ | refine zI ?_ | refine splT ?_ | refine splF ?_ | refine splNot ?_
           | ((first | refine splIn ?_ ?_ | refine splD ?_ ?_ | refine splE ?_ ?_ | refine splNE ?_ ?_) <;> intro hc <;> first | (exfalso; omega) | (exfalso; dsimp only at hc; omega) | skip)
           | refine Exists.intro (α := List Value) [.slice (some ar) row.length rc] ⟨⟨rfl, fun w' hw' => e0 w' hw'.1.1.1⟩, ?_⟩
           | refine Exists.intro (α := List Value) [iv p1] ⟨⟨rfl, fun w' hw' => e1 w' hw'.1.1.1⟩, ?_⟩
           | refine Exists.intro (α := List Value) [iv p2] ⟨⟨rfl, fun w' hw' => e2 w' hw'.1.1.1⟩, ?_⟩
         all_goals first | (exfalso; omega) | exact ⟨j + 1, by omega, by omega, Ent.ren (rho [(5, 8), (6, 9)]) rfl (by rw [ht]; rfl) ⟨rfl, rfl, rfl, rfl, by rw [ht]; simp [oSV]; rfl, rfl, trivial⟩ (by rw [ht]; exact ⟨rfl, rfl, rfl, by simp [oM]; rfl, trivial⟩) fun _ h => h⟩
      · obtain rfl : j = row.length := by omega
        rw [List.take_length]
        cases row with
        | nil =>
         repeat'
          conv => whnf
          first
           | refine zA ?_ | refine zB ?_ | refine zC ?_ | refine zD ?_ | refine zE ?_ | refine zF ?_ | refine zG ?_ | refine zH ?_ | refine zJ ?_ | refine zI ?_ | refine splT ?_ | refine splF ?_ | refine splNot ?_
           | ((first | refine splIn ?_ ?_ | refine splD ?_ ?_ | refine splE ?_ ?_ | refine splNE ?_ ?_) <;> intro hc <;> first | (exfalso; omega) | (exfalso; dsimp only at hc; omega) | skip)
           | refine Exists.intro (α := List Value) [.slice ro ([] : List (Int × Int)).length rc] ⟨⟨rfl, fun w' hw' => e0 w' hw'.1.1.1⟩, ?_⟩
         all_goals first | (exfalso; omega) | skip
         exact Dis.ent (x := ([] : List Lr) ++ [(⟨none, 0, []⟩ : Lr)]) ⟨⟨by have := hl2 (⟨none, 0, []⟩ : Lr); omega, hnew (⟨none, 0, []⟩ : Lr) rfl⟩, by have := hl2 (⟨none, 0, []⟩ : Lr); omega⟩ (Ent.ren (rho [(3, 8), (4, 9)]) rfl rfl ⟨rfl, rfl, rfl, by rw [hl2 (⟨none, 0, []⟩ : Lr), ← hn]; rfl, trivial⟩ ⟨rfl, rfl, rfl, rfl, trivial⟩ fun w2 hw2 => ⟨hw2.1, le_add (t := (⟨none, 0, []⟩ : Lr)) hw2.2 (fun _ _ => .inl ⟨rfl, rfl, rfl⟩) List.nodup_nil (fun b hb => by cases hb)⟩)
        | cons p P =>
         repeat'
          conv => whnf
          first
           | refine zA ?_ | refine zB ?_ | refine zC ?_ | refine zD ?_ | refine zE ?_ | refine zF ?_ | refine zG ?_ | refine zH ?_ | refine zJ ?_ | refine zI ?_ | refine splT ?_ | refine splF ?_ | refine splNot ?_
           | ((first | refine splIn ?_ ?_ | refine splD ?_ ?_ | refine splE ?_ ?_ | refine splNE ?_ ?_) <;> intro hc <;> first | (exfalso; omega) | (exfalso; dsimp only at hc; omega) | skip)
           | refine Exists.intro (α := List Value) [.slice ro (p :: P).length rc] ⟨⟨rfl, fun w' hw' => e0 w' hw'.1.1.1⟩, ?_⟩
           | refine appG env 7 1 1 [.os 5 6 (P.length + 1)] 61 0 [] [] rfl rfl rfl rfl rfl (by decide) rfl rfl rfl (fun _ => Nat.le_refl _) (by omega) (by decide) rfl (.inl ⟨rfl, rfl, rfl, rfl⟩) rfl ?_
         all_goals first | (exfalso; omega) | skip
         exact Dis.mk5 (w0 := w) (rho [(3, 8), (4, 9)]) [5] (by exact trivial) (fun i hi => by rw [List.mem_singleton] at hi; subst hi; exact ⟨_, rfl, rfl⟩) (fun w' h => h.1.1.1) (fun β w1 hok hw1 hge hne hij => ⟨([] : List Lr) ++ [(⟨some ⟨β 5, 0, none⟩, β 6, p :: P⟩ : Lr)], ⟨⟨by have := hl2 (⟨some ⟨β 5, 0, none⟩, β 6, p :: P⟩ : Lr); omega, hnew (⟨some ⟨β 5, 0, none⟩, β 6, p :: P⟩ : Lr) rfl⟩, by have := hl2 (⟨some ⟨β 5, 0, none⟩, β 6, p :: P⟩ : Lr); omega⟩, ⟨⟨_, rfl, rfl⟩, ⟨_, rfl, rfl⟩, ⟨_, rfl, rfl⟩, ⟨_, rfl, by rw [hl2 (⟨some ⟨β 5, 0, none⟩, β 6, p :: P⟩ : Lr), ← hn]; rfl⟩, trivial⟩,
          ⟨⟨rfl, _, rfl, fun _ => rfl, fun w2 y hy => hy⟩, ⟨rfl, _, rfl, fun _ => rfl, fun w2 y hy => hy⟩, ⟨rfl, _, rfl, fun _ => rfl, fun w2 y hy => hy⟩, ⟨rfl, _, rfl, fun _ => rfl, fun w2 y hy => hy⟩, trivial⟩, rfl, fun w2 hw2 hLo => ⟨hw2.1, le_add (t := (⟨some ⟨β 5, 0, none⟩, β 6, p :: P⟩ : Lr)) hw2.2 (ri_st rfl rfl (List.cons_ne_nil _ _) (hge 5 _ rfl rfl) (hLo 5 (by simp) _ rfl)) (by simp [bkO]) (fun b hb => by simp [bkO] at hb; subst hb; exact ⟨fun hc => hne 5 _ _ rfl rfl (fun w h => le_cells h.2 hc) rfl, hge 5 _ rfl rfl⟩)⟩⟩)
     | cons a E =>
      simp only [List.length_cons] at hn
      have hoS : ∀ t : Lr, oSV 3 4 (a :: E ++ [t]) = .os 3 4 (E.length + 1 + 1) := fun t => by simp [oSV]
      repeat'
       conv => whnf
       first
        | refine zA ?_ | refine zB ?_ | refine zC ?_ | refine zD ?_ | refine zE ?_ | refine zF ?_ | refine zG ?_ | refine zH ?_ | refine zJ ?_ | refine zI ?_ | refine splT ?_ | refine splF ?_ | refine splNot ?_
        | ((first | refine splIn ?_ ?_ | refine splD ?_ ?_ | refine splE ?_ ?_ | refine splNE ?_ ?_) <;> intro hc <;> first | (exfalso; omega) | (exfalso; dsimp only at hc; omega) | skip)
        | refine Exists.intro (α := List Value) [.slice ro row.length rc] ⟨⟨rfl, fun w' hw' => e0 w' hw'.1.1.1⟩, ?_⟩
      all_goals first | (exfalso; omega) | skip
      refine loopN 7 (fun j : Nat => [(1, .ptr 0 0), (2, .ptr 1 0), (3, .ptr 2 0), (6, .v (iv n)), (7, oSV 5 6 (row.take j)), (8, .v (iv j))]) (fun j => (0, .cells [.v (iv days), .v (iv shift), .v (iv size), .v (.slice to T.length tc), .v (.slice (some al) L.length lc)] 25) :: (1, .cells [.v (iv 0), .v (iv 0), .v (iv 0), .v (.slice none 0 0), .v (.slice none 0 0)] 35) :: (2, .cells [.v (iv days), .v (iv shift), .v (iv size), .v (.slice (some ⟨y.1.1, 0, none⟩) T.length y.1.2), oSV 3 4 (a :: E : List Lr)] 35) :: (oM 3 4 1 Lr.cs 61 (a :: E : List Lr) ++ oM 5 6 2 prF 60 (row.take j))) (fun j => j ≤ row.length) (fun j => row.length - j) 0 (Nat.zero_le _) ⟨rfl, rfl, rfl, rfl, rfl, rfl, trivial⟩ ⟨rfl, rfl, rfl, rfl, trivial⟩ (fun j _ => by cases row.take j <;> exact ⟨rfl, rfl⟩) ?_
      intro j hj
      rcases Nat.lt_or_ge j row.length with hjl | hjl
      · obtain ⟨⟨p1, p2⟩, hp⟩ : ∃ p, row[j]? = some p := ⟨_, List.getElem?_eq_getElem hjl⟩
        obtain ⟨_, ar, rfl, _⟩ := hrow.ptr (by omega)
        have e1 := fun (w' : World) hw' => rd_fldz (hrow.below (w' := w') hw') hp _ rfl 0 (iv p1) rfl
        have e2 := fun (w' : World) hw' => rd_fldz (hrow.below (w' := w') hw') hp _ rfl 1 (iv p2) rfl
        have ht : row.take (j + 1) = row.take j ++ [(p1, p2)] := by rw [List.take_add_one, hp]; rfl
        have hlen : (row.take j).length = j := by rw [List.length_take]; omega
        generalize row.take j = P at *
        cases P with
        | nil =>
         repeat'
          conv => whnf
          first
           | refine zA ?_ | refine zB ?_ | refine zC ?_ | refine zD ?_ | refine zE ?_ | refine zF ?_ | refine zG ?_ | refine zH ?_ | refine zJ ?_ | refine zI ?_ | refine splT ?_ | refine splF ?_ | refine splNot ?_
           | ((first | refine splIn ?_ ?_ | refine splD ?_ ?_ | refine splE ?_ ?_ | refine splNE ?_ ?_) <;> intro hc <;> first | (exfalso; omega) | (exfalso; dsimp only at hc; omega) | skip)
           | refine Exists.intro (α := List Value) [.slice (some ar) row.length rc] ⟨⟨rfl, fun w' hw' => e0 w' hw'.1.1.1⟩, ?_⟩
           | refine Exists.intro (α := List Value) [iv p1] ⟨⟨rfl, fun w' hw' => e1 w' hw'.1.1.1⟩, ?_⟩
           | refine Exists.intro (α := List Value) [iv p2] ⟨⟨rfl, fun w' hw' => e2 w' hw'.1.1.1⟩, ?_⟩
         all_goals first | (exfalso; omega) | exact ⟨j + 1, by omega, by omega, Ent.ren (rho [(5, 8), (6, 9)]) rfl (by rw [ht]; rfl) ⟨rfl, rfl, rfl, rfl, by rw [ht]; rfl, rfl, trivial⟩ (by rw [ht]; exact ⟨rfl, rfl, rfl, rfl, rfl, trivial⟩) fun _ h => h⟩
        | cons q P =>
         simp only [List.length_cons] at hlen
         repeat'
          conv => whnf
          first
           | refine zA ?_ | refine zB ?_ | refine zC ?_ | refine zD ?_ | refine zE ?_ | refine zF ?_ | refine zG ?_ | refine zH ?_ | refine zJ ?_ | refine zI ?_ | refine splT ?_ | refine splF ?_ | refine splNot ?_
           | ((first | refine splIn ?_ ?_ | refine splD ?_ ?_ | refine splE ?_ ?_ | refine splNE ?_ ?_) <;> intro hc <;> first | (exfalso; omega) | (exfalso; dsimp only at hc; omega) | skip)
           | refine Exists.intro (α := List Value) [.slice (some ar) row.length rc] ⟨⟨rfl, fun w' hw' => e0 w' hw'.1.1.1⟩, ?_⟩
           | refine Exists.intro (α := List Value) [iv p1] ⟨⟨rfl, fun w' hw' => e1 w' hw'.1.1.1⟩, ?_⟩
           | refine Exists.intro (α := List Value) [iv p2] ⟨⟨rfl, fun w' hw' => e2 w' hw'.1.1.1⟩, ?_⟩
         all_goals first | (exfalso; omega) | exact ⟨j + 1, by omega, by omega, Ent.ren (rho [(5, 8), (6, 9)]) rfl (by rw [ht]; rfl) ⟨rfl, rfl, rfl, rfl, by rw [ht]; simp [oSV]; rfl, rfl, trivial⟩ (by rw [ht]; exact ⟨rfl, rfl, rfl, rfl, by simp [oM]; rfl, trivial⟩) fun _ h => h⟩
      · obtain rfl : j = row.length := by omega
        rw [List.take_length]
        cases row with
        | nil =>
         repeat'
          conv => whnf
          first
           | refine zA ?_ | refine zB ?_ | refine zC ?_ | refine zD ?_ | refine zE ?_ | refine zF ?_ | refine zG ?_ | refine zH ?_ | refine zJ ?_ | refine zI ?_ | refine splT ?_ | refine splF ?_ | refine splNot ?_
           | ((first | refine splIn ?_ ?_ | refine splD ?_ ?_ | refine splE ?_ ?_ | refine splNE ?_ ?_) <;> intro hc <;> first | (exfalso; omega) | (exfalso; dsimp only at hc; omega) | skip)
           | refine Exists.intro (α := List Value) [.slice ro ([] : List (Int × Int)).length rc] ⟨⟨rfl, fun w' hw' => e0 w' hw'.1.1.1⟩, ?_⟩
         all_goals first | (exfalso; omega) | skip
         exact Dis.ent (x := a :: E ++ [(⟨none, 0, []⟩ : Lr)]) ⟨⟨by have := hl2 (⟨none, 0, []⟩ : Lr); omega, hnew (⟨none, 0, []⟩ : Lr) rfl⟩, by have := hl2 (⟨none, 0, []⟩ : Lr); omega⟩ (Ent.ren (rho [(3, 8), (4, 9)]) rfl rfl ⟨rfl, rfl, rfl, by rw [hl2 (⟨none, 0, []⟩ : Lr), ← hn]; rfl, trivial⟩ ⟨rfl, rfl, by rw [hoS (⟨none, 0, []⟩ : Lr)]; rfl, by simp [oM]; rfl, trivial⟩ fun w2 hw2 => ⟨hw2.1, le_add (t := (⟨none, 0, []⟩ : Lr)) hw2.2 (fun _ _ => .inl ⟨rfl, rfl, rfl⟩) List.nodup_nil (fun b hb => by cases hb)⟩)
        | cons p P =>
         repeat'
          conv => whnf
          first
           | refine zA ?_ | refine zB ?_ | refine zC ?_ | refine zD ?_ | refine zE ?_ | refine zF ?_ | refine zG ?_ | refine zH ?_ | refine zJ ?_ | refine zI ?_ | refine splT ?_ | refine splF ?_ | refine splNot ?_
           | ((first | refine splIn ?_ ?_ | refine splD ?_ ?_ | refine splE ?_ ?_ | refine splNE ?_ ?_) <;> intro hc <;> first | (exfalso; omega) | (exfalso; dsimp only at hc; omega) | skip)
           | refine Exists.intro (α := List Value) [.slice ro (p :: P).length rc] ⟨⟨rfl, fun w' hw' => e0 w' hw'.1.1.1⟩, ?_⟩
           | refine appG env 7 1 1 [.os 5 6 (P.length + 1)] 61 (E.length + 1) ((a :: E).flatMap Lr.cs) [3] rfl rfl rfl rfl rfl (by decide) rfl rfl rfl (fun h => by cases h) (by omega) (by show (E.length + 1 + 1) * 24 ≤ 140737488355328; omega) rfl (.inr ⟨3, 4, rfl, rfl, rfl, (by show 3 < 8; decide)⟩) rfl ?_
         all_goals first | (exfalso; omega) | skip
         exact Dis.mk5 (w0 := w) (rho [(3, 8), (4, 9)]) [5] (by exact trivial) (fun i hi => by rw [List.mem_singleton] at hi; subst hi; exact ⟨_, rfl, rfl⟩) (fun w' h => h.1.1.1) (fun β w1 hok hw1 hge hne hij => ⟨a :: E ++ [(⟨some ⟨β 5, 0, none⟩, β 6, p :: P⟩ : Lr)], ⟨⟨by have := hl2 (⟨some ⟨β 5, 0, none⟩, β 6, p :: P⟩ : Lr); omega, hnew (⟨some ⟨β 5, 0, none⟩, β 6, p :: P⟩ : Lr) rfl⟩, by have := hl2 (⟨some ⟨β 5, 0, none⟩, β 6, p :: P⟩ : Lr); omega⟩, ⟨⟨_, rfl, rfl⟩, ⟨_, rfl, rfl⟩, ⟨_, rfl, rfl⟩, ⟨_, rfl, by rw [hl2 (⟨some ⟨β 5, 0, none⟩, β 6, p :: P⟩ : Lr), ← hn]; rfl⟩, trivial⟩,
          ⟨⟨rfl, _, rfl, fun _ => rfl, fun w2 y hy => hy⟩, ⟨rfl, _, rfl, fun _ => rfl, fun w2 y hy => hy⟩, ⟨rfl, _, rfl, fun _ => rfl, fun w2 y hy => by rw [hoS (⟨some ⟨β 5, 0, none⟩, β 6, p :: P⟩ : Lr)]; exact hy⟩, by simp [oM]; exact ⟨⟨rfl, _, rfl, fun _ => rfl, fun w2 y hy => by simp [Blk.ok] at hy ⊢; exact hy⟩, trivial⟩⟩, rfl, fun w2 hw2 hLo => ⟨hw2.1, le_add (t := (⟨some ⟨β 5, 0, none⟩, β 6, p :: P⟩ : Lr)) hw2.2 (ri_st rfl rfl (List.cons_ne_nil _ _) (hge 5 _ rfl rfl) (hLo 5 (by simp) _ rfl)) (by simp [bkO]) (fun b hb => by simp [bkO] at hb; subst hb; exact ⟨fun hc => hne 5 _ _ rfl rfl (fun w h => le_cells h.2 hc) rfl, hge 5 _ rfl rfl⟩)⟩⟩)
   · have hk2 : E.length = L.length := by omega
     rw [hk2, List.take_of_length_le (Nat.le_of_eq (List.length_map ..))] at hmap
     have hfin : ∀ (b c : Nat) w2, w.heap.size ≤ b → (fun (E : List Lr) w' => (HdW w y.2 w' ∧ St w.heap.size (TO y.1.1 y.1.2 y.2) w') ∧ LeW w E w') E w2 → LO b c E w2 → TrW w.heap.size ⟨days, shift, size, some ⟨y.1.1, 0, none⟩, y.1.2, y.2, some ⟨b, 0, none⟩, c, E⟩ w2 := fun b c w2 hb hw2 hr =>
      ⟨⟨_, rfl, hyb, hw2.1.2.now⟩, fun t ht => (hw2.1.1.2.1 t ht).now, hw2.1.1.2.2.1, hw2.1.1.2.2.2, ⟨_, rfl, hb, hr⟩, fun r hr => (hw2.2.1 r hr).now, hw2.2.2.1, hw2.2.2.2⟩
     have hkeep : ∀ w1 w2, (fun (E : List Lr) w' => (HdW w y.2 w' ∧ St w.heap.size (TO y.1.1 y.1.2 y.2) w') ∧ LeW w E w') E w1 → Keep w.heap.size w1 w2 → (∀ t ∈ y.2, St w.heap.size (TnW t) w2) ∧ St w.heap.size (TO y.1.1 y.1.2 y.2) w2 ∧ ∀ r ∈ E, St w.heap.size (RI 60 r.o r.c r.L) w2 := fun w1 w2 h k => ⟨fun t ht => (h.1.1.2.1 t ht).keep k, h.1.2.keep k, fun r hr => (h.2.1 r hr).keep k⟩
     have hyd2 : ∀ (o : Option Addr) (c : Nat), Tr.d ⟨days, shift, size, some ⟨y.1.1, 0, none⟩, y.1.2, y.2, o, c, E⟩ = Tr.d ⟨days, shift, size, to, tc, T, lo, lc, L⟩ := fun o c => by simp only [Tr.d, hyd, hmap]
     have hval : ∀ (o : Option Addr) (c : Nat), Value.agg #[iv days, iv shift, iv size, .slice (some ⟨y.1.1, 0, none⟩) T.length y.1.2, .slice o E.length c] = Tr.v ⟨days, shift, size, some ⟨y.1.1, 0, none⟩, y.1.2, y.2, o, c, E⟩ := fun o c => by simp only [Tr.v, hyl]
     cases E with
     | nil => exact absurd (List.length_eq_zero_iff.1 hk2.symm) hL0
     | cons a E =>
      repeat'
       conv => whnf
       first
        | refine zA ?_ | refine zB ?_ | refine zC ?_ | refine zD ?_ | refine zE ?_ | refine zF ?_ | refine zG ?_ | refine zH ?_ | refine zJ ?_ | refine zI ?_ | refine splT ?_ | refine splF ?_ | refine splNot ?_
        | ((first | refine splIn ?_ ?_ | refine splD ?_ ?_ | refine splE ?_ ?_ | refine splNE ?_ ?_) <;> intro hc <;> first | (exfalso; omega) | (exfalso; dsimp only at hc; omega) | skip)
      all_goals first | (exfalso; omega) | skip
      exact ⟨fun w' h => h.1.1.1, fun β w' hw' hblk => ⟨⟨days, shift, size, some ⟨y.1.1, 0, none⟩, y.1.2, y.2, some ⟨β 3, 0, none⟩, β 4, a :: E⟩, hval (some ⟨β 3, 0, none⟩) (β 4), fun w2 k2 => ⟨⟨⟨_, rfl, hyb, (hkeep w' w2 hw' k2).2.1.now⟩, fun t ht => ((hkeep w' w2 hw' k2).1 t ht).now, hw'.1.1.2.2.1, hw'.1.1.2.2.2, ⟨_, rfl, st_own_ge (hblk 3 _ rfl rfl), hblk 3 _ rfl rfl w2 k2⟩, fun r hr => ((hkeep w' w2 hw' k2).2.2 r hr).now, hw'.2.2.1, hw'.2.2.2⟩, hyd2 (some ⟨β 3, 0, none⟩) (β 4)⟩⟩⟩
end Go.Proofs.Ythfabodamhdhaaa
namespace Go.Proofs.Ythfabodamhdhaaa.Tx
open Go Go.RowKit
set_option linter.unusedSimpArgs false
set_option linter.unusedVariables false
theorem ldN {P : Program} (T : Env P) {dst : Option Tmp} {ty : TypeId} {pos : String} {after : Array Edge} {gd : Option (Nat × Bool)} {gs : List Nat} {σ : Sg} {K : Ef → Prop} {t i o j n e sz : Nat} {x : Operand} {xs : List SV} {ti : TI} (s : SV)
 (hx : gv σ x = some (.ptr i o)) (hm : lk σ.m i = some (.mix j n sz [] xs e)) (ht : T.ty t = some ti) (hsz : ti.size = 1) (hag : ti.kind.agg = false) (hs : xs[o]? = some s) (hlt : SV.lt σ.nb s = true)
 (hK : K ⟨s, [], [], gs ++ os x, [i]⟩) : OpEv P ⟨dst, .load t x, ty, pos, after, gd⟩ gs σ K := by
 refine .mk ⟨s, [], [], gs ++ os x, [i]⟩ (by simp [efB, eqs, modsLt, oldB, keysB, nodupB, hlt]) (fun k hk => by simp [hk]) rfl (runOK_pure fun β a w hss => ?_) hK
 have htok := T.tok t ti ht
 have e1 := gv_eval hss hx (fun k hk => by simp [hk])
 have e2 : w.ownsRow 0 e sz (.slice (some ⟨β i, 0, none⟩) n (β j)) n (SV.cs β xs) := by
  have := hss.m i (by simp) _ hm
  simpa [Blk.ok] using this
 have e3 := run_loadVar_cells (P := P) htok (β := β) (w := w) (ad := ⟨β i, o, none⟩) (l := [s]) (s := s) (by rw [hsz]; rfl) (fun q v hv => by
  rw [own_add]
  have hv' : (SV.cs β xs)[o + q]? = some v := by
   match q, hv with
   | 0, hv =>
    rw [cs_getElem?, Nat.add_zero, hs]
    simpa [SV.cs] using hv
  have := e2.cells (g := β i) rfl _ _ hv'
  rw [own_add, Nat.zero_add] at this
  exact this) (.inr ⟨hag, rfl⟩)
 simp [execOp, Instr.loadAt, Instr.sureAddr, e1, SV.c, e3]
theorem stN {P : Program} (T : Env P) {dst : Option Tmp} {ty : TypeId} {pos : String} {after : Array Edge} {gd : Option (Nat × Bool)} {gs : List Nat} {σ : Sg} {K : Ef → Prop} {t i o j n e sz : Nat} {x y : Operand} {xs : List SV} {ti : TI} (s : SV)
 (hx : gv σ x = some (.ptr i o)) (hy : gv σ y = some s) (hm : lk σ.m i = some (.mix j n sz [] xs e)) (ht : T.ty t = some ti) (hsz : ti.size = 1) (hcl : s.cells = [s]) (ho1 : ones s.cells = true) (ho : o < xs.length)
 (hi : Nat.blt i σ.nb = true) (hj : Nat.blt j σ.nb = true) (hls : SV.lts σ.nb xs = true) (hlt : SV.lt σ.nb s = true)
 (hK : K ⟨.v undef, [], [(i, .mix j n sz [] (xs.set o s) e)], gs ++ (os x ++ os y), [i]⟩) : OpEv P ⟨dst, .store t x y, ty, pos, after, gd⟩ gs σ K := by
 refine .mk ⟨.v undef, [], [(i, .mix j n sz [] (xs.set o s) e)], gs ++ (os x ++ os y), [i]⟩ (by simp [efB, eqs, modsLt, oldB, keysB, nodupB, hi, hj, Blk.lt, lts_set hlt hls, hm, Blk.live, SV.lt, nin]) (fun k hk => by simp [hk]) rfl (fun β a w hs => ?_) hK
 have htok := T.tok t ti ht
 have e1 := gv_eval hs hx (fun k hk => by simp [hk])
 have e2 := gv_eval hs hy (fun k hk => by simp [hk])
 have e3 : w.ownsRow 0 e sz (.slice (some ⟨β i, 0, none⟩) n (β j)) n (SV.cs β xs) := by
  have := hs.m i (by simp) _ hm
  simpa [Blk.ok] using this
 have hlenx := e3.1
 rcases e3.2 with ⟨h', _⟩ | ⟨g, cap, cur, q0, q1, q2, q3, q4, q5, q6⟩
 · cases h'
 simp only [Value.slice.injEq, Option.some.injEq, Addr.mk.injEq, and_true, true_and] at q0
 obtain ⟨rfl, rfl⟩ := q0
 have hzc : (s.c β).cells = (SV.cs β s.cells).toArray := by rw [← SV.cells_c]
 have hcs : SV.cs β s.cells = [s.c β] := by rw [hcl]; rfl
 have hxl : (SV.cs β xs).length ≤ cur.size := by
  have := congrArg List.length q6
  rw [List.length_take, Array.length_toList] at this
  omega
 have hcl' : (SV.cs β xs).length = xs.length := by rw [SV.cs_eq, List.length_map]
 have hrun := run_storeCells_at (P := P) (β i) o e (SV.cs β s.cells) 0 cur w q2 (by rw [hcs]; simp only [List.length_singleton]; omega) (ones_c β ho1)
 have hszc : (s.c β).cells.size = ti.size := by rw [hzc, hcs, hsz]; rfl
 refine ⟨β, w.setRow (β i) (cur.toList.take (o + 0) ++ SV.cs β s.cells ++ cur.toList.drop (o + 0 + (SV.cs β s.cells).length)).toArray, ?_, .inr ⟨?_, rfl⟩⟩
 · refine ⟨fun _ _ => rfl, ⟨rfl, rfl, rfl, by simp [World.setRow], fun b hb hX => ?_⟩, fun q b hq => ?_, fun q hq => (by cases hq), fun q hq => (by cases hq)⟩
   · have hne : β i ≠ b := fun e => hX ⟨i, _, List.mem_singleton.2 rfl, by simp, e⟩
     simp only [World.setRow, Array.getElem?_modify]
     rw [if_neg hne]
   · simp only [List.mem_singleton, Prod.mk.injEq] at hq
     obtain ⟨rfl, rfl⟩ := hq
     have hoc : o < cur.toList.length := by rw [Array.length_toList]; omega
     have hc' : cur.toList.take (o + 0) ++ SV.cs β s.cells ++ cur.toList.drop (o + 0 + (SV.cs β s.cells).length) = cur.toList.set o (s.c β) := by
      rw [hcs, List.set_eq_take_append_cons_drop, if_pos hoc]
      simp
     rw [hc']
     show World.ownsRow _ 0 e sz (.slice (some ⟨β q, 0, none⟩) n (β j)) n ([] ++ SV.cs β (xs.set o s))
     rw [List.nil_append, cs_set]
     refine ⟨by rw [List.length_set]; exact hlenx, .inr ⟨_, _, _, rfl, q1, setRow_heap w _ cur _ e _ q2, q3, q4, ?_, ?_⟩⟩
     · rw [List.size_toArray, List.length_set, Array.length_toList]; exact q5
     · rw [← q6, List.take_set]
 · simp only [execOp, Instr.storeAt, Instr.sureAddr, e1, e2, SV.c, Sem.run_bind, Sem.run_pure, Result.andThen_ok, storeVar, htok.run_sizeOf w, hszc, ne_eq, not_true_eq_false, if_false]
   rw [hzc]
   simp only [hrun, Result.andThen_ok]
end Go.Proofs.Ythfabodamhdhaaa.Tx
namespace Go.Proofs.Ythfabodamhdhaaa
open Go Tx Go.RowKit
set_option linter.unusedSimpArgs false
set_option linter.unusedVariables false
theorem flat_set {α : Type} {sz : Nat} {f : α → List Value} (hf : ∀ x, (f x).length = sz) : ∀ (bs : List α) (k j : Nat) (b b' : α) (v : Value), bs[k]? = some b → j < sz → f b' = (f b).set j v → (bs.flatMap f).set (k * sz + j) v = (bs.set k b').flatMap f
 | a :: r, 0, j, b, b', v, h, hj, e => by
  simp only [List.getElem?_cons_zero, Option.some.injEq] at h
  subst h
  rw [Nat.zero_mul, Nat.zero_add, List.set_cons_zero, List.flatMap_cons, List.flatMap_cons, e, List.set_append_left _ _ (by rw [hf]; exact hj)]
 | a :: r, k + 1, j, b, b', v, h, hj, e => by
  rw [List.set_cons_succ, List.flatMap_cons, List.flatMap_cons, ← flat_set hf r k j b b' v (by simpa using h) hj e, List.set_append_right _ _ (by rw [hf, Nat.add_mul]; omega), hf]
  congr 2
  rw [Nat.add_mul]; omega
theorem flat_len {α : Type} {sz : Nat} {f : α → List Value} (hf : ∀ x, (f x).length = sz) (bs : List α) : (bs.flatMap f).length = bs.length * sz := by
 induction bs with
 | nil => simp
 | cons a r ih => rw [List.flatMap_cons, List.length_append, hf, ih, List.length_cons, Nat.add_mul]; omega
theorem trIn_of {days shift size : Int} {tb tc lb lc : Nat} {T : List Tn} {L : List Lr} {w : World} (ht : TO tb tc T w) (hti : ∀ t ∈ T, TnIn t w) (hl : LO lb lc L w) (hli : ∀ r ∈ L, Rd 2 prF (.slice r.o r.L.length r.c) r.L w)
 (h1 : T.length ≤ 1000000) (h2 : L.length ≤ 1000000) (h3 : ∀ r ∈ L, r.L.length ≤ 1000000) : TrIn ⟨days, shift, size, some ⟨tb, 0, none⟩, tc, T, some ⟨lb, 0, none⟩, lc, L⟩ w :=
 ⟨Rd.of_owns (sz := 9) (f := Tn.cs) (fun _ => rfl) rfl rfl ht, hti, Rd.of_owns (sz := 1) (f := Lr.cs) (fun _ => rfl) rfl rfl hl, hli, h1, h2, h3, own_cap ht⟩
theorem RI.apart {ty ty' : Nat} {o : Option Addr} {c b c' n sz : Nat} {L : List (Int × Int)} {xs : List Value} {w : World} (h : RI ty o c L w) (h' : w.ownsRow 0 ty' sz (.slice (some ⟨b, 0, none⟩) n c') n xs) (he : ty ≠ ty') : ∀ a ∈ bkO o, a ≠ b := fun a ha e => by
 subst e
 obtain ⟨cs, fr, h1⟩ := h.cells ha
 obtain ⟨cur, h2⟩ := own_heap h'
 rw [h1] at h2
 simp only [Option.some.injEq, Obj.cells.injEq] at h2
 exact he h2.2.1
theorem tbk_apart {D : List Tn} {i k : Nat} {t u : Tn} (hn : (tbk D).Nodup) (hi : D[i]? = some t) (hk : D[k]? = some u) : (∀ a ∈ bkO t.oo, ∀ b ∈ bkO u.ro, a ≠ b) ∧ (i ≠ k → ∀ a ∈ bkO t.ro, ∀ b ∈ bkO u.ro, a ≠ b) ∧ (i ≠ k → ∀ a ∈ bkO t.oo, ∀ b ∈ bkO u.oo, a ≠ b) := by
 have key : ∀ (D : List Tn) (i k : Nat), (tbk D).Nodup → D[i]? = some t → D[k]? = some u → i ≠ k → ∀ a ∈ bkO t.oo ++ bkO t.ro, ∀ b ∈ bkO u.oo ++ bkO u.ro, a ≠ b := by
  intro D
  induction D with
  | nil => intro i k _ h; simp at h
  | cons d D ih =>
   intro i k hn hi hk hik a ha b hb e
   simp only [tbk, List.flatMap_cons] at hn
   rw [List.nodup_append] at hn
   cases i with
   | zero =>
    cases k with
    | zero => exact hik rfl
    | succ k =>
     simp only [List.getElem?_cons_zero, Option.some.injEq] at hi
     subst hi
     exact hn.2.2 a ha b (List.mem_flatMap.2 ⟨u, List.mem_of_getElem? (by simpa using hk), hb⟩) e
   | succ i =>
    cases k with
    | zero =>
     simp only [List.getElem?_cons_zero, Option.some.injEq] at hk
     subst hk
     exact hn.2.2 b hb a (List.mem_flatMap.2 ⟨t, List.mem_of_getElem? (by simpa using hi), ha⟩) e.symm
    | succ k => exact ih i k hn.2.1 (by simpa using hi) (by simpa using hk) (by omega) a ha b hb e
 have one : ∀ (D : List Tn) (i : Nat), (tbk D).Nodup → D[i]? = some t → (bkO t.oo ++ bkO t.ro).Nodup := by
  intro D
  induction D with
  | nil => intro i _ h; simp at h
  | cons d D ih =>
   intro i hn hi
   simp only [tbk, List.flatMap_cons] at hn
   rw [List.nodup_append] at hn
   cases i with
   | zero =>
    simp only [List.getElem?_cons_zero, Option.some.injEq] at hi
    subst hi
    exact hn.1
   | succ i => exact ih i hn.2.1 (by simpa using hi)
 refine ⟨fun a ha b hb => ?_, fun h a ha b hb => key D i k hn hi hk h a (by simp [ha]) b (by simp [hb]), fun h a ha b hb => key D i k hn hi hk h a (by simp [ha]) b (by simp [hb])⟩
 by_cases h : i = k
 · subst h
   rw [hi, Option.some.injEq] at hk
   subst hk
   have := one D i hn hi
   rw [List.nodup_append] at this
   exact this.2.2 a ha b hb
 · exact key D i k hn hi hk h a (by simp [ha]) b (by simp [hb])
theorem own_apartN {w : World} {b b' e e' n m c c' sz sz' : Nat} {X X' : List Value} (h : w.ownsRow 0 e sz (.slice (some ⟨b, 0, none⟩) n c) n X) (h' : w.ownsRow 0 e' sz' (.slice (some ⟨b', 0, none⟩) m c') m X') (he : e ≠ e') : b ≠ b' := by
 rintro rfl
 obtain ⟨cur, h1⟩ := own_heap h
 obtain ⟨cur', h2⟩ := own_heap h'
 rw [h1] at h2
 simp only [Option.some.injEq, Obj.cells.injEq] at h2
 exact he h2.2.1
theorem set_same {α : Type} {l : List α} {p : Nat} {v : α} (h : l[p]? = some v) : l.set p v = l := by
 obtain ⟨hp, rfl⟩ := List.getElem?_eq_some_iff.1 h
 exact List.set_getElem_self hp
abbrev vR (b : Nat) (x : Tr) : SV := .agg [.v (iv x.days), .v (iv x.shift), .v (iv x.size), .os b (b + 1) x.T.length, .os (b + 2) (b + 3) x.L.length]
theorem tbk_mem {D : List Tn} {i : Nat} {t : Tn} (h : D[i]? = some t) {a : Nat} (ha : a ∈ bkO t.oo ∨ a ∈ bkO t.ro) : a ∈ tbk D := List.mem_flatMap.2 ⟨t, List.mem_of_getElem? h, List.mem_append.2 ha⟩
end Go.Proofs.Ythfabodamhdhaaa
namespace Go.Proofs.Ythfabodamhdhaaa
open Go Tx Go.RowKit
set_option linter.unusedSimpArgs false
set_option linter.unusedVariables false
theorem toB_set {x : To} (h : toB x = true) {k : Nat} (hk : 1 ≤ k) {t : Tw} (ht : twB x.days t = true) : toB { x with T := x.T.set k t } = true := by
 simp only [toB, List.length_set, Bool.and_eq_true] at h ⊢
 obtain ⟨h1, ⟨h2, h3⟩, h4⟩ := h
 refine ⟨h1, ⟨?_, ?_⟩, h4⟩
 · show (((x.T.set k t)[0]?).any quB) = true
   rw [List.getElem?_set_ne (by omega)]
   exact h2
 · show ((x.T.set k t).drop 1).all (twB x.days) = true
   rw [List.drop_set, if_neg (by omega)]
   rw [List.all_eq_true] at h3 ⊢
   intro u hu
   rcases List.mem_or_eq_of_mem_set hu with hu | rfl
   · exact h3 u hu
   · exact ht
theorem toB_at {x : To} (h : toB x = true) {k : Nat} (hk : 1 ≤ k) {t : Tw} (ht : x.T[k]? = some t) : twB x.days t = true := (toB_n h).t k hk t ht
end Go.Proofs.Ythfabodamhdhaaa
namespace Go.Proofs.Ythfabodamhdhaaa
open Go Tx Go.RowKit
set_option linter.unusedSimpArgs false
set_option linter.unusedVariables false
def RsB (rb : Nat) (y : Tr) (w : World) : Prop := (∀ t ∈ y.T, (rb ∉ bkO t.oo → Rd 2 prF (.slice t.oo t.d.O.length t.oc) t.d.O w) ∧ (rb ∉ bkO t.ro → Rd 2 prF (.slice t.ro t.d.R.length t.rc) t.d.R w)) ∧ ∀ r ∈ y.L, rb ∉ bkO r.o → Rd 2 prF (.slice r.o r.L.length r.c) r.L w
def m3 (b n m nr ty : Nat) (XS YS : List SV) (C : List Value) : List (Nat × Blk) := [(b, .mix (b + 1) n 9 [] XS 57), (b + 2, .mix (b + 3) m 1 [] YS 61), (b + 4, .mix (b + 5) nr 2 [] (C.map .v) ty)]
theorem lk_m3 {b n m nr ty : Nat} {XS YS : List SV} {C : List Value} {i : Nat} {bk : Blk} (h : lk (m3 b n m nr ty XS YS C) i = some bk) :
 (i = b ∧ bk = .mix (b + 1) n 9 [] XS 57) ∨ (i = b + 2 ∧ bk = .mix (b + 3) m 1 [] YS 61) ∨ (i = b + 4 ∧ bk = .mix (b + 5) nr 2 [] (C.map .v) ty) := by
 have hb : ∀ a c : Nat, Nat.beq a c = true → a = c := fun a c => Nat.eq_of_beq_eq_true
 simp only [m3, lk] at h
 cases h1 : Nat.beq i b with
 | true => rw [h1, cond_true, Option.some.injEq] at h; exact .inl ⟨hb _ _ h1, h.symm⟩
 | false =>
  rw [h1, cond_false] at h
  cases h2 : Nat.beq i (b + 2) with
  | true => rw [h2, cond_true, Option.some.injEq] at h; exact .inr (.inl ⟨hb _ _ h2, h.symm⟩)
  | false =>
   rw [h2, cond_false] at h
   cases h3 : Nat.beq i (b + 4) with
   | true => rw [h3, cond_true, Option.some.injEq] at h; exact .inr (.inr ⟨hb _ _ h3, h.symm⟩)
   | false => rw [h3, cond_false] at h; cases h
def OwnFR (w w' : World) (b : Nat) (β γ : Nat → Nat) (m1 : List (Nat × Blk)) (R : World → Prop) : Prop :=
 (∀ i, i < b → γ i = β i) ∧ (∀ i bk, lk m1 i = some bk → w.heap.size ≤ γ i ∧ bk.ok γ w' (γ i)) ∧ (∀ i j bi bj, lk m1 i = some bi → lk m1 j = some bj → i ≠ j → γ i ≠ γ j) ∧
  ∀ w2, w'.heap.size ≤ w2.heap.size → (∀ c, w.heap.size ≤ c → c < w'.heap.size → (∀ i bk, lk m1 i = some bk → γ i ≠ c) → w2.heap[c]? = w'.heap[c]?) → R w2
theorem own3 {w w' : World} {y : Tr} {tb lb rb rc nr ty : Nat} {C : List Value} {XS YS : List SV} (hW : TrW w.heap.size y w') (hto : y.to = some ⟨tb, 0, none⟩) (hlo : y.lo = some ⟨lb, 0, none⟩)
 (hrow : w'.ownsRow 0 ty 2 (.slice (some ⟨rb, 0, none⟩) nr rc) nr C) (hrn : w.heap.size ≤ rb) (h57 : ty ≠ 57) (h61 : ty ≠ 61) (b : Nat) (β : Nat → Nat)
 (hXS : ∀ γ : Nat → Nat, γ (b + 4) = rb → γ (b + 5) = rc → SV.cs γ XS = y.T.flatMap Tn.cs) (hYS : ∀ γ : Nat → Nat, γ (b + 4) = rb → γ (b + 5) = rc → SV.cs γ YS = y.L.flatMap Lr.cs) :
 ∃ γ : Nat → Nat, (γ b = tb ∧ γ (b + 1) = y.tc ∧ γ (b + 2) = lb ∧ γ (b + 3) = y.lc ∧ γ (b + 4) = rb ∧ γ (b + 5) = rc) ∧ OwnFR w w' b β γ (m3 b y.T.length y.L.length nr ty XS YS C) (RsB rb y) := by
 obtain ⟨⟨tb', h1, h2, h3⟩, hti, htb, htn, ⟨lb', l1, l2, l3⟩, hli, hlb, hln⟩ := hW
 rw [hto] at h1
 rw [hlo] at l1
 simp only [Option.some.injEq, Addr.mk.injEq, and_true] at h1 l1
 subst h1 l1
 have n1 : ¬ b + 2 = b := by omega
 have n2 : ¬ b + 4 = b := by omega
 have n3 : ¬ b + 2 = b + 1 := by omega
 have n4 : ¬ b + 4 = b + 1 := by omega
 have n5 : ¬ b + 4 = b + 2 := by omega
 have n6 : ¬ b + 4 = b + 3 := by omega
 have n7 : ¬ b + 1 = b := by omega
 have n8 : ¬ b + 3 = b := by omega
 have n9 : ¬ b + 3 = b + 1 := by omega
 have n10 : ¬ b + 3 = b + 2 := by omega
 have n11 : ¬ b + 5 = b := by omega
 have n12 : ¬ b + 5 = b + 1 := by omega
 have n13 : ¬ b + 5 = b + 2 := by omega
 have n14 : ¬ b + 5 = b + 3 := by omega
 have n15 : ¬ b + 5 = b + 4 := by omega
 obtain ⟨γ, hγ⟩ : ∃ γ : Nat → Nat, γ = fun i => if i = b then tb else if i = b + 1 then y.tc else if i = b + 2 then lb else if i = b + 3 then y.lc else if i = b + 4 then rb else if i = b + 5 then rc else β i := ⟨_, rfl⟩
 have g0 : γ b = tb := by rw [hγ]; simp only [if_true]
 have g1 : γ (b + 1) = y.tc := by rw [hγ]; simp only [if_true, n7, if_false]
 have g2 : γ (b + 2) = lb := by rw [hγ]; simp only [if_true, n1, n3, if_false]
 have g3 : γ (b + 3) = y.lc := by rw [hγ]; simp only [if_true, n8, n9, n10, if_false]
 have g4 : γ (b + 4) = rb := by rw [hγ]; simp only [if_true, n2, n4, n5, n6, if_false]
 have g5 : γ (b + 5) = rc := by rw [hγ]; simp only [if_true, n11, n12, n13, n14, n15, if_false]
 have a1 : tb ≠ lb := own_apartN h3 l3 (by decide)
 have a2 : tb ≠ rb := own_apartN h3 hrow (fun e => h57 e.symm)
 have a3 : lb ≠ rb := own_apartN l3 hrow (fun e => h61 e.symm)
 have hlt : ∀ {c : Nat}, (∃ cs ty fr, w'.heap[c]? = some (.cells cs ty fr)) → c < w'.heap.size := fun ⟨_, _, _, q⟩ => (Array.getElem?_eq_some_iff.1 q).1
 refine ⟨γ, ⟨g0, g1, g2, g3, g4, g5⟩, fun i hi => ?_, fun i bk hi => ?_, fun i j bi bj hi hj hne => ?_, fun w2 hs hc => ?_⟩
 · rw [hγ]
   simp [show ¬ i = b by omega, show ¬ i = b + 1 by omega, show ¬ i = b + 2 by omega, show ¬ i = b + 3 by omega, show ¬ i = b + 4 by omega, show ¬ i = b + 5 by omega]
 · rcases lk_m3 hi with ⟨rfl, rfl⟩ | ⟨rfl, rfl⟩ | ⟨rfl, rfl⟩
   · refine ⟨by rw [g0]; exact h2, ?_⟩
     simp only [Blk.ok, List.nil_append]
     rw [hXS γ g4 g5, g0, g1]
     exact h3
   · refine ⟨by rw [g2]; exact l2, ?_⟩
     simp only [Blk.ok, List.nil_append]
     rw [hYS γ g4 g5, g2, g3]
     exact l3
   · refine ⟨by rw [g4]; exact hrn, ?_⟩
     simp only [Blk.ok, List.nil_append, cs_v]
     rw [g4, g5]
     exact hrow
 · rcases lk_m3 hi with ⟨rfl, rfl⟩ | ⟨rfl, rfl⟩ | ⟨rfl, rfl⟩ <;> rcases lk_m3 hj with ⟨rfl, rfl⟩ | ⟨rfl, rfl⟩ | ⟨rfl, rfl⟩ <;> first
    | exact absurd rfl hne
    | (simp only [g0, g2, g4]; first | exact a1 | exact a2 | exact a3 | exact a1.symm | exact a2.symm | exact a3.symm)
 · have hcc : ∀ c, w.heap.size ≤ c → c < w'.heap.size → c ≠ tb → c ≠ lb → c ≠ rb → w2.heap[c]? = w'.heap[c]? := fun c c0 c1 c2 c3 c4 => by
    refine hc c c0 c1 fun i bk hi => ?_
    rcases lk_m3 hi with ⟨rfl, _⟩ | ⟨rfl, _⟩ | ⟨rfl, _⟩
    · rw [g0]; exact c2.symm
    · rw [g2]; exact c3.symm
    · rw [g4]; exact c4.symm
   have hne : ∀ (o : Option Addr), rb ∉ bkO o → ∀ c ∈ bkO o, c ≠ rb := fun o h c hc e => h (e ▸ hc)
   refine ⟨fun t ht => ⟨fun hr => ?_, fun hr => ?_⟩, fun r hr hrb => ?_⟩
   · have h := (hti t ht).1
     obtain ⟨i, hi⟩ := List.mem_iff_getElem?.1 ht
     refine (h.keep fun c hcm => ?_).rd
     obtain ⟨_, _, q⟩ := h.cells hcm
     exact hcc c (htn c (tbk_mem hi (.inl hcm))) (Array.getElem?_eq_some_iff.1 q).1 (h.apart h3 (by decide) c hcm) (h.apart l3 (by decide) c hcm) (hne _ hr c hcm)
   · have h := (hti t ht).2
     obtain ⟨i, hi⟩ := List.mem_iff_getElem?.1 ht
     refine (h.keep fun c hcm => ?_).rd
     obtain ⟨_, _, q⟩ := h.cells hcm
     exact hcc c (htn c (tbk_mem hi (.inr hcm))) (Array.getElem?_eq_some_iff.1 q).1 (h.apart h3 (by decide) c hcm) (h.apart l3 (by decide) c hcm) (hne _ hr c hcm)
   · have h := hli r hr
     refine (h.keep fun c hcm => ?_).rd
     obtain ⟨_, _, q⟩ := h.cells hcm
     exact hcc c (hln c (List.mem_flatMap.2 ⟨r, hr, hcm⟩)) (Array.getElem?_eq_some_iff.1 q).1 (h.apart h3 (by decide) c hcm) (h.apart l3 (by decide) c hcm) (hne _ hrb c hcm)
abbrev OpT (x : Tr) (k : Nat) (t0 : Tn) := {p : Tr × Tn × Nat // p.1.d = x.d ∧ p.1.T[k]? = some p.2.1 ∧ p.2.1.d = t0.d ∧ p.2.1.oo = some ⟨p.2.2, 0, none⟩ ∧ (tbk p.1.T).Nodup ∧ ∀ a ∈ tbk p.1.T, a ∉ lbk p.1.L}
def xsO (b k n : Nat) (y : Tr) : List SV := ((y.T.flatMap Tn.cs).map SV.v).set (k * 9 + 0) (.os b (b + 1) n)
def xsA (y : Tr) : List SV := (y.T.flatMap Tn.cs).map SV.v
def ysA (y : Tr) : List SV := (y.L.flatMap Lr.cs).map SV.v
def ysL (b f n : Nat) (y : Tr) : List SV := ((y.L.flatMap Lr.cs).map SV.v).set (f * 1 + 0) (.os b (b + 1) n)
theorem TrW.apart {n : Nat} {y : Tr} {w : World} (h : TrW n y w) : ∀ a ∈ tbk y.T, a ∉ lbk y.L := fun a ha hl => by
 obtain ⟨t, ht, ha⟩ := List.mem_flatMap.1 ha
 obtain ⟨r, hr, hl⟩ := List.mem_flatMap.1 hl
 obtain ⟨_, _, q⟩ := (h.li r hr).cells hl
 rcases List.mem_append.1 ha with ha | ha
 · obtain ⟨_, _, q'⟩ := (h.ti t ht).1.cells ha
   rw [q] at q'; simp at q'
 · obtain ⟨_, _, q'⟩ := (h.ti t ht).2.cells ha
   rw [q] at q'; simp at q'
abbrev mO (b k : Nat) (t0 : Tn) (x : Tr) (p : Tr × Tn × Nat) : List (Nat × Blk) := m3 b x.T.length x.L.length t0.d.O.length 55 (xsO (b + 4) k t0.d.O.length p.1) (ysA p.1) (t0.d.O.flatMap prF)
theorem TourO_ok (x : Tr) (k : Nat) (t0 : Tn) (w : World) (h : TrIn x w) (hB : TrB x) (hk : x.T[k]? = some t0) (hO : t0.d.O ≠ []) (hL0 : x.L ≠ []) (b : Nat) (β : Nat → Nat) :
 Calls Try.prog 21 #[x.v] w fun e w' => ∃ (p : OpT x k t0) (γ : Nat → Nat), e = .returned ((vR b x).c γ) ∧ Below w.heap.size w w' ∧ OwnFR w w' b β γ (mO b k t0 x p.1) (RsB p.1.2.2 p.1.1) := by
 refine (TourW_ok x w h hB (fun e => by rw [e] at hk; simp at hk) hL0).mono fun e w' ⟨y, he, hbl, hst⟩ => ?_
 obtain ⟨hW, hd⟩ := hst.now
 obtain ⟨tb, h1, h2, h3⟩ := hW.t
 obtain ⟨lb, l1, l2, l3⟩ := hW.l
 have hTl : y.T.length = x.T.length := by have := congrArg (fun d => d.T.length) hd; simpa using this
 have hLl : y.L.length = x.L.length := by have := congrArg (fun d => d.L.length) hd; simpa using this
 obtain ⟨t, ht⟩ : ∃ t, y.T[k]? = some t := ⟨_, List.getElem?_eq_getElem (by have := (List.getElem?_eq_some_iff.1 hk).1; omega)⟩
 have htd : t.d = t0.d := by
  have := congrArg (fun d => d.T[k]?) hd
  simp only [Tr.d, List.getElem?_map, ht, hk, Option.map_some, Option.some.injEq] at this
  exact this
 obtain ⟨rb, r1, r2⟩ : ∃ rb, t.oo = some ⟨rb, 0, none⟩ ∧ w'.ownsRow 0 55 2 (.slice t.oo t.d.O.length t.oc) t.d.O.length (t.d.O.flatMap prF) := by
  rcases (hW.ti t (List.mem_of_getElem? ht)).1 with ⟨e, _⟩ | h
  · rw [htd] at e; exact absurd e hO
  · exact h.2
 have hrbn : w.heap.size ≤ rb := hW.tn rb (tbk_mem ht (.inl (by rw [r1]; simp [bkO])))
 rw [r1, htd] at r2
 have hcell : (y.T.flatMap Tn.cs)[k * 9 + 0]? = some (.slice (some ⟨rb, 0, none⟩) t0.d.O.length t.oc) := flat_get (f := Tn.cs) (sz := 9) (fun _ => rfl) _ _ 0 _ _ ht (by rw [← htd, ← r1]; rfl)
 obtain ⟨γ, ⟨g0, g1, g2, g3, g4, g5⟩, hO⟩ := own3 (XS := xsO (b + 4) k t0.d.O.length y) (YS := ysA y) hW h1 l1 r2 hrbn (by decide) (by decide) b β (fun γ e1 e2 => by
  rw [xsO, cs_set, cs_v, SV.c, show b + 4 + 1 = b + 5 from rfl, e1, e2]
  exact set_same hcell) (fun γ _ _ => cs_v γ _)
 rw [hTl, hLl] at hO
 refine ⟨⟨(y, t, rb), hd, ht, htd, r1, hW.tb, hW.apart⟩, γ, ?_, hbl, hO⟩
 rw [he]
 have hdd : y.days = x.days ∧ y.shift = x.shift ∧ y.size = x.size := ⟨congrArg To.days hd, congrArg To.shift hd, congrArg To.size hd⟩
 simp only [SV.c, SV.cs, g0, g1, g2, g3, Tr.v, h1, l1, hTl, hLl, hdd.1, hdd.2.1, hdd.2.2]
abbrev LgT (x : Tr) (f : Nat) (r0 : Lr) := {p : Tr × Lr × Nat // p.1.d = x.d ∧ p.1.L[f]? = some p.2.1 ∧ p.2.1.L = r0.L ∧ p.2.1.o = some ⟨p.2.2, 0, none⟩ ∧ (lbk p.1.L).Nodup ∧ ∀ a ∈ tbk p.1.T, a ∉ lbk p.1.L}
abbrev mL (b f : Nat) (r0 : Lr) (x : Tr) (p : Tr × Lr × Nat) : List (Nat × Blk) := m3 b x.T.length x.L.length r0.L.length 60 (xsA p.1) (ysL (b + 4) f r0.L.length p.1) (r0.L.flatMap prF)
theorem TourL_ok (x : Tr) (f : Nat) (r0 : Lr) (w : World) (h : TrIn x w) (hB : TrB x) (hk : x.L[f]? = some r0) (hO : r0.L ≠ []) (hT0 : x.T ≠ []) (b : Nat) (β : Nat → Nat) :
 Calls Try.prog 21 #[x.v] w fun e w' => ∃ (p : LgT x f r0) (γ : Nat → Nat), e = .returned ((vR b x).c γ) ∧ Below w.heap.size w w' ∧ OwnFR w w' b β γ (mL b f r0 x p.1) (RsB p.1.2.2 p.1.1) := by
 refine (TourW_ok x w h hB hT0 (fun e => by rw [e] at hk; simp at hk)).mono fun e w' ⟨y, he, hbl, hst⟩ => ?_
 obtain ⟨hW, hd⟩ := hst.now
 obtain ⟨tb, h1, h2, h3⟩ := hW.t
 obtain ⟨lb, l1, l2, l3⟩ := hW.l
 have hTl : y.T.length = x.T.length := by have := congrArg (fun d => d.T.length) hd; simpa using this
 have hLl : y.L.length = x.L.length := by have := congrArg (fun d => d.L.length) hd; simpa using this
 obtain ⟨r, hr⟩ : ∃ t, y.L[f]? = some t := ⟨_, List.getElem?_eq_getElem (by have := (List.getElem?_eq_some_iff.1 hk).1; omega)⟩
 have htd : r.L = r0.L := by
  have := congrArg (fun d => d.L[f]?) hd
  simp only [Tr.d, List.getElem?_map, hr, hk, Option.map_some, Option.some.injEq] at this
  exact this
 obtain ⟨rb, r1, r2⟩ : ∃ rb, r.o = some ⟨rb, 0, none⟩ ∧ w'.ownsRow 0 60 2 (.slice r.o r.L.length r.c) r.L.length (r.L.flatMap prF) := by
  rcases hW.li r (List.mem_of_getElem? hr) with ⟨e, _⟩ | h
  · rw [htd] at e; exact absurd e hO
  · exact h.2
 have hrbn : w.heap.size ≤ rb := hW.ln rb (List.mem_flatMap.2 ⟨r, List.mem_of_getElem? hr, by rw [r1]; simp [bkO]⟩)
 rw [r1, htd] at r2
 have hcell : (y.L.flatMap Lr.cs)[f * 1 + 0]? = some (.slice (some ⟨rb, 0, none⟩) r0.L.length r.c) := flat_get (f := Lr.cs) (sz := 1) (fun _ => rfl) _ _ 0 _ _ hr (by rw [← htd, ← r1]; rfl)
 obtain ⟨γ, ⟨g0, g1, g2, g3, g4, g5⟩, hO⟩ := own3 (XS := xsA y) (YS := ysL (b + 4) f r0.L.length y) hW h1 l1 r2 hrbn (by decide) (by decide) b β (fun γ _ _ => cs_v γ _) (fun γ e1 e2 => by
  rw [ysL, cs_set, cs_v, SV.c, show b + 4 + 1 = b + 5 from rfl, e1, e2]
  exact set_same hcell)
 rw [hTl, hLl] at hO
 refine ⟨⟨(y, r, rb), hd, hr, htd, r1, hW.lb, hW.apart⟩, γ, ?_, hbl, hO⟩
 rw [he]
 have hdd : y.days = x.days ∧ y.shift = x.shift ∧ y.size = x.size := ⟨congrArg To.days hd, congrArg To.shift hd, congrArg To.size hd⟩
 simp only [SV.c, SV.cs, g0, g1, g2, g3, Tr.v, h1, l1, hTl, hLl, hdd.1, hdd.2.1, hdd.2.2]
end Go.Proofs.Ythfabodamhdhaaa
