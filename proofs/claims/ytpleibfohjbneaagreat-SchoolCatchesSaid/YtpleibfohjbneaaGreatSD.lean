/- What a child has, what is left, what it should do: what these functions return. -/
import Derived.Test.YtpleibfohjbneaaGreatSC
namespace Go.Proofs.YtpleibfohjbneaaGreat
open Go Tx Go.RowKit
set_option linter.unusedSimpArgs false
set_option linter.unusedVariables false

def gt (L : List Int) (j : Nat) : Int := (L[j]?).getD 0
def rwA (CC : List (List Int)) (p : Int) : List Int := (CC[p.toNat]?).getD []
def tmS (CC : List (List Int)) (j : Nat) (s : Int × List Int) : Int := gt s.2 j * gt (rwA CC s.1) j
def hsS (CC : List (List Int)) (SS : List (Int × List Int)) (j : Nat) : Int := (SS.map (tmS CC j)).sum
def hsV (CC : List (List Int)) (SS : List (Int × List Int)) (j : Nat) : Int := (hsS CC SS j).tdiv 1000
def lfV (N : List Int) (CC : List (List Int)) (SS : List (Int × List Int)) (j : Nat) : Int := imax 0 (gt N j - hsV CC SS j)
def bhB (N : List Int) (wk : Int) (CC : List (List Int)) (SS : List (Int × List Int)) (j : Nat) : Bool := decide (hsV CC SS j < (gt N j * (SS.length : Int)).tdiv wk)
def nxV (N : List Int) (wk : Int) (CC : List (List Int)) (SS : List (Int × List Int)) (j : Nat) : Int := imin 20 ((lfV N CC SS j + (wk - (SS.length : Int)) - 1).tdiv (wk - (SS.length : Int)))
theorem hsS_take {CC : List (List Int)} {SS : List (Int × List Int)} {j k : Nat} {s : Int × List Int} (h : SS[k]? = some s) : hsS CC (SS.take (k + 1)) j = hsS CC (SS.take k) j + tmS CC j s := by
  rw [hsS, List.take_add_one, h]; simp [hsS]
theorem quoT {k : IntKind} {a b : Int} {K : Int → Prop} (h1 : b ≠ 0) (h2 : IR k (a.tdiv b)) (h : K (a.tdiv b)) : ∃ q : Int, (b ≠ 0 ∧ a.tdiv b = q ∧ IR k q) ∧ K q := ⟨_, ⟨h1, rfl, h2⟩, h⟩
/-- A course and stays that are valid. -/
structure YrOk (N : List Int) (wk : Int) (CC : List (List Int)) (SS : List (Int × List Int)) : Prop where
  n6 : 1 ≤ N.length ∧ N.length ≤ 6
  nb : ∀ n ∈ N, 0 ≤ n ∧ n ≤ 2000
  w : 1 ≤ wk ∧ wk ≤ 60
  c1 : 1 ≤ CC.length ∧ CC.length ≤ 20
  r : ∀ l ∈ CC, l.length = N.length ∧ ∀ n ∈ l, 0 ≤ n ∧ n ≤ 2000
  sl : (SS.length : Int) ≤ wk
  s : ∀ s ∈ SS, (0 ≤ s.1 ∧ s.1 < CC.length) ∧ s.2.length = N.length ∧ ∀ n ∈ s.2, 0 ≤ n ∧ n ≤ 40
theorem evB_iff {L : List Int} {lo hi : Int} (h : evB L lo hi = true) : ∀ n ∈ L, lo ≤ n ∧ n ≤ hi := fun n hn => by
  have := List.all_eq_true.1 h n hn
  simpa [inB] using this
theorem YrOk.of {N : List Int} {wk : Int} {CC : List (List Int)} {SS : List (Int × List Int)} (h : ckE N wk CC SS = 0) : YrOk N wk CC SS := by
  unfold ckE at h
  split at h
  case isFalse => cases h
  rename_i h1
  unfold stE at h
  split at h
  case isTrue => cases h
  rename_i h2
  split at h
  case isFalse => cases h
  rename_i h3
  simp only [crOk, inB, Bool.and_eq_true, decide_eq_true_eq] at h1
  obtain ⟨⟨⟨⟨h4, h5⟩, h6⟩, h7⟩, h8⟩ := h1
  refine ⟨by omega, evB_iff h5, h6, by omega, fun l hl => ?_, by omega, fun s hs => ?_⟩
  · have := List.all_eq_true.1 h8 l hl
    simp only [rowOk, Bool.and_eq_true, decide_eq_true_eq] at this
    exact ⟨this.1, evB_iff this.2⟩
  · have := List.all_eq_true.1 h3 s hs
    simp only [stOk, inB, Bool.and_eq_true, decide_eq_true_eq] at this
    exact ⟨by omega, this.2.1, evB_iff this.2.2⟩
theorem gt_some {L : List Int} {j : Nat} {n : Int} (h : L[j]? = some n) : gt L j = n := by simp [gt, h]
theorem YrOk.tm {N : List Int} {wk : Int} {CC : List (List Int)} {SS : List (Int × List Int)} (h : YrOk N wk CC SS) (j : Nat) {s : Int × List Int} (hs : s ∈ SS) : 0 ≤ tmS CC j s ∧ tmS CC j s ≤ 80000 := by
  obtain ⟨h1, h2, h3⟩ := h.s s hs
  have a : 0 ≤ gt s.2 j ∧ gt s.2 j ≤ 40 := by
    unfold gt
    cases hj : s.2[j]? with
    | none => simp
    | some n => exact h3 n (List.mem_of_getElem? hj)
  have b : 0 ≤ gt (rwA CC s.1) j ∧ gt (rwA CC s.1) j ≤ 2000 := by
    unfold gt rwA
    cases hc : CC[s.1.toNat]? with
    | none => simp
    | some l =>
      simp only [Option.getD_some]
      cases hj : l[j]? with
      | none => simp
      | some n => exact (h.r l (List.mem_of_getElem? hc)).2 n (List.mem_of_getElem? hj)
  unfold tmS
  refine ⟨Int.mul_nonneg a.1 b.1, ?_⟩
  have := Int.mul_le_mul a.2 b.2 b.1 (by omega : (0 : Int) ≤ 40)
  omega
theorem YrOk.bd {N : List Int} {wk : Int} {CC : List (List Int)} {SS : List (Int × List Int)} (h : YrOk N wk CC SS) (j : Nat) : ∀ k, 0 ≤ hsS CC (SS.take k) j ∧ hsS CC (SS.take k) j ≤ 80000 * k
  | 0 => by simp [hsS]
  | k + 1 => by
    have ih := h.bd j k
    cases hx : SS[k]? with
    | none =>
      rw [List.getElem?_eq_none_iff] at hx
      rw [List.take_of_length_le (show SS.length ≤ k + 1 by omega)]
      rw [List.take_of_length_le hx] at ih
      omega
    | some s =>
      have := h.tm j (List.mem_of_getElem? hx)
      rw [hsS_take hx]
      omega
theorem YrOk.bdl {N : List Int} {wk : Int} {CC : List (List Int)} {SS : List (Int × List Int)} (h : YrOk N wk CC SS) (j : Nat) : 0 ≤ hsS CC SS j ∧ hsS CC SS j ≤ 4800000 := by
  have := h.bd j SS.length
  rw [List.take_of_length_le (Nat.le_refl _)] at this
  have := h.sl
  have := h.w
  omega
theorem tdiv_bd {a b : Int} (h : 0 ≤ a) (hb : 0 < b) : 0 ≤ a.tdiv b ∧ a.tdiv b ≤ a := by
  rw [Int.tdiv_eq_ediv_of_nonneg h]
  exact ⟨Int.ediv_nonneg h (by omega), Int.ediv_le_self _ h⟩
theorem YrOk.hv {N : List Int} {wk : Int} {CC : List (List Int)} {SS : List (Int × List Int)} (h : YrOk N wk CC SS) (j : Nat) : 0 ≤ hsV CC SS j ∧ hsV CC SS j ≤ 4800000 := by
  have := h.bdl j
  have := tdiv_bd this.1 (show (0 : Int) < 1000 by omega)
  unfold hsV; omega
theorem YrOk.gn {N : List Int} {wk : Int} {CC : List (List Int)} {SS : List (Int × List Int)} (h : YrOk N wk CC SS) (j : Nat) : 0 ≤ gt N j ∧ gt N j ≤ 2000 := by
  unfold gt
  cases hj : N[j]? with
  | none => simp
  | some n => exact h.nb n (List.mem_of_getElem? hj)

set_option maxHeartbeats 1000000 in
set_option maxRecDepth 100000 in
theorem HasR_ok (x : Cr) (o : Option Addr) (c : Nat) (S : List Sy) (j : Nat) (w : World) (h : CrIn x w) (hS : SyIn o c S w) (hy : YrOk x.N x.wk x.CC (S.map Sy.d)) (hj : j < x.N.length) :
    Calls Tryz.prog 37 #[x.v, .slice o S.length c, iv j] w fun e w' => e = .returned (iv (hsV x.CC (S.map Sy.d) j)) ∧ Below w.heap.size w w' := by
  obtain ⟨no, nc, N, wk, co, cc, C⟩ := x
  obtain ⟨hN, hC, hR, hnl, hcl, hrl⟩ := h
  obtain ⟨hS1, hS2, hsl, hsr⟩ := hS
  dsimp only at hN hC hR hnl hcl hrl hj ⊢
  change YrOk N wk (C.map Rw.xs) (S.map Sy.d) at hy
  show Calls _ _ _ _ fun e w' => e = .returned (iv (hsV (C.map Rw.xs) (S.map Sy.d) j)) ∧ _
  refine calls_val env mixed Tryz.func37 has37 Tryz.ntmps37 [.agg #[.slice no N.length nc, iv wk, .slice co C.length cc], .slice o S.length c, iv j] (by simp) ?_
  have hcm : (C.map Rw.xs).length = C.length := List.length_map ..
  have hsm : (S.map Sy.d).length = S.length := List.length_map ..
  have h60 := hy.sl
  have h61 := hy.w
  rw [hsm] at h60
  repeat'
   conv => whnf
   first
    | refine zA ?_ | refine zB ?_ | refine zC ?_ | refine zD ?_ | refine zE ?_ | refine zF ?_ | refine zG ?_ | refine zH ?_ | refine zJ ?_ | refine zI ?_ | refine splT ?_ | refine splF ?_ | refine splNot ?_
    | ((first | refine splIn (fun hc => ?_) (fun hc => ?_) | refine splD (fun hc => ?_) (fun hc => ?_) | refine splE (fun hc => ?_) (fun hc => ?_) | refine splNE (fun hc => ?_) (fun hc => ?_)) <;> first | (exfalso; omega) | (exfalso; dsimp only at hc; omega) | skip)
  refine loopE (fun k : Nat => [(1, .v (.slice o S.length c)), (2, .v (iv j)), (3, .ptr 0 0), (7, .v (iv (hsS (C.map Rw.xs) ((S.map Sy.d).take k) j))), (8, .v (iv k))]) (fun _ => [(0, .cells [.v (.slice no N.length nc), .v (iv wk), .v (.slice co C.length cc)] 56)]) (fun k => k ≤ S.length) (fun k => S.length - k) 0 (Nat.zero_le _) ⟨rfl, rfl, rfl, rfl, rfl, trivial⟩ ⟨rfl, trivial⟩ (fun _ => ⟨rfl, rfl⟩) ?_
  intro k hk
  have hbd := hy.bd j k
  rcases Nat.lt_or_ge k S.length with hkl | hkl
  · obtain ⟨⟨sp, so, sc, xs⟩, hx⟩ : ∃ b, S[k]? = some b := ⟨_, List.getElem?_eq_getElem hkl⟩
    obtain ⟨_, ad, rfl, _⟩ := hS1.ptr (by omega)
    have e1 := fun (w' : World) hw' => rd_fld (hS1.below (w' := w') hw') hx
    have hm : (S.map Sy.d)[k]? = some (sp, xs) := by rw [List.getElem?_map, hx]; rfl
    have hr := hS2 _ (List.mem_of_getElem? hx)
    have hso := hy.s _ (List.mem_of_getElem? hm)
    have htb := hy.tm j (List.mem_of_getElem? hm)
    have hst := hsS_take (CC := C.map Rw.xs) (j := j) hm
    dsimp only at hr hso
    obtain ⟨⟨hp0, hp1⟩, hxl, hxb⟩ := hso
    obtain ⟨q, rfl⟩ := Int.eq_ofNat_of_zero_le hp0
    rw [hcm] at hp1
    obtain ⟨⟨ro, rc, ys⟩, hq⟩ : ∃ b, C[q]? = some b := ⟨_, List.getElem?_eq_getElem (by omega)⟩
    have hqm : (C.map Rw.xs)[q]? = some ys := by rw [List.getElem?_map, hq]; rfl
    obtain ⟨hyl, hyb⟩ := hy.r _ (List.mem_of_getElem? hqm)
    have hrr := hR _ (List.mem_of_getElem? hq)
    change Rd 1 iF (.slice ro ys.length rc) ys w at hrr
    obtain ⟨a, ha⟩ : ∃ b, xs[j]? = some b := ⟨_, List.getElem?_eq_getElem (by omega)⟩
    obtain ⟨b, hb⟩ : ∃ b, ys[j]? = some b := ⟨_, List.getElem?_eq_getElem (by omega)⟩
    have htm : tmS (C.map Rw.xs) j ((q : Int), xs) = a * b := by
      unfold tmS rwA
      rw [gt_some ha, Int.toNat_natCast, hqm, Option.getD_some, gt_some hb]
    rw [htm] at htb hst
    obtain ⟨_, adc, rfl, _⟩ := hC.ptr (by omega)
    obtain ⟨_, adx, rfl, _⟩ := hr.ptr (by omega)
    obtain ⟨_, ady, rfl, _⟩ := hrr.ptr (by omega)
    have ec := fun (w' : World) hw' => rd_ati (hC.below (w' := w') hw') hq
    have ex := fun (w' : World) hw' => rd_ati (hr.below (w' := w') hw') ha
    have ey := fun (w' : World) hw' => rd_ati (hrr.below (w' := w') hw') hb
    repeat'
     conv => whnf
     first
      | refine zA ?_ | refine zB ?_ | refine zC ?_ | refine zD ?_ | refine zE ?_ | refine zF ?_ | refine zG ?_ | refine zH ?_ | refine zJ ?_ | refine zI ?_ | refine splT ?_ | refine splF ?_ | refine splNot ?_
      | ((first | refine splIn (fun hc => ?_) (fun hc => ?_) | refine splD (fun hc => ?_) (fun hc => ?_) | refine splE (fun hc => ?_) (fun hc => ?_) | refine splNE (fun hc => ?_) (fun hc => ?_)) <;> first | (exfalso; omega) | (exfalso; dsimp only at hc; omega) | skip)
      | refine Exists.intro (α := List Value) [iv q] ⟨⟨rfl, fun w' hw' => e1 w' hw' 0 _ rfl⟩, ?_⟩
      | refine Exists.intro (α := List Value) [.slice (some adx) xs.length sc] ⟨⟨rfl, fun w' hw' => e1 w' hw' 1 _ rfl⟩, ?_⟩
      | refine Exists.intro (α := List Value) [.slice (some ady) ys.length rc] ⟨⟨rfl, fun w' hw' => ec w' hw'⟩, ?_⟩
      | refine Exists.intro (α := List Value) [iv a] ⟨⟨rfl, fun w' hw' => ex w' hw'⟩, ?_⟩
      | refine Exists.intro (α := List Value) [iv b] ⟨⟨rfl, fun w' hw' => ey w' hw'⟩, ?_⟩
    all_goals first
      | (exfalso; omega)
      | exact ⟨k + 1, by omega, by omega, Ent.weak rfl ⟨rfl, rfl, rfl, by rw [hst]; rfl, rfl, trivial⟩ ⟨rfl, trivial⟩ fun _ h => h⟩
      | skip
  · rw [List.take_of_length_le (by rw [hsm]; exact hkl)] at hbd ⊢
    have hv := hy.hv j
    unfold hsV at hv ⊢
    repeat'
     conv => whnf
     first
      | refine zA ?_ | refine zB ?_ | refine zC ?_ | refine zD ?_ | refine zE ?_ | refine zF ?_ | refine zG ?_ | refine zH ?_ | refine zJ ?_ | refine zI ?_ | refine splT ?_ | refine splF ?_ | refine splNot ?_
      | ((first | refine splIn (fun hc => ?_) (fun hc => ?_) | refine splD (fun hc => ?_) (fun hc => ?_) | refine splE (fun hc => ?_) (fun hc => ?_) | refine splNE (fun hc => ?_) (fun hc => ?_)) <;> first | (exfalso; omega) | (exfalso; dsimp only at hc; omega) | skip)
      | refine quoT (by omega) (And.intro (by omega) (by omega)) ?_
    all_goals first | exact ⟨fun β => rfl, fun w' h => h⟩ | (exfalso; omega) | skip
abbrev Cr.ch (x : Cr) (s : Value) : Value := .agg #[.slice x.no x.N.length x.nc, iv x.wk, .slice x.co x.C.length x.cc, s]
set_option maxHeartbeats 1000000 in
set_option maxRecDepth 100000 in
theorem hasC_ok (x : Cr) (o : Option Addr) (c : Nat) (S : List Sy) (j : Nat) (w : World) (h : CrIn x w) (hS : SyIn o c S w) (hy : YrOk x.N x.wk x.CC (S.map Sy.d)) (hj : j < x.N.length) :
    Calls Tryz.prog 79 #[x.ch (.slice o S.length c), iv j] w fun e w' => e = .returned (iv (hsV x.CC (S.map Sy.d) j)) ∧ Below w.heap.size w w' := by
  obtain ⟨no, nc, N, wk, co, cc, C⟩ := x
  obtain ⟨hN, hC, hR, hnl, hcl, hrl⟩ := h
  obtain ⟨hS1, hS2, hsl, hsr⟩ := hS
  dsimp only at hN hC hR hnl hcl hrl hj ⊢
  change YrOk N wk (C.map Rw.xs) (S.map Sy.d) at hy
  show Calls _ _ _ _ fun e w' => e = .returned (iv (hsV (C.map Rw.xs) (S.map Sy.d) j)) ∧ _
  refine calls_val env mixed Tryz.func79 has79 Tryz.ntmps79 [.agg #[.slice no N.length nc, iv wk, .slice co C.length cc, .slice o S.length c], iv j] (by simp) ?_
  have hcm : (C.map Rw.xs).length = C.length := List.length_map ..
  have hsm : (S.map Sy.d).length = S.length := List.length_map ..
  have h60 := hy.sl
  have h61 := hy.w
  rw [hsm] at h60
  repeat'
   conv => whnf
   first
    | refine zA ?_ | refine zB ?_ | refine zC ?_ | refine zD ?_ | refine zE ?_ | refine zF ?_ | refine zG ?_ | refine zH ?_ | refine zJ ?_ | refine zI ?_ | refine splT ?_ | refine splF ?_ | refine splNot ?_
    | ((first | refine splIn (fun hc => ?_) (fun hc => ?_) | refine splD (fun hc => ?_) (fun hc => ?_) | refine splE (fun hc => ?_) (fun hc => ?_) | refine splNE (fun hc => ?_) (fun hc => ?_)) <;> first | (exfalso; omega) | (exfalso; dsimp only at hc; omega) | skip)
  refine loopE (fun k : Nat => [(1, .v (iv j)), (2, .ptr 0 0), (5, .v (iv (hsS (C.map Rw.xs) ((S.map Sy.d).take k) j))), (9, .v (.slice o S.length c)), (10, .v (iv S.length)), (11, .v (iv k))]) (fun _ => [(0, .cells [.v (.slice no N.length nc), .v (iv wk), .v (.slice co C.length cc), .v (.slice o S.length c)] 129)]) (fun k => k ≤ S.length) (fun k => S.length - k) 0 (Nat.zero_le _) ⟨rfl, rfl, rfl, rfl, rfl, rfl, trivial⟩ ⟨rfl, trivial⟩ (fun _ => ⟨rfl, rfl⟩) ?_
  intro k hk
  have hbd := hy.bd j k
  rcases Nat.lt_or_ge k S.length with hkl | hkl
  · obtain ⟨⟨sp, so, sc, xs⟩, hx⟩ : ∃ b, S[k]? = some b := ⟨_, List.getElem?_eq_getElem hkl⟩
    obtain ⟨_, ad, rfl, _⟩ := hS1.ptr (by omega)
    have e1 := fun (w' : World) hw' => rd_ati (hS1.below (w' := w') hw') hx
    have hm : (S.map Sy.d)[k]? = some (sp, xs) := by rw [List.getElem?_map, hx]; rfl
    have hr := hS2 _ (List.mem_of_getElem? hx)
    have hso := hy.s _ (List.mem_of_getElem? hm)
    have htb := hy.tm j (List.mem_of_getElem? hm)
    have hst := hsS_take (CC := C.map Rw.xs) (j := j) hm
    dsimp only at hr hso
    obtain ⟨⟨hp0, hp1⟩, hxl, hxb⟩ := hso
    obtain ⟨q, rfl⟩ := Int.eq_ofNat_of_zero_le hp0
    rw [hcm] at hp1
    obtain ⟨⟨ro, rc, ys⟩, hq⟩ : ∃ b, C[q]? = some b := ⟨_, List.getElem?_eq_getElem (by omega)⟩
    have hqm : (C.map Rw.xs)[q]? = some ys := by rw [List.getElem?_map, hq]; rfl
    obtain ⟨hyl, hyb⟩ := hy.r _ (List.mem_of_getElem? hqm)
    have hrr := hR _ (List.mem_of_getElem? hq)
    change Rd 1 iF (.slice ro ys.length rc) ys w at hrr
    obtain ⟨a, ha⟩ : ∃ b, xs[j]? = some b := ⟨_, List.getElem?_eq_getElem (by omega)⟩
    obtain ⟨b, hb⟩ : ∃ b, ys[j]? = some b := ⟨_, List.getElem?_eq_getElem (by omega)⟩
    have htm : tmS (C.map Rw.xs) j ((q : Int), xs) = a * b := by
      unfold tmS rwA
      rw [gt_some ha, Int.toNat_natCast, hqm, Option.getD_some, gt_some hb]
    rw [htm] at htb hst
    obtain ⟨_, adc, rfl, _⟩ := hC.ptr (by omega)
    obtain ⟨_, adx, rfl, _⟩ := hr.ptr (by omega)
    obtain ⟨_, ady, rfl, _⟩ := hrr.ptr (by omega)
    have ec := fun (w' : World) hw' => rd_ati (hC.below (w' := w') hw') hq
    have ex := fun (w' : World) hw' => rd_ati (hr.below (w' := w') hw') ha
    have ey := fun (w' : World) hw' => rd_ati (hrr.below (w' := w') hw') hb
    repeat'
     conv => whnf
     first
      | refine zA ?_ | refine zB ?_ | refine zC ?_ | refine zD ?_ | refine zE ?_ | refine zF ?_ | refine zG ?_ | refine zH ?_ | refine zJ ?_ | refine zI ?_ | refine splT ?_ | refine splF ?_ | refine splNot ?_
      | ((first | refine splIn (fun hc => ?_) (fun hc => ?_) | refine splD (fun hc => ?_) (fun hc => ?_) | refine splE (fun hc => ?_) (fun hc => ?_) | refine splNE (fun hc => ?_) (fun hc => ?_)) <;> first | (exfalso; omega) | (exfalso; dsimp only at hc; omega) | skip)
      | refine Exists.intro (α := List Value) [iv q, .slice (some adx) xs.length sc] ⟨⟨rfl, fun w' hw' => e1 w' hw'⟩, ?_⟩
      | refine Exists.intro (α := List Value) [.slice (some ady) ys.length rc] ⟨⟨rfl, fun w' hw' => ec w' hw'⟩, ?_⟩
      | refine Exists.intro (α := List Value) [iv a] ⟨⟨rfl, fun w' hw' => ex w' hw'⟩, ?_⟩
      | refine Exists.intro (α := List Value) [iv b] ⟨⟨rfl, fun w' hw' => ey w' hw'⟩, ?_⟩
    all_goals first
      | (exfalso; omega)
      | exact ⟨k + 1, by omega, by omega, Ent.weak rfl ⟨rfl, rfl, by rw [hst]; rfl, rfl, rfl, rfl, trivial⟩ ⟨rfl, trivial⟩ fun _ h => h⟩
      | skip
  · rw [List.take_of_length_le (by rw [hsm]; exact hkl)] at hbd ⊢
    have hv := hy.hv j
    unfold hsV at hv ⊢
    repeat'
     conv => whnf
     first
      | refine zA ?_ | refine zB ?_ | refine zC ?_ | refine zD ?_ | refine zE ?_ | refine zF ?_ | refine zG ?_ | refine zH ?_ | refine zJ ?_ | refine zI ?_ | refine splT ?_ | refine splF ?_ | refine splNot ?_
      | ((first | refine splIn (fun hc => ?_) (fun hc => ?_) | refine splD (fun hc => ?_) (fun hc => ?_) | refine splE (fun hc => ?_) (fun hc => ?_) | refine splNE (fun hc => ?_) (fun hc => ?_)) <;> first | (exfalso; omega) | (exfalso; dsimp only at hc; omega) | skip)
      | refine quoT (by omega) (And.intro (by omega) (by omega)) ?_
    all_goals first | exact ⟨fun β => rfl, fun w' h => h⟩ | (exfalso; omega) | skip

set_option maxHeartbeats 1000000 in
set_option maxRecDepth 100000 in
theorem LeftR_ok (x : Cr) (o : Option Addr) (c : Nat) (S : List Sy) (j : Nat) (w : World) (h : CrIn x w) (hS : SyIn o c S w) (hy : YrOk x.N x.wk x.CC (S.map Sy.d)) (hj : j < x.N.length) :
    Calls Tryz.prog 38 #[x.v, .slice o S.length c, iv j] w fun e w' => e = .returned (iv (lfV x.N x.CC (S.map Sy.d) j)) ∧ Below w.heap.size w w' := by
  have hc := fun w' hb => HasR_ok x o c S j w' (h.below hb) (hS.below hb) hy hj
  obtain ⟨no, nc, N, wk, co, cc, C⟩ := x
  have hN := h.n
  have hhv := hy.hv j
  have hgn := hy.gn j
  have hsl := hS.sl
  have hw := hy.w
  have hs60 := hy.sl
  have hsm : (S.map Sy.d).length = S.length := List.length_map ..
  rw [hsm] at hs60
  dsimp only at hN hj hc hw hs60 ⊢
  change 0 ≤ hsV (C.map Rw.xs) (S.map Sy.d) j ∧ hsV (C.map Rw.xs) (S.map Sy.d) j ≤ 4800000 at hhv
  have hc2 : ∀ w', Below w.heap.size w w' → Calls Tryz.prog 37 #[.agg #[.slice no N.length nc, iv wk, .slice co C.length cc], .slice o S.length c, iv j] w' fun e w1 => e = .returned (iv (hsV (C.map Rw.xs) (S.map Sy.d) j)) ∧ Below w'.heap.size w' w1 := hc
  clear hc
  refine calls_val env mixed Tryz.func38 has38 Tryz.ntmps38 [.agg #[.slice no N.length nc, iv wk, .slice co C.length cc], .slice o S.length c, iv j] (by simp) ?_
  obtain ⟨n, hn⟩ : ∃ b, N[j]? = some b := ⟨_, List.getElem?_eq_getElem hj⟩
  obtain ⟨_, ad, rfl, _⟩ := hN.ptr (by omega)
  have en := fun (w' : World) hw' => rd_ati (hN.below (w' := w') hw') hn
  rw [gt_some hn] at hgn
  show vc _ _ _ (endΦ _ _ fun s σ => (∀ β, s.c β = iv (lfV N (C.map Rw.xs) (S.map Sy.d) j)) ∧ _)
  rw [lfV, gt_some hn]
  repeat'
   conv => whnf
   first
    | refine zA ?_ | refine zB ?_ | refine zC ?_ | refine zD ?_ | refine zE ?_ | refine zF ?_ | refine zG ?_ | refine zH ?_ | refine zJ ?_ | refine zI ?_ | refine splT ?_ | refine splF ?_ | refine splNot ?_
    | ((first | refine splIn (fun hc => ?_) (fun hc => ?_) | refine splD (fun hc => ?_) (fun hc => ?_) | refine splE (fun hc => ?_) (fun hc => ?_) | refine splNE (fun hc => ?_) (fun hc => ?_)) <;> first | (exfalso; omega) | (exfalso; dsimp only at hc; omega) | skip)
    | refine Exists.intro (α := List Value) [iv n] ⟨⟨rfl, fun w' hw' => en w' hw'⟩, ?_⟩
    | ((with_reducible show CallEv _ _ 37 _ _ _ _ _); refine callE (k := 37) (fun β w' hbw => hc2 _ hbw) ?_)
  all_goals first | exact ⟨fun β => rfl, fun w' h => h⟩ | (exfalso; omega) | skip

set_option maxHeartbeats 1000000 in
set_option maxRecDepth 100000 in
theorem leftC_ok (x : Cr) (o : Option Addr) (c : Nat) (S : List Sy) (j : Nat) (w : World) (h : CrIn x w) (hS : SyIn o c S w) (hy : YrOk x.N x.wk x.CC (S.map Sy.d)) (hj : j < x.N.length) :
    Calls Tryz.prog 80 #[x.ch (.slice o S.length c), iv j] w fun e w' => e = .returned (iv (lfV x.N x.CC (S.map Sy.d) j)) ∧ Below w.heap.size w w' := by
  have hc := fun w' hb => hasC_ok x o c S j w' (h.below hb) (hS.below hb) hy hj
  obtain ⟨no, nc, N, wk, co, cc, C⟩ := x
  have hN := h.n
  have hhv := hy.hv j
  have hgn := hy.gn j
  have hsl := hS.sl
  have hw := hy.w
  have hs60 := hy.sl
  have hsm : (S.map Sy.d).length = S.length := List.length_map ..
  rw [hsm] at hs60
  dsimp only at hN hj hc hw hs60 ⊢
  change 0 ≤ hsV (C.map Rw.xs) (S.map Sy.d) j ∧ hsV (C.map Rw.xs) (S.map Sy.d) j ≤ 4800000 at hhv
  have hc2 : ∀ w', Below w.heap.size w w' → Calls Tryz.prog 79 #[.agg #[.slice no N.length nc, iv wk, .slice co C.length cc, .slice o S.length c], iv j] w' fun e w1 => e = .returned (iv (hsV (C.map Rw.xs) (S.map Sy.d) j)) ∧ Below w'.heap.size w' w1 := hc
  clear hc
  refine calls_val env mixed Tryz.func80 has80 Tryz.ntmps80 [.agg #[.slice no N.length nc, iv wk, .slice co C.length cc, .slice o S.length c], iv j] (by simp) ?_
  obtain ⟨n, hn⟩ : ∃ b, N[j]? = some b := ⟨_, List.getElem?_eq_getElem hj⟩
  obtain ⟨_, ad, rfl, _⟩ := hN.ptr (by omega)
  have en := fun (w' : World) hw' => rd_ati (hN.below (w' := w') hw') hn
  rw [gt_some hn] at hgn
  show vc _ _ _ (endΦ _ _ fun s σ => (∀ β, s.c β = iv (lfV N (C.map Rw.xs) (S.map Sy.d) j)) ∧ _)
  rw [lfV, gt_some hn]
  repeat'
   conv => whnf
   first
    | refine zA ?_ | refine zB ?_ | refine zC ?_ | refine zD ?_ | refine zE ?_ | refine zF ?_ | refine zG ?_ | refine zH ?_ | refine zJ ?_ | refine zI ?_ | refine splT ?_ | refine splF ?_ | refine splNot ?_
    | ((first | refine splIn (fun hc => ?_) (fun hc => ?_) | refine splD (fun hc => ?_) (fun hc => ?_) | refine splE (fun hc => ?_) (fun hc => ?_) | refine splNE (fun hc => ?_) (fun hc => ?_)) <;> first | (exfalso; omega) | (exfalso; dsimp only at hc; omega) | skip)
    | refine Exists.intro (α := List Value) [iv n] ⟨⟨rfl, fun w' hw' => en w' hw'⟩, ?_⟩
    | ((with_reducible show CallEv _ _ 79 _ _ _ _ _); refine callE (k := 79) (fun β w' hbw => hc2 _ hbw) ?_)
  all_goals first | exact ⟨fun β => rfl, fun w' h => h⟩ | (exfalso; omega) | skip

set_option maxHeartbeats 1000000 in
set_option maxRecDepth 100000 in
theorem BehindR_ok (x : Cr) (o : Option Addr) (c : Nat) (S : List Sy) (j : Nat) (w : World) (h : CrIn x w) (hS : SyIn o c S w) (hy : YrOk x.N x.wk x.CC (S.map Sy.d)) (hj : j < x.N.length) :
    Calls Tryz.prog 39 #[x.v, .slice o S.length c, iv j] w fun e w' => e = .returned (.bool (bhB x.N x.wk x.CC (S.map Sy.d) j)) ∧ Below w.heap.size w w' := by
  have hc := fun w' hb => HasR_ok x o c S j w' (h.below hb) (hS.below hb) hy hj
  obtain ⟨no, nc, N, wk, co, cc, C⟩ := x
  have hN := h.n
  have hhv := hy.hv j
  have hgn := hy.gn j
  have hsl := hS.sl
  have hw := hy.w
  have hs60 := hy.sl
  have hsm : (S.map Sy.d).length = S.length := List.length_map ..
  rw [hsm] at hs60
  dsimp only at hN hj hc hw hs60 ⊢
  change 0 ≤ hsV (C.map Rw.xs) (S.map Sy.d) j ∧ hsV (C.map Rw.xs) (S.map Sy.d) j ≤ 4800000 at hhv
  have hc2 : ∀ w', Below w.heap.size w w' → Calls Tryz.prog 37 #[.agg #[.slice no N.length nc, iv wk, .slice co C.length cc], .slice o S.length c, iv j] w' fun e w1 => e = .returned (iv (hsV (C.map Rw.xs) (S.map Sy.d) j)) ∧ Below w'.heap.size w' w1 := hc
  clear hc
  refine calls_val env mixed Tryz.func39 has39 Tryz.ntmps39 [.agg #[.slice no N.length nc, iv wk, .slice co C.length cc], .slice o S.length c, iv j] (by simp) ?_
  obtain ⟨n, hn⟩ : ∃ b, N[j]? = some b := ⟨_, List.getElem?_eq_getElem hj⟩
  obtain ⟨_, ad, rfl, _⟩ := hN.ptr (by omega)
  have en := fun (w' : World) hw' => rd_ati (hN.below (w' := w') hw') hn
  rw [gt_some hn] at hgn
  show vc _ _ _ (endΦ _ _ fun s σ => (∀ β, s.c β = .bool (bhB N wk (C.map Rw.xs) (S.map Sy.d) j)) ∧ _)
  rw [bhB, gt_some hn, hsm]
  have hm1 : 0 ≤ n * (S.length : Int) ∧ n * (S.length : Int) ≤ 120000 := ⟨Int.mul_nonneg hgn.1 (by omega), by
    have := Int.mul_le_mul hgn.2 (show (S.length : Int) ≤ 60 by omega) (by omega) (by omega : (0 : Int) ≤ 2000)
    omega⟩
  have hm2 := tdiv_bd hm1.1 (show 0 < wk by omega)
  repeat'
   conv => whnf
   first
    | refine zA ?_ | refine zB ?_ | refine zC ?_ | refine zD ?_ | refine zE ?_ | refine zF ?_ | refine zG ?_ | refine zH ?_ | refine zJ ?_ | refine zI ?_ | refine splT ?_ | refine splF ?_ | refine splNot ?_
    | ((first | refine splIn (fun hc => ?_) (fun hc => ?_) | refine splD (fun hc => ?_) (fun hc => ?_) | refine splE (fun hc => ?_) (fun hc => ?_) | refine splNE (fun hc => ?_) (fun hc => ?_)) <;> first | (exfalso; omega) | (exfalso; dsimp only at hc; omega) | skip)
    | refine Exists.intro (α := List Value) [iv n] ⟨⟨rfl, fun w' hw' => en w' hw'⟩, ?_⟩
    | ((with_reducible show CallEv _ _ 37 _ _ _ _ _); refine callE (k := 37) (fun β w' hbw => hc2 _ hbw) ?_)
    | refine quoT (by omega) (And.intro (by omega) (by omega)) ?_
  all_goals first | exact ⟨fun β => rfl, fun w' h => h⟩ | (exfalso; omega) | skip

set_option maxHeartbeats 1000000 in
set_option maxRecDepth 100000 in
theorem NextR_ok (x : Cr) (o : Option Addr) (c : Nat) (S : List Sy) (j : Nat) (w : World) (h : CrIn x w) (hS : SyIn o c S w) (hy : YrOk x.N x.wk x.CC (S.map Sy.d)) (hj : j < x.N.length) (hlt : (S.length : Int) < x.wk) :
    Calls Tryz.prog 40 #[x.v, .slice o S.length c, iv j] w fun e w' => e = .returned (iv (nxV x.N x.wk x.CC (S.map Sy.d) j)) ∧ Below w.heap.size w w' := by
  have hc := fun w' hb => LeftR_ok x o c S j w' (h.below hb) (hS.below hb) hy hj
  obtain ⟨no, nc, N, wk, co, cc, C⟩ := x
  have hN := h.n
  have hhv := hy.hv j
  have hgn := hy.gn j
  have hsl := hS.sl
  have hw := hy.w
  have hs60 := hy.sl
  have hsm : (S.map Sy.d).length = S.length := List.length_map ..
  rw [hsm] at hs60
  dsimp only at hN hj hc hw hs60 hlt ⊢
  change 0 ≤ hsV (C.map Rw.xs) (S.map Sy.d) j ∧ hsV (C.map Rw.xs) (S.map Sy.d) j ≤ 4800000 at hhv
  have hc2 : ∀ w', Below w.heap.size w w' → Calls Tryz.prog 38 #[.agg #[.slice no N.length nc, iv wk, .slice co C.length cc], .slice o S.length c, iv j] w' fun e w1 => e = .returned (iv (lfV N (C.map Rw.xs) (S.map Sy.d) j)) ∧ Below w'.heap.size w' w1 := hc
  clear hc
  refine calls_val env mixed Tryz.func40 has40 Tryz.ntmps40 [.agg #[.slice no N.length nc, iv wk, .slice co C.length cc], .slice o S.length c, iv j] (by simp) ?_
  obtain ⟨n, hn⟩ : ∃ b, N[j]? = some b := ⟨_, List.getElem?_eq_getElem hj⟩
  obtain ⟨_, ad, rfl, _⟩ := hN.ptr (by omega)
  have en := fun (w' : World) hw' => rd_ati (hN.below (w' := w') hw') hn
  rw [gt_some hn] at hgn
  show vc _ _ _ (endΦ _ _ fun s σ => (∀ β, s.c β = iv (nxV N wk (C.map Rw.xs) (S.map Sy.d) j)) ∧ _)
  have hl1 : 0 ≤ lfV N (C.map Rw.xs) (S.map Sy.d) j ∧ lfV N (C.map Rw.xs) (S.map Sy.d) j ≤ 2000 := by
    rw [lfV, gt_some hn, imax_eq]; omega
  rw [nxV, hsm]
  generalize lfV N (C.map Rw.xs) (S.map Sy.d) j = L at *
  have hm2 := tdiv_bd (show 0 ≤ L + (wk - (S.length : Int)) - 1 by omega) (show 0 < wk - (S.length : Int) by omega)
  repeat'
   conv => whnf
   first
    | refine zA ?_ | refine zB ?_ | refine zC ?_ | refine zD ?_ | refine zE ?_ | refine zF ?_ | refine zG ?_ | refine zH ?_ | refine zJ ?_ | refine zI ?_ | refine splT ?_ | refine splF ?_ | refine splNot ?_
    | ((first | refine splIn (fun hc => ?_) (fun hc => ?_) | refine splD (fun hc => ?_) (fun hc => ?_) | refine splE (fun hc => ?_) (fun hc => ?_) | refine splNE (fun hc => ?_) (fun hc => ?_)) <;> first | (exfalso; omega) | (exfalso; dsimp only at hc; omega) | skip)
    | ((with_reducible show CallEv _ _ 38 _ _ _ _ _); refine callE (k := 38) (fun β w' hbw => hc2 _ hbw) ?_)
    | refine quoT (by omega) (And.intro (by omega) (by omega)) ?_
  all_goals first | exact ⟨fun β => rfl, fun w' h => h⟩ | (exfalso; omega) | skip

set_option maxHeartbeats 1000000 in
set_option maxRecDepth 100000 in
theorem nextC_ok (x : Cr) (o : Option Addr) (c : Nat) (S : List Sy) (j : Nat) (w : World) (h : CrIn x w) (hS : SyIn o c S w) (hy : YrOk x.N x.wk x.CC (S.map Sy.d)) (hj : j < x.N.length) (hlt : (S.length : Int) < x.wk) :
    Calls Tryz.prog 81 #[x.ch (.slice o S.length c), iv j] w fun e w' => e = .returned (iv (nxV x.N x.wk x.CC (S.map Sy.d) j)) ∧ Below w.heap.size w w' := by
  have hc := fun w' hb => leftC_ok x o c S j w' (h.below hb) (hS.below hb) hy hj
  obtain ⟨no, nc, N, wk, co, cc, C⟩ := x
  have hN := h.n
  have hhv := hy.hv j
  have hgn := hy.gn j
  have hsl := hS.sl
  have hw := hy.w
  have hs60 := hy.sl
  have hsm : (S.map Sy.d).length = S.length := List.length_map ..
  rw [hsm] at hs60
  dsimp only at hN hj hc hw hs60 hlt ⊢
  change 0 ≤ hsV (C.map Rw.xs) (S.map Sy.d) j ∧ hsV (C.map Rw.xs) (S.map Sy.d) j ≤ 4800000 at hhv
  have hc2 : ∀ w', Below w.heap.size w w' → Calls Tryz.prog 80 #[.agg #[.slice no N.length nc, iv wk, .slice co C.length cc, .slice o S.length c], iv j] w' fun e w1 => e = .returned (iv (lfV N (C.map Rw.xs) (S.map Sy.d) j)) ∧ Below w'.heap.size w' w1 := hc
  clear hc
  refine calls_val env mixed Tryz.func81 has81 Tryz.ntmps81 [.agg #[.slice no N.length nc, iv wk, .slice co C.length cc, .slice o S.length c], iv j] (by simp) ?_
  obtain ⟨n, hn⟩ : ∃ b, N[j]? = some b := ⟨_, List.getElem?_eq_getElem hj⟩
  obtain ⟨_, ad, rfl, _⟩ := hN.ptr (by omega)
  have en := fun (w' : World) hw' => rd_ati (hN.below (w' := w') hw') hn
  rw [gt_some hn] at hgn
  show vc _ _ _ (endΦ _ _ fun s σ => (∀ β, s.c β = iv (nxV N wk (C.map Rw.xs) (S.map Sy.d) j)) ∧ _)
  have hl1 : 0 ≤ lfV N (C.map Rw.xs) (S.map Sy.d) j ∧ lfV N (C.map Rw.xs) (S.map Sy.d) j ≤ 2000 := by
    rw [lfV, gt_some hn, imax_eq]; omega
  rw [nxV, hsm]
  generalize lfV N (C.map Rw.xs) (S.map Sy.d) j = L at *
  have hm2 := tdiv_bd (show 0 ≤ L + (wk - (S.length : Int)) - 1 by omega) (show 0 < wk - (S.length : Int) by omega)
  repeat'
   conv => whnf
   first
    | refine zA ?_ | refine zB ?_ | refine zC ?_ | refine zD ?_ | refine zE ?_ | refine zF ?_ | refine zG ?_ | refine zH ?_ | refine zJ ?_ | refine zI ?_ | refine splT ?_ | refine splF ?_ | refine splNot ?_
    | ((first | refine splIn (fun hc => ?_) (fun hc => ?_) | refine splD (fun hc => ?_) (fun hc => ?_) | refine splE (fun hc => ?_) (fun hc => ?_) | refine splNE (fun hc => ?_) (fun hc => ?_)) <;> first | (exfalso; omega) | (exfalso; dsimp only at hc; omega) | skip)
    | ((with_reducible show CallEv _ _ 80 _ _ _ _ _); refine callE (k := 80) (fun β w' hbw => hc2 _ hbw) ?_)
    | refine quoT (by omega) (And.intro (by omega) (by omega)) ?_
  all_goals first | exact ⟨fun β => rfl, fun w' h => h⟩ | (exfalso; omega) | skip
end Go.Proofs.YtpleibfohjbneaaGreat
