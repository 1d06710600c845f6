import Derived.Test.YtaciigegbgnadaaIK
import Derived.Test.YtaciigegbgnadaaIG
/- The reference: what all parts bear. -/
namespace Go.Proofs.Ytaciigegbgnadaa
open Go Tx Go.RowKit
set_option linter.unusedSimpArgs false
set_option linter.unusedVariables false

/-- The state behind the loads' pulls, then behind the beams' weights. -/
def rbL (BB : List Bm) (LL : List Ld) (P : List Int) : Nat → Int × Int → Int
  | 0 => fun _ => 0
  | k + 1 => match LL[k]?, P[k]? with
    | some l, some n => stG BB (rbL BB LL P k) l.beam l.at' (n * 216000)
    | _, _ => rbL BB LL P k
def rbB (BB : List Bm) (S : Int × Int → Int) (x : Int) : Nat → Int × Int → Int
  | 0 => S
  | k + 1 => match BB[k]? with
    | some b => stG BB (rbB BB S x k) k 30 (x * b.wt * 216000)
    | none => rbB BB S x k
def rbS (BB : List Bm) (LL : List Ld) (P : List Int) (x : Int) : Int × Int → Int := rbB BB (rbL BB LL P P.length) x BB.length
theorem rbL_succ {BB : List Bm} {LL : List Ld} {P : List Int} {k : Nat} {l : Ld} {n : Int} (h1 : LL[k]? = some l) (h2 : P[k]? = some n) : rbL BB LL P (k + 1) = stG BB (rbL BB LL P k) l.beam l.at' (n * 216000) := by
  rw [rbL, h1, h2]
theorem rbB_succ {BB : List Bm} {S : Int × Int → Int} {x : Int} {k : Nat} {b : Bm} (h1 : BB[k]? = some b) : rbB BB S x (k + 1) = stG BB (rbB BB S x k) k 30 (x * b.wt * 216000) := by
  rw [rbB, h1]
theorem bm_has' {n m k : Nat} (hk : k < m) : hasB n (k : Int) 30 m = true := by
  unfold hasB
  rw [if_neg (by omega)]
  simp [inB]
  omega
section
variable {f0 f1 f2 : Int} {PP : List Int} {BB : List Bm} {LL : List Ld} (hr : rigOk f0 f1 f2 PP BB LL = true)
include hr
theorem KK_le {b a : Int} (hh : hasB PP.length b a BB.length = true) : KK (dpn BB b) ≤ 4576 := by
  have hG := rig_G hr
  have h3 : dpn BB b ≤ 3 := by
    rcases hasB_cases hh with ⟨rfl, _⟩ | ⟨_, ⟨h1, _⟩, _⟩
    · unfold dpn; rw [if_pos rfl]; omega
    · obtain ⟨k, rfl⟩ := Int.eq_ofNat_of_zero_le h1
      exact hG.d3 k
  exact KK_mono h3
theorem step_abs {S : Int × Int → Int} {b a f : Int} {B : Nat} (hh : hasB PP.length b a BB.length = true) (hf : f.natAbs ≤ 4320000000000) (hS : ∀ q, (S q).natAbs ≤ B) :
    (∀ q, (S q).natAbs + KK (dpn BB b) * f.natAbs ≤ B + 20000000000000000) ∧ ∀ q, (stG BB S b a f q).natAbs ≤ B + 20000000000000000 := by
  have h1 := Nat.mul_le_mul (KK_le hr hh) hf
  refine ⟨fun q => by have := hS q; omega, fun q => ?_⟩
  have h2 := gq_abs hr (b.toNat + 1) b a f q BB.length (by omega) (Int.le_refl _) hh
  have := hS q
  unfold stG
  omega
theorem ld_has {k : Nat} {l : Ld} (hl : LL[k]? = some l) : hasB PP.length l.beam l.at' BB.length = true := by
  have h := (rigOk_iff.1 hr).2.2.2.2.2.2
  have := List.all_eq_true.1 h l (List.mem_of_getElem? hl)
  rw [ldOk_iff] at this
  exact this.1
theorem rbL_abs {P : List Int} (hP : pullsB P) (hl : P.length = LL.length) : ∀ k, k ≤ P.length → ∀ q, (rbL BB LL P k q).natAbs ≤ 20000000000000000 * k
  | 0, _ => fun q => by simp [rbL]
  | k + 1, hk => fun q => by
    obtain ⟨n, hn⟩ : ∃ n, P[k]? = some n := ⟨_, List.getElem?_eq_getElem (by omega)⟩
    obtain ⟨l, hl'⟩ : ∃ l, LL[k]? = some l := ⟨_, List.getElem?_eq_getElem (by omega)⟩
    have hnb := hP.2 n (List.mem_of_getElem? hn)
    rw [rbL_succ hl' hn]
    exact (step_abs hr (ld_has hr hl') (by omega) (rbL_abs hP hl k (by omega))).2 q
theorem wt_bd {k : Nat} {b : Bm} (hb : BB[k]? = some b) {x : Int} (hx : 0 ≤ x ∧ x ≤ 1) : (x * b.wt * 216000).natAbs ≤ 4320000000000 ∧ 0 ≤ b.wt ∧ b.wt ≤ 1000000 := by
  have := (bmOk_iff.1 (bm_at hr hb)).2.2.2.2.2.1
  obtain rfl | rfl : x = 0 ∨ x = 1 := by omega
  · rw [Int.zero_mul, Int.zero_mul]; exact ⟨by decide, this⟩
  · rw [Int.one_mul]; omega
theorem rbB_abs {S : Int × Int → Int} {x : Int} {B : Nat} (hS : ∀ q, (S q).natAbs ≤ B) (hx : 0 ≤ x ∧ x ≤ 1) : ∀ k, k ≤ BB.length → ∀ q, (rbB BB S x k q).natAbs ≤ B + 20000000000000000 * k
  | 0, _ => fun q => by have := hS q; rw [rbB]; omega
  | k + 1, hk => fun q => by
    obtain ⟨b, hb⟩ : ∃ b, BB[k]? = some b := ⟨_, List.getElem?_eq_getElem (by omega)⟩
    rw [rbB_succ hb]
    have := (step_abs hr (bm_has' (Nat.lt_of_succ_le hk)) (wt_bd hr hb hx).1 (rbB_abs hS hx k (by omega))).2 q
    rw [Nat.mul_succ, ← Nat.add_assoc]
    exact this
end
theorem stP0 (n : Nat) : (stP n fun _ => 0).flatMap iF = (List.replicate n ti3.zero).flatten := by
  rw [stP, List.flatMap_map, fm_const]; rfl
theorem stH0 (n : Nat) : (stH n fun _ => 0).flatMap gF = (List.replicate n ti71.zero).flatten := by
  rw [stH, List.flatMap_map, fm_const]; rfl

set_option maxHeartbeats 8000000 in
set_option maxRecDepth 100000 in
theorem BearsR_ok (r : Rig) (PP : List Int) (BB : List Bm) (LL : List Ld) (P : List Int) (po : Option Addr) (pc : Nat) (x : Int) (w : World) (h : RigX r PP BB LL w) (hr : rigOk r.f0 r.f1 r.f2 PP BB LL = true) (hP : pullsB P) (hpl : P.length = LL.length)
    (hPl : Rd 1 iF (.slice po P.length pc) P w) (hx : 0 ≤ x ∧ x ≤ 1) :
    Calls Try.prog 36 #[r.v, .slice po P.length pc, iv x] w fun e w' => ∃ y : YS (stP PP.length (rbS BB LL P x)) × YS (stH BB.length (rbS BB LL P x)), e = .returned (.tuple #[sV PP.length y.1.1, sV BB.length y.2.1]) ∧ Below w.heap.size w w' ∧
      St w.heap.size (fun w2 => Rd 1 iF (sV PP.length y.1.1) (stP PP.length (rbS BB LL P x)) w2 ∧ Rd 2 gF (sV BB.length y.2.1) (stH BB.length (rbS BB LL P x)) w2) w' := by
  have hri := rigOk_iff.1 hr
  have hput := fun (b a f : Int) (S : Int × Int → Int) hh hS {β} {w} hok hinj hst => @putR_ok r PP BB LL hr (b.toNat + 1) b a f S BB.length (by omega) (Int.le_refl _) hh hS β w hok hinj hst
  have hSL := rbL_abs hr hP hpl
  have hpn := h.pn
  have hbn := h.bn
  have hlnn := h.ln
  obtain ⟨po', pn, pc', bo, bn, bc, f0, f1, f2, lo, ln, lc⟩ := r
  dsimp only at hpn hbn hlnn hri
  subst hpn
  subst hbn
  subst hlnn
  have hm12 := hri.2.2.1
  have hn12 : 1 ≤ PP.length ∧ PP.length ≤ 12 := by omega
  have hl20 : LL.length ≤ 20 := hri.2.2.2.2.1
  refine calls_fam env mixed Try.func36 has36 Try.ntmps36 [.agg #[.slice po' PP.length pc', .slice bo BB.length bc, iv f0, iv f1, iv f2, .slice lo LL.length lc], .slice po P.length pc, iv x] (by simp) ?_
  repeat'
   conv => whnf
   first
    | refine zA ?_ | refine zB ?_ | refine zC ?_ | refine zD ?_ | refine zE ?_ | refine zF ?_ | refine zG ?_ | refine zH ?_ | refine zI ?_ | refine splT ?_ | refine splF ?_ | refine splNot ?_
    | ((first | refine splIn (fun hc => ?_) (fun hc => ?_) | refine splD (fun hc => ?_) (fun hc => ?_) | refine splE (fun hc => ?_) (fun hc => ?_) | refine splNE (fun hc => ?_) (fun hc => ?_)) <;> first | (exfalso; omega) | (exfalso; dsimp only at hc; omega) | skip)
    | refine mkO env 1 PP.length ((stP PP.length fun _ => 0).flatMap iF) rfl rfl rfl (by decide) rfl (by omega) (by decide) (stP0 _) rfl ?_
    | refine mkO env 3 BB.length ((stH BB.length fun _ => 0).flatMap gF) rfl rfl rfl (by decide) rfl (by omega) (by decide) (stH0 _) rfl ?_
  all_goals first | (exfalso; omega) | skip
  refine loopN 5 (fun k : Nat => [(1, .v (.slice po P.length pc)), (2, .v (iv x)), (3, .ptr 0 0), (8, .os 1 2 PP.length), (9, .os 3 4 BB.length), (10, .v (iv k))])
    (fun k => (0, .cells [.v (.slice po' PP.length pc'), .v (.slice bo BB.length bc), .v (iv f0), .v (iv f1), .v (iv f2), .v (.slice lo LL.length lc)] 48) :: rpM PP.length BB.length (rbL BB LL P k)) (fun k => k ≤ P.length) (fun k => P.length - k) 0 (Nat.zero_le _) ⟨rfl, rfl, rfl, rfl, rfl, rfl, trivial⟩ ⟨rfl, rfl, rfl, trivial⟩ (fun _ _ => ⟨rfl, rfl⟩) ?_
  intro k hk
  rcases Nat.lt_or_ge k P.length with hkl | hkl
  · obtain ⟨n, hn⟩ : ∃ n, P[k]? = some n := ⟨_, List.getElem?_eq_getElem (by omega)⟩
    obtain ⟨l, hl⟩ : ∃ l, LL[k]? = some l := ⟨_, List.getElem?_eq_getElem (by omega)⟩
    have hnb := hP.2 n (List.mem_of_getElem? hn)
    have hlh := ld_has hr hl
    have hst := step_abs hr hlh (show (n * 216000).natAbs ≤ 4320000000000 by omega) (hSL k (by omega))
    have hCC := fun {β} {w} => @hput l.beam l.at' (n * 216000) (rbL BB LL P k) hlh (fun q => by have := hst.1 q; omega) β w
    rw [← rbL_succ hl hn] at hCC
    obtain ⟨_, ad, rfl, _⟩ := h.l.ptr (by omega)
    obtain ⟨_, ap, rfl, _⟩ := hPl.ptr (by omega)
    have e0 := fun (w' : World) (hw' : Below w.heap.size w w') => rd_ati (hPl.below hw') hn
    have e1 := fun (w' : World) (hw' : Below w.heap.size w w') => rd_ati ((h.below hw').l) hl
    have eA := fun (w' : World) (hw' : Below w.heap.size w w') => fun j v (h : [iv l.beam, iv l.at'][j]? = some v) => (show w'.cell? (((ad.add ((k : Int).toNat * 5)).add 0).add j) = some v from by
      match j, h with
      | 0, h => rw [Addr.add_add]; exact e1 w' hw' 0 _ h
      | 1, h => rw [Addr.add_add]; exact e1 w' hw' 1 _ h)
    have hb : (n * 216000 : Int).natAbs ≤ 4320000000000 := by omega
    generalize hS' : rbL BB LL P (k + 1) = S' at *
    generalize rbL BB LL P k = S at *
    repeat'
     conv => whnf
     first
      | refine zA ?_ | refine zB ?_ | refine zC ?_ | refine zD ?_ | refine zE ?_ | refine zF ?_ | refine zG ?_ | refine zH ?_ | refine zI ?_ | refine splT ?_ | refine splF ?_ | refine splNot ?_
      | ((first | refine splIn (fun hc => ?_) (fun hc => ?_) | refine splD (fun hc => ?_) (fun hc => ?_) | refine splE (fun hc => ?_) (fun hc => ?_) | refine splNE (fun hc => ?_) (fun hc => ?_)) <;> first | (exfalso; omega) | (exfalso; dsimp only at hc; omega) | skip)
      | refine Exists.intro (α := List Value) [iv l.beam, iv l.at'] ⟨⟨rfl, fun w' hw' => eA w' hw'⟩, ?_⟩
      | refine Exists.intro (α := List Value) [iv n] ⟨⟨rfl, fun w' hw' => e0 w' hw'⟩, ?_⟩
      | ((with_reducible show CallEv _ _ 71 _ _ _ _ _); refine callRp PP.length BB.length S S' (fun β w' h1 h2 h3 => hCC h1 h2 fun w2 hc2 => h.below (h3 w2 hc2)) rfl rfl rfl ?_)
    all_goals first | (exfalso; omega) | skip
    exact ⟨k + 1, by omega, by omega, Ent.weak rfl ⟨rfl, rfl, rfl, rfl, rfl, rfl, trivial⟩ ⟨rfl, by rw [hS']; rfl, by rw [hS']; rfl, trivial⟩ fun _ h => h⟩
  · obtain rfl : k = P.length := by omega
    have hSB := rbB_abs hr (hSL P.length (Nat.le_refl _)) hx
    unfold rbS
    generalize hS0 : rbL BB LL P P.length = S0 at *
    repeat'
     conv => whnf
     first
      | refine zA ?_ | refine zB ?_ | refine zC ?_ | refine zD ?_ | refine zE ?_ | refine zF ?_ | refine zG ?_ | refine zH ?_ | refine zI ?_ | refine splT ?_ | refine splF ?_ | refine splNot ?_
      | ((first | refine splIn (fun hc => ?_) (fun hc => ?_) | refine splD (fun hc => ?_) (fun hc => ?_) | refine splE (fun hc => ?_) (fun hc => ?_) | refine splNE (fun hc => ?_) (fun hc => ?_)) <;> first | (exfalso; omega) | (exfalso; dsimp only at hc; omega) | skip)
    all_goals first | (exfalso; omega) | skip
    refine loopN 5 (fun k : Nat => [(2, .v (iv x)), (3, .ptr 0 0), (8, .os 1 2 PP.length), (9, .os 3 4 BB.length), (11, .v (iv k))])
      (fun k => (0, .cells [.v (.slice po' PP.length pc'), .v (.slice bo BB.length bc), .v (iv f0), .v (iv f1), .v (iv f2), .v (.slice lo LL.length lc)] 48) :: rpM PP.length BB.length (rbB BB S0 x k)) (fun k => k ≤ BB.length) (fun k => BB.length - k) 0 (Nat.zero_le _) ⟨rfl, rfl, rfl, rfl, rfl, trivial⟩ ⟨rfl, rfl, rfl, trivial⟩ (fun _ _ => ⟨rfl, rfl⟩) ?_
    clear hk hkl
    intro k hk
    rcases Nat.lt_or_ge k BB.length with hkl | hkl
    · obtain ⟨b, hb⟩ : ∃ b, BB[k]? = some b := ⟨_, List.getElem?_eq_getElem (by omega)⟩
      have hwt := wt_bd hr hb hx
      have hlh := bm_has' (n := PP.length) hkl
      have hst := step_abs hr hlh hwt.1 (hSB k (by omega))
      have hCC := fun {β} {w} => @hput (k : Int) 30 (x * b.wt * 216000) (rbB BB S0 x k) hlh (fun q => by have := hst.1 q; omega) β w
      rw [← rbB_succ hb] at hCC
      obtain ⟨_, ad, rfl, _⟩ := h.b.ptr (by omega)
      have e1 := fun (w' : World) (hw' : Below w.heap.size w w') => rd_fld ((h.below hw').b) hb 6 (iv b.wt) rfl
      have hxw : 0 ≤ x * b.wt ∧ x * b.wt ≤ 1000000 := by
        obtain rfl | rfl : x = 0 ∨ x = 1 := by omega
        · rw [Int.zero_mul]; omega
        · rw [Int.one_mul]; omega
      generalize hS' : rbB BB S0 x (k + 1) = S' at *
      generalize rbB BB S0 x k = S at *
      generalize b.wt = y at *
      repeat'
       conv => whnf
       first
        | refine zA ?_ | refine zB ?_ | refine zC ?_ | refine zD ?_ | refine zE ?_ | refine zF ?_ | refine zG ?_ | refine zH ?_ | refine zI ?_ | refine splT ?_ | refine splF ?_ | refine splNot ?_
        | ((first | refine splIn (fun hc => ?_) (fun hc => ?_) | refine splD (fun hc => ?_) (fun hc => ?_) | refine splE (fun hc => ?_) (fun hc => ?_) | refine splNE (fun hc => ?_) (fun hc => ?_)) <;> first | (exfalso; omega) | (exfalso; dsimp only at hc; omega) | skip)
        | refine Exists.intro (α := List Value) [iv y] ⟨⟨rfl, fun w' hw' => e1 w' hw'⟩, ?_⟩
        | ((with_reducible show CallEv _ _ 71 _ _ _ _ _); refine callRp PP.length BB.length S S' (fun β w' h1 h2 h3 => hCC h1 h2 fun w2 hc2 => h.below (h3 w2 hc2)) rfl rfl rfl ?_)
      all_goals first | (exfalso; omega) | skip
      exact ⟨k + 1, by omega, by omega, Ent.weak rfl ⟨rfl, rfl, rfl, rfl, rfl, trivial⟩ ⟨rfl, by rw [hS']; rfl, by rw [hS']; rfl, trivial⟩ fun _ h => h⟩
    · obtain rfl : k = BB.length := by omega
      have hlp := stP_len PP.length (rbB BB S0 x BB.length)
      have hlh := stH_len BB.length (rbB BB S0 x BB.length)
      generalize rbB BB S0 x BB.length = S at *
      repeat'
       conv => whnf
       first
        | refine zA ?_ | refine zB ?_ | refine zC ?_ | refine zD ?_ | refine zE ?_ | refine zF ?_ | refine zG ?_ | refine zH ?_ | refine zI ?_ | refine splT ?_ | refine splF ?_ | refine splNot ?_
        | ((first | refine splIn (fun hc => ?_) (fun hc => ?_) | refine splD (fun hc => ?_) (fun hc => ?_) | refine splE (fun hc => ?_) (fun hc => ?_) | refine splNE (fun hc => ?_) (fun hc => ?_)) <;> first | (exfalso; omega) | (exfalso; dsimp only at hc; omega) | skip)
      all_goals first | (exfalso; omega) | skip
      exact ⟨fun w' h => h, fun β w' hB hblk => ⟨(⟨(some ⟨β 1, 0, none⟩, β 2), .inr ⟨_, rfl⟩⟩, ⟨(some ⟨β 3, 0, none⟩, β 4), .inr ⟨_, rfl⟩⟩), rfl, ((hblk 1 _ rfl rfl).and (hblk 3 _ rfl rfl)).imp fun w2 q => ⟨Rd.of_owns (sz := 1) (f := iF) (bs := stP PP.length S) (fun _ => rfl) rfl hlp.symm q.1, Rd.of_owns (sz := 2) (f := gF) (bs := stH BB.length S) (fun _ => rfl) rfl hlh.symm q.2⟩⟩⟩
end Go.Proofs.Ytaciigegbgnadaa

/- The reference bears what the program bears. -/
namespace Go.Proofs.Ytaciigegbgnadaa
open Go Tx Go.RowKit
set_option linter.unusedSimpArgs false
set_option linter.unusedVariables false
def wg (BB : List Bm) (q : Int × Int) (i : Nat) : Int := match BB[i]? with | some b => gq BB i 30 (b.wt * 216000) q | none => 0
theorem wg_at {BB : List Bm} {q : Int × Int} {i : Nat} {b : Bm} (h : BB[i]? = some b) : wg BB q i = gq BB i 30 (b.wt * 216000) q := by unfold wg; rw [h]
section
variable {f0 f1 f2 : Int} {PP : List Int} {BB : List Bm} {LL : List Ld} (hr : rigOk f0 f1 f2 PP BB LL = true)
include hr
theorem rbL_sum {P : List Int} (hl : P.length = LL.length) {q : Int × Int} (hq : qv q) : ∀ k, k ≤ P.length → rbL BB LL P k q = sumI k fun c => P.getD c 0 * ob (frF BB LL) c q
  | 0, _ => rfl
  | k + 1, hk => by
    obtain ⟨n, hn⟩ : ∃ n, P[k]? = some n := ⟨_, List.getElem?_eq_getElem (by omega)⟩
    obtain ⟨l, hl'⟩ : ∃ l, LL[k]? = some l := ⟨_, List.getElem?_eq_getElem (by omega)⟩
    have hd := ld_dvd hr (List.mem_of_getElem? hl')
    show _ = sumI k _ + P.getD k 0 * ob (frF BB LL) k q
    rw [rbL_succ hl' hn, ← rbL_sum hl hq k (by omega), frF_ld hr hq hl', List.getD_eq_getElem?_getD, hn, Option.getD_some, ← gq_mul (rig_G hr) n q hd.1 hd.2]
    rfl
theorem rbB_sum {S : Int × Int → Int} (x : Int) {q : Int × Int} : ∀ k, k ≤ BB.length → rbB BB S x k q = S q + x * sumI k (wg BB q)
  | 0, _ => by show S q = S q + x * 0; omega
  | k + 1, hk => by
    obtain ⟨b, hb⟩ : ∃ b, BB[k]? = some b := ⟨_, List.getElem?_eq_getElem (by omega)⟩
    have hd := wt_dvd hr hb 20
    have e : wtR b 20 = b.wt * 216000 := rfl
    rw [e] at hd
    show _ = S q + x * (sumI k (wg BB q) + wg BB q k)
    rw [rbB_succ hb, wg_at hb, Int.mul_add, ← Int.add_assoc, ← rbB_sum x k (by omega), ← gq_mul (rig_G hr) x q hd (by omega), Int.mul_assoc]
    rfl
theorem frF_wg {q : Int × Int} (hq : qv q) : ob (frF BB LL) 20 q = sumI BB.length (wg BB q) := frF_wt hr hq
theorem rbS_ob {P : List Int} (hl : P.length = LL.length) {q : Int × Int} (hq : qv q) (x : Int) : rbS BB LL P x q = (sumI P.length fun c => P.getD c 0 * ob (frF BB LL) c q) + x * ob (frF BB LL) 20 q := by
  rw [rbS, rbB_sum hr x BB.length (Nat.le_refl _), rbL_sum hr hl hq P.length (Nat.le_refl _), frF_wg hr hq]
end
theorem dotR_sum (f : Row) (P : List Int) : ∀ k, dotR f P k = f 20 + sumI k fun c => P.getD c 0 * f c
  | 0 => by show f 20 = f 20 + 0; omega
  | k + 1 => by
    show dotR f P k + f k * P.getD k 0 = f 20 + (sumI k _ + P.getD k 0 * f k)
    rw [dotR_sum f P k, Int.mul_comm (f k)]
    omega
theorem qv_p (j : Nat) : qv (-1, (j : Int)) := ⟨.inl rfl, by show 0 ≤ (j : Int); omega⟩
theorem qv_h (j : Nat) {k : Int} (hk : 0 ≤ k ∧ k ≤ 1) : qv ((j : Int), k) := ⟨.inr ⟨by show 0 ≤ (j : Int); omega, hk.2⟩, hk.1⟩
theorem ob_p (F : Fr) (c j : Nat) : ob F c (-1, (j : Int)) = F.p j c := by unfold ob; rw [if_pos rfl, Int.toNat_natCast]
theorem ob_h (F : Fr) (c j k : Nat) : ob F c ((j : Int), (k : Int)) = F.h j k c := by unfold ob; rw [if_neg (by show ¬ (j : Int) = -1; omega), Int.toNat_natCast, Int.toNat_natCast]
section
variable {f0 f1 f2 : Int} {PP : List Int} {BB : List Bm} {LL : List Ld} (hr : rigOk f0 f1 f2 PP BB LL = true)
include hr
theorem rbS_p {P : List Int} (hl : P.length = LL.length) (j : Nat) : rbS BB LL P 1 (-1, (j : Int)) = dotR ((frF BB LL).p j) P P.length := by
  rw [rbS_ob hr hl (qv_p j), dotR_sum, Int.one_mul, ob_p, Int.add_comm]
  simp only [ob_p]
theorem rbS_h {P : List Int} (hl : P.length = LL.length) (j k : Nat) (hk : k ≤ 1) : rbS BB LL P 1 ((j : Int), (k : Int)) = dotR ((frF BB LL).h j k) P P.length := by
  rw [rbS_ob hr hl (qv_h j (by omega)), dotR_sum, Int.one_mul, ob_h, Int.add_comm]
  simp only [ob_h]
/-- **The reference's points and hangers bear what the program's do.** -/
theorem stP_bPt {P : List Int} (hl : P.length = LL.length) : stP PP.length (rbS BB LL P 1) = bPt (frF BB LL) PP.length P :=
  List.map_congr_left fun j _ => rbS_p hr hl j
theorem stH_bHg {P : List Int} (hl : P.length = LL.length) : stH BB.length (rbS BB LL P 1) = bHg (frF BB LL) BB.length P :=
  List.map_congr_left fun j _ => by rw [show rbS BB LL P 1 ((j : Int), 0) = _ from rbS_h hr hl j 0 (by omega), show rbS BB LL P 1 ((j : Int), 1) = _ from rbS_h hr hl j 1 (by omega)]
end
end Go.Proofs.Ytaciigegbgnadaa
