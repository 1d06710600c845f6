/- The reference bears what the program bears. -/
import Derived.Test.YtaciigegbgnadaaIL
namespace Go.Proofs.Ytaciigegbgnadaa
open Go Tx Go.RowKit
set_option linter.unusedSimpArgs false
set_option linter.unusedVariables false
def wg (BB : List Bm) (q : Int × Int) (i : Nat) : Int := match BB[i]? with | some b => gq BB i 30 (b.wt * 216000) q | none => 0
theorem wg_at {BB : List Bm} {q : Int × Int} {i : Nat} {b : Bm} (h : BB[i]? = some b) : wg BB q i = gq BB i 30 (b.wt * 216000) q := by unfold wg; rw [h]
section
variable {f0 f1 f2 : Int} {PP : List Int} {BB : List Bm} {LL : List Ld} (hr : rigOk f0 f1 f2 PP BB LL = true)
include hr
theorem rbL_sum {P : List Int} (hl : P.length = LL.length) {q : Int × Int} (hq : qv q) : ∀ k, k ≤ P.length → rbL BB LL P k q = sumI k fun c => P.getD c 0 * ob (frF BB LL) c q
  | 0, _ => rfl
  | k + 1, hk => by
    obtain ⟨n, hn⟩ : ∃ n, P[k]? = some n := ⟨_, List.getElem?_eq_getElem (by omega)⟩
    obtain ⟨l, hl'⟩ : ∃ l, LL[k]? = some l := ⟨_, List.getElem?_eq_getElem (by omega)⟩
    have hd := ld_dvd hr (List.mem_of_getElem? hl')
    show _ = sumI k _ + P.getD k 0 * ob (frF BB LL) k q
    rw [rbL_succ hl' hn, ← rbL_sum hl hq k (by omega), frF_ld hr hq hl', List.getD_eq_getElem?_getD, hn, Option.getD_some, ← gq_mul (rig_G hr) n q hd.1 hd.2]
    rfl
theorem rbB_sum {S : Int × Int → Int} (x : Int) {q : Int × Int} : ∀ k, k ≤ BB.length → rbB BB S x k q = S q + x * sumI k (wg BB q)
  | 0, _ => by show S q = S q + x * 0; omega
  | k + 1, hk => by
    obtain ⟨b, hb⟩ : ∃ b, BB[k]? = some b := ⟨_, List.getElem?_eq_getElem (by omega)⟩
    have hd := wt_dvd hr hb 20
    have e : wtR b 20 = b.wt * 216000 := rfl
    rw [e] at hd
    show _ = S q + x * (sumI k (wg BB q) + wg BB q k)
    rw [rbB_succ hb, wg_at hb, Int.mul_add, ← Int.add_assoc, ← rbB_sum x k (by omega), ← gq_mul (rig_G hr) x q hd (by omega), Int.mul_assoc]
    rfl
theorem frF_wg {q : Int × Int} (hq : qv q) : ob (frF BB LL) 20 q = sumI BB.length (wg BB q) := frF_wt hr hq
theorem rbS_ob {P : List Int} (hl : P.length = LL.length) {q : Int × Int} (hq : qv q) (x : Int) : rbS BB LL P x q = (sumI P.length fun c => P.getD c 0 * ob (frF BB LL) c q) + x * ob (frF BB LL) 20 q := by
  rw [rbS, rbB_sum hr x BB.length (Nat.le_refl _), rbL_sum hr hl hq P.length (Nat.le_refl _), frF_wg hr hq]
end
theorem dotR_sum (f : Row) (P : List Int) : ∀ k, dotR f P k = f 20 + sumI k fun c => P.getD c 0 * f c
  | 0 => by show f 20 = f 20 + 0; omega
  | k + 1 => by
    show dotR f P k + f k * P.getD k 0 = f 20 + (sumI k _ + P.getD k 0 * f k)
    rw [dotR_sum f P k, Int.mul_comm (f k)]
    omega
theorem qv_p (j : Nat) : qv (-1, (j : Int)) := ⟨.inl rfl, by show 0 ≤ (j : Int); omega⟩
theorem qv_h (j : Nat) {k : Int} (hk : 0 ≤ k ∧ k ≤ 1) : qv ((j : Int), k) := ⟨.inr ⟨by show 0 ≤ (j : Int); omega, hk.2⟩, hk.1⟩
theorem ob_p (F : Fr) (c j : Nat) : ob F c (-1, (j : Int)) = F.p j c := by unfold ob; rw [if_pos rfl, Int.toNat_natCast]
theorem ob_h (F : Fr) (c j k : Nat) : ob F c ((j : Int), (k : Int)) = F.h j k c := by unfold ob; rw [if_neg (by show ¬ (j : Int) = -1; omega), Int.toNat_natCast, Int.toNat_natCast]
section
variable {f0 f1 f2 : Int} {PP : List Int} {BB : List Bm} {LL : List Ld} (hr : rigOk f0 f1 f2 PP BB LL = true)
include hr
theorem rbS_p {P : List Int} (hl : P.length = LL.length) (j : Nat) : rbS BB LL P 1 (-1, (j : Int)) = dotR ((frF BB LL).p j) P P.length := by
  rw [rbS_ob hr hl (qv_p j), dotR_sum, Int.one_mul, ob_p, Int.add_comm]
  simp only [ob_p]
theorem rbS_h {P : List Int} (hl : P.length = LL.length) (j k : Nat) (hk : k ≤ 1) : rbS BB LL P 1 ((j : Int), (k : Int)) = dotR ((frF BB LL).h j k) P P.length := by
  rw [rbS_ob hr hl (qv_h j (by omega)), dotR_sum, Int.one_mul, ob_h, Int.add_comm]
  simp only [ob_h]
/-- **The reference's points and hangers bear what the program's do.** -/
theorem stP_bPt {P : List Int} (hl : P.length = LL.length) : stP PP.length (rbS BB LL P 1) = bPt (frF BB LL) PP.length P :=
  List.map_congr_left fun j _ => rbS_p hr hl j
theorem stH_bHg {P : List Int} (hl : P.length = LL.length) : stH BB.length (rbS BB LL P 1) = bHg (frF BB LL) BB.length P :=
  List.map_congr_left fun j _ => by rw [show rbS BB LL P 1 ((j : Int), 0) = _ from rbS_h hr hl j 0 (by omega), show rbS BB LL P 1 ((j : Int), 1) = _ from rbS_h hr hl j 1 (by omega)]
end
end Go.Proofs.Ytaciigegbgnadaa
