/- Pulls in their bounds: what a part bears lies between its ends; the witnesses of Over and Slack. -/
import Derived.Test.YtaciigegbgnadaaJH
namespace Go.Proofs.Ytaciigegbgnadaa
open Go Tx Go.RowKit
set_option linter.unusedSimpArgs false
set_option linter.unusedVariables false

theorem hi_lo {r : Rig} {PP : List Int} {BB : List Bm} {LL : List Ld} (hr : rigOk r.f0 r.f1 r.f2 PP BB LL = true) {k : Nat} {l : Ld} (h : LL[k]? = some l) : l.lo ≤ hiP r l := by
  have hri := rigOk_iff.1 hr
  have hlo := List.all_eq_true.1 hri.2.2.2.2.2.2 l (List.mem_of_getElem? h)
  rw [ldOk_iff] at hlo
  have hb := hiP_bd (fac_bd (r := r) hri.2.2.2.2.2.1 l.kind) hlo.2.2.2.1
  omega
theorem endV_bd {r : Rig} {l : Ld} (h : l.lo ≤ hiP r l) (x : Int) (most : Bool) : l.lo ≤ endV r x most l ∧ endV r x most l ≤ hiP r l := by
  unfold endV
  split <;> omega
theorem endL_pul {r : Rig} {PP : List Int} {BB : List Bm} {LL : List Ld} (hr : rigOk r.f0 r.f1 r.f2 PP BB LL = true) (x : Row) (most : Bool) : pulB r LL (endL r x most LL) = true := by
  refine pulB_of (endL_len _ _ _ _) fun k n l h1 h2 => ?_
  rw [endL_at h2, Option.some.injEq] at h1
  rw [← h1]
  exact endV_bd (hi_lo hr h2) _ _
theorem endV_le {r : Rig} {l : Ld} {n : Int} (x : Int) (h1 : l.lo ≤ n) (h2 : n ≤ hiP r l) : x * endV r x false l ≤ x * n ∧ x * n ≤ x * endV r x true l := by
  unfold endV
  rcases Int.lt_trichotomy x 0 with h | rfl | h
  · rw [if_pos ⟨by omega, by simp; omega⟩, if_neg (by simp; omega)]
    exact ⟨Int.mul_le_mul_of_nonpos_left (by omega) h2, Int.mul_le_mul_of_nonpos_left (by omega) h1⟩
  · simp
  · rw [if_neg (by simp; omega), if_pos ⟨by omega, by simp; omega⟩]
    exact ⟨Int.mul_le_mul_of_nonneg_left h1 (by omega), Int.mul_le_mul_of_nonneg_left h2 (by omega)⟩
theorem dot_end {r : Rig} {LL : List Ld} {A : List Int} (hA : pulB r LL A = true) (x : Row) : endD r LL x false ≤ dotR x A A.length ∧ dotR x A A.length ≤ endD r LL x true := by
  have key : ∀ k, k ≤ LL.length → dotR x (endL r x false LL) k ≤ dotR x A k ∧ dotR x A k ≤ dotR x (endL r x true LL) k := by
    intro k
    induction k with
    | zero => intro _; exact ⟨Int.le_refl _, Int.le_refl _⟩
    | succ k ih =>
      intro hk
      have ih := ih (by omega)
      obtain ⟨n, hn⟩ : ∃ n, A[k]? = some n := ⟨_, List.getElem?_eq_getElem (by rw [pulB_len hA]; omega)⟩
      obtain ⟨l, hl, h1, h2⟩ := pulB_at hA k n hn
      have := endV_le (r := r) (x k) h1 h2
      rw [dotR, dotR, dotR, List.getD_eq_getElem?_getD, List.getD_eq_getElem?_getD, List.getD_eq_getElem?_getD, hn, endL_at hl, endL_at hl]
      simp only [Option.getD_some]
      omega
  rw [pulB_len hA]
  exact key _ (Nat.le_refl _)
/-- The first part that may be over. -/
theorem ov_some {r : Rig} {PP : List Int} {BB : List Bm} {LL : List Ld} {b a : Int} {x : Row} (h : ovO r PP BB LL (frF BB LL) = some (b, a, x)) : x = rowP (frF BB LL) b a ∧ (b, a) ∈ prL PP.length BB.length ∧ partOk PP.length BB.length b a ∧ limP PP BB b a * 216000 < dotR (rowP (frF BB LL) b a) (endL r x true LL) (endL r x true LL).length := by
  rw [ovO_find] at h
  cases hf : (prL PP.length BB.length).find? (ovQ r PP BB LL (frF BB LL)) with
  | none => rw [hf] at h; cases h
  | some q =>
    rw [hf] at h
    simp only [wkP, Option.map_some, Option.some.injEq, Prod.mk.injEq] at h
    obtain ⟨rfl, rfl, rfl⟩ := h
    have h1 := List.find?_some hf
    have h2 := List.mem_of_find?_eq_some hf
    obtain ⟨k, hk⟩ := List.getElem?_of_mem h2
    refine ⟨rfl, h2, prL_ok hk, ?_⟩
    have := of_decide_eq_true h1
    rw [endL_len]
    exact this
theorem ov_none {r : Rig} {PP : List Int} {BB : List Bm} {LL : List Ld} (h : ovO r PP BB LL (frF BB LL) = none) {A : List Int} (hA : pulB r LL A = true) {k : Nat} {q : Int × Int} (hk : (prL PP.length BB.length)[k]? = some q) : dotR (rowP (frF BB LL) q.1 q.2) A A.length ≤ limP PP BB q.1 q.2 * 216000 := by
  rw [ovO_find] at h
  cases hf : (prL PP.length BB.length).find? (ovQ r PP BB LL (frF BB LL)) with
  | some q => rw [hf] at h; cases h
  | none =>
    have := List.find?_eq_none.1 hf q (List.mem_of_getElem? hk)
    have h2 := (dot_end hA (rowP (frF BB LL) q.1 q.2)).2
    simp only [ovQ, decide_eq_true_eq] at this
    omega
theorem sl_some {r : Rig} {PP : List Int} {BB : List Bm} {LL : List Ld} {b a : Int} {x : Row} (h : slO r BB LL (frF BB LL) = some (b, a, x)) : x = rowP (frF BB LL) b a ∧ (0 ≤ b ∧ b < BB.length ∧ 0 ≤ a ∧ a ≤ 1) ∧ dotR (rowP (frF BB LL) b a) (endL r x false LL) (endL r x false LL).length < 0 := by
  rw [slO_find r PP] at h
  cases hf : (prL PP.length BB.length).find? (slQ r LL (frF BB LL)) with
  | none => rw [hf] at h; cases h
  | some q =>
    rw [hf] at h
    simp only [wkP, Option.map_some, Option.some.injEq, Prod.mk.injEq] at h
    obtain ⟨rfl, rfl, rfl⟩ := h
    have h1 := List.find?_some hf
    have h2 := List.mem_of_find?_eq_some hf
    obtain ⟨k, hk⟩ := List.getElem?_of_mem h2
    unfold slQ at h1
    rw [Bool.and_eq_true, decide_eq_true_eq, decide_eq_true_eq] at h1
    have h3 := prL_ok hk
    unfold partOk at h3
    refine ⟨rfl, by omega, ?_⟩
    rw [endL_len]
    exact h1.2
theorem sl_none {r : Rig} {PP : List Int} {BB : List Bm} {LL : List Ld} (h : slO r BB LL (frF BB LL) = none) {A : List Int} (hA : pulB r LL A = true) {k : Nat} {q : Int × Int} (hk : (prL PP.length BB.length)[k]? = some q) (h0 : 0 ≤ q.1) : 0 ≤ dotR (rowP (frF BB LL) q.1 q.2) A A.length := by
  rw [slO_find r PP] at h
  cases hf : (prL PP.length BB.length).find? (slQ r LL (frF BB LL)) with
  | some q => rw [hf] at h; cases h
  | none =>
    have := List.find?_eq_none.1 hf q (List.mem_of_getElem? hk)
    have h2 := (dot_end hA (rowP (frF BB LL) q.1 q.2)).1
    unfold slQ at this
    rw [Bool.and_eq_true, decide_eq_true_eq, decide_eq_true_eq] at this
    omega
end Go.Proofs.Ytaciigegbgnadaa
