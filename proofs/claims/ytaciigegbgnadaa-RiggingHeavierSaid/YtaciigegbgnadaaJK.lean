/- Moving one load at a time: the plain law. -/
import Derived.Test.YtaciigegbgnadaaJI
namespace Go.Proofs.Ytaciigegbgnadaa
open Go Tx Go.RowKit
set_option linter.unusedSimpArgs false
set_option linter.unusedVariables false

theorem dot_congr {x : Row} {A B : List Int} : ∀ k, (∀ j, j < k → x j * A.getD j 0 = x j * B.getD j 0) → dotR x A k = dotR x B k
  | 0, _ => rfl
  | k + 1, h => by rw [dotR, dotR, dot_congr k fun j hj => h j (by omega), h k (by omega)]
theorem getD_set (D : List Int) (k j : Nat) (v : Int) (hk : k < D.length) : (D.set k v).getD j 0 = if k = j then v else D.getD j 0 := by
  rw [List.getD_eq_getElem?_getD, List.getD_eq_getElem?_getD, List.getElem?_set]
  by_cases h : k = j
  · subst h; rw [if_pos rfl, if_pos hk, if_pos rfl]; rfl
  · rw [if_neg h, if_neg h]
/-- One pull changed. -/
theorem dot_set (x : Row) (D : List Int) (k : Nat) (v : Int) (hk : k < D.length) : ∀ N, dotR x (D.set k v) N = dotR x D N + (if k < N then x k * v - x k * D.getD k 0 else 0)
  | 0 => by rw [if_neg (by omega), Int.add_zero]; rfl
  | N + 1 => by
    rw [dotR, dotR, dot_set x D k v hk N, getD_set D k N v hk]
    by_cases h : k = N
    · subst h
      rw [if_pos rfl, if_neg (by omega), if_pos (by omega)]; omega
    · rw [if_neg h]
      by_cases h2 : k < N
      · rw [if_pos h2, if_pos (by omega)]; omega
      · rw [if_neg h2, if_neg (by omega)]; omega
theorem pul_set {r : Rig} {LL : List Ld} {D : List Int} (h : pulB r LL D = true) {k : Nat} {l : Ld} (hl : LL[k]? = some l) {v : Int} (h1 : l.lo ≤ v ∧ v ≤ hiP r l) : pulB r LL (D.set k v) = true := by
  refine pulB_of (by rw [List.length_set]; exact pulB_len h) fun j n l' h2 h3 => ?_
  rw [List.getElem?_set] at h2
  by_cases hk : k = j
  · subst hk
    have hlt : k < D.length := by rw [pulB_len h]; exact (List.getElem?_eq_some_iff.1 hl).1
    rw [if_pos rfl, if_pos hlt, Option.some.injEq] at h2
    rw [hl, Option.some.injEq] at h3
    subst h2; subst h3; exact h1
  · rw [if_neg hk] at h2
    obtain ⟨l2, h4, h5⟩ := pulB_at h j n h2
    rw [h3, Option.some.injEq] at h4
    subst h4; exact h5
/-- The better one of the two ends is the end. -/
theorem endV_hi {r : Rig} {l : Ld} (h : l.lo ≤ hiP r l) (x : Int) (most : Bool) (hc : (decide (x * l.lo > x * hiP r l) == most) = false) : x * hiP r l = x * endV r x most l := by
  unfold endV
  rcases Int.lt_trichotomy x 0 with hx | rfl | hx
  · have := Int.mul_le_mul_of_nonpos_left (a := x) (by omega) h
    cases most
    · rw [if_pos ⟨by omega, by simp; omega⟩]
    · rw [if_neg (by simp; omega)]
      simp only [beq_eq_false_iff_ne, ne_eq, decide_eq_true_eq] at hc
      omega
  · simp
  · have := Int.mul_le_mul_of_nonneg_left h (show 0 ≤ x by omega)
    cases most
    · exfalso
      simp only [beq_eq_false_iff_ne, ne_eq, Bool.not_eq_false, decide_eq_true_eq] at hc
      omega
    · rw [if_pos ⟨by omega, by simp; omega⟩]
theorem endV_lo {r : Rig} {l : Ld} (h : l.lo ≤ hiP r l) (x : Int) (most : Bool) (hc : (decide (x * l.lo > x * hiP r l) == most) = true) : x * l.lo = x * endV r x most l := by
  unfold endV
  rcases Int.lt_trichotomy x 0 with hx | rfl | hx
  · have := Int.mul_le_mul_of_nonpos_left (a := x) (by omega) h
    cases most
    · rw [if_pos ⟨by omega, by simp; omega⟩]
      simp only [beq_iff_eq, decide_eq_false_iff_not] at hc
      omega
    · rw [if_neg (by simp; omega)]
  · simp
  · have := Int.mul_le_mul_of_nonneg_left h (show 0 ≤ x by omega)
    cases most
    · rw [if_neg (by simp; omega)]
    · exfalso
      simp only [beq_iff_eq, decide_eq_true_eq] at hc
      omega
/-- What is so while one load after another is moved. -/
structure MvI (r : Rig) (LL : List Ld) (x : Row) (most : Bool) (k : Nat) (D : List Int) : Prop where
  len : D.length = LL.length
  pul : pulB r LL D = true
  at' : ∀ j, j < k → x j * D.getD j 0 = x j * (endL r x most LL).getD j 0
theorem MvI.init {r : Rig} {LL : List Ld} {x : Row} {most : Bool} {A : List Int} (h : pulB r LL A = true) : MvI r LL x most 0 A := ⟨pulB_len h, h, fun j hj => by omega⟩
theorem MvI.fin {r : Rig} {LL : List Ld} {x : Row} {most : Bool} {k : Nat} {D : List Int} (h : MvI r LL x most k D) (hk : LL.length ≤ k) : dotR x D D.length = endD r LL x most := by
  rw [h.len]; exact dot_congr _ fun j hj => h.at' j (by omega)
theorem MvI.cmp {r : Rig} {LL : List Ld} {x : Row} {most : Bool} {k : Nat} {D : List Int} (h : MvI r LL x most k D) (hk : k < LL.length) (u v : Int) : decide (dotR x (D.set k u) (D.set k u).length > dotR x (D.set k v) (D.set k v).length) = decide (x k * u > x k * v) := by
  have hkD : k < D.length := by rw [h.len]; exact hk
  rw [List.length_set, List.length_set, dot_set x D k u hkD, dot_set x D k v hkD, if_pos hkD, if_pos hkD]
  exact decide_eq_decide.2 (by omega)
theorem MvI.step {r : Rig} {LL : List Ld} {x : Row} {most : Bool} {k : Nat} {D : List Int} (h : MvI r LL x most k D) {l : Ld} (hl : LL[k]? = some l) {v : Int} (h1 : l.lo ≤ v ∧ v ≤ hiP r l) (hv : x k * v = x k * endV r (x k) most l) : MvI r LL x most (k + 1) (D.set k v) := by
  have hk : k < D.length := by rw [h.len]; exact (List.getElem?_eq_some_iff.1 hl).1
  refine ⟨by rw [List.length_set]; exact h.len, pul_set h.pul hl h1, fun j hj => ?_⟩
  rw [getD_set D k j v hk]
  by_cases he : k = j
  · subst he
    rw [if_pos rfl, hv, List.getD_eq_getElem?_getD, endL_at hl, Option.getD_some]
  · rw [if_neg he]; exact h.at' j (by omega)
theorem MvI.hi {r : Rig} {LL : List Ld} {x : Row} {most : Bool} {k : Nat} {D : List Int} (h : MvI r LL x most k D) {l : Ld} (hl : LL[k]? = some l) (hlh : l.lo ≤ hiP r l) (hc : (decide (dotR x (D.set k l.lo) (D.set k l.lo).length > dotR x (D.set k (hiP r l)) (D.set k (hiP r l)).length) == most) = false) : MvI r LL x most (k + 1) (D.set k (hiP r l)) := by
  rw [h.cmp (List.getElem?_eq_some_iff.1 hl).1] at hc
  exact h.step hl ⟨hlh, Int.le_refl _⟩ (endV_hi hlh _ _ hc)
theorem MvI.lo {r : Rig} {LL : List Ld} {x : Row} {most : Bool} {k : Nat} {D : List Int} (h : MvI r LL x most k D) {l : Ld} (hl : LL[k]? = some l) (hlh : l.lo ≤ hiP r l) (hc : (decide (dotR x (D.set k l.lo) (D.set k l.lo).length > dotR x (D.set k (hiP r l)) (D.set k (hiP r l)).length) == most) = true) : MvI r LL x most (k + 1) (D.set k l.lo) := by
  rw [h.cmp (List.getElem?_eq_some_iff.1 hl).1] at hc
  exact h.step hl ⟨Int.le_refl _, hlh⟩ (endV_lo hlh _ _ hc)
end Go.Proofs.Ytaciigegbgnadaa
