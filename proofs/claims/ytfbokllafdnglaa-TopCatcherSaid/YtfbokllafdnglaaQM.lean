/- One load more: what bears a greater one bears a lesser one. -/
import Derived.Test.YtfbokllafdnglaaRGL
namespace Go.Proofs.Ytfbokllafdnglaa
open Go Tx Go.RowKit
set_option linter.unusedSimpArgs false
set_option linter.unusedVariables false

theorem pulB_len {r : Rig} : ∀ {L : List Ld} {P : List Int}, pulB r L P = true → P.length = L.length
  | [], [], _ => rfl
  | l :: L, n :: P, h => by
    rw [pulB, Bool.and_eq_true] at h
    simp [pulB_len h.2]
theorem hi_lo {r : Rig} {PP : List Int} {BB : List Bm} {LL : List Ld} (hr : rigOk r.f0 r.f1 r.f2 PP BB LL = true) {k : Nat} {l : Ld} (h : LL[k]? = some l) : l.lo ≤ hiP r l := by
  have hri := rigOk_iff.1 hr
  have hlo := List.all_eq_true.1 hri.2.2.2.2.2.2 l (List.mem_of_getElem? h)
  rw [ldOk_iff] at hlo
  have hb := hiP_bd (fac_bd (r := r) hri.2.2.2.2.2.1 l.kind) hlo.2.2.2.1
  omega
theorem endV_bd {r : Rig} {l : Ld} (h : l.lo ≤ hiP r l) (x : Int) (most : Bool) : l.lo ≤ endV r x most l ∧ endV r x most l ≤ hiP r l := by
  unfold endV
  split <;> omega
theorem endL_pul {r : Rig} {PP : List Int} {BB : List Bm} {LL : List Ld} (hr : rigOk r.f0 r.f1 r.f2 PP BB LL = true) (x : Row) (most : Bool) : pulB r LL (endL r x most LL) = true := by
  refine pulB_of (endL_len _ _ _ _) fun k n l h1 h2 => ?_
  rw [endL_at h2, Option.some.injEq] at h1
  rw [← h1]
  exact endV_bd (hi_lo hr h2) _ _
theorem endV_le {r : Rig} {l : Ld} {n : Int} (x : Int) (h1 : l.lo ≤ n) (h2 : n ≤ hiP r l) : x * endV r x false l ≤ x * n ∧ x * n ≤ x * endV r x true l := by
  unfold endV
  rcases Int.lt_trichotomy x 0 with h | rfl | h
  · rw [if_pos ⟨by omega, by simp; omega⟩, if_neg (by simp; omega)]
    exact ⟨Int.mul_le_mul_of_nonpos_left (by omega) h2, Int.mul_le_mul_of_nonpos_left (by omega) h1⟩
  · simp
  · rw [if_neg (by simp; omega), if_pos ⟨by omega, by simp; omega⟩]
    exact ⟨Int.mul_le_mul_of_nonneg_left h1 (by omega), Int.mul_le_mul_of_nonneg_left h2 (by omega)⟩
theorem dot_end {r : Rig} {LL : List Ld} {A : List Int} (hA : pulB r LL A = true) (x : Row) : endD r LL x false ≤ dotR x A A.length ∧ dotR x A A.length ≤ endD r LL x true := by
  have key : ∀ k, k ≤ LL.length → dotR x (endL r x false LL) k ≤ dotR x A k ∧ dotR x A k ≤ dotR x (endL r x true LL) k := by
    intro k
    induction k with
    | zero => intro _; exact ⟨Int.le_refl _, Int.le_refl _⟩
    | succ k ih =>
      intro hk
      have ih := ih (by omega)
      obtain ⟨n, hn⟩ : ∃ n, A[k]? = some n := ⟨_, List.getElem?_eq_getElem (by rw [pulB_len hA]; omega)⟩
      obtain ⟨l, hl, h1, h2⟩ := pulB_at hA k n hn
      have := endV_le (r := r) (x k) h1 h2
      rw [dotR, dotR, dotR, List.getD_eq_getElem?_getD, List.getD_eq_getElem?_getD, List.getD_eq_getElem?_getD, hn, endL_at hl, endL_at hl]
      simp only [Option.getD_some]
      omega
  rw [pulB_len hA]
  exact key _ (Nat.le_refl _)
theorem ldsF_same {L L' : List Ld} (h : ∀ k : Nat, (L[k]?).map (fun l => (l.beam, l.at')) = (L'[k]?).map (fun l => (l.beam, l.at'))) : ∀ k, ldsF L k = ldsF L' k
  | 0 => rfl
  | k + 1 => by
    have q := h k
    rw [ldsF, ldsF, ldsF_same h k]
    cases h1 : L[k]? with
    | none => cases h2 : L'[k]? with
      | none => rfl
      | some l' => rw [h1, h2] at q; simp at q
    | some l => cases h2 : L'[k]? with
      | none => rw [h1, h2] at q; simp at q
      | some l' =>
        rw [h1, h2] at q
        simp only [Option.map_some, Option.some.injEq, Prod.mk.injEq] at q
        dsimp only
        rw [q.1, q.2]
theorem more_at {LL : List Ld} {x : Ld} {k : Nat} {l : Ld} (h : (LL ++ [x])[k]? = some l) : LL[k]? = some l ∨ (k = LL.length ∧ l = x) := by
  rw [List.getElem?_append] at h
  split at h
  · exact .inl h
  · rename_i hk
    have : k - LL.length = 0 := by
      cases hz : k - LL.length with
      | zero => rfl
      | succ m => rw [hz] at h; simp at h
    rw [this, List.getElem?_cons_zero, Option.some.injEq] at h
    exact .inr ⟨by omega, h.symm⟩
theorem frF_more (BB : List Bm) (LL : List Ld) (x y : Ld) (h : x.beam = y.beam ∧ x.at' = y.at') : frF BB (LL ++ [x]) = frF BB (LL ++ [y]) := by
  unfold frF
  rw [show (LL ++ [x]).length = (LL ++ [y]).length from by simp]
  rw [ldsF_same (L := LL ++ [x]) (L' := LL ++ [y])]
  intro k
  rw [List.getElem?_append, List.getElem?_append]
  split
  · rfl
  · cases k - LL.length with
    | zero => simp [h.1, h.2]
    | succ m => simp
theorem ends_more {r : Rig} {PP : List Int} {BB : List Bm} {LL : List Ld} {x y : Ld} (hr : rigOk r.f0 r.f1 r.f2 PP BB (LL ++ [x]) = true) (hl : x.lo = y.lo) (hh : hiP r x ≤ hiP r y) (R : Row) :
    endD r (LL ++ [y]) R false ≤ endD r (LL ++ [x]) R false ∧ endD r (LL ++ [x]) R true ≤ endD r (LL ++ [y]) R true := by
  have key : ∀ most, pulB r (LL ++ [y]) (endL r R most (LL ++ [x])) = true := fun most => by
    have h := endL_pul hr R most
    refine pulB_of (by rw [endL_len]; simp) fun k n l h1 h2 => ?_
    obtain ⟨l', q1, q2, q3⟩ := pulB_at h k n h1
    rcases more_at q1 with g | ⟨g, rfl⟩
    · have : (LL ++ [y])[k]? = some l' := by rw [List.getElem?_append_left (List.getElem?_eq_some_iff.1 g).1]; exact g
      rw [this, Option.some.injEq] at h2
      subst h2
      exact ⟨q2, q3⟩
    · subst g
      rw [List.getElem?_append_right (Nat.le_refl _), Nat.sub_self, List.getElem?_cons_zero, Option.some.injEq] at h2
      subst h2
      omega
  have e : ∀ most, endD r (LL ++ [x]) R most = dotR R (endL r R most (LL ++ [x])) (endL r R most (LL ++ [x])).length := fun most => by rw [endL_len]; rfl
  rw [e false, e true]
  exact ⟨(dot_end (key false) R).1, (dot_end (key true) R).2⟩
theorem wk_none {F : Fr} {o : Option (Int × Int)} : (wkP F o).isNone = o.isNone := by cases o <;> rfl
theorem find_none {p q : Int × Int → Bool} {L : List (Int × Int)} (h : ∀ x, p x = true → q x = true) (hq : (L.find? q).isNone = true) : (L.find? p).isNone = true := by
  rw [Option.isNone_iff_eq_none, List.find?_eq_none] at hq ⊢
  exact fun x hx hp => hq x hx (h x hp)
/-- What bears n bears m. -/
theorem sfB_mono {r : Rig} {PP : List Int} {BB : List Bm} {LL : List Ld} {b a : Int} {kd : Nat} {m n : Int} (hr : rigOk r.f0 r.f1 r.f2 PP BB (LL ++ [⟨b, a, kd, 0, m⟩]) = true) (hf : 0 ≤ r.fac kd) (hmn : m ≤ n) (h : sfB r PP BB LL b a kd n = true) : sfB r PP BB LL b a kd m = true := by
  have hh : hiP r ⟨b, a, kd, 0, m⟩ ≤ hiP r ⟨b, a, kd, 0, n⟩ := by
    unfold hiP
    have := Int.mul_le_mul_of_nonneg_right hmn hf
    exact Int.ediv_le_ediv (by omega) (by dsimp only; omega)
  have hF := frF_more BB LL ⟨b, a, kd, 0, m⟩ ⟨b, a, kd, 0, n⟩ ⟨rfl, rfl⟩
  have hE := ends_more hr (y := ⟨b, a, kd, 0, n⟩) rfl hh
  unfold sfB sfW at h ⊢
  rw [Bool.and_eq_true] at h ⊢
  rw [hF]
  rw [ovO_find, slO_find r PP, wk_none, wk_none] at h ⊢
  refine ⟨find_none (fun q hq => ?_) h.1, find_none (fun q hq => ?_) h.2⟩
  · unfold ovQ at hq ⊢
    rw [decide_eq_true_eq] at hq ⊢
    have := (hE (rowP (frF BB (LL ++ [⟨b, a, kd, 0, n⟩])) q.1 q.2)).2
    omega
  · unfold slQ at hq ⊢
    rw [Bool.and_eq_true, decide_eq_true_eq, decide_eq_true_eq] at hq ⊢
    have := (hE (rowP (frF BB (LL ++ [⟨b, a, kd, 0, n⟩])) q.1 q.2)).1
    omega
end Go.Proofs.Ytfbokllafdnglaa
