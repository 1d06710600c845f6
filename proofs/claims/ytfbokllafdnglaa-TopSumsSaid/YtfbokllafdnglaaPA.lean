/- Plain law: what points bear in a rig without beams. -/
import Derived.Test.YtfbokllafdnglaaRGL
namespace Go.Proofs.Ytfbokllafdnglaa
open Go Tx Go.RowKit
set_option linter.unusedSimpArgs false
set_option linter.unusedVariables false

/-- All loads hang at points. -/
def atP (n : Nat) (LL : List Ld) : Prop := ∀ l ∈ LL, l.beam = -1 ∧ 0 ≤ l.at' ∧ l.at' < n
def isAt (LL : List Ld) (j c : Nat) : Bool := match LL[c]? with
  | some l => decide (l.at' = (j : Int))
  | none => false
theorem lds_p {n : Nat} {LL : List Ld} (h : atP n LL) : ∀ k, k ≤ LL.length → ∀ j c, (ldsF LL k).p j c = if c < k ∧ isAt LL j c = true then 216000 else 0
  | 0, _, j, c => by simp [ldsF, F0, zr]
  | k + 1, hk, j, c => by
    obtain ⟨l, hl⟩ : ∃ l, LL[k]? = some l := ⟨_, List.getElem?_eq_getElem (by omega)⟩
    obtain ⟨hb, h0, _⟩ := h l (List.mem_of_getElem? hl)
    have ih := lds_p h k (by omega) j c
    rw [ldsF, hl]
    show (putF (ldsF LL k) l.beam l.at' (unitR k)).p j c = _
    rw [putF, if_pos hb]
    show (if j = l.at'.toNat then addR ((ldsF LL k).p j) (unitR k) else (ldsF LL k).p j) c = _
    by_cases hj : j = l.at'.toNat
    · rw [if_pos hj]
      show (ldsF LL k).p j c + (bif Nat.beq c k then 216000 else 0) = _
      rw [ih]
      cases hc : Nat.beq c k with
      | true =>
        obtain rfl := Nat.eq_of_beq_eq_true hc
        have : isAt LL j c = true := by simp [isAt, hl]; omega
        simp [this]
      | false =>
        have hne : c ≠ k := fun e => by subst e; simp at hc
        by_cases hlt : c < k
        · simp [hlt, show c < k + 1 from by omega]
        · simp [hlt, show ¬ c < k + 1 from by omega]
    · rw [if_neg hj, ih]
      by_cases hc : c = k
      · subst hc
        have : isAt LL j c = false := by simp [isAt, hl]; omega
        simp [this]
      · by_cases hlt : c < k
        · simp [hlt, show c < k + 1 from by omega]
        · simp [hlt, show ¬ c < k + 1 from by omega]
/-- The sum of the loads at a point. -/
def smP (f : Ld → Int) (j : Nat) : List Ld → Int
  | [] => 0
  | l :: L => (if l.at' = (j : Int) then f l else 0) + smP f j L
theorem smP_app (f : Ld → Int) (j : Nat) (l : Ld) : ∀ L, smP f j (L ++ [l]) = smP f j L + (if l.at' = (j : Int) then f l else 0)
  | [] => by simp [smP]
  | a :: L => by
    have := smP_app f j l L
    rw [List.cons_append, smP, this, smP]
    omega
def enF (r : Rig) (most : Bool) (l : Ld) : Int := if most = true then hiP r l else l.lo
theorem dot_at {n : Nat} {r : Rig} {LL : List Ld} (h : atP n LL) (h20 : LL.length ≤ 20) (most : Bool) (j : Nat) : ∀ k, k ≤ LL.length →
    dotR ((ldsF LL LL.length).p j) (endL r ((ldsF LL LL.length).p j) most LL) k = 216000 * smP (enF r most) j (LL.take k)
  | 0, _ => by
    show (ldsF LL LL.length).p j 20 = _
    rw [lds_p h _ (Nat.le_refl _), if_neg (by omega)]
    simp [smP]
  | k + 1, hk => by
    have ih := dot_at (r := r) h h20 most j k (by omega)
    obtain ⟨l, hl⟩ : ∃ l, LL[k]? = some l := ⟨_, List.getElem?_eq_getElem (by omega)⟩
    rw [dotR, ih, List.take_add_one, hl]
    show _ = 216000 * smP _ j (LL.take k ++ [l])
    rw [smP_app]
    have he := endL_at (r := r) (x := (ldsF LL LL.length).p j) (most := most) hl
    rw [List.getD_eq_getElem?_getD, he, lds_p h _ (Nat.le_refl _)]
    have hi : isAt LL j k = decide (l.at' = (j : Int)) := by simp [isAt, hl]
    rw [hi]
    by_cases hj : l.at' = (j : Int)
    · rw [if_pos ⟨by omega, by simpa using hj⟩, if_pos hj]
      show _ + 216000 * (endV r 216000 most l) = _
      have : endV r 216000 most l = enF r most l := by cases most <;> simp [endV, enF]
      rw [this, Int.mul_add]
    · rw [if_neg (by simp [hj]), if_neg hj]
      simp
/-- What a point bears. -/
theorem endD_at {n : Nat} {r : Rig} {LL : List Ld} (h : atP n LL) (h20 : LL.length ≤ 20) (most : Bool) (j : Nat) : endD r LL ((frF [] LL).p j) most = 216000 * smP (enF r most) j LL := by
  have := dot_at (r := r) h h20 most j LL.length (Nat.le_refl _)
  rw [List.take_length] at this
  exact this
/-- The first point that may be over. -/
def ovP (r : Rig) (PP : List Int) (LL : List Ld) : Nat := fstN (fun j => decide (smP (enF r true) j LL > PP.getD j 0)) PP.length 0
theorem ovF_at {n : Nat} {r : Rig} {PP : List Int} {LL : List Ld} (h : atP n LL) (h20 : LL.length ≤ 20) : ovF r PP LL (frF [] LL) = ovP r PP LL := by
  unfold ovF ovP
  congr 1
  funext j
  rw [endD_at h h20]
  congr 1
  simp only [gt_iff_lt, eq_iff_iff]
  omega
theorem ovO_at {n : Nat} {r : Rig} {PP : List Int} {LL : List Ld} (h : atP n LL) (h20 : LL.length ≤ 20) : ovO r PP [] LL (frF [] LL) = if ovP r PP LL < PP.length then some (-1, (ovP r PP LL : Int), (frF [] LL).p (ovP r PP LL)) else none := by
  unfold ovO
  rw [ovF_at h h20]
  rfl
end Go.Proofs.Ytfbokllafdnglaa
