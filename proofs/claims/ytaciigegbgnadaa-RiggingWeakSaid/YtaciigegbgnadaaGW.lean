/- A frame's rows are not great: a weighted sum of what all parts are given does not grow. -/
import Derived.Test.YtaciigegbgnadaaGV
namespace Go.Proofs.Ytaciigegbgnadaa
open Go Tx Go.RowKit
set_option linter.unusedSimpArgs false
set_option linter.unusedVariables false

def sumN : Nat → (Nat → Nat) → Nat
  | 0, _ => 0
  | n + 1, f => sumN n f + f n
theorem sumN_le {f g : Nat → Nat} {k d : Nat} (h1 : ∀ j, j ≠ k → g j ≤ f j) (h2 : g k ≤ f k + d) : ∀ n, sumN n g ≤ sumN n f + (if k < n then d else 0)
  | 0 => by simp [sumN]
  | n + 1 => by
    have ih := sumN_le h1 h2 n
    simp only [sumN]
    by_cases hn : n = k
    · subst hn
      rw [if_neg (by omega)] at ih
      rw [if_pos (by omega)]
      omega
    · have := h1 n hn
      split at ih
      · rw [if_pos (by omega)]; omega
      · rw [if_neg (by omega)]; omega
theorem sumN_le' {f g : Nat → Nat} {k d : Nat} (h1 : ∀ j, j ≠ k → g j ≤ f j) (h2 : g k ≤ f k + d) (n : Nat) : sumN n g ≤ sumN n f + d := by
  have := sumN_le h1 h2 n
  split at this <;> omega
theorem sumN_mem {f : Nat → Nat} {k : Nat} : ∀ {n}, k < n → f k ≤ sumN n f
  | n + 1, h => by
    simp only [sumN]
    by_cases hk : k = n
    · subst hk; omega
    · have := sumN_mem (f := f) (show k < n by omega); omega
theorem sumN_mono {f : Nat → Nat} {n m : Nat} (h : n ≤ m) : sumN n f ≤ sumN m f := by
  induction m with
  | zero => rw [Nat.le_zero.1 h]; exact Nat.le_refl _
  | succ m ih =>
    by_cases hn : n = m + 1
    · subst hn; exact Nat.le_refl _
    · have := ih (by omega)
      simp only [sumN]; omega
theorem sumN_zero {f : Nat → Nat} (h : ∀ j, f j = 0) : ∀ n, sumN n f = 0
  | 0 => rfl
  | n + 1 => by rw [sumN, sumN_zero h n, h]

/-- The weighted sum. -/
def phi (wt : Nat → Nat) (F : Fr) (N I c : Nat) : Nat := sumN N (fun j => (F.p j c).natAbs) + sumN I (fun b => wt b * sumN 61 (fun a => (F.u b a c).natAbs))
def pw (wt : Nat → Nat) (b : Int) : Nat := if b = -1 then 1 else wt b.toNat
theorem phi_putU (wt : Nat → Nat) (F : Fr) (b a : Nat) (x : Row) (N I c : Nat) : phi wt (putU F b a x) N I c ≤ phi wt F N I c + wt b * (x c).natAbs := by
  have h := sumN_le' (f := fun b => wt b * sumN 61 (fun a => (F.u b a c).natAbs)) (g := fun b' => wt b' * sumN 61 (fun a' => ((putU F b a x).u b' a' c).natAbs)) (k := b) (d := wt b * (x c).natAbs) (fun j hj => ?_) ?_ I
  · unfold phi
    have hp : (putU F b a x).p = F.p := rfl
    rw [hp]
    omega
  · simp only [putU, if_neg hj]; exact Nat.le_refl _
  · have h2 := sumN_le' (f := fun a => (F.u b a c).natAbs) (g := fun a' => ((putU F b a x).u b a' c).natAbs) (k := a) (d := (x c).natAbs) (fun j hj => by simp only [putU, if_true, if_neg hj]; exact Nat.le_refl _) (by simp only [putU, if_true, addR]; omega) 61
    have := Nat.mul_le_mul_left (wt b) h2
    rw [Nat.mul_add] at this
    exact this
theorem phi_putP (wt : Nat → Nat) (F : Fr) (a : Nat) (x : Row) (N I c : Nat) : phi wt (putP F a x) N I c ≤ phi wt F N I c + (x c).natAbs := by
  have h := sumN_le' (f := fun j => (F.p j c).natAbs) (g := fun j => ((putP F a x).p j c).natAbs) (k := a) (d := (x c).natAbs) (fun j hj => by simp only [putP, if_neg hj]; exact Nat.le_refl _) (by simp only [putP, if_true, addR]; omega) N
  unfold phi
  have hu : (putP F a x).u = F.u := rfl
  rw [hu]
  omega
theorem phi_put (wt : Nat → Nat) (F : Fr) (b a : Int) (x : Row) (N I c : Nat) : phi wt (putF F b a x) N I c ≤ phi wt F N I c + pw wt b * (x c).natAbs := by
  unfold putF pw
  split
  · have := phi_putP wt F a.toNat x N I c; omega
  · exact phi_putU wt F b.toNat a.toNat x N I c

/-- All of a column is at most B, of beams from I on and beyond all notches as well. -/
structure Inv (wt : Nat → Nat) (F : Fr) (I c B : Nat) : Prop where
  f1 : ∀ N, phi wt F N I c ≤ B
  f2 : ∀ j k, (F.h j k c).natAbs ≤ B
  f3 : ∀ j a, (I ≤ j ∨ 61 ≤ a) → (F.u j a c).natAbs ≤ B
def Bnd (F : Fr) (c B : Nat) : Prop := (∀ j, (F.p j c).natAbs ≤ B) ∧ (∀ j k, (F.h j k c).natAbs ≤ B) ∧ (∀ j a, (F.u j a c).natAbs ≤ B)
theorem Inv.bnd {wt : Nat → Nat} {F : Fr} {I c B : Nat} (h : Inv wt F I c B) (hw : ∀ j, j < I → 1 ≤ wt j) : Bnd F c B := by
  refine ⟨fun j => ?_, h.f2, fun j a => ?_⟩
  · have := h.f1 (j + 1)
    have h2 := sumN_mem (f := fun j => (F.p j c).natAbs) (show j < j + 1 by omega)
    unfold phi at this
    omega
  · by_cases hj : I ≤ j ∨ 61 ≤ a
    · exact h.f3 j a hj
    · have := h.f1 0
      have h2 := sumN_mem (f := fun a => (F.u j a c).natAbs) (show a < 61 by omega)
      have h3 := sumN_mem (f := fun b => wt b * sumN 61 (fun a => (F.u b a c).natAbs)) (show j < I by omega)
      have h4 := Nat.le_mul_of_pos_left (sumN 61 (fun a => (F.u j a c).natAbs)) (hw j (by omega))
      unfold phi at this
      omega
theorem Inv.mono {wt : Nat → Nat} {F : Fr} {I c B B' : Nat} (h : Inv wt F I c B) (hB : B ≤ B') : Inv wt F I c B' :=
  ⟨fun N => Nat.le_trans (h.f1 N) hB, fun j k => Nat.le_trans (h.f2 j k) hB, fun j a hj => Nat.le_trans (h.f3 j a hj) hB⟩
theorem Inv.put {wt : Nat → Nat} {F : Fr} {I c B n : Nat} (h : Inv wt F I c B) {b a : Int} {x : Row} (hh : hasB n b a I = true) : Inv wt (putF F b a x) I c (B + pw wt b * (x c).natAbs) := by
  refine ⟨fun N => ?_, fun j k => ?_, fun j k hj => ?_⟩
  · have := phi_put wt F b a x N I c
    have := h.f1 N
    omega
  · rw [put_h]
    have := h.f2 j k
    omega
  · have := h.f3 j k hj
    rcases hasB_cases hh with ⟨rfl, _, _⟩ | ⟨hne, ⟨h1, h2⟩, h3, h4⟩
    · have hu : (putF F (-1) a x).u = F.u := rfl
      rw [hu]; omega
    · have hu : (putF F b a x).u j k = F.u j k := by
        unfold putF
        rw [if_neg hne]
        simp only [putU]
        split
        · rw [if_neg (by omega)]
        · rfl
      rw [hu]; omega
/-- What goes left and right of a force is at most 13 times as much. -/
theorem part_abs {lo hi a : Int} (f : Row) (c : Nat) (hs : 10 ≤ hi - lo) (hl : 0 ≤ lo ∧ lo ≤ 60) (ha : 0 ≤ a ∧ a ≤ 60) : (lft lo hi a f c).natAbs + (rgt lo hi a f c).natAbs ≤ 13 * (f c).natAbs := by
  unfold lft rgt
  have h1 : ((f c).tdiv (hi - lo)).natAbs = (f c).natAbs / (hi - lo).natAbs := Int.natAbs_tdiv _ _
  have h2 : (f c).natAbs / (hi - lo).natAbs ≤ (f c).natAbs / 10 := Nat.div_le_div_left (by omega) (by omega)
  have h3 := Int.natAbs_mul ((f c).tdiv (hi - lo)) (a - lo)
  have h4 : ((f c).tdiv (hi - lo)).natAbs * (a - lo).natAbs ≤ ((f c).natAbs / 10) * 60 := Nat.mul_le_mul (by omega) (by omega)
  generalize (f c).tdiv (hi - lo) * (a - lo) = z at *
  omega
theorem hgF_p (b : Bm) (i : Nat) (F : Fr) : ∀ a, (hgF b i F a).p = F.p
  | 0 => rfl
  | a + 1 => hgF_p b i F a
theorem hgF_h (b : Bm) (i : Nat) (F : Fr) {j : Nat} (hj : j ≠ i) : ∀ a, (hgF b i F a).h j = F.h j
  | 0 => rfl
  | a + 1 => by
    have := hgF_h b i F hj a
    rw [← this]
    funext k
    simp only [hgF, hStep, setH, if_neg hj]
theorem hgF_hi (b : Bm) (i : Nat) (F : Fr) (a : Nat) : (hgF b i F (a + 1)).h i 0 = addR ((hgF b i F a).h i 0) (lft b.lo b.hi a (F.u i a)) ∧ (hgF b i F (a + 1)).h i 1 = addR ((hgF b i F a).h i 1) (rgt b.lo b.hi a (F.u i a)) ∧ ∀ k, 2 ≤ k → (hgF b i F (a + 1)).h i k = (hgF b i F a).h i k := by
  have hu : (hgF b i F a).u = F.u := hgF_u b i F a
  refine ⟨?_, ?_, fun k hk => ?_⟩
  · show (hStep b i a (hgF b i F a)).h i 0 = _
    unfold hStep
    rw [hu]
    simp [setH]
  · show (hStep b i a (hgF b i F a)).h i 1 = _
    unfold hStep
    rw [hu]
    simp [setH]
  · show (hStep b i a (hgF b i F a)).h i k = _
    unfold hStep
    simp only [setH, if_true]
    rw [if_neg (by omega), if_neg (by omega)]
/-- What a beam's hangers are given. -/
theorem hgF_abs {b : Bm} {i : Nat} {F : Fr} {c : Nat} (h0 : ∀ k, F.h i k c = 0) (hs : 10 ≤ b.hi - b.lo) (hl : 0 ≤ b.lo ∧ b.lo ≤ 60) : ∀ a : Nat, a ≤ 61 → ((hgF b i F a).h i 0 c).natAbs + ((hgF b i F a).h i 1 c).natAbs ≤ 13 * sumN a (fun a => (F.u i a c).natAbs) ∧ ∀ k, 2 ≤ k → (hgF b i F a).h i k c = 0
  | 0, _ => ⟨by show (F.h i 0 c).natAbs + (F.h i 1 c).natAbs ≤ _; rw [h0, h0]; simp, fun k _ => h0 k⟩
  | a + 1, ha => by
    obtain ⟨ih, ih2⟩ := hgF_abs h0 hs hl a (by omega)
    obtain ⟨e1, e2, e3⟩ := hgF_hi b i F a
    have hp := part_abs (a := (a : Int)) (F.u i a) c hs hl (by omega)
    refine ⟨?_, fun k hk => by rw [e3 k hk]; exact ih2 k hk⟩
    rw [e1, e2]
    simp only [sumN, addR]
    omega
theorem phi_succ (wt : Nat → Nat) (F : Fr) (N i c : Nat) : phi wt F N (i + 1) c = phi wt F N i c + wt i * sumN 61 (fun a => (F.u i a c).natAbs) := by
  unfold phi
  rw [Nat.add_assoc]
  rfl
/-- One beam. -/
theorem Inv.beam {wt : Nat → Nat} {F : Fr} {i c B n : Nat} {b : Bm} (h : Inv wt F (i + 1) c B) (hz : ∀ k, F.h i k c = 0) (hok : bmOk n i b = true) (hs : 10 ≤ b.hi - b.lo)
    (hw0 : ∀ j, j < i + 1 → 1 ≤ wt j) (hw1 : 13 * pw wt b.ab ≤ wt i) (hw2 : 13 * pw wt b.bb ≤ wt i) :
    (∀ a, a ≤ 61 → Bnd (hgF b i (putU F i 30 (wtR b)) a) c (B + wt i * (wtR b c).natAbs)) ∧
    (∀ a : Nat, a < 61 → (lft b.lo b.hi a ((putU F i 30 (wtR b)).u i a) c).natAbs ≤ B + wt i * (wtR b c).natAbs ∧ (rgt b.lo b.hi a ((putU F i 30 (wtR b)).u i a) c).natAbs ≤ B + wt i * (wtR b c).natAbs) ∧
    Bnd (putF (bmG b i F) b.ab b.aa ((bmG b i F).h i 0)) c (B + wt i * (wtR b c).natAbs) ∧ Inv wt (bmF b i F) i c (B + wt i * (wtR b c).natAbs) := by
  rw [bmOk_iff] at hok
  obtain ⟨c1, c2, c3, c4, c5, c6, c7⟩ := hok
  generalize hB1 : B + wt i * (wtR b c).natAbs = B1
  have hA : Inv wt (putU F i 30 (wtR b)) (i + 1) c B1 := by
    refine ⟨fun N => ?_, fun j k => ?_, fun j a hj => ?_⟩
    · have := phi_putU wt F i 30 (wtR b) N (i + 1) c
      have := h.f1 N
      omega
    · have := h.f2 j k
      show (F.h j k c).natAbs ≤ _
      omega
    · have h3 := h.f3 j a hj
      have hu : (putU F i 30 (wtR b)).u j a = F.u j a := by
        simp only [putU]
        split
        · rw [if_neg (by omega)]
        · rfl
      rw [hu]; omega
  have hz1 : ∀ k, (putU F i 30 (wtR b)).h i k c = 0 := hz
  unfold bmF bmG
  generalize putU F i 30 (wtR b) = F1 at *
  have hAb := hA.bnd hw0
  have hS : ∀ N, phi wt F1 N i c + wt i * sumN 61 (fun a => (F1.u i a c).natAbs) ≤ B1 := fun N => by
    have := hA.f1 N
    rw [phi_succ] at this
    exact this
  have h13 : 13 ≤ wt i := by
    have : 1 ≤ pw wt b.ab := by
      unfold pw
      split
      · exact Nat.le_refl _
      · rcases hasB_cases c4 with h | h
        · exact absurd h.1 (by assumption)
        · exact hw0 _ (by omega)
    omega
  have hS2 : 13 * sumN 61 (fun a => (F1.u i a c).natAbs) ≤ B1 := by
    have := hS 0
    have := Nat.mul_le_mul_right (sumN 61 (fun a => (F1.u i a c).natAbs)) h13
    omega
  have hh := hgF_abs hz1 hs c1
  have hbn : ∀ a, a ≤ 61 → Bnd (hgF b i F1 a) c B1 := fun a ha => by
    refine ⟨fun j => by rw [hgF_p]; exact hAb.1 j, fun j k => ?_, fun j k => by rw [hgF_u]; exact hAb.2.2 j k⟩
    by_cases hj : j = i
    · subst hj
      obtain ⟨q1, q2⟩ := hh a ha
      have q3 := sumN_mono (f := fun a => (F1.u j a c).natAbs) ha
      match k with
      | 0 => omega
      | 1 => omega
      | k + 2 => rw [q2 (k + 2) (by omega)]; simp
    · rw [hgF_h b i F1 hj]; exact hAb.2.1 j k
  obtain ⟨q1, _⟩ := hh 61 (Nat.le_refl _)
  have hGi : Inv wt (hgF b i F1 61) i c (B1 - wt i * sumN 61 (fun a => (F1.u i a c).natAbs)) ∨ True := .inr trivial
  have hG := hbn 61 (Nat.le_refl _)
  have e1 : ∀ N, phi wt (hgF b i F1 61) N i c = phi wt F1 N i c := fun N => by unfold phi; rw [hgF_p, hgF_u]
  generalize hL : (hgF b i F1 61).h i 0 = L at *
  generalize hR : (hgF b i F1 61).h i 1 = R at *
  generalize hGG : hgF b i F1 61 = G at *
  generalize hSS : sumN 61 (fun a => (F1.u i a c).natAbs) = S at *
  have hM : pw wt b.ab * (L c).natAbs + pw wt b.bb * (R c).natAbs ≤ wt i * S := by
    have m1 : ∀ M, pw wt b.ab ≤ M → pw wt b.bb ≤ M → 13 * M ≤ wt i → pw wt b.ab * (L c).natAbs + pw wt b.bb * (R c).natAbs ≤ wt i * S := fun M ha hb hc => by
      have k1 := Nat.mul_le_mul_right (L c).natAbs ha
      have k2 := Nat.mul_le_mul_right (R c).natAbs hb
      have k3 := Nat.mul_le_mul_left M q1
      rw [Nat.mul_add] at k3
      have k4 := Nat.mul_le_mul_right S hc
      rw [Nat.mul_comm 13 M, Nat.mul_assoc] at k4
      omega
    rcases Nat.le_total (pw wt b.ab) (pw wt b.bb) with h | h
    · exact m1 _ h (Nat.le_refl _) hw2
    · exact m1 _ (Nat.le_refl _) h hw1
  have hI1 : Inv wt (putF G b.ab b.aa L) i c B1 := by
    refine ⟨fun N => ?_, fun j k => by rw [put_h]; exact hG.2.1 j k, fun j k hj => ?_⟩
    · have := phi_put wt G b.ab b.aa L N i c
      have := hS N
      rw [e1 N] at *
      omega
    · have hu : (putF G b.ab b.aa L).u j k = G.u j k := by
        unfold putF
        split
        · rfl
        · rcases hasB_cases c4 with h | h
          · exact absurd h.1 (by assumption)
          · simp only [putU]
            split
            · rw [if_neg (by omega)]
            · rfl
      rw [hu]; exact hG.2.2 j k
  refine ⟨hbn, fun a ha => ?_, hI1.bnd fun j hj => hw0 j (by omega), fun N => ?_, fun j k => by rw [put_h]; exact hI1.f2 j k, fun j k hj => ?_⟩
  · have hp := part_abs (a := (a : Int)) (F1.u i a) c hs c1 (by omega)
    have := sumN_mem (f := fun a => (F1.u i a c).natAbs) ha
    omega
  · have := phi_put wt G b.ab b.aa L N i c
    have := phi_put wt (putF G b.ab b.aa L) b.bb b.ba R N i c
    have := hS N
    rw [e1 N] at *
    omega
  · have hu : (putF (putF G b.ab b.aa L) b.bb b.ba R).u j k = (putF G b.ab b.aa L).u j k := by
      generalize putF G b.ab b.aa L = G'
      unfold putF
      split
      · rfl
      · rcases hasB_cases c5 with h | h
        · exact absurd h.1 (by assumption)
        · simp only [putU]
          split
          · rw [if_neg (by omega)]
          · rfl
    rw [hu]; exact hI1.f3 j k hj
end Go.Proofs.Ytaciigegbgnadaa
