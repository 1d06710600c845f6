import Derived.Test.YtaciigegbgnadaaIM
/- Levers: the plain law. -/
namespace Go.Proofs.Ytaciigegbgnadaa
open Go Tx Go.RowKit
set_option linter.unusedSimpArgs false
set_option linter.unusedVariables false

theorem dotR_zero (x : Row) (Z : List Int) (hz : ∀ i, Z.getD i 0 = 0) : ∀ k, dotR x Z k = x 20
  | 0 => rfl
  | k + 1 => by rw [dotR, dotR_zero x Z hz k, hz, Int.mul_zero, Int.add_zero]
/-- Bearing is linear in the pulls. -/
theorem dotR_add (x : Row) (A B C Z : List Int) (hC : ∀ i, C.getD i 0 = A.getD i 0 + B.getD i 0) (hz : ∀ i, Z.getD i 0 = 0) : ∀ k, dotR x A k + dotR x B k = dotR x C k + dotR x Z k
  | 0 => rfl
  | k + 1 => by
    have := dotR_add x A B C Z hC hz k
    simp only [dotR, hC, hz, Int.mul_add, Int.mul_zero]
    omega
section
variable {f0 f1 f2 : Int} {PP : List Int} {BB : List Bm} {LL : List Ld} (hr : rigOk f0 f1 f2 PP BB LL = true)
include hr
/-- A lower place gives nothing to a beam's hanger. -/
theorem gq_low : ∀ (N : Nat) (b a f : Int) (k : Nat) (c : Int) (i : Int), b < N → i ≤ BB.length → hasB PP.length b a i = true → b < k → gq BB b a f ((k : Int), c) = 0 := by
  have hG := rig_G hr
  intro N
  induction N with
  | zero =>
    intro b a f k c i hb hi hh hbk
    rcases hasB_cases hh with ⟨rfl, _⟩ | ⟨_, ⟨h, _⟩, _⟩
    · rw [gq_pt, if_neg (by simp only [Prod.mk.injEq]; omega)]
    · omega
  | succ N ih =>
    intro b a f k c i hb hi hh hbk
    rcases hasB_cases hh with ⟨rfl, _⟩ | ⟨_, ⟨h1, h2⟩, h3⟩
    · rw [gq_pt, if_neg (by simp only [Prod.mk.injEq]; omega)]
    · obtain ⟨j, rfl⟩ := Int.eq_ofNat_of_zero_le h1
      obtain ⟨m, hm⟩ : ∃ m, BB[j]? = some m := ⟨_, List.getElem?_eq_getElem (by omega)⟩
      have hok := bmOk_iff.1 (bm_at hr hm)
      have ho := hG.on j m hm
      rw [gq_bm hG hm, ih m.ab m.aa _ k c j (by omega) (by omega) hok.2.2.2.1 (by omega), ih m.bb m.ba _ k c j (by omega) (by omega) hok.2.2.2.2.1 (by omega), if_neg (by simp only [Prod.mk.injEq]; omega), if_neg (by simp only [Prod.mk.injEq]; omega)]
      rfl
/-- A load in the middle gives half to each hanger. -/
theorem gq_mid {k : Nat} {m : Bm} (hm : BB[k]? = some m) (he : (m.lo + m.hi) % 2 = 0) : gq BB k ((m.lo + m.hi) / 2) 216000 ((k : Int), 0) = 108000 ∧ gq BB k ((m.lo + m.hi) / 2) 216000 ((k : Int), 1) = 108000 := by
  have hG := rig_G hr
  have hok := bmOk_iff.1 (bm_at hr hm)
  have ho := hG.on k m hm
  have hkl := (List.getElem?_eq_some_iff.1 hm).1
  have hR : gvR m ((m.lo + m.hi) / 2) 216000 = 108000 := by
    have hs := hok.2.2.1
    unfold spanB spL at hs
    rw [List.contains_iff_mem] at hs
    simp only [List.mem_cons, List.not_mem_nil, or_false] at hs
    unfold gvR
    have h2 : (m.lo + m.hi) / 2 - m.lo = (m.hi - m.lo) / 2 := by omega
    have h3 : (m.hi - m.lo) % 2 = 0 := by omega
    rw [h2]
    generalize m.hi - m.lo = d at *
    rcases hs with rfl | rfl | rfl | rfl | rfl | rfl
    all_goals first | decide | (exfalso; omega)
  have z1 := fun f c => gq_low hr (m.ab.toNat + 1) m.ab m.aa f k c k (by omega) (by omega) hok.2.2.2.1 (by omega)
  have z2 := fun f c => gq_low hr (m.bb.toNat + 1) m.bb m.ba f k c k (by omega) (by omega) hok.2.2.2.2.1 (by omega)
  rw [gq_bm hG hm, gq_bm hG hm, hR, z1, z2, z1, z2]
  refine ⟨?_, ?_⟩
  · rw [if_pos rfl, if_neg (by simp)]; rfl
  · rw [if_neg (by simp), if_pos rfl]; rfl
end
end Go.Proofs.Ytaciigegbgnadaa

/- Levers: the loads made great; one more load in the middle. -/
namespace Go.Proofs.Ytaciigegbgnadaa
open Go Tx Go.RowKit
set_option linter.unusedSimpArgs false
set_option linter.unusedVariables false

def gl (l : Ld) : Ld := ⟨l.beam, l.at', l.kind, 0, 1000000⟩
theorem rigOk_gl {f0 f1 f2 : Int} {PP : List Int} {BB : List Bm} {LL : List Ld} (hr : rigOk f0 f1 f2 PP BB LL = true) : rigOk f0 f1 f2 PP BB (LL.map gl) = true := by
  rw [rigOk_iff] at hr ⊢
  obtain ⟨h1, h2, h3, h4, h5, h6, h7⟩ := hr
  refine ⟨h1, h2, h3, h4, by rw [List.length_map]; exact h5, h6, ?_⟩
  rw [List.all_eq_true] at h7 ⊢
  intro l hl
  obtain ⟨l0, hl0, rfl⟩ := List.mem_map.1 hl
  have := h7 l0 hl0
  rw [ldOk_iff] at this ⊢
  exact ⟨this.1, this.2.1, by show (0 : Int) ≤ 0 ∧ (0 : Int) ≤ 1000000; omega, by show (0 : Int) ≤ 1000000 ∧ (1000000 : Int) ≤ 1000000; omega, by show (0 : Int) ≤ 1000000; omega⟩
def ml (m : Bm) (k : Nat) : Ld := ⟨k, (m.lo + m.hi) / 2, 0, 0, 1000⟩
theorem rigOk_ml {f0 f1 f2 : Int} {PP : List Int} {BB : List Bm} {LL : List Ld} (hr : rigOk f0 f1 f2 PP BB LL = true) {k : Nat} {m : Bm} (hm : BB[k]? = some m) (hl : LL.length < 20) : rigOk f0 f1 f2 PP BB (LL ++ [ml m k]) = true := by
  have hok := bmOk_iff.1 (bm_at hr hm)
  have hkl := (List.getElem?_eq_some_iff.1 hm).1
  rw [rigOk_iff] at hr ⊢
  obtain ⟨h1, h2, h3, h4, h5, h6, h7⟩ := hr
  refine ⟨h1, h2, h3, h4, by rw [List.length_append]; simp; omega, h6, ?_⟩
  rw [List.all_append, h7, Bool.true_and, List.all_cons, List.all_nil, Bool.and_true, ldOk_iff]
  refine ⟨?_, by show ((0 : Nat) : Int) ≤ 2; omega, by show (0 : Int) ≤ 0 ∧ (0 : Int) ≤ 1000000; omega, by show (0 : Int) ≤ 1000 ∧ (1000 : Int) ≤ 1000000; omega, by show (0 : Int) ≤ 1000; omega⟩
  show hasB PP.length (k : Int) ((m.lo + m.hi) / 2) BB.length = true
  unfold hasB
  rw [if_neg (by omega)]
  simp only [inB, Bool.and_eq_true, decide_eq_true_eq]
  omega
section
variable {f0 f1 f2 : Int} {PP : List Int} {BB : List Bm} {LL : List Ld} (hr : rigOk f0 f1 f2 PP BB LL = true)
include hr
theorem lev_mid {k : Nat} {m : Bm} (hm : BB[k]? = some m) (hl : LL.length < 20) (he : (m.lo + m.hi) % 2 = 0) (Z : List Int) (hz : ∀ i, Z.getD i 0 = 0) (hzl : Z.length = LL.length) (f : Int) (c : Nat) (hc : c ≤ 1) :
    dotR ((frF BB (LL ++ [ml m k])).h k c) (Z ++ [f]) (Z.length + 1) - dotR ((frF BB LL).h k c) Z Z.length = f * 108000 := by
  have hr2 := rigOk_ml hr hm hl
  have hq := qv_h k (k := (c : Int)) (by omega)
  have e20 : (frF BB (LL ++ [ml m k])).h k c 20 = (frF BB LL).h k c 20 := by
    rw [← ob_h, ← ob_h, frF_wg hr2 hq, frF_wg hr hq]
  have en : (frF BB (LL ++ [ml m k])).h k c LL.length = 108000 := by
    rw [← ob_h, frF_ld hr2 hq (c := LL.length) (l := ml m k) (by simp)]
    have := gq_mid hr hm he
    obtain rfl | rfl : c = 0 ∨ c = 1 := by omega
    · exact this.1
    · exact this.2
  have hZ : ∀ (x : Row) n, n ≤ Z.length → dotR x (Z ++ [f]) n = x 20 := fun x n => by
    induction n with
    | zero => intro _; rfl
    | succ n ih =>
      intro hn
      rw [dotR, ih (by omega), List.getD_eq_getElem?_getD, List.getElem?_append_left (by omega), ← List.getD_eq_getElem?_getD, hz, Int.mul_zero, Int.add_zero]
  rw [dotR, hZ _ _ (Nat.le_refl _), dotR_zero _ Z hz, e20, hzl, en, List.getD_eq_getElem?_getD, ← hzl, List.getElem?_append_right (Nat.le_refl _)]
  simp
  omega
end
end Go.Proofs.Ytaciigegbgnadaa
