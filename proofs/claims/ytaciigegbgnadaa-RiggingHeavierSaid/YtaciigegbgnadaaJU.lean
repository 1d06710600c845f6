/- Heavier: the plain law: where all pulls between hangers, no row has a number below 0; greater factors, loads or weights make no part bear less at most. -/
import Derived.Test.YtaciigegbgnadaaJK
namespace Go.Proofs.Ytaciigegbgnadaa
open Go Tx Go.RowKit
set_option linter.unusedSimpArgs false
set_option linter.unusedVariables false

/-- A point, or a notch between the hangers of a beam. -/
def insP (BB : List Bm) (b a : Int) : Prop := b = -1 ∨ (0 ≤ b ∧ ∃ m, BB[b.toNat]? = some m ∧ m.lo ≤ a ∧ a ≤ m.hi)
def insA (BB : List Bm) (LL : List Ld) : Prop := (∀ (i : Nat) m, BB[i]? = some m → insP BB m.ab m.aa ∧ insP BB m.bb m.ba ∧ insP BB i 30) ∧ ∀ l ∈ LL, insP BB l.beam l.at'
theorem gvR_bd {m : Bm} {a f : Int} (hs : 0 < m.hi - m.lo) (ha : m.lo ≤ a ∧ a ≤ m.hi) (hf : 0 ≤ f) : 0 ≤ gvR m a f ∧ gvR m a f ≤ f := by
  unfold gvR
  rw [Int.tdiv_eq_ediv_of_nonneg hf]
  have h0 : 0 ≤ f / (m.hi - m.lo) := Int.ediv_nonneg hf (by omega)
  have h1 : f / (m.hi - m.lo) * (a - m.lo) ≤ f / (m.hi - m.lo) * (m.hi - m.lo) := Int.mul_le_mul_of_nonneg_left (by omega) h0
  have h2 : f / (m.hi - m.lo) * (m.hi - m.lo) ≤ f := Int.ediv_mul_le f (by omega)
  exact ⟨Int.mul_nonneg h0 (by omega), by omega⟩
theorem span_pos {b : Bm} (h : spanB b = true) : 0 < b.hi - b.lo := by
  unfold spanB spL at h
  rw [List.contains_iff_mem] at h
  simp only [List.mem_cons, List.not_mem_nil, or_false] at h
  omega
section
variable {f0 f1 f2 : Int} {PP : List Int} {BB : List Bm} {LL : List Ld} (hr : rigOk f0 f1 f2 PP BB LL = true) (hins : insA BB LL)
include hr hins
theorem gq_nn : ∀ (N : Nat) (b a f : Int) (q : Int × Int), b < N → insP BB b a → 0 ≤ f → 0 ≤ gq BB b a f q := by
  have hG := rig_G hr
  intro N
  induction N with
  | zero =>
    intro b a f q hb hi hf
    rcases hi with rfl | ⟨h0, _⟩
    · rw [gq_pt]; split <;> omega
    · omega
  | succ N ih =>
    intro b a f q hb hi hf
    rcases hi with rfl | ⟨h0, m, hm, ha⟩
    · rw [gq_pt]; split <;> omega
    · obtain ⟨j, rfl⟩ := Int.eq_ofNat_of_zero_le h0
      rw [Int.toNat_natCast] at hm
      have hok := bmOk_iff.1 (bm_at hr hm)
      have hR := gvR_bd (span_pos hok.2.2.1) ha hf
      have ho := hG.on j m hm
      have hi := hins.1 j m hm
      rw [gq_bm hG hm]
      have g1 := ih m.ab m.aa (f - gvR m a f) q (by omega) hi.1 (by omega)
      have g2 := ih m.bb m.ba (gvR m a f) q (by omega) hi.2.1 (by omega)
      have t1 : 0 ≤ (if q = ((j : Int), 0) then f - gvR m a f else 0) := by split <;> omega
      have t2 : 0 ≤ (if q = ((j : Int), 1) then gvR m a f else 0) := by split <;> omega
      omega
theorem row_nn {b a : Int} (hq : qv (b, a)) : (∀ c, c < LL.length → 0 ≤ rowP (frF BB LL) b a c) ∧ 0 ≤ rowP (frF BB LL) b a 20 := by
  refine ⟨fun c hc => ?_, ?_⟩
  · obtain ⟨l, hl⟩ : ∃ l, LL[c]? = some l := ⟨_, List.getElem?_eq_getElem hc⟩
    show 0 ≤ ob (frF BB LL) c (b, a)
    rw [frF_ld hr hq hl]
    exact gq_nn hr hins (l.beam.toNat + 1) _ _ _ _ (by omega) (hins.2 l (List.mem_of_getElem? hl)) (by omega)
  · show 0 ≤ ob (frF BB LL) 20 (b, a)
    rw [frF_wt hr hq]
    have : ∀ n, n ≤ BB.length → 0 ≤ sumI n (fun i => match BB[i]? with | some m => gq BB i 30 (m.wt * 216000) (b, a) | none => 0) := by
      intro n
      induction n with
      | zero => intro _; exact Int.le_refl 0
      | succ n ih =>
        intro hn
        obtain ⟨m, hm⟩ : ∃ m, BB[n]? = some m := ⟨_, List.getElem?_eq_getElem (by omega)⟩
        have hok := bmOk_iff.1 (bm_at hr hm)
        have := gq_nn hr hins (n + 1) n 30 (m.wt * 216000) (b, a) (by omega) (hins.1 n m hm).2.2 (by omega)
        have := ih (by omega)
        rw [sumI, hm]
        dsimp only
        omega
    exact this _ (Nat.le_refl _)
theorem lo_nn {r : Rig} {b a : Int} (hq : qv (b, a)) : 0 ≤ endD r LL (rowP (frF BB LL) b a) false := by
  obtain ⟨h1, h2⟩ := row_nn hr hins hq
  have hri := rigOk_iff.1 hr
  generalize rowP (frF BB LL) b a = x at *
  have : ∀ k, k ≤ LL.length → 0 ≤ dotR x (endL r x false LL) k := by
    intro k
    induction k with
    | zero => intro _; exact h2
    | succ k ih =>
      intro hk
      obtain ⟨l, hl⟩ : ∃ l, LL[k]? = some l := ⟨_, List.getElem?_eq_getElem (by omega)⟩
      have hlo := List.all_eq_true.1 hri.2.2.2.2.2.2 l (List.mem_of_getElem? hl)
      rw [ldOk_iff] at hlo
      have h3 := h1 k (by omega)
      have : 0 ≤ x k * endV r (x k) false l := by
        unfold endV
        rcases Int.lt_or_le 0 (x k) with h | h
        · rw [if_neg (by simp; omega)]; exact Int.mul_nonneg h3 (by omega)
        · rw [show x k = 0 from by omega]; simp
      have := ih (by omega)
      rw [dotR, List.getD_eq_getElem?_getD, endL_at hl, Option.getD_some]
      omega
  exact this _ (Nat.le_refl _)
end
/-- No number below 0, no top lower: no end lower. -/
theorem end_le {r r' : Rig} {LL LL' : List Ld} {x x' : Row} (hlen : LL'.length = LL.length) (h : ∀ (k : Nat) l l', LL[k]? = some l → LL'[k]? = some l' → 0 ≤ x k ∧ x' k = x k ∧ hiP r l ≤ hiP r' l') (h20 : x 20 ≤ x' 20) : endD r LL x true ≤ endD r' LL' x' true := by
  have : ∀ k, k ≤ LL.length → dotR x (endL r x true LL) k ≤ dotR x' (endL r' x' true LL') k := by
    intro k
    induction k with
    | zero => intro _; exact h20
    | succ k ih =>
      intro hk
      obtain ⟨l, hl⟩ : ∃ l, LL[k]? = some l := ⟨_, List.getElem?_eq_getElem (by omega)⟩
      obtain ⟨l', hl'⟩ : ∃ l, LL'[k]? = some l := ⟨_, List.getElem?_eq_getElem (by omega)⟩
      obtain ⟨h1, h2, h3⟩ := h k l l' hl hl'
      have : x k * endV r (x k) true l ≤ x' k * endV r' (x' k) true l' := by
        rw [h2]
        unfold endV
        rcases Int.lt_or_le 0 (x k) with h | h
        · rw [if_pos ⟨by omega, by simp; omega⟩, if_pos ⟨by omega, by simp; omega⟩]; exact Int.mul_le_mul_of_nonneg_left h3 h1
        · rw [show x k = 0 from by omega]; simp
      have := ih (by omega)
      rw [dotR, dotR, List.getD_eq_getElem?_getD, List.getD_eq_getElem?_getD, endL_at hl, endL_at hl']
      simp only [Option.getD_some]
      omega
  unfold endD
  rw [hlen]
  exact this _ (Nat.le_refl _)
theorem hiP_mono {r r' : Rig} {l l' : Ld} (h : l.hi * r.fac l.kind ≤ l'.hi * r'.fac l'.kind) : hiP r l ≤ hiP r' l' := by
  unfold hiP
  exact Int.ediv_le_ediv (by omega) (by omega)
/-! ### A weight changed -/
def wtE (m : Bm) (v : Int) : Bm := ⟨m.lo, m.hi, m.ab, m.aa, m.bb, m.ba, v, m.cap⟩
theorem set_at {BB : List Bm} {k : Nat} {m : Bm} (hm : BB[k]? = some m) (v : Int) (i : Nat) : (BB.set k (wtE m v))[i]? = if i = k then some (wtE m v) else BB[i]? := by
  rw [List.getElem?_set]
  by_cases h : k = i
  · subst h; rw [if_pos rfl, if_pos (List.getElem?_eq_some_iff.1 hm).1, if_pos rfl]
  · rw [if_neg h, if_neg (fun hc => h hc.symm)]
theorem gv_wt {BB : List Bm} {k : Nat} {m : Bm} (hm : BB[k]? = some m) (v : Int) : ∀ (n : Nat) (b a f : Int) (q : Int × Int), gv (BB.set k (wtE m v)) n b a f q = gv BB n b a f q
  | 0, _, _, _, _ => rfl
  | n + 1, b, a, f, q => by
    rw [gv, gv]
    split
    · rfl
    · rw [set_at hm]
      by_cases h : b.toNat = k
      · rw [if_pos h, h, hm]
        dsimp only
        rw [gv_wt hm v n, gv_wt hm v n]
        rfl
      · rw [if_neg h]
        cases BB[b.toNat]? with
        | none => rfl
        | some c => dsimp only; rw [gv_wt hm v n, gv_wt hm v n]
theorem gq_wt {BB : List Bm} {k : Nat} {m : Bm} (hm : BB[k]? = some m) (v : Int) (b a f : Int) (q : Int × Int) : gq (BB.set k (wtE m v)) b a f q = gq BB b a f q := by
  unfold gq
  rw [List.length_set]
  exact gv_wt hm v _ b a f q
theorem bmsOk_wt {pn : Nat} {v : Int} (hv : 0 ≤ v ∧ v ≤ 1000000) : ∀ {BB : List Bm} {ds : List Int} {k : Nat} {m : Bm}, BB[k]? = some m → bmsOk pn ds BB = true → bmsOk pn ds (BB.set k (wtE m v)) = true
  | [], _, _, _, h, _ => by simp at h
  | b :: r, ds, 0, m, h, hk => by
    simp only [List.getElem?_cons_zero, Option.some.injEq] at h
    subst h
    rw [List.set_cons_zero, bmsOk, Bool.and_eq_true, Bool.and_eq_true, bmOk_iff] at *
    exact ⟨⟨⟨hk.1.1.1, hk.1.1.2.1, hk.1.1.2.2.1, hk.1.1.2.2.2.1, hk.1.1.2.2.2.2.1, hv, hk.1.1.2.2.2.2.2.2⟩, hk.1.2⟩, hk.2⟩
  | b :: r, ds, k + 1, m, h, hk => by
    rw [List.set_cons_succ, bmsOk, Bool.and_eq_true] at *
    exact ⟨hk.1, bmsOk_wt hv (by simpa using h) hk.2⟩
theorem rigOk_wt {f0 f1 f2 : Int} {PP : List Int} {BB : List Bm} {LL : List Ld} (hr : rigOk f0 f1 f2 PP BB LL = true) {k : Nat} {m : Bm} (hm : BB[k]? = some m) {v : Int} (hv : 0 ≤ v ∧ v ≤ 1000000) : rigOk f0 f1 f2 PP (BB.set k (wtE m v)) LL = true := by
  rw [rigOk_iff] at hr ⊢
  rw [List.length_set]
  exact ⟨hr.1, hr.2.1, hr.2.2.1, bmsOk_wt hv hm hr.2.2.2.1, hr.2.2.2.2⟩
section
variable {f0 f1 f2 : Int} {PP : List Int} {BB : List Bm} {LL : List Ld} (hr : rigOk f0 f1 f2 PP BB LL = true) (hins : insA BB LL)
include hr hins
theorem heavier_wt {r : Rig} {k : Nat} {m : Bm} (hm : BB[k]? = some m) {v : Int} (hv : m.wt ≤ v ∧ v ≤ 1000000) {b a : Int} (hq : qv (b, a)) : endD r LL (rowP (frF BB LL) b a) true ≤ endD r LL (rowP (frF (BB.set k (wtE m v)) LL) b a) true := by
  have hok := bmOk_iff.1 (bm_at hr hm)
  have hr' := rigOk_wt hr hm (v := v) (by omega)
  obtain ⟨h1, _⟩ := row_nn hr hins hq
  refine end_le rfl (fun c l l' hl hl' => ?_) ?_
  · rw [hl, Option.some.injEq] at hl'
    subst hl'
    refine ⟨h1 c (List.getElem?_eq_some_iff.1 hl).1, ?_, Int.le_refl _⟩
    show ob _ c (b, a) = ob _ c (b, a)
    rw [frF_ld hr' hq hl, frF_ld hr hq hl, gq_wt hm]
  · show ob _ 20 (b, a) ≤ ob _ 20 (b, a)
    rw [frF_wt hr' hq, frF_wt hr hq, List.length_set]
    have hG := rig_G hr
    have : ∀ n, n ≤ BB.length → sumI n (fun i => match BB[i]? with | some m => gq BB i 30 (m.wt * 216000) (b, a) | none => 0) ≤ sumI n (fun i => match (BB.set k (wtE m v))[i]? with | some m' => gq (BB.set k (wtE m v)) i 30 (m'.wt * 216000) (b, a) | none => 0) := by
      intro n
      induction n with
      | zero => intro _; exact Int.le_refl 0
      | succ n ih =>
        intro hn
        have := ih (by omega)
        rw [sumI, sumI, set_at hm]
        by_cases h : n = k
        · subst h
          rw [if_pos rfl, hm]
          dsimp only
          rw [gq_wt hm]
          have hd : (60 : Int) ^ dpn BB (n : Int) ∣ 216000 := pow_dvd (hG.d3 n) ⟨1, by decide⟩
          rw [gq_mul hG m.wt (b, a) hd (by omega), show (wtE m v).wt = v from rfl, gq_mul hG v (b, a) hd (by omega)]
          have := gq_nn hr hins (n + 1) n 30 216000 (b, a) (by omega) (hins.1 n m hm).2.2 (by omega)
          have := Int.mul_le_mul_of_nonneg_right hv.1 this
          omega
        · rw [if_neg h]
          cases BB[n]? with
          | none => dsimp only; omega
          | some c => dsimp only; rw [gq_wt hm]; omega
    exact this _ (Nat.le_refl _)
theorem heavier_fac {r r' : Rig} (h : ∀ k, r.fac k ≤ r'.fac k) {b a : Int} (hq : qv (b, a)) : endD r LL (rowP (frF BB LL) b a) true ≤ endD r' LL (rowP (frF BB LL) b a) true := by
  obtain ⟨h1, _⟩ := row_nn hr hins hq
  refine end_le rfl (fun c l l' hl hl' => ?_) (Int.le_refl _)
  rw [hl, Option.some.injEq] at hl'
  subst hl'
  have hlo := List.all_eq_true.1 (rigOk_iff.1 hr).2.2.2.2.2.2 l (List.mem_of_getElem? hl)
  rw [ldOk_iff] at hlo
  exact ⟨h1 c (List.getElem?_eq_some_iff.1 hl).1, rfl, hiP_mono (Int.mul_le_mul_of_nonneg_left (h _) hlo.2.2.2.1.1)⟩
end
/-! ### A load's greatest force changed -/
def hiE (l : Ld) (v : Int) : Ld := ⟨l.beam, l.at', l.kind, l.lo, v⟩
theorem setL_at {LL : List Ld} {k : Nat} {l : Ld} (hl : LL[k]? = some l) (v : Int) (i : Nat) : (LL.set k (hiE l v))[i]? = if i = k then some (hiE l v) else LL[i]? := by
  rw [List.getElem?_set]
  by_cases h : k = i
  · subst h; rw [if_pos rfl, if_pos (List.getElem?_eq_some_iff.1 hl).1, if_pos rfl]
  · rw [if_neg h, if_neg (fun hc => h hc.symm)]
theorem rigOk_hi {f0 f1 f2 : Int} {PP : List Int} {BB : List Bm} {LL : List Ld} (hr : rigOk f0 f1 f2 PP BB LL = true) {k : Nat} {l : Ld} (hl : LL[k]? = some l) {v : Int} (hv : l.hi ≤ v ∧ v ≤ 1000000) : rigOk f0 f1 f2 PP BB (LL.set k (hiE l v)) = true := by
  rw [rigOk_iff] at hr ⊢
  rw [List.length_set]
  refine ⟨hr.1, hr.2.1, hr.2.2.1, hr.2.2.2.1, hr.2.2.2.2.1, hr.2.2.2.2.2.1, ?_⟩
  rw [List.all_eq_true]
  intro x hx
  rcases List.mem_or_eq_of_mem_set hx with h | rfl
  · exact List.all_eq_true.1 hr.2.2.2.2.2.2 x h
  · have := List.all_eq_true.1 hr.2.2.2.2.2.2 l (List.mem_of_getElem? hl)
    rw [ldOk_iff] at this ⊢
    exact ⟨this.1, this.2.1, this.2.2.1, ⟨by show (0 : Int) ≤ v; omega, hv.2⟩, by show l.lo ≤ v; omega⟩
theorem heavier_hi {f0 f1 f2 : Int} {PP : List Int} {BB : List Bm} {LL : List Ld} (hr : rigOk f0 f1 f2 PP BB LL = true) (hins : insA BB LL) {r : Rig} (hf : ∀ k, 0 ≤ r.fac k) {k : Nat} {l : Ld} (hl : LL[k]? = some l) {v : Int} (hv : l.hi ≤ v ∧ v ≤ 1000000) {b a : Int} (hq : qv (b, a)) : endD r LL (rowP (frF BB LL) b a) true ≤ endD r (LL.set k (hiE l v)) (rowP (frF BB (LL.set k (hiE l v))) b a) true := by
  have hr' := rigOk_hi hr hl hv
  obtain ⟨h1, _⟩ := row_nn hr hins hq
  refine end_le (List.length_set ..) (fun c x x' hx hx' => ?_) ?_
  · refine ⟨h1 c (List.getElem?_eq_some_iff.1 hx).1, ?_, ?_⟩
    · show ob _ c (b, a) = ob _ c (b, a)
      rw [frF_ld hr' hq hx', frF_ld hr hq hx]
      rw [setL_at hl] at hx'
      by_cases h : c = k
      · subst h
        rw [if_pos rfl, Option.some.injEq] at hx'
        rw [hl, Option.some.injEq] at hx
        subst hx; subst hx'; rfl
      · rw [if_neg h, hx, Option.some.injEq] at hx'
        subst hx'; rfl
    · rw [setL_at hl] at hx'
      by_cases h : c = k
      · subst h
        rw [if_pos rfl, Option.some.injEq] at hx'
        rw [hl, Option.some.injEq] at hx
        subst hx; subst hx'
        exact hiP_mono (Int.mul_le_mul_of_nonneg_right hv.1 (hf _))
      · rw [if_neg h, hx, Option.some.injEq] at hx'
        subst hx'; exact Int.le_refl _
  · show ob _ 20 (b, a) ≤ ob _ 20 (b, a)
    rw [frF_wt hr' hq, frF_wt hr hq]
    exact Int.le_refl _
end Go.Proofs.Ytaciigegbgnadaa
