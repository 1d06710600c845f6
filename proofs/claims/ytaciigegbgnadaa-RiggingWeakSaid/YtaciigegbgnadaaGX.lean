/- The rows of a right rig's frame are not great. -/
import Derived.Test.YtaciigegbgnadaaGW
namespace Go.Proofs.Ytaciigegbgnadaa
open Go Tx Go.RowKit
set_option linter.unusedSimpArgs false
set_option linter.unusedVariables false

theorem dps_pre : ∀ (l : List Bm) (ds : List Int), ∃ t, dps ds l = ds ++ t
  | [], ds => ⟨[], by simp [dps]⟩
  | b :: l, ds => by
    obtain ⟨t, h⟩ := dps_pre l (ds ++ [dB b ds])
    exact ⟨dB b ds :: t, by rw [dps, h]; simp⟩
theorem bms_dep {pn : Nat} : ∀ {BB : List Bm} {ds : List Int}, dsB ds → bmsOk pn ds BB = true → ∀ (i : Nat) b, BB[i]? = some b → dsB (dps ds (BB.take i)) ∧ dB b (dps ds (BB.take i)) ≤ 3
  | [], _, _, _, i, b, h => by simp at h
  | c :: r, ds, hd, h, 0, b, hb => by
    rw [bmsOk, Bool.and_eq_true, Bool.and_eq_true] at h
    simp only [List.getElem?_cons_zero, Option.some.injEq] at hb
    subst hb
    exact ⟨hd, of_decide_eq_true h.1.2⟩
  | c :: r, ds, hd, h, i + 1, b, hb => by
    rw [bmsOk, Bool.and_eq_true, Bool.and_eq_true] at h
    have h3 : dB c ds ≤ 3 := by simpa using h.1.2
    exact bms_dep (dsB_snoc hd ⟨(dB_bd hd).1, h3⟩) h.2 i b (by simpa using hb)
/-- The weight of a beam: 13 to the power of its depth. -/
def wtD (BB : List Bm) (j : Nat) : Nat := 13 ^ ((dps [] BB).getD j 0).toNat
theorem dsB_nil : dsB [] := fun j n h => by simp at h
theorem wtD_at {pn : Nat} {BB : List Bm} (h : bmsOk pn [] BB = true) {i : Nat} {b : Bm} (hb : BB[i]? = some b) : ∃ e : List Int, dsB e ∧ dB b e ≤ 3 ∧ wtD BB i = 13 ^ (dB b e).toNat ∧ ∀ j, j < i → wtD BB j = 13 ^ (e.getD j 0).toNat := by
  obtain ⟨h1, h2⟩ := bms_dep dsB_nil h i b hb
  have hl : (dps [] (BB.take i)).length = i := by
    rw [dps_len]; have := (List.getElem?_eq_some_iff.1 hb).1; simp; omega
  have ht : ∃ t, dps [] BB = dps [] (BB.take i) ++ [dB b (dps [] (BB.take i))] ++ t := by
    obtain ⟨t, ht⟩ := dps_pre (BB.drop (i + 1)) (dps [] (BB.take (i + 1)))
    refine ⟨t, ?_⟩
    rw [← dps_take hb [], ← ht, ← dps_append, List.take_append_drop]
  obtain ⟨t, ht⟩ := ht
  refine ⟨_, h1, h2, ?_, fun j hj => ?_⟩
  · unfold wtD
    rw [ht, List.getD_eq_getElem?_getD, List.append_assoc, List.getElem?_append_right (by omega), hl]
    simp
  · unfold wtD
    rw [ht, List.getD_eq_getElem?_getD, List.append_assoc, List.getElem?_append_left (by omega), List.getD_eq_getElem?_getD]
theorem wtD_bd {pn : Nat} {BB : List Bm} (h : bmsOk pn [] BB = true) {i : Nat} (hi : i < BB.length) : 13 ≤ wtD BB i ∧ wtD BB i ≤ 2197 := by
  obtain ⟨e, h1, h2, h3, _⟩ := wtD_at h (List.getElem?_eq_getElem hi)
  rw [h3]
  have h4 := (dB_bd (b := BB[i]) h1).1
  exact ⟨by have := Nat.pow_le_pow_right (n := 13) (by omega) (show 1 ≤ (dB BB[i] e).toNat by omega); simpa using this, by have := Nat.pow_le_pow_right (n := 13) (by omega) (show (dB BB[i] e).toNat ≤ 3 by omega); simpa using this⟩
theorem wtD_on {pn : Nat} {BB : List Bm} (h : bmsOk pn [] BB = true) {i : Nat} {b : Bm} (hb : BB[i]? = some b) : 13 * pw (wtD BB) b.ab ≤ wtD BB i ∧ 13 * pw (wtD BB) b.bb ≤ wtD BB i := by
  obtain ⟨e, h1, h2, h3, h4⟩ := wtD_at h hb
  have hok := bmsOk_all h i b hb
  simp only [List.length_nil, Int.natCast_zero, Int.zero_add] at hok
  rw [bmOk_iff] at hok
  obtain ⟨c1, c2, c3, c4, c5, c6, c7⟩ := hok
  have hA : b.ab ≠ -1 → e.getD b.ab.toNat 0 + 1 ≤ dB b e := fun hn => by
    have : e.getD b.ab.toNat 0 + 1 ≤ dA b e := by unfold dA; rw [if_neg hn, imax_eq]; omega
    unfold dB
    split
    · exact this
    · rw [imax_eq]; omega
  have hB : b.bb ≠ -1 → e.getD b.bb.toNat 0 + 1 ≤ dB b e := fun hn => by
    unfold dB; rw [if_neg hn, imax_eq]; omega
  have key : ∀ x : Int, x + 1 ≤ dB b e → 13 * 13 ^ x.toNat ≤ wtD BB i := fun x hx => by
    rw [h3]
    have := Nat.pow_le_pow_right (n := 13) (by omega) (show x.toNat + 1 ≤ (dB b e).toNat by have := (dB_bd (b := b) h1).1; omega)
    rw [Nat.pow_succ] at this
    omega
  have h13 := (wtD_bd h (List.getElem?_eq_some_iff.1 hb).1).1
  constructor
  · unfold pw
    split
    · omega
    · rename_i hn
      rcases hasB_cases c4 with h | h
      · exact absurd h.1 hn
      · rw [h4 _ (by omega)]
        exact key _ (hA hn)
  · unfold pw
    split
    · omega
    · rename_i hn
      rcases hasB_cases c5 with h | h
      · exact absurd h.1 hn
      · rw [h4 _ (by omega)]
        exact key _ (hB hn)
theorem sumN_congr {f g : Nat → Nat} : ∀ n, (∀ j, j < n → f j = g j) → sumN n f = sumN n g
  | 0, _ => rfl
  | n + 1, h => by rw [sumN, sumN, sumN_congr n fun j hj => h j (by omega), h n (by omega)]
def Bl (c k : Nat) : Nat := if c < k then 474552000 else 0
def Bb (c k : Nat) : Nat := if c = 20 then k * 474552000000000 else 474552000
theorem inv_lds {f0 f1 f2 : Int} {PP : List Int} {BB : List Bm} {LL : List Ld} (hr : rigOk f0 f1 f2 PP BB LL = true) (c : Nat) : ∀ k, k ≤ LL.length → Inv (wtD BB) (ldsF LL k) BB.length c (Bl c k)
  | 0, _ => by
    refine ⟨fun N => ?_, fun j k => by show (0 : Int).natAbs ≤ _; omega, fun j a _ => by show (0 : Int).natAbs ≤ _; omega⟩
    unfold phi
    have e1 : sumN N (fun j => ((ldsF LL 0).p j c).natAbs) = 0 := sumN_zero (fun j => rfl) N
    have e2 : sumN BB.length (fun b => wtD BB b * sumN 61 (fun a => ((ldsF LL 0).u b a c).natAbs)) = 0 := sumN_zero (fun j => by
      have : sumN 61 (fun a => ((ldsF LL 0).u j a c).natAbs) = 0 := sumN_zero (fun j => rfl) 61
      rw [this, Nat.mul_zero]) _
    omega
  | k + 1, hk => by
    have ih := inv_lds hr c k (by omega)
    rw [rigOk_iff] at hr
    obtain ⟨q1, q2, q3, q4, q5, q6, q7⟩ := hr
    obtain ⟨l, hl⟩ : ∃ l, LL[k]? = some l := ⟨_, List.getElem?_eq_getElem (by omega)⟩
    have hok := List.all_eq_true.1 q7 l (List.mem_of_getElem? hl)
    rw [ldOk_iff] at hok
    rw [ldsF, hl]
    refine (ih.put hok.1).mono ?_
    have hpw : pw (wtD BB) l.beam ≤ 2197 := by
      unfold pw
      split
      · omega
      · rcases hasB_cases hok.1 with h | h
        · exact absurd h.1 (by assumption)
        · exact (wtD_bd q4 (by omega)).2
    unfold Bl unitR
    by_cases hck : c = k
    · subst hck
      rw [if_neg (by omega), if_pos (by omega), Nat.beq_refl]
      have := Nat.mul_le_mul_right 216000 hpw
      show 0 + _ * 216000 ≤ _
      omega
    · have hb : Nat.beq c k = false := by
        cases h : Nat.beq c k with
        | false => rfl
        | true => exact absurd (Nat.eq_of_beq_eq_true h) hck
      rw [hb]
      show _ + _ * 0 ≤ _
      rw [Nat.mul_zero, Nat.add_zero]
      split
      · rw [if_pos (by omega)]; omega
      · omega
theorem lds_h (LL : List Ld) : ∀ k, (ldsF LL k).h = fun _ _ => zr
  | 0 => rfl
  | k + 1 => by
    have ih := lds_h LL k
    rw [ldsF]
    split
    · rw [put_h]; exact ih
    · exact ih
theorem bms_h (BB : List Bm) (F : Fr) : ∀ k j, j + k < BB.length → (bmsF BB F k).h j = F.h j
  | 0, _, _ => rfl
  | k + 1, j, hj => by
    have ih := bms_h BB F k j (by omega)
    rw [bmsF]
    split
    · unfold bmF bmG
      rw [put_h, put_h, hgF_h _ _ _ (by omega)]
      exact ih
    · exact ih
theorem wtR_abs {b : Bm} (h : 0 ≤ b.wt ∧ b.wt ≤ 1000000) (c : Nat) : (wtR b c).natAbs ≤ if c = 20 then 216000000000 else 0 := by
  unfold wtR
  by_cases hc : c = 20
  · subst hc
    rw [if_pos rfl]
    show (b.wt * 216000).natAbs ≤ _
    omega
  · have hb : Nat.beq c 20 = false := by
      cases h : Nat.beq c 20 with
      | false => rfl
      | true => exact absurd (Nat.eq_of_beq_eq_true h) hc
    rw [hb, if_neg hc]
    show (0 : Int).natAbs ≤ 0
    omega
theorem span10 {b : Bm} (h : spanB b = true) : 10 ≤ b.hi - b.lo := by
  unfold spanB spL at h
  rw [List.contains_iff_mem] at h
  simp only [List.mem_cons, List.not_mem_nil, or_false] at h
  omega
section
variable {f0 f1 f2 : Int} {PP : List Int} {BB : List Bm} {LL : List Ld} (hr : rigOk f0 f1 f2 PP BB LL = true)
include hr
theorem bm_at {i : Nat} {b : Bm} (hb : BB[i]? = some b) : bmOk PP.length i b = true := by
  rw [rigOk_iff] at hr
  have := bmsOk_all hr.2.2.2.1 i b hb
  simpa using this
theorem wt_add {i : Nat} {b : Bm} (hb : BB[i]? = some b) (c k : Nat) : Bb c k + wtD BB i * (wtR b c).natAbs ≤ Bb c (k + 1) := by
  have hok := bm_at hr hb
  rw [bmOk_iff] at hok
  have h1 := wtR_abs hok.2.2.2.2.2.1 c
  rw [rigOk_iff] at hr
  have h2 := (wtD_bd hr.2.2.2.1 (List.getElem?_eq_some_iff.1 hb).1).2
  have h3 := Nat.mul_le_mul h2 h1
  unfold Bb
  split
  · rename_i hc
    rw [if_pos hc] at h3
    rw [Nat.succ_mul]
    omega
  · rename_i hc
    rw [if_neg hc] at h3
    omega
theorem inv_bms (c : Nat) : ∀ k, k ≤ BB.length → Inv (wtD BB) (bmsF BB (ldsF LL LL.length) k) (BB.length - k) c (Bb c k)
  | 0, _ => by
    refine (inv_lds hr c LL.length (Nat.le_refl _)).mono ?_
    have hl := hr
    rw [rigOk_iff] at hl
    unfold Bl Bb
    by_cases hc : c = 20
    · rw [if_neg (by omega)]; omega
    · rw [if_neg hc]; split <;> omega
  | k + 1, hk => by
    have ih := inv_bms c k (by omega)
    obtain ⟨i, hi⟩ : ∃ i, i + k + 1 = BB.length := ⟨BB.length - 1 - k, by omega⟩
    obtain ⟨b, hb⟩ : ∃ b, BB[i]? = some b := ⟨_, List.getElem?_eq_getElem (by omega)⟩
    have hok := bm_at hr hb
    have hadd := wt_add hr hb c k
    have hw0 : ∀ j, j < i + 1 → 1 ≤ wtD BB j := fun j hj => Nat.pow_pos (by omega)
    rw [rigOk_iff] at hr
    rw [show BB.length - k = i + 1 from by omega] at ih
    have hon := wtD_on hr.2.2.2.1 hb
    have hst := (ih.beam (fun c' => by rw [bms_h _ _ _ _ (by omega), lds_h]; rfl) hok (span10 (bmOk_iff.1 hok).2.2.1) hw0 hon.1 hon.2).2.2.2
    rw [bmsF, show BB.length - 1 - k = i from by omega, hb, show BB.length - (k + 1) = i from by omega]
    exact hst.mono hadd
theorem beam_bd {k i : Nat} {b : Bm} (hb : BB[i]? = some b) (hi : i + k + 1 = BB.length) (c : Nat) :
    (∀ a, a ≤ 61 → Bnd (hgF b i (putU (bmsF BB (ldsF LL LL.length) k) i 30 (wtR b)) a) c (Bb c k + wtD BB i * (wtR b c).natAbs)) ∧
    (∀ a : Nat, a < 61 → (lft b.lo b.hi a ((putU (bmsF BB (ldsF LL LL.length) k) i 30 (wtR b)).u i a) c).natAbs ≤ Bb c k + wtD BB i * (wtR b c).natAbs ∧ (rgt b.lo b.hi a ((putU (bmsF BB (ldsF LL LL.length) k) i 30 (wtR b)).u i a) c).natAbs ≤ Bb c k + wtD BB i * (wtR b c).natAbs) ∧
    Bnd (putF (bmG b i (bmsF BB (ldsF LL LL.length) k)) b.ab b.aa ((bmG b i (bmsF BB (ldsF LL LL.length) k)).h i 0)) c (Bb c k + wtD BB i * (wtR b c).natAbs) ∧ Inv (wtD BB) (bmF b i (bmsF BB (ldsF LL LL.length) k)) i c (Bb c k + wtD BB i * (wtR b c).natAbs) :=
  Inv.beam (wt := wtD BB) (F := bmsF BB (ldsF LL LL.length) k) (i := i) (c := c) (B := Bb c k) (by have := inv_bms hr c k (by omega); rwa [show BB.length - k = i + 1 from by omega] at this)
    (fun c' => by rw [bms_h _ _ _ _ (by omega), lds_h]; rfl) (bm_at hr hb) (span10 (bmOk_iff.1 (bm_at hr hb)).2.2.1) (fun j hj => Nat.pow_pos (by omega)) (wtD_on (rigOk_iff.1 hr).2.2.2.1 hb).1 (wtD_on (rigOk_iff.1 hr).2.2.2.1 hb).2
theorem Bb_le {k : Nat} (c : Nat) (hk : k ≤ BB.length) : Bb c k ≤ 5694624000000000 := by
  rw [rigOk_iff] at hr
  unfold Bb
  split
  · have := Nat.mul_le_mul_right 474552000000000 (show k ≤ 12 by omega); omega
  · omega
omit hr in
theorem rows_of {F : Fr} (h : ∀ c, ∃ B, Bnd F c B ∧ B ≤ 5694624000000000) : rowsB F :=
  ⟨fun j c => by obtain ⟨B, h1, h2⟩ := h c; have := h1.1 j; omega, fun j k c => by obtain ⟨B, h1, h2⟩ := h c; have := h1.2.1 j k; omega, fun j a c => by obtain ⟨B, h1, h2⟩ := h c; have := h1.2.2 j a; omega⟩
theorem frB_of : FrB BB LL := by
  have hw0 : ∀ I j, j < I → 1 ≤ wtD BB j := fun I j _ => Nat.pow_pos (by omega)
  refine ⟨fun k hk => rows_of fun c => ⟨_, (inv_lds hr c k hk).bnd (hw0 _), ?_⟩, fun k hk => rows_of fun c => ⟨_, (inv_bms hr c k hk).bnd (hw0 _), Bb_le hr c hk⟩, fun k i b hb hi => ⟨fun c => ?_, fun a ha => rows_of fun c => ⟨_, (beam_bd hr hb hi c).1 a ha, ?_⟩⟩,
    fun k i b hb hi a ha => ⟨fun c => ?_, fun c => ?_⟩, fun k i b hb hi => rows_of fun c => ⟨_, (beam_bd hr hb hi c).2.2.1, ?_⟩⟩
  · unfold Bl; split <;> omega
  · have hok := bm_at hr hb
    rw [bmOk_iff] at hok
    have := wtR_abs hok.2.2.2.2.2.1 c
    split at this <;> omega
  · exact Nat.le_trans (wt_add hr hb c k) (Bb_le hr c (by omega))
  · have := (beam_bd hr hb hi c).2.1 a ha
    have := Nat.le_trans (wt_add hr hb c k) (Bb_le hr c (by omega))
    rw [hgF_u]
    omega
  · have := (beam_bd hr hb hi c).2.1 a ha
    have := Nat.le_trans (wt_add hr hb c k) (Bb_le hr c (by omega))
    rw [hgF_u]
    omega
  · exact Nat.le_trans (wt_add hr hb c k) (Bb_le hr c (by omega))
/-- The rows in the end. -/
theorem frF_bnd (c : Nat) : Bnd (frF BB LL) c (Bb c BB.length) := (inv_bms hr c BB.length (Nat.le_refl _)).bnd fun j _ => Nat.pow_pos (by omega)
end
end Go.Proofs.Ytaciigegbgnadaa
