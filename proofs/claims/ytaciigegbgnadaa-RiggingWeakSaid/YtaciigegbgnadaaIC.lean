/- The plain law of frames, part 2: what the rows of a frame tell. -/
import Derived.Test.YtaciigegbgnadaaIB
namespace Go.Proofs.Ytaciigegbgnadaa
open Go Tx Go.RowKit
set_option linter.unusedSimpArgs false
set_option linter.unusedVariables false

/-- What a part is given, read off a frame. -/
def ob (F : Fr) (c : Nat) (q : Int × Int) : Int := if q.1 = -1 then F.p q.2.toNat c else F.h q.1.toNat q.2.toNat c
/-- It is the name of a point or of a hanger. -/
def qv (q : Int × Int) : Prop := (q.1 = -1 ∨ 0 ≤ q.1 ∧ q.2 ≤ 1) ∧ 0 ≤ q.2
def QQ (BB : List Bm) (F : Fr) (I c : Nat) (q : Int × Int) : Int := ob F c q + sumI I (fun b => sumI 61 (fun a => gq BB b a (F.u b a c) q))
def MI (BB : List Bm) (F : Fr) (I c : Nat) : Prop := ∀ b, b < I → ∀ a, (60 : Int) ^ dpn BB b ∣ F.u b a c
theorem dvd_0 (k : Int) : k ∣ 0 := ⟨0, by simp⟩
section
variable {BB : List Bm} (hG : BmsG BB)
include hG
theorem QQ_put {F : Fr} {I c n : Nat} {b a : Int} {x : Row} {q : Int × Int} (hI : I ≤ BB.length) (hM : MI BB F I c) (hh : hasB n b a I = true) (hx : (60 : Int) ^ dpn BB b ∣ x c) (hq : qv q) :
    QQ BB (putF F b a x) I c q = QQ BB F I c q + gq BB b a (x c) q ∧ MI BB (putF F b a x) I c := by
  rcases hasB_cases hh with ⟨rfl, h1, h2⟩ | ⟨hne, ⟨h1, h2⟩, h3, h4⟩
  · have hu : (putF F (-1) a x).u = F.u := rfl
    refine ⟨?_, fun b hb a' => by rw [hu]; exact hM b hb a'⟩
    unfold QQ
    rw [hu, gq_pt]
    have : ob (putF F (-1) a x) c q = ob F c q + (if q = (-1, a) then x c else 0) := by
      obtain ⟨q1, q2⟩ := q
      unfold ob putF putP
      simp only [if_true]
      by_cases hq1 : q1 = -1
      · subst hq1
        simp only [if_true]
        have h0 : 0 ≤ q2 := hq.2
        by_cases hq2 : q2 = a
        · subst hq2; simp [addR]
        · rw [if_neg (show ¬ q2.toNat = a.toNat by omega), if_neg (fun h => hq2 (congrArg Prod.snd h))]; omega
      · rw [if_neg hq1, if_neg hq1, if_neg (fun h => hq1 (congrArg Prod.fst h))]; omega
    rw [this]; omega
  · obtain ⟨k, rfl⟩ := Int.eq_ofNat_of_zero_le h1
    obtain ⟨a, rfl⟩ := Int.eq_ofNat_of_zero_le h3
    have hp : putF F k a x = putU F k a x := by unfold putF; rw [if_neg hne, Int.toNat_natCast, Int.toNat_natCast]
    rw [hp]
    have hkI : k < I := by omega
    have hob : ob (putU F k a x) c q = ob F c q := rfl
    have hua : (putU F k a x).u k a c = F.u k a c + x c := by simp [putU, addR]
    have huk : ∀ a', a' ≠ a → (putU F k a x).u k a' c = F.u k a' c := fun a' h => by simp [putU, h]
    have huj : ∀ j a', j ≠ k → (putU F k a x).u j a' c = F.u j a' c := fun j a' h => by simp [putU, h]
    refine ⟨?_, fun b hb a' => ?_⟩
    · unfold QQ
      rw [hob, sumI_upd (f := fun b => sumI 61 (fun a => gq BB b a (F.u b a c) q)) (k := k) (d := gq BB k a (x c) q) (fun j hj => ?_) ?_ hkI]
      · omega
      · show sumI 61 (fun a' => gq BB k a' ((putU F k a x).u k a' c) q) = sumI 61 (fun a' => gq BB k a' (F.u k a' c) q) + gq BB k a (x c) q
        have hone : gq BB k a ((putU F k a x).u k a c) q = gq BB k a (F.u k a c) q + gq BB k a (x c) q := by
          rw [hua, gq_add hG q (hM k hkI a) hx (by omega)]
        have hoth : ∀ j : Nat, j ≠ a → gq BB k j ((putU F k a x).u k j c) q = gq BB k j (F.u k j c) q := fun a' ha' => by rw [huk a' ha']
        exact sumI_upd (f := fun a' => gq BB k a' (F.u k a' c) q) (g := fun a' => gq BB k a' ((putU F k a x).u k a' c) q) (k := a) (d := gq BB k a (x c) q) (n := 61) hoth hone (by omega)
      · show sumI 61 (fun a' => gq BB j a' ((putU F k a x).u j a' c) q) = sumI 61 (fun a' => gq BB j a' (F.u j a' c) q)
        have hoth : ∀ a' : Nat, a' < 61 → gq BB j a' ((putU F k a x).u j a' c) q = gq BB j a' (F.u j a' c) q := fun a' _ => by rw [huj j a' hj]
        exact sumI_congr (f := fun a' => gq BB j a' ((putU F k a x).u j a' c) q) (g := fun a' => gq BB j a' (F.u j a' c) q) (n := 61) hoth
    · by_cases hj : b = k
      · subst hj
        by_cases ha : a' = a
        · subst ha; rw [hua]; exact Int.dvd_add (hM b hb a') hx
        · rw [huk a' ha]; exact hM b hb a'
      · rw [huj b a' hj]; exact hM b hb a'
omit hG in
theorem hg_sum (b : Bm) (i : Nat) (F : Fr) (c : Nat) : ∀ n : Nat, (hgF b i F n).h i 0 c = F.h i 0 c + sumI n (fun a => F.u i a c - gvR b a (F.u i a c)) ∧ (hgF b i F n).h i 1 c = F.h i 1 c + sumI n (fun a => gvR b a (F.u i a c))
  | 0 => ⟨by simp [hgF, sumI], by simp [hgF, sumI]⟩
  | n + 1 => by
    obtain ⟨ih1, ih2⟩ := hg_sum b i F c n
    obtain ⟨e1, e2, _⟩ := hgF_hi b i F n
    rw [e1, e2]
    simp only [addR, sumI]
    rw [ih1, ih2]
    have r1 : rgt b.lo b.hi n (F.u i n) c = gvR b n (F.u i n c) := rfl
    have r2 : lft b.lo b.hi n (F.u i n) c = F.u i n c - gvR b n (F.u i n c) := rfl
    rw [r1, r2]
    omega
omit hG in
theorem sumI_if (p : Prop) [Decidable p] (f : Nat → Int) (n : Nat) : sumI n (fun j => if p then f j else 0) = if p then sumI n f else 0 := by
  by_cases h : p
  · simp [h]
  · simp [h, sumI_zero (fun _ => rfl)]
set_option maxRecDepth 10000 in
theorem QQ_beam {F : Fr} {i c n : Nat} {b : Bm} {q : Int × Int} (hb : BB[i]? = some b) (hok : bmOk n i b = true) (hM : MI BB F (i + 1) c) (hz : ∀ k, F.h i k c = 0) (hw : (60 : Int) ^ dpn BB i ∣ wtR b c) (hq : qv q) :
    QQ BB (bmF b i F) i c q = QQ BB F (i + 1) c q + gq BB i 30 (wtR b c) q ∧ MI BB (bmF b i F) i c := by
  have hil := (List.getElem?_eq_some_iff.1 hb).1
  have hk := bmOk_iff.1 hok
  obtain ⟨s1, s2⟩ := QQ_put hG (F := F) (I := i + 1) (n := n) (b := i) (a := 30) (x := wtR b) (q := q) (by omega) hM (hasB_own (by omega)) hw hq
  rw [putF_nat] at s1 s2
  unfold bmF bmG
  have hz1 : ∀ k, (putU F i 30 (wtR b)).h i k c = 0 := hz
  rw [← s1]
  generalize putU F i 30 (wtR b) = F1 at *
  have hd := hG.dep i b hb
  have ho := hG.on i b hb
  obtain ⟨d, hdd⟩ : ∃ d, dpn BB i = d + 1 := ⟨dpn BB i - 1, by omega⟩
  have hdv : ∀ a : Nat, (60 : Int) ^ d ∣ gvR b a (F1.u i a c) ∧ (60 : Int) ^ d ∣ F1.u i a c - gvR b a (F1.u i a c) := fun a => by
    have := s2 i (by omega) a
    rw [hdd] at this
    obtain ⟨p1, p2, _⟩ := gvR_mul (a := a) (y := 0) (hG.sp i b hb) this
    exact ⟨p1, p2⟩
  obtain ⟨g1, g2⟩ := hg_sum b i F1 c 61
  rw [hz1, Int.zero_add] at g1 g2
  have hA := gq_sum hG (b := b.ab) (a := b.aa) (f := fun a : Nat => F1.u i a c - gvR b a (F1.u i a c)) q (by omega) 61 (fun a _ => pow_dvd (by omega) (hdv a).2)
  have hB := gq_sum hG (b := b.bb) (a := b.ba) (f := fun a : Nat => gvR b a (F1.u i a c)) q (by omega) 61 (fun a _ => pow_dvd (by omega) (hdv a).1)
  have hsum : sumI 61 (fun a => gq BB i a (F1.u i a c) q) = (if q = ((i : Int), 0) then sumI 61 (fun a : Nat => F1.u i a c - gvR b a (F1.u i a c)) else 0) + (if q = ((i : Int), 1) then sumI 61 (fun a : Nat => gvR b a (F1.u i a c)) else 0)
      + gq BB b.ab b.aa (sumI 61 (fun a : Nat => F1.u i a c - gvR b a (F1.u i a c))) q + gq BB b.bb b.ba (sumI 61 (fun a : Nat => gvR b a (F1.u i a c))) q := by
    rw [hA.1, hB.1, ← sumI_if, ← sumI_if, ← sumI_add, ← sumI_add, ← sumI_add]
    exact sumI_congr fun a _ => gq_bm hG hb a _ q
  have hQ1 : QQ BB F1 (i + 1) c q = ob F1 c q + sumI i (fun b => sumI 61 (fun a => gq BB b a (F1.u b a c) q)) + sumI 61 (fun a => gq BB i a (F1.u i a c) q) := by
    unfold QQ; rw [sumI]; omega
  rw [hsum] at hQ1
  have hGu : (hgF b i F1 61).u = F1.u := hgF_u b i F1 61
  have hGo : ob (hgF b i F1 61) c q = ob F1 c q + (if q = ((i : Int), 0) then sumI 61 (fun a : Nat => F1.u i a c - gvR b a (F1.u i a c)) else 0) + (if q = ((i : Int), 1) then sumI 61 (fun a : Nat => gvR b a (F1.u i a c)) else 0) := by
    obtain ⟨q1, q2⟩ := q
    unfold ob
    rw [hgF_p]
    dsimp only [qv] at hq ⊢
    by_cases hq1 : q1 = -1
    · rw [if_pos hq1, if_pos hq1, if_neg (fun h => by have := congrArg Prod.fst h; simp at this; omega), if_neg (fun h => by have := congrArg Prod.fst h; simp at this; omega)]; omega
    · rw [if_neg hq1, if_neg hq1]
      by_cases hqi : q1 = i
      · subst hqi
        rw [Int.toNat_natCast]
        obtain rfl | rfl : q2 = 0 ∨ q2 = 1 := by omega
        · rw [if_pos rfl, if_neg (by simp)]
          show (hgF b i F1 61).h i 0 c = F1.h i 0 c + _ + 0
          rw [g1, hz1]; omega
        · rw [if_neg (by simp), if_pos rfl]
          show (hgF b i F1 61).h i 1 c = F1.h i 1 c + 0 + _
          rw [g2, hz1]; omega
      · rw [if_neg (fun h => hqi (congrArg Prod.fst h)), if_neg (fun h => hqi (congrArg Prod.fst h)), hgF_h b i F1 (show q1.toNat ≠ i by omega)]; omega
  have hMG : MI BB (hgF b i F1 61) i c := fun j hj a => by rw [hGu]; exact s2 j (by omega) a
  have hQG : QQ BB (hgF b i F1 61) i c q = ob (hgF b i F1 61) c q + sumI i (fun b => sumI 61 (fun a => gq BB b a (F1.u b a c) q)) := by
    unfold QQ; rw [hGu]
  generalize hgF b i F1 61 = G at *
  obtain ⟨t1, t2⟩ := QQ_put hG (F := G) (I := i) (n := n) (b := b.ab) (a := b.aa) (x := G.h i 0) (q := q) (by omega) hMG hk.2.2.2.1 (by rw [g1]; exact hA.2) hq
  obtain ⟨v1, v2⟩ := QQ_put hG (F := putF G b.ab b.aa (G.h i 0)) (I := i) (n := n) (b := b.bb) (a := b.ba) (x := G.h i 1) (q := q) (by omega) t2 hk.2.2.2.2.1 (by rw [g2]; exact hB.2) hq
  refine ⟨?_, v2⟩
  rw [v1, t1, hQG, hGo, hQ1, g1, g2]
  omega
end
section
variable {f0 f1 f2 : Int} {PP : List Int} {BB : List Bm} {LL : List Ld} (hr : rigOk f0 f1 f2 PP BB LL = true)
include hr
theorem rig_G : BmsG BB := bmsG_of (rigOk_iff.1 hr).2.2.2.1
theorem ld_dvd {l : Ld} (hl : l ∈ LL) : (60 : Int) ^ dpn BB l.beam ∣ 216000 ∧ (l.beam = -1 ∨ 0 ≤ l.beam ∧ l.beam < BB.length) := by
  have hG := rig_G hr
  have hok := List.all_eq_true.1 (rigOk_iff.1 hr).2.2.2.2.2.2 l hl
  rw [ldOk_iff] at hok
  have h1 := hasB_cases hok.1
  refine ⟨?_, by omega⟩
  have : dpn BB l.beam ≤ 3 := by
    rcases h1 with h | h
    · rw [h.1]; unfold dpn; simp
    · obtain ⟨k, hk⟩ := Int.eq_ofNat_of_zero_le h.2.1.1
      rw [hk]; exact hG.d3 k
  exact pow_dvd this ⟨1, by decide⟩
theorem lds_ob {q : Int × Int} (hq : qv q) (c : Nat) : ∀ k, k ≤ LL.length → QQ BB (ldsF LL k) BB.length c q = (if c < k then (match LL[c]? with | some l => gq BB l.beam l.at' 216000 q | none => 0) else 0) ∧ MI BB (ldsF LL k) BB.length c
  | 0, _ => by
    have hG := rig_G hr
    refine ⟨?_, fun b _ a => dvd_0 _⟩
    rw [if_neg (by omega)]
    unfold QQ
    have e1 : ob (ldsF LL 0) c q = 0 := by unfold ob; split <;> rfl
    rw [e1, Int.zero_add]
    have : sumI BB.length (fun b => sumI 61 (fun a => gq BB b a ((ldsF LL 0).u b a c) q)) = sumI BB.length (fun _ => 0) := sumI_congr fun j hj => by
      have h0 : ∀ a : Nat, gq BB j a ((ldsF LL 0).u j a c) q = 0 := fun a => gq_0 hG q (by omega)
      exact sumI_zero h0 61
    rw [this, sumI_zero (fun _ => rfl)]
  | k + 1, hk => by
    have hG := rig_G hr
    obtain ⟨ih1, ih2⟩ := lds_ob hq c k (by omega)
    obtain ⟨l, hl⟩ : ∃ l, LL[k]? = some l := ⟨_, List.getElem?_eq_getElem (by omega)⟩
    have hok := List.all_eq_true.1 (rigOk_iff.1 hr).2.2.2.2.2.2 l (List.mem_of_getElem? hl)
    rw [ldOk_iff] at hok
    obtain ⟨h1, h2⟩ := ld_dvd hr (List.mem_of_getElem? hl)
    have hu : unitR k c = if c = k then 216000 else 0 := by
      unfold unitR
      by_cases h : c = k
      · subst h; simp
      · have hb : Nat.beq c k = false := by
          cases hc : Nat.beq c k with
          | false => rfl
          | true => exact absurd (Nat.eq_of_beq_eq_true hc) h
        rw [hb, if_neg h]; rfl
    obtain ⟨t1, t2⟩ := QQ_put hG (F := ldsF LL k) (I := BB.length) (c := c) (n := PP.length) (b := l.beam) (a := l.at') (x := unitR k) (q := q) (Nat.le_refl _) ih2 hok.1 (by rw [hu]; split; exact h1; exact dvd_0 _) hq
    rw [ldsF, hl]
    refine ⟨?_, t2⟩
    dsimp only
    rw [t1, ih1, hu]
    by_cases h : c = k
    · subst h
      rw [if_neg (by omega), if_pos rfl, if_pos (by omega), hl]; simp
    · rw [if_neg h, gq_0 hG q h2]
      by_cases h3 : c < k
      · rw [if_pos h3, if_pos (by omega)]; omega
      · rw [if_neg h3, if_neg (by omega)]; omega
def wsum (BB : List Bm) (c : Nat) (q : Int × Int) (n : Nat) : Int := sumI n (fun i => match BB[i]? with | some b => gq BB i 30 (wtR b c) q | none => 0)
theorem wt_dvd {i : Nat} {b : Bm} (hb : BB[i]? = some b) (c : Nat) : (60 : Int) ^ dpn BB i ∣ wtR b c := by
  have hG := rig_G hr
  refine pow_dvd (hG.d3 i) ?_
  unfold wtR
  cases Nat.beq c 20
  · exact dvd_0 _
  · exact ⟨b.wt, by show b.wt * 216000 = 60 ^ 3 * b.wt; rw [Int.mul_comm]; rfl⟩
theorem bms_ob {q : Int × Int} (hq : qv q) (c : Nat) : ∀ k, k ≤ BB.length → QQ BB (bmsF BB (ldsF LL LL.length) k) (BB.length - k) c q + wsum BB c q (BB.length - k) = QQ BB (ldsF LL LL.length) BB.length c q + wsum BB c q BB.length ∧ MI BB (bmsF BB (ldsF LL LL.length) k) (BB.length - k) c
  | 0, _ => ⟨rfl, (lds_ob hr hq c LL.length (Nat.le_refl _)).2⟩
  | k + 1, hk => by
    have hG := rig_G hr
    obtain ⟨ih1, ih2⟩ := bms_ob hq c k (by omega)
    obtain ⟨i, hi⟩ : ∃ i, i + k + 1 = BB.length := ⟨BB.length - 1 - k, by omega⟩
    obtain ⟨b, hb⟩ : ∃ b, BB[i]? = some b := ⟨_, List.getElem?_eq_getElem (by omega)⟩
    rw [show BB.length - k = i + 1 from by omega] at ih1 ih2
    obtain ⟨t1, t2⟩ := QQ_beam hG hb (bm_at hr hb) ih2 (fun c' => by rw [bms_h _ _ _ _ (by omega), lds_h]; rfl) (wt_dvd hr hb c) hq
    rw [bmsF, show BB.length - 1 - k = i from by omega, hb, show BB.length - (k + 1) = i from by omega]
    dsimp only
    refine ⟨?_, t2⟩
    rw [t1, ← ih1]
    unfold wsum
    rw [sumI, hb]
    dsimp only
    omega
/-- **WHAT A FRAME TELLS**: each load's column is what a newton of it gives; the last one is what all weights give. -/
theorem frF_ob {q : Int × Int} (hq : qv q) (c : Nat) : ob (frF BB LL) c q = (if c < LL.length then (match LL[c]? with | some l => gq BB l.beam l.at' 216000 q | none => 0) else 0) + wsum BB c q BB.length := by
  have h1 := (bms_ob hr hq c BB.length (Nat.le_refl _)).1
  rw [(lds_ob hr hq c LL.length (Nat.le_refl _)).1, Nat.sub_self] at h1
  unfold QQ wsum at h1
  simp only [sumI] at h1
  unfold wsum frF
  omega
theorem frF_ld {q : Int × Int} (hq : qv q) {c : Nat} {l : Ld} (hl : LL[c]? = some l) : ob (frF BB LL) c q = gq BB l.beam l.at' 216000 q := by
  have hG := rig_G hr
  have hc := (List.getElem?_eq_some_iff.1 hl).1
  have hl20 := (rigOk_iff.1 hr).2.2.2.2.1
  rw [frF_ob hr hq c, if_pos hc, hl]
  have : wsum BB c q BB.length = 0 := by
    unfold wsum
    rw [sumI_congr (g := fun _ => 0) fun i hi => ?_, sumI_zero fun _ => rfl]
    rw [List.getElem?_eq_getElem hi]
    dsimp only
    have hb : Nat.beq c 20 = false := by
      cases h : Nat.beq c 20 with
      | false => rfl
      | true => have := Nat.eq_of_beq_eq_true h; omega
    rw [show wtR BB[i] c = 0 from by unfold wtR; rw [hb]; rfl]
    exact gq_0 hG q (by omega)
  rw [this]; dsimp only; omega
theorem frF_wt {q : Int × Int} (hq : qv q) : ob (frF BB LL) 20 q = sumI BB.length (fun i => match BB[i]? with | some b => gq BB i 30 (b.wt * 216000) q | none => 0) := by
  have hl20 := (rigOk_iff.1 hr).2.2.2.2.1
  rw [frF_ob hr hq 20, if_neg (by omega), Int.zero_add]
  rfl
end
end Go.Proofs.Ytaciigegbgnadaa
