/- The plain law of tables: a table that is shown bounds each right season; the least table is as it should be. -/
import Derived.Test.YthfabodamhdhaaaUB
import Derived.Test.YthfabodamhdhaaaRZ
import Derived.Test.YthfabodamhdhaaaTR
namespace Go.Proofs.Ythfabodamhdhaaa
open Go Tx Go.RowKit
set_option linter.unusedSimpArgs false
set_option linter.unusedVariables false

theorem asL_ge (x : To) (F : List Int) (R : List (List Int)) (a t f : Nat) : ∀ (L : List Nat) (n : Int), n ≤ asL x F R a t f L n ∧ ∀ l ∈ L, asG x F R a t f l ≤ asL x F R a t f L n
  | [], n => ⟨Int.le_refl _, fun l h => by cases h⟩
  | k :: L, n => by
    have ih := asL_ge x F R a t f L (imax n (asG x F R a t f k))
    have e := imax_eq n (asG x F R a t f k)
    simp only [asL]
    refine ⟨by omega, fun l hl => ?_⟩
    rcases List.mem_cons.1 hl with rfl | hl
    · omega
    · exact ih.2 l hl
theorem asF_ge (x : To) (F : List Int) (R : List (List Int)) (a t f0 : Nat) : ∀ (m : Nat) (n : Int), n ≤ asF x F R a t f0 m n ∧ ∀ q, q < m → ∀ l ∈ ALO x t (f0 + q), asG x F R a t (f0 + q) l ≤ asF x F R a t f0 m n
  | 0, n => ⟨Int.le_refl _, fun q h => by omega⟩
  | m + 1, n => by
    have ih := asF_ge x F R a t f0 m n
    have h := asL_ge x F R a t (f0 + m) (ALO x t (f0 + m)) (asF x F R a t f0 m n)
    simp only [asF]
    refine ⟨by omega, fun q hq l hl => ?_⟩
    rcases (by omega : q < m ∨ q = m) with hq | rfl
    · have := ih.2 q hq l hl; omega
    · exact h.2 l hl
theorem asT_ge (x : To) (F : List Int) (R : List (List Int)) (a d : Nat) : ∀ (m : Nat) (n : Int), n ≤ asT x F R a d m n ∧ ∀ t, t < m → t ≠ 0 → t ≠ a → ∀ f, d + lsN x a t ≤ f → f < x.days.toNat → ∀ l ∈ ALO x t f, asG x F R a t f l ≤ asT x F R a d m n
  | 0, n => ⟨Int.le_refl _, fun t h => by omega⟩
  | m + 1, n => by
    have ih := asT_ge x F R a d m n
    simp only [asT]
    by_cases hm : m = 0 ∨ m = a
    · rw [if_pos hm]
      refine ⟨ih.1, fun t ht h0 ha f h1 h2 l hl => ih.2 t ?_ h0 ha f h1 h2 l hl⟩
      rcases (by omega : t < m ∨ t = m) with h | rfl
      · exact h
      · rcases hm with h | h
        · exact absurd h h0
        · exact absurd h ha
    · rw [if_neg hm]
      have h := asF_ge x F R a m (d + lsN x a m) (x.days.toNat - (d + lsN x a m)) (asT x F R a d m n)
      refine ⟨by omega, fun t ht h0 ha f h1 h2 l hl => ?_⟩
      rcases (by omega : t < m ∨ t = m) with h3 | rfl
      · have := ih.2 t h3 h0 ha f h1 h2 l hl; omega
      · have := h.2 (f - (d + lsN x a t)) (by omega) l (by rw [show d + lsN x a t + (f - (d + lsN x a t)) = f from by omega]; exact hl)
        rwa [show d + lsN x a t + (f - (d + lsN x a t)) = f from by omega] at this
/-- The fees of the towns that are not yet played. -/
def feU (S : Nat) : List Int → Nat → Int
  | [], _ => 0
  | f :: F, i => (if S.testBit i = true then 0 else f) + feU S F (i + 1)
/-- The fees of stops. -/
def feL (F : List Int) : List (Nat × Nat × Nat) → Int
  | [] => 0
  | u :: L => (F[u.1]?).getD 0 + feL F L
theorem feU_nn {S : Nat} : ∀ {F : List Int} {i : Nat}, FeB F → 0 ≤ feU S F i
  | [], _, _ => Int.le_refl _
  | f :: F, i, h => by
    have h1 := h f (List.mem_cons_self ..)
    have ih := feU_nn (S := S) (i := i + 1) fun g hg => h g (List.mem_cons_of_mem _ hg)
    simp only [feU]
    split <;> omega
theorem feU_or {S t : Nat} : ∀ {F : List Int} {i : Nat}, FeB F → i ≤ t → S.testBit t = false → feU (S ||| 2 ^ t) F i + (F[t - i]?).getD 0 ≤ feU S F i
  | [], i, _, _, _ => by simp [feU]
  | f :: F, i, h, hi, hS => by
    have hF : FeB F := fun g hg => h g (List.mem_cons_of_mem _ hg)
    have h1 := h f (List.mem_cons_self ..)
    simp only [feU, Nat.testBit_or, Nat.testBit_two_pow]
    rcases (by omega : i = t ∨ i + 1 ≤ t) with rfl | hi
    · have key : ∀ (F : List Int) (k : Nat), FeB F → i < k → feU (S ||| 2 ^ i) F k = feU S F k := by
        intro F
        induction F with
        | nil => intro k _ _; rfl
        | cons g F ih =>
          intro k hg hk
          simp only [feU, Nat.testBit_or, Nat.testBit_two_pow]
          rw [ih (k + 1) (fun q hq => hg q (List.mem_cons_of_mem _ hq)) (by omega), decide_eq_false (by omega), Bool.or_false]
      rw [key F (i + 1) hF (by omega), hS]
      simp
      omega
    · have ih := feU_or (i := i + 1) hF hi hS
      have e : (f :: F)[t - i]? = F[t - (i + 1)]? := by
        rw [show t - i = (t - (i + 1)) + 1 from by omega, List.getElem?_cons_succ]
      rw [e, decide_eq_false (by omega), Bool.or_false]
      split <;> omega
theorem fe_chain {x : To} {F : List Int} (hF : FeB F) : ∀ (L : List (Nat × Nat × Nat)) (S a d : Nat), Ch x S a d L → feL F L ≤ feU S F 0
  | [], S, a, d, _ => feU_nn hF
  | (t, f, l) :: L, S, a, d, ⟨h1, h2, h3, h4, h5⟩ => by
    have ih := fe_chain hF L _ _ _ h5
    have h := feU_or (S := S) (t := t) (i := 0) hF (Nat.zero_le _) h2
    rw [Nat.sub_zero] at h
    simp only [feL]
    omega
theorem smO_feU : ∀ (F : List Int) (n : Int) (i : Nat), FeB F → smO F n = n + feU 0 F i
  | [], n, i, _ => by simp [smO, feU]
  | f :: F, n, i, h => by
    have h1 := h f (List.mem_cons_self ..)
    have ih := smO_feU F (n + f) (i + 1) fun g hg => h g (List.mem_cons_of_mem _ hg)
    have e : smO (f :: F) n = smO F (n + f) := rfl
    rw [e, ih]
    simp only [feU, Nat.zero_testBit]
    simp
    omega
/-- A table whose numbers are at least what is asked bounds each chain. -/
theorem dual {x : To} (hn : ToN x) (h0 : csO x 0 0 = 0) {F : List Int} {R : List (List Int)} (hR : ∀ a, a < x.T.length → ∀ d, d < x.days.toNat + 1 → asO x F R a d ≤ tbO R a d) : ∀ (L : List (Nat × Nat × Nat)) (S a d : Nat),
    (S = 0 ∧ a = 0 ∧ d = 0) ∨ (S.testBit a = true ∧ a ≠ 0 ∧ d ≠ 0 ∧ d ≤ x.days.toNat ∧ a < x.T.length) → Ch x S a d L → Va x a L - feL F L ≤ tbO R a d := by
  intro L
  have hT := hn.n
  have hst : ∀ S a d, (S = 0 ∧ a = 0 ∧ d = 0) ∨ (S.testBit a = true ∧ a ≠ 0 ∧ d ≠ 0 ∧ d ≤ x.days.toNat ∧ a < x.T.length) → asT x F R a d x.T.length (asB x a d) ≤ tbO R a d := fun S a d h => by
    have h1 := hR a (by rcases h with h | h <;> omega) d (by rcases h with h | h <;> omega)
    unfold asO at h1
    rwa [if_neg (by rcases h with h | h <;> omega)] at h1
  induction L with
  | nil =>
    intro S a d h hC
    have h1 := hst S a d h
    have h2 := (asT_ge x F R a d x.T.length (asB x a d)).1
    have h3 : asB x a d = -csO x a 0 := by
      unfold asB
      rcases h with ⟨_, rfl, rfl⟩ | ⟨g1, g2, g3, g4, g5⟩
      · rw [if_pos ⟨rfl, rfl⟩, h0]; rfl
      · rw [if_neg (by omega), if_pos]
        rcases hC with rfl | hC
        · simp at g1
        · exact hC
    simp only [Va, feL]
    omega
  | cons u L ih =>
    obtain ⟨t, f, l⟩ := u
    intro S a d h ⟨c1, c2, c3, c4, c5⟩
    have h1 := hst S a d h
    have hl := ALO_ok hn t f c1.1 c1.2 l c4
    have hta : t ≠ a := fun e => by
      subst e
      rcases h with ⟨rfl, rfl, rfl⟩ | ⟨g1, _⟩
      · omega
      · rw [g1] at c2; cases c2
    have h2 := (asT_ge x F R a d x.T.length (asB x a d)).2 t c1.2 (by omega) hta f c3 (by omega) l c4
    have h3 := ih (S ||| 2 ^ t) t (l + 1) (.inr ⟨by rw [Nat.testBit_or, Nat.testBit_two_pow_self, Bool.or_true], by omega, by omega, by omega, c1.2⟩) c5
    unfold asG at h2
    simp only [Va, feL]
    omega
/-- What a table bounds. -/
theorem pf_bd {x : To} (hn : ToN x) (h0 : csO x 0 0 = 0) {F : List Int} (hF : FeB F) {R : List (List Int)} (hR : ∀ a, a < x.T.length → ∀ d, d < x.days.toNat + 1 → asO x F R a d ≤ tbO R a d) {S : List (Int × Int × Int)} (hS : fsO x S = []) : pfO x S ≤ bdO F R := by
  obtain ⟨A, rfl⟩ := fs_nat hn hS
  rw [pfO_eq]
  have hC := (fsO_iff hn A).1 hS
  have h1 := dual hn h0 hR A 0 0 0 (.inl ⟨rfl, rfl, rfl⟩) hC
  have h2 := fe_chain hF A 0 0 0 hC
  unfold bdO
  rw [smO_feU F (tbO R 0 0) 0 hF]
  omega
theorem hm_bdO {x : To} (h : toB x = true) {F : List Int} (hF : FeB F) {R : List (List Int)} (hR : ∀ a, a < x.T.length → ∀ d, d < x.days.toNat + 1 → asO x F R a d ≤ tbO R a d) : hmO x (ALO x) 0 0 0 ≤ bdO F R := by
  have hn := toB_n h
  obtain ⟨g1, g2⟩ := bs_ok hn (cs00 h)
  rw [← g2]
  exact pf_bd hn (cs00 h) hF hR g1
/-- What ProveBound accepts bounds the best season. -/
theorem sh_bd {x : To} (h : toB x = true) {F : List Int} (hF : FeB F) {b : Int} {R : List (List Int)} (hR : shO x F b R = true) : hmO x (ALO x) 0 0 0 ≤ b := by
  obtain ⟨_, _, h1, h2⟩ := shO_iff.1 hR
  rw [← h2]
  exact hm_bdO h hF h1

/-! ### The least table -/
theorem asL_congr {x : To} {F : List Int} {R R' : List (List Int)} {a t f : Nat} : ∀ {L : List Nat} {n : Int}, (∀ l ∈ L, tbO R t (l + 1) = tbO R' t (l + 1)) → asL x F R a t f L n = asL x F R' a t f L n
  | [], n, _ => rfl
  | k :: L, n, h => by
    simp only [asL]
    have e : asG x F R a t f k = asG x F R' a t f k := by unfold asG; rw [h k (List.mem_cons_self ..)]
    rw [e]
    exact asL_congr fun l hl => h l (List.mem_cons_of_mem _ hl)
theorem asO_congr {x : To} (hn : ToN x) {F : List Int} {R R' : List (List Int)} {a d : Nat} (h : ∀ t c, d < c → tbO R t c = tbO R' t c) : asO x F R a d = asO x F R' a d := by
  have hF : ∀ t, 1 ≤ t → t < x.T.length → ∀ f0, d ≤ f0 → ∀ m n, asF x F R a t f0 m n = asF x F R' a t f0 m n := fun t h1 h2 f0 hf m => by
    induction m with
    | zero => intro n; rfl
    | succ m ih =>
      intro n
      simp only [asF]
      rw [ih n]
      exact asL_congr fun l hl => h t (l + 1) (by have := ALO_ok hn t (f0 + m) h1 h2 l hl; omega)
  have hT : ∀ m, m ≤ x.T.length → ∀ n, asT x F R a d m n = asT x F R' a d m n := fun m => by
    induction m with
    | zero => intro _ n; rfl
    | succ m ih =>
      intro hm n
      simp only [asT]
      rw [ih (by omega) n]
      by_cases h1 : m = 0 ∨ m = a
      · rw [if_pos h1, if_pos h1]
      · rw [if_neg h1, if_neg h1]
        exact hF m (by omega) (by omega) _ (by omega) _ _
  unfold asO
  split
  · rfl
  · exact hT _ (Nat.le_refl _) _
theorem tbO_set {R : List (List Int)} {n N a d : Nat} {v : Int} (hl : R.length = n) (hr : ∀ r ∈ R, r.length = N) (ha : a < n) (hd : d < N) (t c : Nat) : tbO (setT R a d v) t c = if t = a ∧ c = d then v else tbO R t c := by
  obtain ⟨r, hr2⟩ : ∃ r, R[a]? = some r := ⟨_, List.getElem?_eq_getElem (by omega)⟩
  have hrl := hr r (List.mem_of_getElem? hr2)
  unfold tbO setT
  rw [hr2, Option.getD_some]
  by_cases ht : t = a
  · subst ht
    rw [List.getElem?_set_self (by omega), Option.getD_some]
    by_cases hc : c = d
    · subst hc
      rw [List.getElem?_set_self (by omega), if_pos ⟨rfl, rfl⟩]; rfl
    · rw [List.getElem?_set_ne (by omega), if_neg (fun h => hc h.2), hr2]; rfl
  · rw [List.getElem?_set_ne (by omega), if_neg (fun h => ht h.1)]
theorem tabA_at {x : To} (hn : ToN x) {F : List Int} (hF : FeB F) {N d : Nat} {M : Int} (hM : 0 ≤ M) {R : List (List Int)} (h : TbS x.T.length N M R) (hd : d < N) : ∀ m, m ≤ x.T.length → ∀ t c, tbO (tabA x F d m R) t c = if t < m ∧ c = d then asO x F R t d else tbO R t c
  | 0, _, t, c => by rw [if_neg (by omega)]; rfl
  | m + 1, hm, t, c => by
    have ih := tabA_at hn hF hM h hd m (by omega)
    have hs := tabA_s hn hF hM h (d := d) m (by omega)
    have e : asO x F (tabA x F d m R) m d = asO x F R m d := asO_congr hn fun t c hc => by rw [ih t c, if_neg (by omega)]
    simp only [tabA]
    rw [tbO_set hs.l hs.n (by omega) hd t c, e]
    by_cases h1 : t = m ∧ c = d
    · rw [if_pos h1, if_pos (by omega), h1.1]
    · rw [if_neg h1, ih t c]
      by_cases h2 : t < m ∧ c = d
      · rw [if_pos h2, if_pos (by omega)]
      · rw [if_neg h2, if_neg (by omega)]
theorem tabK_fix {x : To} (hn : ToN x) {F : List Int} (hF : FeB F) : ∀ k : Nat, k ≤ x.days.toNat + 1 → ∀ a, a < x.T.length → ∀ d, d ≤ x.days.toNat → x.days.toNat < d + k → asO x F (tabK x F k) a d = tbO (tabK x F k) a d
  | 0, _, a, ha, d, h1, h2 => by omega
  | k + 1, hk, a, ha, d, h1, h2 => by
    have ih := tabK_fix hn hF k (by omega)
    have hs := tabK_s hn hF k
    have hat := tabA_at hn hF (by omega) hs (d := x.days.toNat - k) (by omega) x.T.length (Nat.le_refl _)
    have e : asO x F (tabK x F (k + 1)) a d = asO x F (tabK x F k) a d := asO_congr hn fun t c hc => by
      simp only [tabK]
      rw [hat t c, if_neg (by omega)]
    rw [e]
    simp only [tabK]
    rw [hat a d]
    by_cases hd : d = x.days.toNat - k
    · rw [if_pos ⟨ha, hd⟩, ← hd]
    · rw [if_neg (fun h => hd h.2)]
      exact ih a ha d h1 (by omega)
/-- The least table's numbers are what is asked. -/
theorem tab_fix {x : To} (hn : ToN x) {F : List Int} (hF : FeB F) : ∀ a, a < x.T.length → ∀ d, d < x.days.toNat + 1 → asO x F (tabO x F) a d = tbO (tabO x F) a d := fun a ha d hd => tabK_fix hn hF _ (Nat.le_refl _) a ha d (by omega) (by omega)
/-- ProveBound accepts what Bound returns. -/
theorem tab_sh {x : To} (hn : ToN x) {F : List Int} (hF : FeB F) : shO x F (bdO F (tabO x F)) (tabO x F) = true := by
  have hs := tabK_s hn hF (x.days.toNat + 1)
  have hd := hn.d
  exact shO_iff.2 ⟨hs.l, fun r hr => ⟨hs.n r hr, fun n hm => by have := hs.b r hr n hm; omega⟩, fun a ha d hd => Int.le_of_eq (tab_fix hn hF a ha d hd), rfl⟩
end Go.Proofs.Ythfabodamhdhaaa
