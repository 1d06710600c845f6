/- The plain law of tables: a table that is shown bounds each right season; the least table is as it should be. -/
import Derived.Test.YthfabodamhdhaaaUB
import Derived.Test.YthfabodamhdhaaaRZ
import Derived.Test.YthfabodamhdhaaaTR
namespace Go.Proofs.Ythfabodamhdhaaa
open Go Tx Go.RowKit
set_option linter.unusedSimpArgs false
set_option linter.unusedVariables false
theorem asL_congr {x : To} {F : List Int} {R R' : List (List Int)} {a t f : Nat} : ∀ {L : List Nat} {n : Int}, (∀ l ∈ L, tbO R t (l + 1) = tbO R' t (l + 1)) → asL x F R a t f L n = asL x F R' a t f L n
 | [], n, _ => rfl
 | k :: L, n, h => by
  simp only [asL]
  have e : asG x F R a t f k = asG x F R' a t f k := by unfold asG; rw [h k (List.mem_cons_self ..)]
  rw [e]
  exact asL_congr fun l hl => h l (List.mem_cons_of_mem _ hl)
theorem asO_congr {x : To} (hn : ToN x) {F : List Int} {R R' : List (List Int)} {a d : Nat} (h : ∀ t c, d < c → tbO R t c = tbO R' t c) : asO x F R a d = asO x F R' a d := by
 have hF : ∀ t, 1 ≤ t → t < x.T.length → ∀ f0, d ≤ f0 → ∀ m n, asF x F R a t f0 m n = asF x F R' a t f0 m n := fun t h1 h2 f0 hf m => by
  induction m with
  | zero => intro n; rfl
  | succ m ih =>
   intro n
   simp only [asF]
   rw [ih n]
   exact asL_congr fun l hl => h t (l + 1) (by have := ALO_ok hn t (f0 + m) h1 h2 l hl; omega)
 have hT : ∀ m, m ≤ x.T.length → ∀ n, asT x F R a d m n = asT x F R' a d m n := fun m => by
  induction m with
  | zero => intro _ n; rfl
  | succ m ih =>
   intro hm n
   simp only [asT]
   rw [ih (by omega) n]
   by_cases h1 : m = 0 ∨ m = a
   · rw [if_pos h1, if_pos h1]
   · rw [if_neg h1, if_neg h1]
     exact hF m (by omega) (by omega) _ (by omega) _ _
 unfold asO
 split
 · rfl
 · exact hT _ (Nat.le_refl _) _
theorem tbO_set {R : List (List Int)} {n N a d : Nat} {v : Int} (hl : R.length = n) (hr : ∀ r ∈ R, r.length = N) (ha : a < n) (hd : d < N) (t c : Nat) : tbO (setT R a d v) t c = if t = a ∧ c = d then v else tbO R t c := by
 obtain ⟨r, hr2⟩ : ∃ r, R[a]? = some r := ⟨_, List.getElem?_eq_getElem (by omega)⟩
 have hrl := hr r (List.mem_of_getElem? hr2)
 unfold tbO setT
 rw [hr2, Option.getD_some]
 by_cases ht : t = a
 · subst ht
   rw [List.getElem?_set_self (by omega), Option.getD_some]
   by_cases hc : c = d
   · subst hc
     rw [List.getElem?_set_self (by omega), if_pos ⟨rfl, rfl⟩]; rfl
   · rw [List.getElem?_set_ne (by omega), if_neg (fun h => hc h.2), hr2]; rfl
 · rw [List.getElem?_set_ne (by omega), if_neg (fun h => ht h.1)]
theorem tabA_at {x : To} (hn : ToN x) {F : List Int} (hF : FeB F) {N d : Nat} {M : Int} (hM : 0 ≤ M) {R : List (List Int)} (h : TbS x.T.length N M R) (hd : d < N) : ∀ m, m ≤ x.T.length → ∀ t c, tbO (tabA x F d m R) t c = if t < m ∧ c = d then asO x F R t d else tbO R t c
 | 0, _, t, c => by rw [if_neg (by omega)]; rfl
 | m + 1, hm, t, c => by
  have ih := tabA_at hn hF hM h hd m (by omega)
  have hs := tabA_s hn hF hM h (d := d) m (by omega)
  have e : asO x F (tabA x F d m R) m d = asO x F R m d := asO_congr hn fun t c hc => by rw [ih t c, if_neg (by omega)]
  simp only [tabA]
  rw [tbO_set hs.l hs.n (by omega) hd t c, e]
  by_cases h1 : t = m ∧ c = d
  · rw [if_pos h1, if_pos (by omega), h1.1]
  · rw [if_neg h1, ih t c]
    by_cases h2 : t < m ∧ c = d
    · rw [if_pos h2, if_pos (by omega)]
    · rw [if_neg h2, if_neg (by omega)]
theorem tabK_fix {x : To} (hn : ToN x) {F : List Int} (hF : FeB F) : ∀ k : Nat, k ≤ x.days.toNat + 1 → ∀ a, a < x.T.length → ∀ d, d ≤ x.days.toNat → x.days.toNat < d + k → asO x F (tabK x F k) a d = tbO (tabK x F k) a d
 | 0, _, a, ha, d, h1, h2 => by omega
 | k + 1, hk, a, ha, d, h1, h2 => by
  have ih := tabK_fix hn hF k (by omega)
  have hs := tabK_s hn hF k
  have hat := tabA_at hn hF (by omega) hs (d := x.days.toNat - k) (by omega) x.T.length (Nat.le_refl _)
  have e : asO x F (tabK x F (k + 1)) a d = asO x F (tabK x F k) a d := asO_congr hn fun t c hc => by
   simp only [tabK]
   rw [hat t c, if_neg (by omega)]
  rw [e]
  simp only [tabK]
  rw [hat a d]
  by_cases hd : d = x.days.toNat - k
  · rw [if_pos ⟨ha, hd⟩, ← hd]
  · rw [if_neg (fun h => hd h.2)]
    exact ih a ha d h1 (by omega)
theorem tab_fix {x : To} (hn : ToN x) {F : List Int} (hF : FeB F) : ∀ a, a < x.T.length → ∀ d, d < x.days.toNat + 1 → asO x F (tabO x F) a d = tbO (tabO x F) a d := fun a ha d hd => tabK_fix hn hF _ (Nat.le_refl _) a ha d (by omega) (by omega)
theorem tab_sh {x : To} (hn : ToN x) {F : List Int} (hF : FeB F) : shO x F (bdO F (tabO x F)) (tabO x F) = true := by
 have hs := tabK_s hn hF (x.days.toNat + 1)
 have hd := hn.d
 exact shO_iff.2 ⟨hs.l, fun r hr => ⟨hs.n r hr, fun n hm => by have := hs.b r hr n hm; omega⟩, fun a ha d hd => Int.le_of_eq (tab_fix hn hF a ha d hd), rfl⟩
end Go.Proofs.Ythfabodamhdhaaa
