/- The plain law of seasons: a right season is a chain of stops; none has more profit than the best one, which is right. -/
import Derived.Test.YthfabodamhdhaaaRT
namespace Go.Proofs.Ythfabodamhdhaaa
open Go Tx Go.RowKit
set_option linter.unusedSimpArgs false
set_option linter.unusedVariables false
abbrev toI (s : Nat × Nat × Nat) : Int × Int × Int := ((s.1 : Int), (s.2.1 : Int), (s.2.2 : Int))
def Ch (x : To) : Nat → Nat → Nat → List (Nat × Nat × Nat) → Prop
 | S, a, d, [] => S = 0 ∨ lsO x a 0 + d ≤ x.days
 | S, a, d, (t, f, l) :: L => (1 ≤ t ∧ t < x.T.length) ∧ S.testBit t = false ∧ d + lsN x a t ≤ f ∧ l ∈ ALO x t f ∧ Ch x (S ||| 2 ^ t) t (l + 1) L
def Va (x : To) : Nat → List (Nat × Nat × Nat) → Int
 | a, [] => -csO x a 0
 | a, (t, f, l) :: L => gnO x t f l - csO x a t + Va x t L
theorem fold_ge {α : Type} {c : α → Bool} {g : α → Int} : ∀ (l : List α) (n : Int), n ≤ l.foldl (fun (n : Int) (t : α) => if c t = true then n else imax n (g t)) n
 | [], n => Int.le_refl _
 | t :: l, n => by
  rw [List.foldl_cons]
  refine Int.le_trans ?_ (fold_ge l _)
  split
  · exact Int.le_refl _
  · rw [imax_eq]; omega
theorem fold_mem {α : Type} {c : α → Bool} {g : α → Int} {u : α} (hc : c u = false) : ∀ (l : List α) (n : Int), u ∈ l → g u ≤ l.foldl (fun (n : Int) (t : α) => if c t = true then n else imax n (g t)) n
 | t :: l, n, h => by
  rw [List.foldl_cons]
  rcases List.mem_cons.1 h with rfl | h
  · refine Int.le_trans ?_ (fold_ge l _)
    rw [if_neg (by rw [hc]; decide), imax_eq]; omega
  · exact fold_mem hc l _ h
theorem fold_at {α : Type} {c : α → Bool} {g : α → Int} : ∀ (l : List α) (n : Int), l.foldl (fun (n : Int) (t : α) => if c t = true then n else imax n (g t)) n = n ∨ ∃ u ∈ l, c u = false ∧ l.foldl (fun (n : Int) (t : α) => if c t = true then n else imax n (g t)) n = g u
 | [], n => .inl rfl
 | t :: l, n => by
  rw [List.foldl_cons]
  rcases fold_at l (if c t = true then n else imax n (g t)) with h | ⟨u, h1, h2, h3⟩
  · rw [h]
    cases hc : c t with
    | true => exact .inl (if_pos rfl)
    | false =>
     rw [if_neg (by decide), imax_eq]
     rcases Int.le_total n (g t) with h4 | h4
     · exact .inr ⟨t, List.mem_cons_self .., hc, by omega⟩
     · exact .inl (by omega)
  · exact .inr ⟨u, List.mem_cons_of_mem _ h1, h2, h3⟩
theorem foldm_eq {α : Type} {g : α → Int} (l : List α) (n : Int) : l.foldl (fun (n : Int) (t : α) => imax n (g t)) n = l.foldl (fun (n : Int) (t : α) => if (fun _ : α => false) t = true then n else imax n (g t)) n := foldl_congr fun n t _ => by simp
theorem bgO_ge (x : To) (AL : Nat → Nat → List Nat) (S a : Nat) : ∀ m d, x.days.toNat - d = m → ∀ f l, d ≤ f → f < x.days.toNat → l ∈ AL a f → gnO x a f l + hmO x AL (S ||| 2 ^ a) a (l + 1) ≤ bgO x AL S a d
 | 0, d, hm, f, l, h1, h2, h3 => by omega
 | m + 1, d, hm, f, l, h1, h2, h3 => by
  rw [bgO_step x AL S a d (by omega), foldm_eq]
  rcases (by omega : d = f ∨ d + 1 ≤ f) with rfl | h
  · exact fold_mem (g := fun l : Nat => gnO x a d l + hmO x AL (S ||| 2 ^ a) a (l + 1)) rfl _ _ h3
  · exact Int.le_trans (bgO_ge x AL S a m (d + 1) (by omega) f l h h2 h3) (fold_ge _ _)
theorem bgO_at (x : To) (AL : Nat → Nat → List Nat) (S a : Nat) : ∀ m d, x.days.toNat - d = m → bgO x AL S a d = -1000000000000 ∨ ∃ f l, d ≤ f ∧ f < x.days.toNat ∧ l ∈ AL a f ∧ bgO x AL S a d = gnO x a f l + hmO x AL (S ||| 2 ^ a) a (l + 1)
 | 0, d, hm => .inl (bgO_end x AL S a d (by omega))
 | m + 1, d, hm => by
  rw [bgO_step x AL S a d (by omega), foldm_eq]
  rcases fold_at (c := fun _ => false) (g := fun l : Nat => gnO x a d l + hmO x AL (S ||| 2 ^ a) a (l + 1)) (AL a d) (bgO x AL S a (d + 1)) with h | ⟨l, h1, _, h2⟩
  · rw [h]
    rcases bgO_at x AL S a m (d + 1) (by omega) with h | ⟨f, l, h1, h2, h3, h4⟩
    · exact .inl h
    · exact .inr ⟨f, l, by omega, h2, h3, h4⟩
  · exact .inr ⟨d, l, Nat.le_refl _, by omega, h1, h2⟩
theorem hmO_ge (x : To) (AL : Nat → Nat → List Nat) (S a d : Nat) : bsO x S a d ≤ hmO x AL S a d := by
 rw [hmO_eq]
 exact fold_ge (c := fun t => S.testBit (t + 1)) (g := fun t => bgO x AL S (t + 1) (d + lsN x a (t + 1)) - csO x a (t + 1)) _ _
theorem hmO_mem (x : To) (AL : Nat → Nat → List Nat) (S a d : Nat) {t : Nat} (ht : 1 ≤ t ∧ t < x.T.length) (hS : S.testBit t = false) : bgO x AL S t (d + lsN x a t) - csO x a t ≤ hmO x AL S a d := by
 obtain ⟨u, rfl⟩ : ∃ u, t = u + 1 := ⟨t - 1, by omega⟩
 rw [hmO_eq]
 exact fold_mem (c := fun t => S.testBit (t + 1)) (g := fun t => bgO x AL S (t + 1) (d + lsN x a (t + 1)) - csO x a (t + 1)) (u := u) hS _ _ (List.mem_range.2 (by omega))
theorem hmO_at (x : To) (AL : Nat → Nat → List Nat) (S a d : Nat) : hmO x AL S a d = bsO x S a d ∨ ∃ t, (1 ≤ t ∧ t < x.T.length) ∧ S.testBit t = false ∧ hmO x AL S a d = bgO x AL S t (d + lsN x a t) - csO x a t := by
 rw [hmO_eq]
 rcases fold_at (c := fun t => S.testBit (t + 1)) (g := fun t => bgO x AL S (t + 1) (d + lsN x a (t + 1)) - csO x a (t + 1)) (List.range (x.T.length - 1)) (bsO x S a d) with h | ⟨u, h1, h2, h3⟩
 · exact .inl h
 · exact .inr ⟨u + 1, by have := List.mem_range.1 h1; omega, h2, h3⟩
theorem Va_le {x : To} (hn : ToN x) (h0 : csO x 0 0 = 0) : ∀ (L : List (Nat × Nat × Nat)) (S a d : Nat), (S = 0 → a = 0) → Ch x S a d L → Va x a L ≤ hmO x (ALO x) S a d
 | [], S, a, d, hS, h => by
  refine Int.le_trans ?_ (hmO_ge x (ALO x) S a d)
  simp only [Va, bsO]
  split
  · rename_i e; rw [hS e, h0]; decide
  · rw [if_pos (h.resolve_left (by assumption))]; exact Int.le_refl _
 | (t, f, l) :: L, S, a, d, hS, ⟨h1, h2, h3, h4, h5⟩ => by
  have ha := ALO_ok hn t f h1.1 h1.2 l h4
  have hd := hn.d
  have ih := Va_le hn h0 L (S ||| 2 ^ t) t (l + 1) (fun e => by
   exfalso
   have : (S ||| 2 ^ t).testBit t = true := by rw [Nat.testBit_or, Nat.testBit_two_pow_self, Bool.or_true]
   rw [e] at this; simp at this) h5
  have g1 := bgO_ge x (ALO x) S t _ (d + lsN x a t) rfl f l h3 (by omega) h4
  have g2 := hmO_mem x (ALO x) S a d h1 h2
  simp only [Va]
  omega
theorem seqO_ch {x : To} (hn : ToN x) (h0 : csO x 0 0 = 0) : ∀ (n S a d : Nat), (S = 0 → a = 0) → unp (x.T.length - 1) S ≤ n → -900000000000 + 20000000 * (unp (x.T.length - 1) S : Int) ≤ hmO x (ALO x) S a d →
 ∃ L, seqO x n S a d = L.map toI ∧ Ch x S a d L ∧ Va x a L = hmO x (ALO x) S a d := by
 have hstop : ∀ S a d, (S = 0 → a = 0) → spE x S a d (hmO x (ALO x) S a d) = true → Ch x S a d [] ∧ Va x a [] = hmO x (ALO x) S a d := fun S a d hS h => by
  simp only [spE, Bool.or_eq_true, Bool.and_eq_true, decide_eq_true_eq] at h
  rcases h with ⟨e1, e2⟩ | ⟨e1, e2, e3⟩
  · exact ⟨.inl e1, by rw [e2]; simp only [Va]; rw [hS e1, h0]; rfl⟩
  · exact ⟨.inr e2, by rw [e3]; rfl⟩
 have hgo : ∀ S a d, -900000000000 + 20000000 * (unp (x.T.length - 1) S : Int) ≤ hmO x (ALO x) S a d → spE x S a d (hmO x (ALO x) S a d) = false → ∃ t f l, spO x S a d = some (t, f, l) := fun S a d hb h => by
  have hu : (0 : Int) ≤ (unp (x.T.length - 1) S : Int) := by omega
  simp only [spE, Bool.or_eq_false_iff, Bool.and_eq_false_iff, decide_eq_false_iff_not] at h
  obtain ⟨t, ht, hSt, hv⟩ : ∃ t, (1 ≤ t ∧ t < x.T.length) ∧ S.testBit t = false ∧ hmO x (ALO x) S a d = bgO x (ALO x) S t (d + lsN x a t) - csO x a t := by
   rcases hmO_at x (ALO x) S a d with h1 | h1
   · exfalso
     unfold bsO at h1
     split at h1
     · rename_i e
       rcases h.1 with h2 | h2
       · exact h2 e
       · exact h2 h1
     · rename_i e
       split at h1
       · rename_i e2
         rcases h.2 with h2 | h2 | h2
         · exact h2 e
         · exact h2 e2
         · exact h2 h1
       · omega
   · exact h1
  have hc := (hn.leg a t).2
  have hcs : csO x a t = (lgO x a t).2 := rfl
  rcases bgO_at x (ALO x) S t _ (d + lsN x a t) rfl with h1 | ⟨f, l, h1, h2, h3, h4⟩
  · omega
  · have hfin : spI x S a (hmO x (ALO x) S a d) t f l = true := by
     simp only [spI, decide_eq_true_eq]; omega
    have hT : (spT x S a d (hmO x (ALO x) S a d) t).isSome = true := by
     unfold spT
     rw [if_neg (by rw [hSt]; decide), List.findSome?_isSome_iff]
     refine ⟨f - (d + lsN x a t), List.mem_range.2 (by omega), ?_⟩
     rw [show d + lsN x a t + (f - (d + lsN x a t)) = f from by omega, Option.isSome_map, List.find?_isSome]
     exact ⟨l, h3, hfin⟩
    have hO : (spO x S a d).isSome = true := by
     unfold spO
     rw [if_neg (by
      intro e
      simp only [spE, Bool.or_eq_true, Bool.and_eq_true, decide_eq_true_eq] at e
      rcases e with ⟨e1, e2⟩ | ⟨e1, e2, e3⟩
      · rcases h.1 with h2 | h2
        · exact h2 e1
        · exact h2 e2
      · rcases h.2 with h2 | h2 | h2
        · exact h2 e1
        · exact h2 e2
        · exact h2 e3), List.findSome?_isSome_iff]
     exact ⟨t - 1, List.mem_range.2 (by omega), by rw [show t - 1 + 1 = t from by omega]; exact hT⟩
    obtain ⟨⟨t', f', l'⟩, hs⟩ := Option.isSome_iff_exists.1 hO
    exact ⟨t', f', l', hs⟩
 have hsp : ∀ S a d t f l, spO x S a d = some (t, f, l) → d + lsN x a t ≤ f ∧ l ∈ ALO x t f ∧ gnO x t f l - csO x a t + hmO x (ALO x) (S ||| 2 ^ t) t (l + 1) = hmO x (ALO x) S a d := fun S a d t f l h => by
  unfold spO at h
  split at h
  · cases h
  · obtain ⟨i, h1, h2⟩ := fs_some h
    unfold spT at h2
    split at h2
    · cases h2
    · obtain ⟨q, h3, h4⟩ := fs_some h2
      rw [Option.map_eq_some_iff] at h4
      obtain ⟨l', h5, h6⟩ := h4
      simp only [Prod.mk.injEq] at h6
      obtain ⟨rfl, rfl, rfl⟩ := h6
      have h7 := List.find?_some h5
      simp only [spI, decide_eq_true_eq] at h7
      exact ⟨by omega, List.mem_of_find?_eq_some h5, h7⟩
 intro n
 induction n with
 | zero =>
  intro S a d hS hu hb
  cases he : spE x S a d (hmO x (ALO x) S a d) with
  | true => exact ⟨[], rfl, hstop S a d hS he⟩
  | false =>
   obtain ⟨t, f, l, hs⟩ := hgo S a d hb he
   rw [spO_none hn (by omega)] at hs
   cases hs
 | succ n ih =>
  intro S a d hS hu hb
  cases he : spE x S a d (hmO x (ALO x) S a d) with
  | true =>
   refine ⟨[], ?_, hstop S a d hS he⟩
   have : spO x S a d = none := by unfold spO; rw [if_pos he]
   simp only [seqO, this, List.map_nil]
  | false =>
   obtain ⟨t, f, l, hs⟩ := hgo S a d hb he
   obtain ⟨h1, h2, h3, h4, h5⟩ := spO_some hn hs
   obtain ⟨g1, g2, g3⟩ := hsp S a d t f l hs
   have hu2 := unp_or (n := x.T.length - 1) (t := t - 1) (S := S) (by omega) (by rwa [show t - 1 + 1 = t from by omega])
   rw [show t - 1 + 1 = t from by omega] at hu2
   have ha := ALO_ok hn t f h1 h2 l g2
   have hg := gn_bd hn (a := t) (d := f) (l := l) h1 ⟨ha.1, ha.2.1⟩
   have hc := (hn.leg a t).2
   have hcs : csO x a t = (lgO x a t).2 := rfl
   have hS2 : S ||| 2 ^ t = 0 → t = 0 := fun e => by
    exfalso
    have : (S ||| 2 ^ t).testBit t = true := by rw [Nat.testBit_or, Nat.testBit_two_pow_self, Bool.or_true]
    rw [e] at this; simp at this
   obtain ⟨L, e1, e2, e3⟩ := ih (S ||| 2 ^ t) t (l + 1) hS2 (by omega) (by omega)
   refine ⟨(t, f, l) :: L, ?_, ⟨⟨h1, h2⟩, h3, g1, g2, e2⟩, ?_⟩
   · simp only [seqO, hs, e1, List.map_cons, toI]
   · simp only [Va]; omega
end Go.Proofs.Ythfabodamhdhaaa
