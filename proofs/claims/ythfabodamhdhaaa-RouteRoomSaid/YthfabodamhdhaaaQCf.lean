/- Part 6 of the proof: texts merged. -/
import Derived.Test.YthfabodamhdhaaaQCe
namespace Go.Proofs.Ythfabodamhdhaaa
open Go Tx Go.RowKit
set_option linter.unusedSimpArgs false
set_option linter.unusedVariables false
abbrev toI (s : Nat × Nat × Nat) : Int × Int × Int := ((s.1 : Int), (s.2.1 : Int), (s.2.2 : Int))
def Ch (x : To) : Nat → Nat → Nat → List (Nat × Nat × Nat) → Prop
 | S, a, d, [] => S = 0 ∨ lsO x a 0 + d ≤ x.days
 | S, a, d, (t, f, l) :: L => (1 ≤ t ∧ t < x.T.length) ∧ S.testBit t = false ∧ d + lsN x a t ≤ f ∧ l ∈ ALO x t f ∧ Ch x (S ||| 2 ^ t) t (l + 1) L
def Va (x : To) : Nat → List (Nat × Nat × Nat) → Int
 | a, [] => -csO x a 0
 | a, (t, f, l) :: L => gnO x t f l - csO x a t + Va x t L
theorem fold_ge {α : Type} {c : α → Bool} {g : α → Int} : ∀ (l : List α) (n : Int), n ≤ l.foldl (fun (n : Int) (t : α) => if c t = true then n else imax n (g t)) n
 | [], n => Int.le_refl _
 | t :: l, n => by
  rw [List.foldl_cons]
  refine Int.le_trans ?_ (fold_ge l _)
  split
  · exact Int.le_refl _
  · rw [imax_eq]; omega
theorem fold_mem {α : Type} {c : α → Bool} {g : α → Int} {u : α} (hc : c u = false) : ∀ (l : List α) (n : Int), u ∈ l → g u ≤ l.foldl (fun (n : Int) (t : α) => if c t = true then n else imax n (g t)) n
 | t :: l, n, h => by
  rw [List.foldl_cons]
  rcases List.mem_cons.1 h with rfl | h
  · refine Int.le_trans ?_ (fold_ge l _)
    rw [if_neg (by rw [hc]; decide), imax_eq]; omega
  · exact fold_mem hc l _ h
theorem fold_at {α : Type} {c : α → Bool} {g : α → Int} : ∀ (l : List α) (n : Int), l.foldl (fun (n : Int) (t : α) => if c t = true then n else imax n (g t)) n = n ∨ ∃ u ∈ l, c u = false ∧ l.foldl (fun (n : Int) (t : α) => if c t = true then n else imax n (g t)) n = g u
 | [], n => .inl rfl
 | t :: l, n => by
  rw [List.foldl_cons]
  rcases fold_at l (if c t = true then n else imax n (g t)) with h | ⟨u, h1, h2, h3⟩
  · rw [h]
    cases hc : c t with
    | true => exact .inl (if_pos rfl)
    | false =>
     rw [if_neg (by decide), imax_eq]
     rcases Int.le_total n (g t) with h4 | h4
     · exact .inr ⟨t, List.mem_cons_self .., hc, by omega⟩
     · exact .inl (by omega)
  · exact .inr ⟨u, List.mem_cons_of_mem _ h1, h2, h3⟩
theorem foldm_eq {α : Type} {g : α → Int} (l : List α) (n : Int) : l.foldl (fun (n : Int) (t : α) => imax n (g t)) n = l.foldl (fun (n : Int) (t : α) => if (fun _ : α => false) t = true then n else imax n (g t)) n := foldl_congr fun n t _ => by simp
theorem bgO_ge (x : To) (AL : Nat → Nat → List Nat) (S a : Nat) : ∀ m d, x.days.toNat - d = m → ∀ f l, d ≤ f → f < x.days.toNat → l ∈ AL a f → gnO x a f l + hmO x AL (S ||| 2 ^ a) a (l + 1) ≤ bgO x AL S a d
 | 0, d, hm, f, l, h1, h2, h3 => by omega
 | m + 1, d, hm, f, l, h1, h2, h3 => by
  rw [bgO_step x AL S a d (by omega), foldm_eq]
  rcases (by omega : d = f ∨ d + 1 ≤ f) with rfl | h
  · exact fold_mem (g := fun l : Nat => gnO x a d l + hmO x AL (S ||| 2 ^ a) a (l + 1)) rfl _ _ h3
  · exact Int.le_trans (bgO_ge x AL S a m (d + 1) (by omega) f l h h2 h3) (fold_ge _ _)
theorem bgO_at (x : To) (AL : Nat → Nat → List Nat) (S a : Nat) : ∀ m d, x.days.toNat - d = m → bgO x AL S a d = -1000000000000 ∨ ∃ f l, d ≤ f ∧ f < x.days.toNat ∧ l ∈ AL a f ∧ bgO x AL S a d = gnO x a f l + hmO x AL (S ||| 2 ^ a) a (l + 1)
 | 0, d, hm => .inl (bgO_end x AL S a d (by omega))
 | m + 1, d, hm => by
  rw [bgO_step x AL S a d (by omega), foldm_eq]
  rcases fold_at (c := fun _ => false) (g := fun l : Nat => gnO x a d l + hmO x AL (S ||| 2 ^ a) a (l + 1)) (AL a d) (bgO x AL S a (d + 1)) with h | ⟨l, h1, _, h2⟩
  · rw [h]
    rcases bgO_at x AL S a m (d + 1) (by omega) with h | ⟨f, l, h1, h2, h3, h4⟩
    · exact .inl h
    · exact .inr ⟨f, l, by omega, h2, h3, h4⟩
  · exact .inr ⟨d, l, Nat.le_refl _, by omega, h1, h2⟩
theorem hmO_ge (x : To) (AL : Nat → Nat → List Nat) (S a d : Nat) : bsO x S a d ≤ hmO x AL S a d := by
 rw [hmO_eq]
 exact fold_ge (c := fun t => S.testBit (t + 1)) (g := fun t => bgO x AL S (t + 1) (d + lsN x a (t + 1)) - csO x a (t + 1)) _ _
theorem hmO_mem (x : To) (AL : Nat → Nat → List Nat) (S a d : Nat) {t : Nat} (ht : 1 ≤ t ∧ t < x.T.length) (hS : S.testBit t = false) : bgO x AL S t (d + lsN x a t) - csO x a t ≤ hmO x AL S a d := by
 obtain ⟨u, rfl⟩ : ∃ u, t = u + 1 := ⟨t - 1, by omega⟩
 rw [hmO_eq]
 exact fold_mem (c := fun t => S.testBit (t + 1)) (g := fun t => bgO x AL S (t + 1) (d + lsN x a (t + 1)) - csO x a (t + 1)) (u := u) hS _ _ (List.mem_range.2 (by omega))
theorem hmO_at (x : To) (AL : Nat → Nat → List Nat) (S a d : Nat) : hmO x AL S a d = bsO x S a d ∨ ∃ t, (1 ≤ t ∧ t < x.T.length) ∧ S.testBit t = false ∧ hmO x AL S a d = bgO x AL S t (d + lsN x a t) - csO x a t := by
 rw [hmO_eq]
 rcases fold_at (c := fun t => S.testBit (t + 1)) (g := fun t => bgO x AL S (t + 1) (d + lsN x a (t + 1)) - csO x a (t + 1)) (List.range (x.T.length - 1)) (bsO x S a d) with h | ⟨u, h1, h2, h3⟩
 · exact .inl h
 · exact .inr ⟨u + 1, by have := List.mem_range.1 h1; omega, h2, h3⟩
theorem Va_le {x : To} (hn : ToN x) (h0 : csO x 0 0 = 0) : ∀ (L : List (Nat × Nat × Nat)) (S a d : Nat), (S = 0 → a = 0) → Ch x S a d L → Va x a L ≤ hmO x (ALO x) S a d
 | [], S, a, d, hS, h => by
  refine Int.le_trans ?_ (hmO_ge x (ALO x) S a d)
  simp only [Va, bsO]
  split
  · rename_i e; rw [hS e, h0]; decide
  · rw [if_pos (h.resolve_left (by assumption))]; exact Int.le_refl _
 | (t, f, l) :: L, S, a, d, hS, ⟨h1, h2, h3, h4, h5⟩ => by
  have ha := ALO_ok hn t f h1.1 h1.2 l h4
  have hd := hn.d
  have ih := Va_le hn h0 L (S ||| 2 ^ t) t (l + 1) (fun e => by
   exfalso
   have : (S ||| 2 ^ t).testBit t = true := by rw [Nat.testBit_or, Nat.testBit_two_pow_self, Bool.or_true]
   rw [e] at this; simp at this) h5
  have g1 := bgO_ge x (ALO x) S t _ (d + lsN x a t) rfl f l h3 (by omega) h4
  have g2 := hmO_mem x (ALO x) S a d h1 h2
  simp only [Va]
  omega
theorem seqO_ch {x : To} (hn : ToN x) (h0 : csO x 0 0 = 0) : ∀ (n S a d : Nat), (S = 0 → a = 0) → unp (x.T.length - 1) S ≤ n → -900000000000 + 20000000 * (unp (x.T.length - 1) S : Int) ≤ hmO x (ALO x) S a d →
 ∃ L, seqO x n S a d = L.map toI ∧ Ch x S a d L ∧ Va x a L = hmO x (ALO x) S a d := by
 have hstop : ∀ S a d, (S = 0 → a = 0) → spE x S a d (hmO x (ALO x) S a d) = true → Ch x S a d [] ∧ Va x a [] = hmO x (ALO x) S a d := fun S a d hS h => by
  simp only [spE, Bool.or_eq_true, Bool.and_eq_true, decide_eq_true_eq] at h
  rcases h with ⟨e1, e2⟩ | ⟨e1, e2, e3⟩
  · exact ⟨.inl e1, by rw [e2]; simp only [Va]; rw [hS e1, h0]; rfl⟩
  · exact ⟨.inr e2, by rw [e3]; rfl⟩
 have hgo : ∀ S a d, -900000000000 + 20000000 * (unp (x.T.length - 1) S : Int) ≤ hmO x (ALO x) S a d → spE x S a d (hmO x (ALO x) S a d) = false → ∃ t f l, spO x S a d = some (t, f, l) := fun S a d hb h => by
  have hu : (0 : Int) ≤ (unp (x.T.length - 1) S : Int) := by omega
  simp only [spE, Bool.or_eq_false_iff, Bool.and_eq_false_iff, decide_eq_false_iff_not] at h
  obtain ⟨t, ht, hSt, hv⟩ : ∃ t, (1 ≤ t ∧ t < x.T.length) ∧ S.testBit t = false ∧ hmO x (ALO x) S a d = bgO x (ALO x) S t (d + lsN x a t) - csO x a t := by
   rcases hmO_at x (ALO x) S a d with h1 | h1
   · exfalso
     unfold bsO at h1
     split at h1
     · rename_i e
       rcases h.1 with h2 | h2
       · exact h2 e
       · exact h2 h1
     · rename_i e
       split at h1
       · rename_i e2
         rcases h.2 with h2 | h2 | h2
         · exact h2 e
         · exact h2 e2
         · exact h2 h1
       · omega
   · exact h1
  have hc := (hn.leg a t).2
  have hcs : csO x a t = (lgO x a t).2 := rfl
  rcases bgO_at x (ALO x) S t _ (d + lsN x a t) rfl with h1 | ⟨f, l, h1, h2, h3, h4⟩
  · omega
  · have hfin : spI x S a (hmO x (ALO x) S a d) t f l = true := by
     simp only [spI, decide_eq_true_eq]; omega
    have hT : (spT x S a d (hmO x (ALO x) S a d) t).isSome = true := by
     unfold spT
     rw [if_neg (by rw [hSt]; decide), List.findSome?_isSome_iff]
     refine ⟨f - (d + lsN x a t), List.mem_range.2 (by omega), ?_⟩
     rw [show d + lsN x a t + (f - (d + lsN x a t)) = f from by omega, Option.isSome_map, List.find?_isSome]
     exact ⟨l, h3, hfin⟩
    have hO : (spO x S a d).isSome = true := by
     unfold spO
     rw [if_neg (by
      intro e
      simp only [spE, Bool.or_eq_true, Bool.and_eq_true, decide_eq_true_eq] at e
      rcases e with ⟨e1, e2⟩ | ⟨e1, e2, e3⟩
      · rcases h.1 with h2 | h2
        · exact h2 e1
        · exact h2 e2
      · rcases h.2 with h2 | h2 | h2
        · exact h2 e1
        · exact h2 e2
        · exact h2 e3), List.findSome?_isSome_iff]
     exact ⟨t - 1, List.mem_range.2 (by omega), by rw [show t - 1 + 1 = t from by omega]; exact hT⟩
    obtain ⟨⟨t', f', l'⟩, hs⟩ := Option.isSome_iff_exists.1 hO
    exact ⟨t', f', l', hs⟩
 have hsp : ∀ S a d t f l, spO x S a d = some (t, f, l) → d + lsN x a t ≤ f ∧ l ∈ ALO x t f ∧ gnO x t f l - csO x a t + hmO x (ALO x) (S ||| 2 ^ t) t (l + 1) = hmO x (ALO x) S a d := fun S a d t f l h => by
  unfold spO at h
  split at h
  · cases h
  · obtain ⟨i, h1, h2⟩ := fs_some h
    unfold spT at h2
    split at h2
    · cases h2
    · obtain ⟨q, h3, h4⟩ := fs_some h2
      rw [Option.map_eq_some_iff] at h4
      obtain ⟨l', h5, h6⟩ := h4
      simp only [Prod.mk.injEq] at h6
      obtain ⟨rfl, rfl, rfl⟩ := h6
      have h7 := List.find?_some h5
      simp only [spI, decide_eq_true_eq] at h7
      exact ⟨by omega, List.mem_of_find?_eq_some h5, h7⟩
 intro n
 induction n with
 | zero =>
  intro S a d hS hu hb
  cases he : spE x S a d (hmO x (ALO x) S a d) with
  | true => exact ⟨[], rfl, hstop S a d hS he⟩
  | false =>
   obtain ⟨t, f, l, hs⟩ := hgo S a d hb he
   rw [spO_none hn (by omega)] at hs
   cases hs
 | succ n ih =>
  intro S a d hS hu hb
  cases he : spE x S a d (hmO x (ALO x) S a d) with
  | true =>
   refine ⟨[], ?_, hstop S a d hS he⟩
   have : spO x S a d = none := by unfold spO; rw [if_pos he]
   simp only [seqO, this, List.map_nil]
  | false =>
   obtain ⟨t, f, l, hs⟩ := hgo S a d hb he
   obtain ⟨h1, h2, h3, h4, h5⟩ := spO_some hn hs
   obtain ⟨g1, g2, g3⟩ := hsp S a d t f l hs
   have hu2 := unp_or (n := x.T.length - 1) (t := t - 1) (S := S) (by omega) (by rwa [show t - 1 + 1 = t from by omega])
   rw [show t - 1 + 1 = t from by omega] at hu2
   have ha := ALO_ok hn t f h1 h2 l g2
   have hg := gn_bd hn (a := t) (d := f) (l := l) h1 ⟨ha.1, ha.2.1⟩
   have hc := (hn.leg a t).2
   have hcs : csO x a t = (lgO x a t).2 := rfl
   have hS2 : S ||| 2 ^ t = 0 → t = 0 := fun e => by
    exfalso
    have : (S ||| 2 ^ t).testBit t = true := by rw [Nat.testBit_or, Nat.testBit_two_pow_self, Bool.or_true]
    rw [e] at this; simp at this
   obtain ⟨L, e1, e2, e3⟩ := ih (S ||| 2 ^ t) t (l + 1) hS2 (by omega) (by omega)
   refine ⟨(t, f, l) :: L, ?_, ⟨⟨h1, h2⟩, h3, g1, g2, e2⟩, ?_⟩
   · simp only [seqO, hs, e1, List.map_cons, toI]
   · simp only [Va]; omega
end Go.Proofs.Ythfabodamhdhaaa
namespace Go.Proofs.Ythfabodamhdhaaa
open Go Tx Go.RowKit
set_option linter.unusedSimpArgs false
set_option linter.unusedVariables false
theorem alo_iff {x : To} (hn : ToN x) {t f l : Nat} (ht : 1 ≤ t ∧ t < x.T.length) : l ∈ ALO x t f ↔ ts2 x t = false ∧ ts3 x t f l = false ∧ ts4 x t f l = false := by
 have h1 : ts1 x t = false := by simp [ts1, inB]; omega
 have hw := twN_of hn ht.1 ht.2
 have hs := hw.s
 have hal : ∀ l : Int, aloB x t f l = true ↔ ts2 x t = false ∧ ts3 x t f l = false ∧ ts4 x t f l = false := fun l => by
  unfold aloB fltO
  rw [decide_eq_true_eq]
  constructor
  · intro h
    have := fstT_zero h
    simp only [tsA, List.take, List.mem_cons, List.not_mem_nil, or_false, forall_eq_or_imp, forall_eq] at this
    exact ⟨this.2.1, this.2.2.1, this.2.2.2⟩
  · intro ⟨h2, h3, h4⟩
    simp [tsA, fstT, h1, h2, h3, h4]
 unfold ALO
 rw [if_neg (by omega)]
 constructor
 · intro h
   obtain ⟨i, h2, h3, h4⟩ := ALp_mem x t f _ l h
   have h5 := (hal _).1 h4
   rw [show (f : Int) + ((twO x t).s1 + i) - 1 = (l : Int) from by omega] at h5
   exact h5
 · intro h
   have h3 := h.2.1
   simp only [ts3, Bool.not_eq_false', fitB, inB, Bool.and_eq_true, decide_eq_true_eq] at h3
   have key : ∀ j i : Nat, i < j → aloB x t f ((f : Int) + ((twO x t).s1 + i) - 1) = true → ((f : Int) + ((twO x t).s1 + i) - 1).toNat ∈ ALp x t f j := by
    intro j
    induction j with
    | zero => intro i hi; omega
    | succ j ih =>
     intro i hi hb
     simp only [ALp]
     rcases (by omega : i < j ∨ i = j) with hi | rfl
     · have := ih i hi hb
       split
       · exact List.mem_append_left _ this
       · exact this
     · rw [if_pos hb]; simp
   have := key ((twO x t).s2 - (twO x t).s1 + 1).toNat ((l : Int) - f + 1 - (twO x t).s1).toNat (by omega)
   rw [show (f : Int) + ((twO x t).s1 + (((l : Int) - f + 1 - (twO x t).s1).toNat : Nat)) - 1 = (l : Int) from by omega] at this
   have h6 := this ((hal l).2 h)
   rwa [Int.toNat_natCast] at h6
theorem cs00 {x : To} (h : toB x = true) : csO x 0 0 = 0 := by
 have hn := toB_n h
 have h1 := h
 simp only [toB, Bool.and_eq_true, List.all_eq_true, List.mem_range] at h1
 have h2 := h1.2.2 0 (by have := hn.n; have := hn.l; omega)
 rw [Option.any_eq_true] at h2
 obtain ⟨r, hr, h3⟩ := h2
 simp only [lgB, Bool.and_eq_true, decide_eq_true_eq] at h3
 unfold csO lgO
 rw [Option.mem_def.1 hr, Option.getD_some, h3.2.1]
 rfl
end Go.Proofs.Ythfabodamhdhaaa
namespace Go.Proofs.Ythfabodamhdhaaa
open Go Tx Go.RowKit
set_option linter.unusedSimpArgs false
set_option linter.unusedVariables false
theorem ch_mono {x x' : To} (hd : x'.days = x.days) (hT : x'.T.length = x.T.length) (hls : ∀ a t, lsO x' a t = lsO x a t) (hal : ∀ t f l, 1 ≤ t → t < x.T.length → l ∈ ALO x t f → l ∈ ALO x' t f) :
 ∀ (L : List (Nat × Nat × Nat)) (S a d : Nat), Ch x S a d L → Ch x' S a d L
 | [], S, a, d, h => by
  simp only [Ch] at h ⊢
  rw [hls, hd]
  exact h
 | (t, f, l) :: L, S, a, d, ⟨h1, h2, h3, h4, h5⟩ => ⟨by omega, h2, by unfold lsN at h3 ⊢; rw [hls]; exact h3, hal t f l h1.1 h1.2 h4, ch_mono hd hT hls hal L _ _ _ h5⟩
theorem va_mono {x x' : To} (hcs : ∀ a t, csO x' a t ≤ csO x a t) (hgn : ∀ t f l : Nat, 1 ≤ t → t < x.T.length → gnO x t f l ≤ gnO x' t f l) :
 ∀ (L : List (Nat × Nat × Nat)) (S a d : Nat), Ch x S a d L → Va x a L ≤ Va x' a L
 | [], S, a, d, h => by
  have := hcs a 0
  simp only [Va]; omega
 | (t, f, l) :: L, S, a, d, ⟨h1, h2, h3, h4, h5⟩ => by
  have h6 := hcs a t
  have h7 := hgn t f l h1.1 h1.2
  have ih := va_mono hcs hgn L _ _ _ h5
  simp only [Va]; omega
theorem room_le {x x' : To} (h : toB x = true) (h' : toB x' = true) (hd : x'.days = x.days) (hT : x'.T.length = x.T.length) (hls : ∀ a t, lsO x' a t = lsO x a t) (hcs : ∀ a t, csO x' a t ≤ csO x a t) (hal : ∀ t f l, 1 ≤ t → t < x.T.length → l ∈ ALO x t f → l ∈ ALO x' t f)
 (hgn : ∀ t f l : Nat, 1 ≤ t → t < x.T.length → gnO x t f l ≤ gnO x' t f l) : hmO x (ALO x) 0 0 0 ≤ hmO x' (ALO x') 0 0 0 := by
 have hn := toB_n h
 have hu : unp (x.T.length - 1) 0 ≤ x.T.length := by
  unfold unp
  have := List.length_filter_le (fun t => !(Nat.testBit 0 (t + 1))) (List.range (x.T.length - 1))
  rw [List.length_range] at this
  omega
 have hb := hmO_ge x (ALO x) 0 0 0
 have hb0 : bsO x 0 0 0 = 0 := rfl
 have hT9 := hn.n
 obtain ⟨L, h1, h2, h3⟩ := seqO_ch hn (cs00 h) x.T.length 0 0 0 (fun _ => rfl) hu (by omega)
 rw [← h3]
 exact Int.le_trans (va_mono hcs hgn L 0 0 0 h2) (Va_le (toB_n h') (cs00 h') L 0 0 0 (fun _ => rfl) (ch_mono hd hT hls hal L 0 0 0 h2))
theorem gnS_mono {t t' : Tw} (h : ∀ n, dyO t n - t.rent ≤ dyO t' n - t'.rent) (f : Int) : ∀ n, gnS t f n ≤ gnS t' f n
 | 0 => Int.le_refl _
 | n + 1 => by
  have ih := gnS_mono h f n
  have := h (f + n)
  simp only [gnS]; omega
theorem room_T {x : To} (h : toB x = true) {k : Nat} (hk : 1 ≤ k) {t t' : Tw} (ht : x.T[k]? = some t) (h' : twB x.days t' = true) (hl : t'.lot = t.lot) (hs : t'.s1 = t.s1 ∧ t'.s2 = t.s2) (hO : ∀ f l : Int, licB t.O f l = true → licB t'.O f l = true)
 (hg : ∀ n, dyO t n - t.rent ≤ dyO t' n - t'.rent) : hmO x (ALO x) 0 0 0 ≤ hmO { x with T := x.T.set k t' } (ALO { x with T := x.T.set k t' }) 0 0 0 := by
 have hkl := (List.getElem?_eq_some_iff.1 ht).1
 have hB := toB_set h hk h'
 have hn := toB_n h
 have hn' := toB_n hB
 have htw : ∀ i : Nat, twO { x with T := x.T.set k t' } i = if i = k then t' else twO x i := fun i => by
  unfold twO
  rw [Int.toNat_natCast]
  by_cases e : i = k
  · subst e; rw [if_pos rfl]; show ((x.T.set i t')[i]?).getD _ = _; rw [List.getElem?_set_self hkl]; rfl
  · rw [if_neg e]; show ((x.T.set k t')[i]?).getD _ = _; rw [List.getElem?_set_ne (Ne.symm e)]
 have htk : twO x k = t := by unfold twO; rw [Int.toNat_natCast, ht]; rfl
 refine room_le h hB rfl (by simp) (fun a b => rfl) (fun a b => Int.le_refl _) (fun i f l h1 h2 hm => ?_) (fun i f l h1 h2 => ?_)
 · have h3 := (alo_iff hn ⟨h1, h2⟩).1 hm
   refine (alo_iff hn' ⟨h1, by simpa using h2⟩).2 ?_
   simp only [ts2, ts3, ts4, htw] at h3 ⊢
   by_cases e : i = k
   · subst e
     rw [if_pos rfl, hl, hs.1, hs.2]
     rw [htk] at h3
     refine ⟨h3.1, h3.2.1, ?_⟩
     have h4 := h3.2.2
     rw [Bool.not_eq_false'] at h4 ⊢
     exact hO _ _ h4
   · rw [if_neg e]; exact h3
 · unfold gnO
   by_cases e : i = k
   · subst e
     rw [ht]
     show _ ≤ match (x.T.set i t')[i]? with | some t => gnS t f _ | none => 0
     rw [List.getElem?_set_self hkl]
     exact gnS_mono hg _ _
   · show _ ≤ match (x.T.set k t')[i]? with | some t => gnS t f _ | none => 0
     rw [List.getElem?_set_ne (Ne.symm e)]
     exact Int.le_refl _
theorem room_pay {x : To} (h : toB x = true) {k : Nat} (hk : 1 ≤ k) {t : Tw} (ht : x.T[k]? = some t) {p : Int} (hp : t.pay ≤ p ∧ p ≤ 1000000) :
 toB { x with T := x.T.set k { t with pay := p } } = true ∧ hmO x (ALO x) 0 0 0 ≤ hmO { x with T := x.T.set k { t with pay := p } } (ALO { x with T := x.T.set k { t with pay := p } }) 0 0 0 := by
 have htw := toB_at h hk ht
 have hw := TwN.of htw
 have hpp := hw.p
 have hc := hw.c
 have h' : twB x.days { t with pay := p } = true := by
  simp only [twB, inB, Bool.and_eq_true, decide_eq_true_eq] at htw ⊢
  obtain ⟨h1, h2, h3, h4, h5⟩ := htw
  exact ⟨h1, h2, h3, by omega, h5⟩
 refine ⟨toB_set h hk h', room_T h hk ht h' rfl ⟨rfl, rfl⟩ (fun _ _ h => h) fun n => ?_⟩
 have hr : rvB { t with pay := p } n = rvB t n := rfl
 unfold dyO
 rw [hr]
 have hm : (t.pay * (1000 - t.cut)).tdiv 1000 ≤ (p * (1000 - t.cut)).tdiv 1000 := by
  have h1 : t.pay * (1000 - t.cut) ≤ p * (1000 - t.cut) := Int.mul_le_mul_of_nonneg_right hp.1 (by omega)
  rw [Int.tdiv_eq_ediv_of_nonneg hw.pc.1, Int.tdiv_eq_ediv_of_nonneg (by have := hw.pc.1; omega)]
  exact Int.ediv_le_ediv (by decide) h1
 cases rvB t n <;> simp <;> omega
theorem room_rent {x : To} (h : toB x = true) {k : Nat} (hk : 1 ≤ k) {t : Tw} (ht : x.T[k]? = some t) {p : Int} (hp : 0 ≤ p ∧ p ≤ t.rent) :
 toB { x with T := x.T.set k { t with rent := p } } = true ∧ hmO x (ALO x) 0 0 0 ≤ hmO { x with T := x.T.set k { t with rent := p } } (ALO { x with T := x.T.set k { t with rent := p } }) 0 0 0 := by
 have htw := toB_at h hk ht
 have hpp := (TwN.of htw).t
 have h' : twB x.days { t with rent := p } = true := by
  simp only [twB, inB, Bool.and_eq_true, decide_eq_true_eq] at htw ⊢
  obtain ⟨h1, h2, h3, h4, h5, h6, h7⟩ := htw
  exact ⟨h1, h2, h3, h4, h5, by omega, h7⟩
 refine ⟨toB_set h hk h', room_T h hk ht h' rfl ⟨rfl, rfl⟩ (fun _ _ h => h) fun n => ?_⟩
 have : dyO { t with rent := p } n = dyO t n := rfl
 rw [this]
 show _ - t.rent ≤ _ - p
 omega
theorem apB_last {d : Int} : ∀ (O : List (Int × Int)) (p : Int) (r : Int × Int) (hi : Int), O ≠ [] → O[O.length - 1]? = some r → apB d p O = true → r.2 ≤ hi → hi ≤ d - 1 → apB d p (O.set (O.length - 1) (r.1, hi)) = true
 | [a], p, r, hi, _, hr, h, h1, h2 => by
  simp only [List.length_singleton, Nat.sub_self, List.getElem?_cons_zero, Option.some.injEq] at hr
  subst hr
  simp only [List.length_singleton, Nat.sub_self, List.set_cons_zero, apB, Bool.and_eq_true, decide_eq_true_eq, Bool.and_true] at h ⊢
  omega
 | a :: b :: O, p, r, hi, _, hr, h, h1, h2 => by
  have e : (a :: b :: O).length - 1 = (b :: O).length - 1 + 1 := by simp
  rw [e] at hr ⊢
  rw [List.getElem?_cons_succ] at hr
  rw [List.set_cons_succ]
  simp only [apB, Bool.and_eq_true] at h ⊢
  exact ⟨h.1, by have := apB_last (b :: O) a.2 r hi (List.cons_ne_nil _ _) hr (by simpa [apB] using h.2) h1 h2; simpa [apB] using this⟩
theorem room_open {x : To} (h : toB x = true) {k : Nat} (hk : 1 ≤ k) {t : Tw} (ht : x.T[k]? = some t) {r : Int × Int} (hr : t.O[t.O.length - 1]? = some r) {hi : Int} (hp : r.2 ≤ hi ∧ hi ≤ x.days - 1) :
 toB { x with T := x.T.set k { t with O := t.O.set (t.O.length - 1) (r.1, hi) } } = true ∧ hmO x (ALO x) 0 0 0 ≤ hmO { x with T := x.T.set k { t with O := t.O.set (t.O.length - 1) (r.1, hi) } } (ALO { x with T := x.T.set k { t with O := t.O.set (t.O.length - 1) (r.1, hi) } }) 0 0 0 := by
 have htw := toB_at h hk ht
 have hne : t.O ≠ [] := fun e => by rw [e] at hr; simp at hr
 have h' : twB x.days { t with O := t.O.set (t.O.length - 1) (r.1, hi) } = true := by
  simp only [twB, inB, Bool.and_eq_true, decide_eq_true_eq, List.length_set] at htw ⊢
  exact ⟨htw.1, apB_last _ _ _ _ hne hr htw.2.1 hp.1 hp.2, htw.2.2⟩
 refine ⟨toB_set h hk h', room_T h hk ht h' rfl ⟨rfl, rfl⟩ (fun f l hf => ?_) fun n => Int.le_refl _⟩
 simp only [licB, List.any_eq_true] at hf ⊢
 obtain ⟨q, hq, hq2⟩ := hf
 obtain ⟨i, hi2⟩ := List.mem_iff_getElem?.1 hq
 by_cases e : i = t.O.length - 1
 · subst e
   rw [hr, Option.some.injEq] at hi2
   subst hi2
   refine ⟨(r.1, hi), List.mem_iff_getElem?.2 ⟨t.O.length - 1, by rw [List.getElem?_set_self (List.getElem?_eq_some_iff.1 hr).1]⟩, ?_⟩
   simp only [inB, Bool.and_eq_true, decide_eq_true_eq] at hq2 ⊢
   omega
 · exact ⟨q, List.mem_iff_getElem?.2 ⟨i, by rw [List.getElem?_set_ne (Ne.symm e)]; exact hi2⟩, hq2⟩
theorem room_size {x : To} (h : toB x = true) {p : Int} (hp : 0 ≤ p ∧ p ≤ x.size) : toB { x with size := p } = true ∧ hmO x (ALO x) 0 0 0 ≤ hmO { x with size := p } (ALO { x with size := p }) 0 0 0 := by
 have h' : toB { x with size := p } = true := by
  simp only [toB, inB, Bool.and_eq_true, decide_eq_true_eq] at h ⊢
  exact ⟨⟨h.1.1, h.1.2.1, by omega, h.1.2.2.2⟩, h.2⟩
 refine ⟨h', room_le h h' rfl rfl (fun _ _ => rfl) (fun _ _ => Int.le_refl _) (fun t f l h1 h2 hm => ?_) (fun t f l h1 h2 => Int.le_refl _)⟩
 have h3 := (alo_iff (toB_n h) ⟨h1, h2⟩).1 hm
 refine (alo_iff (toB_n h') ⟨h1, h2⟩).2 ⟨?_, h3.2⟩
 have h4 := h3.1
 simp only [ts2, decide_eq_false_iff_not] at h4 ⊢
 intro h5
 apply h4
 have : twO { x with size := p } t = twO x t := rfl
 rw [this] at h5
 show _ < x.size
 have : (twO x t).lot < p := h5
 omega
theorem room_leg {x : To} (h : toB x = true) {f g : Nat} {row : List (Int × Int)} (hf : x.L[f]? = some row) {q : Int × Int} (hg : row[g]? = some q) {p : Int} (hp : 0 ≤ p ∧ p ≤ q.2) :
 toB { x with L := x.L.set f (row.set g (q.1, p)) } = true ∧ hmO x (ALO x) 0 0 0 ≤ hmO { x with L := x.L.set f (row.set g (q.1, p)) } (ALO { x with L := x.L.set f (row.set g (q.1, p)) }) 0 0 0 := by
 have hfl := (List.getElem?_eq_some_iff.1 hf).1
 have hgl := (List.getElem?_eq_some_iff.1 hg).1
 have h' : toB { x with L := x.L.set f (row.set g (q.1, p)) } = true := by
  simp only [toB, inB, Bool.and_eq_true, decide_eq_true_eq, List.length_set, List.all_eq_true, List.mem_range] at h ⊢
  refine ⟨h.1, h.2.1, fun i hi => ?_⟩
  have h3 := h.2.2 i hi
  by_cases e : i = f
  · subst e
    rw [List.getElem?_set_self hfl]
    rw [hf] at h3
    simp only [Option.any_some, lgB, inB, Bool.and_eq_true, decide_eq_true_eq, List.all_eq_true, List.length_set] at h3 ⊢
    have hq := h3.2.2 q (List.mem_of_getElem? hg)
    refine ⟨h3.1, ?_, fun u hu => ?_⟩
    · by_cases e2 : i = g
      · subst e2
        rw [List.getElem?_set_self hgl]
        rw [hg, Option.some.injEq] at h3
        have := h3.2.1
        rw [this] at hp ⊢
        rw [show p = 0 from by have := hp.2; simp at this; omega]
      · rw [List.getElem?_set_ne (Ne.symm e2)]; exact h3.2.1
    · rcases List.mem_or_eq_of_mem_set hu with hu | rfl
      · exact h3.2.2 u hu
      · exact ⟨hq.1, by show 0 ≤ p; omega, by show p ≤ 1000000; omega⟩
  · rw [List.getElem?_set_ne (Ne.symm e)]; exact h3
 have hlg : ∀ a b : Nat, (lgO { x with L := x.L.set f (row.set g (q.1, p)) } a b).1 = (lgO x a b).1 ∧ (lgO { x with L := x.L.set f (row.set g (q.1, p)) } a b).2 ≤ (lgO x a b).2 := fun a b => by
  unfold lgO
  show ((((x.L.set f (row.set g (q.1, p)))[a]?).getD [])[b]?.getD (0, 0)).1 = _ ∧ ((((x.L.set f (row.set g (q.1, p)))[a]?).getD [])[b]?.getD (0, 0)).2 ≤ _
  by_cases e : a = f
  · subst e
    rw [List.getElem?_set_self hfl, hf, Option.getD_some, Option.getD_some]
    by_cases e2 : b = g
    · subst e2
      rw [List.getElem?_set_self hgl, hg]
      exact ⟨rfl, hp.2⟩
    · rw [List.getElem?_set_ne (Ne.symm e2)]
      exact ⟨rfl, Int.le_refl _⟩
  · rw [List.getElem?_set_ne (Ne.symm e)]
    exact ⟨rfl, Int.le_refl _⟩
 refine ⟨h', room_le h h' rfl rfl (fun a b => ?_) (fun a b => (hlg a b).2) (fun t f' l h1 h2 hm => ?_) (fun t f' l h1 h2 => Int.le_refl _)⟩
 · unfold lsO; rw [(hlg a b).1]
 · have h3 := (alo_iff (toB_n h) ⟨h1, h2⟩).1 hm
   exact (alo_iff (toB_n h') ⟨h1, h2⟩).2 h3
end Go.Proofs.Ythfabodamhdhaaa
namespace Go.Proofs.Ythfabodamhdhaaa
open Go Tx Go.RowKit
set_option linter.unusedSimpArgs false
set_option linter.unusedVariables false
theorem hm3 {b n m nr ty : Nat} {XS YS : List SV} {C : List Value} (h1 : SV.lts (b + 6) XS = true) (h2 : SV.lts (b + 6) YS = true) (i : Nat) (bk : Blk) (h : lk (m3 b n m nr ty XS YS C) i = some bk) : b ≤ i ∧ i < b + 6 ∧ bk.lt (b + 6) = true ∧ bk.live = true := by
 have h3 : SV.lts (b + 6) (C.map SV.v) = true := lts_v _ _
 have e1 : Nat.blt (b + 1) (b + 6) = true := by rw [Nat.blt_eq]; omega
 have e2 : Nat.blt (b + 3) (b + 6) = true := by rw [Nat.blt_eq]; omega
 have e3 : Nat.blt (b + 5) (b + 6) = true := by rw [Nat.blt_eq]; omega
 rcases lk_m3 h with ⟨rfl, rfl⟩ | ⟨rfl, rfl⟩ | ⟨rfl, rfl⟩ <;> exact ⟨by omega, by omega, by simp only [Blk.lt, h1, h2, h3, e1, e2, e3, Bool.and_self], rfl⟩
theorem toB_sizes {x : To} (h : toB x = true) : x.T.length ≤ 9 ∧ x.L.length = x.T.length ∧ (∀ t ∈ x.T, t.O.length ≤ 3 ∧ t.R.length ≤ 3) ∧ ∀ r ∈ x.L, r.length = x.T.length := by
 have hN := toB_n h
 refine ⟨hN.n.2, hN.l, fun u hu => ?_, fun r hr => (hN.lr r hr).1⟩
 obtain ⟨i, hi⟩ := List.mem_iff_getElem?.1 hu
 rcases Nat.eq_zero_or_pos i with rfl | hi0
 · have h0 := h
   simp only [toB, Bool.and_eq_true] at h0
   have h1 : (x.T[0]?).any quB = true := h0.2.1.1
   rw [hi] at h1
   simp only [Option.any_some, quB, Bool.and_eq_true, decide_eq_true_eq] at h1
   omega
 · have := TwN.of (toB_at h hi0 hi)
   exact ⟨this.o, this.r.1⟩
theorem best_rows {days shift size : Int} {tb tc lb lc n m : Nat} {T' : List Tn} {L' : List Lr} {w' : World} {X : To} (hX : X = ⟨days, shift, size, T'.map Tn.d, L'.map Lr.L⟩) (hB : toB X = true) (hn : n = T'.length) (hm : m = L'.length)
 {tcs lcs : List Value} (htc : tcs = T'.flatMap Tn.cs) (hlc : lcs = L'.flatMap Lr.cs)
 (h1 : w'.ownsRow 0 57 9 (.slice (some ⟨tb, 0, none⟩) n tc) n tcs) (h2 : w'.ownsRow 0 61 1 (.slice (some ⟨lb, 0, none⟩) m lc) m lcs)
 (hti : ∀ t ∈ T', Rd 2 prF (.slice t.oo t.d.O.length t.oc) t.d.O w' ∧ Rd 2 prF (.slice t.ro t.d.R.length t.rc) t.d.R w') (hli : ∀ r ∈ L', Rd 2 prF (.slice r.o r.L.length r.c) r.L w') :
 Calls Try.prog 20 #[.agg #[iv days, iv shift, iv size, .slice (some ⟨tb, 0, none⟩) n tc, .slice (some ⟨lb, 0, none⟩) m lc]] w' fun e w2 => ∃ y : Option Addr × Nat, e = .returned (.tuple #[sV (bsS X).length y, iv (hmO X (ALO X) 0 0 0), iv 0]) ∧ Below w'.heap.size w' w2 ∧ St w'.heap.size (fun _ => True) w2 := by
 obtain ⟨s1, s2, s3, s4⟩ := toB_sizes hB
 subst hn hm htc hlc
 have hTT : X.T = T'.map Tn.d := by rw [hX]
 have hLL : X.L = L'.map Lr.L := by rw [hX]
 rw [hTT, List.length_map] at s1
 rw [hTT, hLL, List.length_map, List.length_map] at s2
 have hI : TrIn ⟨days, shift, size, some ⟨tb, 0, none⟩, tc, T', some ⟨lb, 0, none⟩, lc, L'⟩ w' := by
  refine trIn_of h1 (fun u hu => ?_) h2 hli (by omega) (by omega) (fun r hr => ?_)
  · have := s3 u.d (by rw [hTT]; exact List.mem_map.2 ⟨u, hu, rfl⟩)
    exact ⟨(hti u hu).1, (hti u hu).2, by omega, by omega⟩
  · have := s4 r.L (by rw [hLL]; exact List.mem_map.2 ⟨r, hr, rfl⟩)
    rw [hTT, List.length_map] at this
    omega
 have hb := Best_ok _ w' hI
 have hd : Tr.d ⟨days, shift, size, some ⟨tb, 0, none⟩, tc, T', some ⟨lb, 0, none⟩, lc, L'⟩ = X := by rw [hX]
 rw [hd] at hb
 unfold bsV at hb
 rw [if_pos hB] at hb
 exact hb.mono fun e w2 ⟨y, g1, g2, g3⟩ => ⟨y, g1, g2, fun _ _ => trivial⟩
theorem bestL {x : Tr} {f : Nat} {r0 : Lr} (p : LgT x f r0) {β : Nat → Nat} {w' : World} {XS YS ZS : List SV} {T' : List Tn} {row : List (Int × Int)} {n m nr : Nat} (hn : n = x.T.length) (hm : m = x.L.length) (hnr : nr = row.length)
 (hXS : SV.cs β XS = T'.flatMap Tn.cs) (hYS : YS = ysL 5 f nr p.1.1) (hZS : SV.cs β ZS = row.flatMap prF)
 (hT' : T'.length = x.T.length) (hTu : ∀ t ∈ T', ∃ u ∈ p.1.1.T, t.oo = u.oo ∧ t.oc = u.oc ∧ t.ro = u.ro ∧ t.rc = u.rc ∧ t.d.O = u.d.O ∧ t.d.R = u.d.R)
 (h1 : (Blk.mix 2 n 9 [] XS 57).ok β w' (β 1)) (h2 : (Blk.mix 4 m 1 [] YS 61).ok β w' (β 3)) (h3 : (Blk.mix 6 nr 2 [] ZS 60).ok β w' (β 5)) (hR : RsB p.1.2.2 p.1.1 w') {size : Int}
 {X : To} (hX : X = ⟨x.days, x.shift, size, T'.map Tn.d, x.d.L.set f row⟩) (hB : toB X = true) :
 Calls Try.prog 20 #[.agg #[iv x.days, iv x.shift, iv size, .slice (some ⟨β 1, 0, none⟩) n (β 2), .slice (some ⟨β 3, 0, none⟩) m (β 4)]] w' fun e w2 => ∃ y : Option Addr × Nat, e = .returned (.tuple #[sV (bsS X).length y, iv (hmO X (ALO X) 0 0 0), iv 0]) ∧ Below w'.heap.size w' w2 ∧ St w'.heap.size (fun _ => True) w2 := by
 obtain ⟨⟨y, r, rb⟩, hd, hr, hrL, hro, hlb, hap⟩ := p
 dsimp only at hd hr hrL hro hlb hap hYS hTu hR
 have hLl : y.L.length = x.L.length := by have := congrArg (fun d => d.L.length) hd; simpa using this
 have hfl := (List.getElem?_eq_some_iff.1 hr).1
 have hrbl : rb ∈ lbk y.L := List.mem_flatMap.2 ⟨r, List.mem_of_getElem? hr, by rw [hro]; simp [bkO]⟩
 have h1' : w'.ownsRow 0 57 9 (.slice (some ⟨β 1, 0, none⟩) n (β 2)) n ([] ++ SV.cs β XS) := h1
 have h2' : w'.ownsRow 0 61 1 (.slice (some ⟨β 3, 0, none⟩) m (β 4)) m ([] ++ SV.cs β YS) := h2
 have h3' : w'.ownsRow 0 60 2 (.slice (some ⟨β 5, 0, none⟩) nr (β 6)) nr ([] ++ SV.cs β ZS) := h3
 rw [List.nil_append] at h1' h2' h3'
 rw [hZS] at h3'
 have hlrow : SV.cs β YS = (y.L.set f ⟨some ⟨β 5, 0, none⟩, β 6, row⟩).flatMap Lr.cs := by
  rw [hYS, ysL, cs_set, cs_v, SV.c]
  exact flat_set (sz := 1) (f := Lr.cs) (fun _ => rfl) _ f 0 r ⟨some ⟨β 5, 0, none⟩, β 6, row⟩ _ hr (by decide) (by rw [hnr]; rfl)
 refine best_rows (by rw [hX, show x.d.L = y.L.map Lr.L from by rw [← hd], List.map_set]) hB (by rw [hn, hT']) (by rw [hm, List.length_set, hLl]) hXS hlrow h1' h2' (fun t ht => ?_) (fun q hq => ?_)
 · obtain ⟨u, hu, e1, e2, e3, e4, e5, e6⟩ := hTu t ht
   obtain ⟨i, hi⟩ := List.mem_iff_getElem?.1 hu
   have g := hR.1 u hu
   rw [e1, e2, e3, e4, e5, e6]
   exact ⟨g.1 fun h => hap rb (tbk_mem hi (.inl h)) hrbl, g.2 fun h => hap rb (tbk_mem hi (.inr h)) hrbl⟩
 · obtain ⟨i, hi⟩ := List.mem_iff_getElem?.1 hq
   by_cases e : i = f
   · subst e
     rw [List.getElem?_set_self hfl, Option.some.injEq] at hi
     subst hi
     rw [hnr] at h3'
     exact Rd.of_owns (sz := 2) (f := prF) (fun _ => rfl) rfl rfl h3'
   · rw [List.getElem?_set_ne (Ne.symm e)] at hi
     refine hR.2 q (List.mem_of_getElem? hi) fun h => ?_
     have key : ∀ (L : List Lr) (i f : Nat), (lbk L).Nodup → L[i]? = some q → L[f]? = some r → i ≠ f → ∀ a ∈ bkO q.o, a ∉ bkO r.o := by
      intro L
      induction L with
      | nil => intro i f _ h; simp at h
      | cons d L ih =>
       intro i f hn hi hf hif a ha hb
       simp only [lbk, List.flatMap_cons] at hn
       rw [List.nodup_append] at hn
       cases i with
       | zero =>
        cases f with
        | zero => exact hif rfl
        | succ f =>
         simp only [List.getElem?_cons_zero, Option.some.injEq] at hi
         subst hi
         exact hn.2.2 a ha a (List.mem_flatMap.2 ⟨r, List.mem_of_getElem? (by simpa using hf), hb⟩) rfl
       | succ i =>
        cases f with
        | zero =>
         simp only [List.getElem?_cons_zero, Option.some.injEq] at hf
         subst hf
         exact hn.2.2 a hb a (List.mem_flatMap.2 ⟨q, List.mem_of_getElem? (by simpa using hi), ha⟩) rfl
        | succ f => exact ih i f hn.2.1 (by simpa using hi) (by simpa using hf) (by omega) a ha hb
     exact key y.L i f hlb hi hr e rb h (by rw [hro]; simp [bkO])
theorem bestO {x : Tr} {k : Nat} {t0 : Tn} (p : OpT x k t0) {β : Nat → Nat} {w' : World} {XS YS ZS : List SV} {O' : List (Int × Int)} {n m nr : Nat} (hn : n = x.T.length) (hm : m = x.L.length) (hnr : nr = O'.length)
 (hXS : XS = xsO 5 k nr p.1.1) (hYS : YS = ysA p.1.1) (hZS : SV.cs β ZS = O'.flatMap prF)
 (h1 : (Blk.mix 2 n 9 [] XS 57).ok β w' (β 1)) (h2 : (Blk.mix 4 m 1 [] YS 61).ok β w' (β 3)) (h3 : (Blk.mix 6 nr 2 [] ZS 55).ok β w' (β 5)) (hR : RsB p.1.2.2 p.1.1 w')
 {X : To} (hX : X = { x.d with T := x.d.T.set k { t0.d with O := O' } }) (hB : toB X = true) :
 Calls Try.prog 20 #[.agg #[iv x.days, iv x.shift, iv x.size, .slice (some ⟨β 1, 0, none⟩) n (β 2), .slice (some ⟨β 3, 0, none⟩) m (β 4)]] w' fun e w2 => ∃ y : Option Addr × Nat, e = .returned (.tuple #[sV (bsS X).length y, iv (hmO X (ALO X) 0 0 0), iv 0]) ∧ Below w'.heap.size w' w2 ∧ St w'.heap.size (fun _ => True) w2 := by
 obtain ⟨⟨y, t, rb⟩, hd, ht, htd, hto, htb, hap⟩ := p
 dsimp only at hd ht htd hto htb hap hXS hYS hR
 have hLl : y.L.length = x.L.length := by have := congrArg (fun d => d.L.length) hd; simpa using this
 have hTl : y.T.length = x.T.length := by have := congrArg (fun d => d.T.length) hd; simpa using this
 have hkl := (List.getElem?_eq_some_iff.1 ht).1
 have hrbt : rb ∈ tbk y.T := tbk_mem ht (.inl (by rw [hto]; simp [bkO]))
 have h1' : w'.ownsRow 0 57 9 (.slice (some ⟨β 1, 0, none⟩) n (β 2)) n ([] ++ SV.cs β XS) := h1
 have h2' : w'.ownsRow 0 61 1 (.slice (some ⟨β 3, 0, none⟩) m (β 4)) m ([] ++ SV.cs β YS) := h2
 have h3' : w'.ownsRow 0 55 2 (.slice (some ⟨β 5, 0, none⟩) nr (β 6)) nr ([] ++ SV.cs β ZS) := h3
 rw [List.nil_append] at h1' h2' h3'
 rw [hZS] at h3'
 have hcells : SV.cs β XS = (y.T.set k { t with oo := some ⟨β 5, 0, none⟩, oc := β 6, d := { t0.d with O := O' } }).flatMap Tn.cs := by
  rw [hXS, xsO, cs_set, cs_v, SV.c]
  exact flat_set (sz := 9) (f := Tn.cs) (fun _ => rfl) _ k 0 t _ _ ht (by decide) (by rw [hnr, ← htd]; rfl)
 refine best_rows (L' := y.L) (by rw [hX, List.map_set]; show To.mk x.days x.shift x.size (x.d.T.set k _) x.d.L = To.mk x.days x.shift x.size ((y.T.map Tn.d).set k _) (y.L.map Lr.L); rw [← hd]) hB (by rw [hn, List.length_set, hTl]) (by rw [hm, hLl]) hcells (by rw [hYS]; exact cs_v β _) h1' h2' (fun u hu => ?_) (fun q hq => ?_)
 · obtain ⟨i, hi⟩ := List.mem_iff_getElem?.1 hu
   by_cases e : i = k
   · subst e
     rw [List.getElem?_set_self hkl, Option.some.injEq] at hi
     subst hi
     rw [hnr] at h3'
     refine ⟨Rd.of_owns (sz := 2) (f := prF) (fun _ => rfl) rfl rfl h3', ?_⟩
     have g := (hR.1 t (List.mem_of_getElem? ht)).2 fun h => (tbk_apart htb ht ht).1 rb (by rw [hto]; simp [bkO]) rb h rfl
     rw [htd] at g
     exact g
   · rw [List.getElem?_set_ne (Ne.symm e)] at hi
     obtain ⟨q1, q2, q3⟩ := tbk_apart htb hi ht
     obtain ⟨p1, p2, p3⟩ := tbk_apart htb ht hi
     have g := hR.1 u (List.mem_of_getElem? hi)
     exact ⟨g.1 fun h => q3 e rb h rb (by rw [hto]; simp [bkO]) rfl, g.2 fun h => p1 rb (by rw [hto]; simp [bkO]) rb h rfl⟩
 · exact hR.2 q hq fun h => hap rb hrbt (List.mem_flatMap.2 ⟨q, hq, h⟩)
end Go.Proofs.Ythfabodamhdhaaa
namespace Go.Proofs.Ythfabodamhdhaaa
open Go Tx Go.RowKit
set_option linter.unusedSimpArgs false
set_option linter.unusedVariables false
theorem xs_len {y : Tr} : ((y.T.flatMap Tn.cs).map SV.v).length = y.T.length * 9 := by
 rw [List.length_map, flat_len (sz := 9) (fun _ => rfl)]
theorem cv5 (a : Int) (h : 0 ≤ a ∧ a ≤ 255) : RunIs Try.prog (convert 5 3 (.int .u8 a)) (iv a) := fun w => by
 have h1 : Try.prog.underlying 5 = some (.int .u8) := by kernel_rfl
 have h2 : Try.prog.underlying 3 = some (.int .i64) := by kernel_rfl
 have e : IntKind.i64.wrap a = a := IR.wrap (k := .i64) (And.intro (by omega) (by omega))
 simp [convert, Conv.intToInt, Go.run_underlying h1 w, Go.run_underlying h2 w, e]
theorem cvE5 {a : Int} {K : Value → Prop} (h : 0 ≤ a ∧ a ≤ 255) (hK : K (iv a)) : ∃ v', RunIs Try.prog (convert 5 3 (.int .u8 a)) v' ∧ K v' := ⟨_, cv5 a h, hK⟩
end Go.Proofs.Ythfabodamhdhaaa
namespace Go.Proofs.Ythfabodamhdhaaa
open Go Tx Go.RowKit
set_option linter.unusedSimpArgs false
set_option linter.unusedVariables false
theorem cv52 (a : Int) (h : 0 ≤ a ∧ a ≤ 65535) : RunIs Try.prog (convert 52 3 (.int .u16 a)) (iv a) := fun w => by
 have h1 : Try.prog.underlying 52 = some (.int .u16) := by kernel_rfl
 have h2 : Try.prog.underlying 3 = some (.int .i64) := by kernel_rfl
 have e : IntKind.i64.wrap a = a := IR.wrap (k := .i64) (And.intro (by omega) (by omega))
 simp [convert, Conv.intToInt, Go.run_underlying h1 w, Go.run_underlying h2 w, e]
theorem cvE52 {a : Int} {K : Value → Prop} (h : 0 ≤ a ∧ a ≤ 65535) (hK : K (iv a)) : ∃ v', RunIs Try.prog (convert 52 3 (.int .u16 a)) v' ∧ K v' := ⟨_, cv52 a h, hK⟩
end Go.Proofs.Ythfabodamhdhaaa
namespace Go.Proofs.Ythfabodamhdhaaa.Tx
open Go Go.RowKit
theorem nlC {P : Program} {dst : Option Tmp} {ty : TypeId} {pos : String} {after : Array Edge} {gd : Option (Nat × Bool)} {gs : List Nat} {σ : Sg} {K : Ef → Prop} {KF : Option KT} {i o : Nat} {x : Operand}
 (hx : gv σ x = some (.ptr i o)) (hlt : Nat.blt i σ.nb = true) (hK : K ⟨.ptr i o, [], [], gs ++ os x, []⟩) : OpEvS P ⟨dst, .nilCheck x, ty, pos, after, gd⟩ gs σ K KF := by
 refine .mk ⟨.ptr i o, [], [], gs ++ os x, []⟩ (by simp [efB, eqs, modsLt, oldB, keysB, nodupB, SV.lt]; simpa using hlt) (fun k hk => by simp [hk]) rfl (runOK_pure fun β a w hss => ?_) hK
 have e1 := gv_eval hss hx (fun k hk => by simp [hk])
 simp [execOp, e1, SV.c]
end Go.Proofs.Ythfabodamhdhaaa.Tx
namespace Go.Proofs.Ythfabodamhdhaaa
open Go Tx Go.RowKit
theorem xsA_len {y : Tr} : (xsA y).length = y.T.length * 9 := xs_len
theorem xsA_at {y : Tr} {k : Nat} {t : Tn} (h : y.T[k]? = some t) (j : Nat) (v : Value) (hv : (Tn.cs t)[j]? = some v) : (xsA y)[k * 9 + j]? = some (SV.v v) := by
 have := flat_get (f := Tn.cs) (sz := 9) (fun _ => rfl) _ k j _ v h hv
 unfold xsA
 rw [List.getElem?_map, this]; rfl
theorem prF_at {L : List (Int × Int)} {k : Nat} {q : Int × Int} (h : L[k]? = some q) (j : Nat) (v : Value) (hv : (prF q)[j]? = some v) : ((L.flatMap prF).map SV.v)[k * 2 + j]? = some (SV.v v) := by
 have := flat_get (f := prF) (sz := 2) (fun _ => rfl) _ k j _ v h hv
 rw [List.getElem?_map, this]; rfl
theorem prF_len {L : List (Int × Int)} : ((L.flatMap prF).map SV.v).length = L.length * 2 := by
 rw [List.length_map, flat_len (sz := 2) (fun _ => rfl)]
theorem apB_bd {d : Int} {q : Int × Int} : ∀ (O : List (Int × Int)) (p : Int), apB d p O = true → -1 ≤ p → q ∈ O → -1 ≤ q.2 ∧ q.2 ≤ d - 1
 | a :: O, p, h, hp, hq => by
  simp only [apB, Bool.and_eq_true, decide_eq_true_eq] at h
  rcases List.mem_cons.1 hq with rfl | hq
  · omega
  · exact apB_bd O a.2 h.2 (by omega) hq
set_option maxHeartbeats 8000000 in
set_option maxRecDepth 100000 in
theorem Rm0 (x : Tr) (tn fr to wh by_ : Nat) (t0 : Tn) (a : Int) (w : World) (hT : TrIn x w) (hB : TrB x) (hto : toB x.d = true) (hk : x.T[tn % (x.T.length - 1) + 1]? = some t0) (q0 : Int × Int) (hq : t0.d.O[t0.d.O.length - 1]? = some q0) (h1 : tn ≤ 255) (h2 : fr ≤ 255) (h3 : to ≤ 255) (h4 : wh % 5 = 0) (h40 : wh ≤ 255) (h5 : by_ ≤ 65535) (ha : a = hmO x.d (ALO x.d) 0 0 0) :
 VC Try.prog (rest 3 body5) ⟨177, [(1, .v (.int .u8 tn)), (2, .v (.int .u8 fr)), (3, .v (.int .u8 to)), (4, .v (.int .u8 wh)), (5, .v (.int .u16 by_)), (6, .ptr 0 0), (14, .v (iv a)), (15, .v (iv 0))], [(0, .cells x.l 25)], 1, fun w2 => Below w.heap.size w w2, z0⟩ (endΦ env Try.f5 fun s σ => (∀ β, s.c β = .bool true) ∧ ∀ w', σ.h w' → Below w.heap.size w w') := by
 have hN := toB_n hto
 have hn9 := hN.n
 have hnl := hN.l
 rw [show x.d.T.length = x.T.length from List.length_map ..] at hn9
 rw [show x.d.T.length = x.T.length from List.length_map .., show x.d.L.length = x.L.length from List.length_map ..] at hnl
 have hL0 : x.L ≠ [] := fun e => by rw [e] at hnl; simp at hnl; omega
 have hT0 : x.T ≠ [] := fun e => by rw [e] at hn9; simp at hn9
 have hkl := (List.getElem?_eq_some_iff.1 hk).1
 have hkd : x.d.T[tn % (x.T.length - 1) + 1]? = some t0.d := by show (x.T.map Tn.d)[_]? = _; rw [List.getElem?_map, hk]; rfl
 have hw0 := TwN.of (toB_at hto (by omega) hkd)
 have hkm : (tn : Int).tmod ((x.T.length : Int) - 1) = ((tn % (x.T.length - 1) : Nat) : Int) := by
  rw [show (x.T.length : Int) - 1 = ((x.T.length - 1 : Nat) : Int) from by omega]
  rfl
 have hwm : (wh : Int).tmod 5 = 0 := by
  rw [show (wh : Int).tmod 5 = ((wh % 5 : Nat) : Int) from rfl, h4]; rfl
 have hkn : (1 + ((tn % (x.T.length - 1) : Nat) : Int)).toNat = tn % (x.T.length - 1) + 1 := by omega
 have hpT : ∀ p : OpT x (tn % (x.T.length - 1) + 1) t0, p.1.1.T.length = x.T.length := fun p => by have := congrArg (fun d => d.T.length) p.2.1; simpa using this
 have hpL : ∀ p : OpT x (tn % (x.T.length - 1) + 1) t0, p.1.1.L.length = x.L.length := fun p => by have := congrArg (fun d => d.L.length) p.2.1; simpa using this
 have hO : t0.d.O ≠ [] := fun e => by rw [e] at hq; simp at hq
 have hO1 := List.length_pos_iff.2 hO
 have hOl := hw0.o
 have hqb : -1 ≤ q0.2 ∧ q0.2 ≤ x.days - 1 := by
  have h1 := toB_at hto (by omega) hkd
  simp only [twB, Bool.and_eq_true] at h1
  exact apB_bd _ _ h1.2.1 (by omega) (List.mem_of_getElem? hq)
 have hday : 1 ≤ x.days ∧ x.days ≤ 60 := hN.d
 have hnew : q0.2 ≤ (imin (x.days - 1) (q0.2 + 1)) ∧ (imin (x.days - 1) (q0.2 + 1)) ≤ x.days - 1 := by rw [imin_eq]; omega
 obtain ⟨hXB, hle⟩ := room_open hto (by omega) hkd hq hnew
 have hon : ((t0.d.O.length : Int) - 1).toNat = t0.d.O.length - 1 := by omega
 have hs : ∀ p : OpT x (tn % (x.T.length - 1) + 1) t0, (xsO 5 (tn % (x.T.length - 1) + 1) t0.d.O.length p.1.1)[(1 + ((tn % (x.T.length - 1) : Nat) : Int)).toNat * 9 + 0]? = some (SV.os 5 6 t0.d.O.length) := fun p => by
  rw [hkn, xsO, List.getElem?_set_self (by rw [xs_len, hpT p]; omega)]
 have hs2 : ((t0.d.O.flatMap prF).map SV.v)[((t0.d.O.length : Int) - 1).toNat * 2 + 1]? = some (SV.v (iv q0.2)) := by
  rw [hon]
  exact prF_at hq 1 _ rfl
 have hat : ((t0.d.O.length : Int) - 1).toNat * 2 + 1 < (((t0.d.O.flatMap prF).map SV.v)).length := by rw [prF_len, hon]; omega
 have hm1 : ∀ (p : OpT x (tn % (x.T.length - 1) + 1) t0) (i : Nat) (bk : Blk), lk (mO 1 (tn % (x.T.length - 1) + 1) t0 x p.1) i = some bk → 1 ≤ i ∧ i < 1 + 6 ∧ bk.lt (1 + 6) = true ∧ bk.live = true := fun p => hm3 (lts_set rfl (lts_v _ _)) (lts_v _ _)
 have htour : ∀ (β : Nat → Nat) (w' : World) (hb : Below w.heap.size w w'), Calls Try.prog 21 #[x.v] w' fun e w2 => ∃ (p : OpT x (tn % (x.T.length - 1) + 1) t0) (γ : Nat → Nat), e = .returned ((vR 1 x).c γ) ∧ (∀ i, i < 1 → γ i = β i) ∧ Below w'.heap.size w' w2 ∧
  (∀ i bk, lk (mO 1 (tn % (x.T.length - 1) + 1) t0 x p.1) i = some bk → w'.heap.size ≤ γ i ∧ bk.ok γ w2 (γ i)) ∧ (∀ i j bi bj, lk (mO 1 (tn % (x.T.length - 1) + 1) t0 x p.1) i = some bi → lk (mO 1 (tn % (x.T.length - 1) + 1) t0 x p.1) j = some bj → i ≠ j → γ i ≠ γ j) ∧
  ∀ w3, w2.heap.size ≤ w3.heap.size → (∀ c, w'.heap.size ≤ c → c < w2.heap.size → (∀ i bk, lk (mO 1 (tn % (x.T.length - 1) + 1) t0 x p.1) i = some bk → γ i ≠ c) → w3.heap[c]? = w2.heap[c]?) → RsB p.1.2.2 p.1.1 w3 := fun β w' hb =>
  (TourO_ok x _ t0 w' (hT.below hb) hB hk hO hL0 1 β).mono fun e w2 ⟨p, γ, g1, g2, o1, o2, o3, o4⟩ => ⟨p, γ, g1, o1, g2, o2, o3, o4⟩
 have hbest : ∀ (p : OpT x (tn % (x.T.length - 1) + 1) t0) (β : Nat → Nat) (w' : World), (Blk.mix 2 x.T.length 9 [] (xsO 5 (tn % (x.T.length - 1) + 1) t0.d.O.length p.1.1) 57).ok β w' (β 1) → (Blk.mix 4 x.L.length 1 [] (ysA p.1.1) 61).ok β w' (β 3) → (Blk.mix 6 t0.d.O.length 2 [] (((t0.d.O.flatMap prF).map SV.v).set (((t0.d.O.length : Int) - 1).toNat * 2 + 1) (.v (iv (imin (x.days - 1) (q0.2 + 1))))) 55).ok β w' (β 5) → RsB p.1.2.2 p.1.1 w' →
  Calls Try.prog 20 #[.agg #[iv x.days, iv x.shift, iv x.size, .slice (some ⟨β 1, 0, none⟩) x.T.length (β 2), .slice (some ⟨β 3, 0, none⟩) x.L.length (β 4)]] w' fun e w2 => ∃ y : Option Addr × Nat, e = .returned (.tuple #[sV (bsS { x.d with T := x.d.T.set (tn % (x.T.length - 1) + 1) { t0.d with O := (t0.d.O.set (t0.d.O.length - 1) (q0.1, (imin (x.days - 1) (q0.2 + 1)))) } }).length y, iv (hmO { x.d with T := x.d.T.set (tn % (x.T.length - 1) + 1) { t0.d with O := (t0.d.O.set (t0.d.O.length - 1) (q0.1, (imin (x.days - 1) (q0.2 + 1)))) } } (ALO { x.d with T := x.d.T.set (tn % (x.T.length - 1) + 1) { t0.d with O := (t0.d.O.set (t0.d.O.length - 1) (q0.1, (imin (x.days - 1) (q0.2 + 1)))) } }) 0 0 0), iv 0]) ∧ Below w'.heap.size w' w2 ∧ St w'.heap.size (fun _ => True) w2 := fun p β w' h1 h3 h5 hR => by
  refine bestO p (O' := (t0.d.O.set (t0.d.O.length - 1) (q0.1, (imin (x.days - 1) (q0.2 + 1))))) rfl rfl (by rw [List.length_set]) rfl rfl ?_ h1 h3 h5 hR (X := { x.d with T := x.d.T.set (tn % (x.T.length - 1) + 1) { t0.d with O := (t0.d.O.set (t0.d.O.length - 1) (q0.1, (imin (x.days - 1) (q0.2 + 1)))) } }) rfl hXB
  · rw [cs_set, cs_v, hon]
    exact flat_set (sz := 2) (f := prF) (fun _ => rfl) _ _ 1 q0 (q0.1, (imin (x.days - 1) (q0.2 + 1))) (iv (imin (x.days - 1) (q0.2 + 1))) hq (by decide) rfl
 rw [← ha] at hle
 generalize hmO { x.d with T := x.d.T.set (tn % (x.T.length - 1) + 1) { t0.d with O := (t0.d.O.set (t0.d.O.length - 1) (q0.1, (imin (x.days - 1) (q0.2 + 1)))) } } (ALO { x.d with T := x.d.T.set (tn % (x.T.length - 1) + 1) { t0.d with O := (t0.d.O.set (t0.d.O.length - 1) (q0.1, (imin (x.days - 1) (q0.2 + 1)))) } }) 0 0 0 = b at *
 generalize (bsS { x.d with T := x.d.T.set (tn % (x.T.length - 1) + 1) { t0.d with O := (t0.d.O.set (t0.d.O.length - 1) (q0.1, (imin (x.days - 1) (q0.2 + 1)))) } }).length = sl at *
 refine VC.of env mixed ?_
 dsimp only [Tr.l]
 clear hXB hT hB
 have hnw := hnew
 repeat'
  conv => whnf
  first
   | refine zA ?_ | refine zB ?_ | refine zC ?_ | refine zD ?_ | refine zE ?_ | refine zF ?_ | refine zG ?_ | refine zH ?_ | refine zJ ?_ | refine zI ?_ | refine splT ?_ | refine splF ?_ | refine splNot ?_
   | ((first | refine splIn ?_ ?_ | refine splD ?_ ?_ | refine splE ?_ ?_ | refine splNE ?_ ?_) <;> intro hc <;> first | (exfalso; omega) | (exfalso; dsimp only at hc; omega) | skip)
   | ((with_reducible show CallEv _ _ 21 _ _ _ _ _); refine callFR [] 6 (vR 1 x) (fun p : OpT x (tn % (x.T.length - 1) + 1) t0 => mO 1 (tn % (x.T.length - 1) + 1) t0 x p.1) (fun p w2 => RsB p.1.2.2 p.1.1 w2) hm1 rfl (fun β w' _ hbw => htour β w' hbw) ?_; intro p)
   | refine cvE5 (by omega) ?_
   | refine Exists.intro (α := Int) ((tn % (x.T.length - 1) : Nat) : Int) ⟨⟨by omega, hkm⟩, ?_⟩
   | refine Exists.intro (α := Int) 0 ⟨⟨by decide, hwm⟩, ?_⟩
   | refine Tx.ldN env (i := 1) (.os 5 6 t0.d.O.length) rfl rfl rfl rfl rfl (hs p) rfl ?_
   | refine Tx.ldN env (i := 5) (.v (iv q0.2)) rfl rfl rfl rfl rfl hs2 rfl ?_
   | refine Tx.stN env (i := 5) (.v (iv (imin (x.days - 1) (q0.2 + 1)))) rfl rfl rfl rfl rfl rfl rfl hat rfl rfl (lts_v _ _) rfl ?_
   | ((with_reducible show CallEv _ _ 20 _ _ _ _ _); refine callF [1, 3, 5] (fun y : Option Addr × Nat => .tuple #[sV sl y, iv b, iv 0]) (fun _ _ => True) (fun β w' hbk hbw => hbest p β w' (hbk 1 (by simp) _ rfl) (hbk 3 (by simp) _ rfl) (hbk 5 (by simp) _ rfl) hbw.2) ?_; intro z)
   | ((with_reducible show CallEv _ _ 19 _ _ _ _ _); refine callE (k := 19) (fun β w' hbw => awake_ok w') ?_)
 all_goals first | (exfalso; omega) | exact ⟨fun β => rfl, fun w' h => (by repeat (first | exact h | replace h := h.1))⟩
set_option maxHeartbeats 8000000 in
set_option maxRecDepth 100000 in
theorem Rm1 (x : Tr) (tn fr to wh by_ : Nat) (t0 : Tn) (a : Int) (w : World) (hT : TrIn x w) (hB : TrB x) (hto : toB x.d = true) (hk : x.T[tn % (x.T.length - 1) + 1]? = some t0) (r0 : Lr) (hr : x.L[0]? = some r0) (h1 : tn ≤ 255) (h2 : fr ≤ 255) (h3 : to ≤ 255) (h4 : wh % 5 = 1) (h40 : wh ≤ 255) (h5 : by_ ≤ 65535) (ha : a = hmO x.d (ALO x.d) 0 0 0) :
 VC Try.prog (rest 3 body5) ⟨177, [(1, .v (.int .u8 tn)), (2, .v (.int .u8 fr)), (3, .v (.int .u8 to)), (4, .v (.int .u8 wh)), (5, .v (.int .u16 by_)), (6, .ptr 0 0), (14, .v (iv a)), (15, .v (iv 0))], [(0, .cells x.l 25)], 1, fun w2 => Below w.heap.size w w2, z0⟩ (endΦ env Try.f5 fun s σ => (∀ β, s.c β = .bool true) ∧ ∀ w', σ.h w' → Below w.heap.size w w') := by
 have hN := toB_n hto
 have hn9 := hN.n
 have hnl := hN.l
 rw [show x.d.T.length = x.T.length from List.length_map ..] at hn9
 rw [show x.d.T.length = x.T.length from List.length_map .., show x.d.L.length = x.L.length from List.length_map ..] at hnl
 have hL0 : x.L ≠ [] := fun e => by rw [e] at hnl; simp at hnl; omega
 have hT0 : x.T ≠ [] := fun e => by rw [e] at hn9; simp at hn9
 have hkl := (List.getElem?_eq_some_iff.1 hk).1
 have hkd : x.d.T[tn % (x.T.length - 1) + 1]? = some t0.d := by show (x.T.map Tn.d)[_]? = _; rw [List.getElem?_map, hk]; rfl
 have hw0 := TwN.of (toB_at hto (by omega) hkd)
 have hkm : (tn : Int).tmod ((x.T.length : Int) - 1) = ((tn % (x.T.length - 1) : Nat) : Int) := by
  rw [show (x.T.length : Int) - 1 = ((x.T.length - 1 : Nat) : Int) from by omega]
  rfl
 have hwm : (wh : Int).tmod 5 = 1 := by
  rw [show (wh : Int).tmod 5 = ((wh % 5 : Nat) : Int) from rfl, h4]; rfl
 have hkn : (1 + ((tn % (x.T.length - 1) : Nat) : Int)).toNat = tn % (x.T.length - 1) + 1 := by omega
 have hpT : ∀ p : LgT x 0 r0, p.1.1.T.length = x.T.length := fun p => by have := congrArg (fun d => d.T.length) p.2.1; simpa using this
 have hpL : ∀ p : LgT x 0 r0, p.1.1.L.length = x.L.length := fun p => by have := congrArg (fun d => d.L.length) p.2.1; simpa using this
 have htkx : ∀ p : LgT x 0 r0, ∃ t, p.1.1.T[tn % (x.T.length - 1) + 1]? = some t ∧ t.d = t0.d := fun p => by
  obtain ⟨t, ht⟩ : ∃ t, p.1.1.T[tn % (x.T.length - 1) + 1]? = some t := ⟨_, List.getElem?_eq_getElem (by rw [hpT p]; exact hkl)⟩
  refine ⟨t, ht, ?_⟩
  have := congrArg (fun d => d.T[tn % (x.T.length - 1) + 1]?) p.2.1
  simp only [Tr.d, List.getElem?_map, ht, hk, Option.map_some, Option.some.injEq] at this
  exact this
 obtain ⟨tk, htk⟩ : ∃ tk : LgT x 0 r0 → Tn, ∀ p, p.1.1.T[tn % (x.T.length - 1) + 1]? = some (tk p) ∧ (tk p).d = t0.d := ⟨fun p => Classical.choose (htkx p), fun p => Classical.choose_spec (htkx p)⟩
 have hr0 : r0.L ≠ [] := fun e => by
  have h1 := (hN.lr r0.L (List.mem_of_getElem? (i := 0) (by show (x.L.map Lr.L)[_]? = _; rw [List.getElem?_map, hr]; rfl))).1
  rw [e, show x.d.T.length = x.T.length from List.length_map ..] at h1
  simp at h1; omega
 have hnew : t0.d.pay ≤ (imin 1000000 (t0.d.pay + by_)) ∧ (imin 1000000 (t0.d.pay + by_)) ≤ 1000000 := by
  rw [imin_eq]; have := hw0.p; have := hw0.t; omega
 obtain ⟨hXB, hle⟩ := room_pay hto (by omega) hkd hnew
 have hs : ∀ p : LgT x 0 r0, (xsA p.1.1)[(1 + ((tn % (x.T.length - 1) : Nat) : Int)).toNat * 9 + 3]? = some (SV.v (iv t0.d.pay)) := fun p => by
  rw [hkn]
  exact xsA_at (htk p).1 3 _ (by rw [← (htk p).2]; rfl)
 have hat : (1 + ((tn % (x.T.length - 1) : Nat) : Int)).toNat * 9 + 3 < x.T.length * 9 := by rw [hkn]; omega
 have hnb := hw0.p
 have hnb2 := hw0.t
 have hm1 : ∀ (p : LgT x 0 r0) (i : Nat) (bk : Blk), lk (mL 1 0 r0 x p.1) i = some bk → 1 ≤ i ∧ i < 1 + 6 ∧ bk.lt (1 + 6) = true ∧ bk.live = true := fun p => hm3 (lts_v _ _) (lts_set rfl (lts_v _ _))
 have htour : ∀ (β : Nat → Nat) (w' : World) (hb : Below w.heap.size w w'), Calls Try.prog 21 #[x.v] w' fun e w2 => ∃ (p : LgT x 0 r0) (γ : Nat → Nat), e = .returned ((vR 1 x).c γ) ∧ (∀ i, i < 1 → γ i = β i) ∧ Below w'.heap.size w' w2 ∧
  (∀ i bk, lk (mL 1 0 r0 x p.1) i = some bk → w'.heap.size ≤ γ i ∧ bk.ok γ w2 (γ i)) ∧ (∀ i j bi bj, lk (mL 1 0 r0 x p.1) i = some bi → lk (mL 1 0 r0 x p.1) j = some bj → i ≠ j → γ i ≠ γ j) ∧
  ∀ w3, w2.heap.size ≤ w3.heap.size → (∀ c, w'.heap.size ≤ c → c < w2.heap.size → (∀ i bk, lk (mL 1 0 r0 x p.1) i = some bk → γ i ≠ c) → w3.heap[c]? = w2.heap[c]?) → RsB p.1.2.2 p.1.1 w3 := fun β w' hb =>
  (TourL_ok x _ r0 w' (hT.below hb) hB hr hr0 hT0 1 β).mono fun e w2 ⟨p, γ, g1, g2, o1, o2, o3, o4⟩ => ⟨p, γ, g1, o1, g2, o2, o3, o4⟩
 have hbest : ∀ (p : LgT x 0 r0) (β : Nat → Nat) (w' : World), (Blk.mix 2 x.T.length 9 [] ((xsA p.1.1).set ((1 + ((tn % (x.T.length - 1) : Nat) : Int)).toNat * 9 + 3) (.v (iv (imin 1000000 (t0.d.pay + by_))))) 57).ok β w' (β 1) → (Blk.mix 4 x.L.length 1 [] (ysL 5 0 r0.L.length p.1.1) 61).ok β w' (β 3) → (Blk.mix 6 r0.L.length 2 [] ((r0.L.flatMap prF).map SV.v) 60).ok β w' (β 5) → RsB p.1.2.2 p.1.1 w' →
  Calls Try.prog 20 #[.agg #[iv x.days, iv x.shift, iv x.size, .slice (some ⟨β 1, 0, none⟩) x.T.length (β 2), .slice (some ⟨β 3, 0, none⟩) x.L.length (β 4)]] w' fun e w2 => ∃ y : Option Addr × Nat, e = .returned (.tuple #[sV (bsS { x.d with T := x.d.T.set (tn % (x.T.length - 1) + 1) { t0.d with pay := (imin 1000000 (t0.d.pay + by_)) } }).length y, iv (hmO { x.d with T := x.d.T.set (tn % (x.T.length - 1) + 1) { t0.d with pay := (imin 1000000 (t0.d.pay + by_)) } } (ALO { x.d with T := x.d.T.set (tn % (x.T.length - 1) + 1) { t0.d with pay := (imin 1000000 (t0.d.pay + by_)) } }) 0 0 0), iv 0]) ∧ Below w'.heap.size w' w2 ∧ St w'.heap.size (fun _ => True) w2 := fun p β w' h1 h3 h5 hR => by
  refine bestL p (T' := p.1.1.T.set (tn % (x.T.length - 1) + 1) { (tk p) with d := { t0.d with pay := (imin 1000000 (t0.d.pay + by_)) } }) (row := r0.L) rfl rfl rfl ?_ rfl (cs_v β _) (by rw [List.length_set, hpT p]) (fun t ht => ?_) h1 h3 h5 hR (X := { x.d with T := x.d.T.set (tn % (x.T.length - 1) + 1) { t0.d with pay := (imin 1000000 (t0.d.pay + by_)) } }) ?_ hXB
  · rw [cs_set, xsA, cs_v, hkn]
    exact flat_set (sz := 9) (f := Tn.cs) (fun _ => rfl) _ _ 3 _ _ _ (htk p).1 (by decide) (by rw [← (htk p).2]; rfl)
  · rcases List.mem_or_eq_of_mem_set ht with ht | rfl
    · exact ⟨t, ht, rfl, rfl, rfl, rfl, rfl, rfl⟩
    · exact ⟨tk p, List.mem_of_getElem? (htk p).1, rfl, rfl, rfl, rfl, by rw [(htk p).2], by rw [(htk p).2]⟩
  · show To.mk x.days x.shift x.size (x.d.T.set _ _) x.d.L = To.mk x.days x.shift x.size _ _
    rw [List.map_set, show p.1.1.T.map Tn.d = x.d.T from congrArg To.T p.2.1, set_same (l := x.d.L) (v := r0.L) (by show (x.L.map Lr.L)[_]? = _; rw [List.getElem?_map, hr]; rfl)]
 rw [← ha] at hle
 generalize hmO { x.d with T := x.d.T.set (tn % (x.T.length - 1) + 1) { t0.d with pay := (imin 1000000 (t0.d.pay + by_)) } } (ALO { x.d with T := x.d.T.set (tn % (x.T.length - 1) + 1) { t0.d with pay := (imin 1000000 (t0.d.pay + by_)) } }) 0 0 0 = b at *
 generalize (bsS { x.d with T := x.d.T.set (tn % (x.T.length - 1) + 1) { t0.d with pay := (imin 1000000 (t0.d.pay + by_)) } }).length = sl at *
 refine VC.of env mixed ?_
 dsimp only [Tr.l]
 clear hXB hT hB
 have hnw := hnew
 repeat'
  conv => whnf
  first
   | refine zA ?_ | refine zB ?_ | refine zC ?_ | refine zD ?_ | refine zE ?_ | refine zF ?_ | refine zG ?_ | refine zH ?_ | refine zJ ?_ | refine zI ?_ | refine splT ?_ | refine splF ?_ | refine splNot ?_
   | ((first | refine splIn ?_ ?_ | refine splD ?_ ?_ | refine splE ?_ ?_ | refine splNE ?_ ?_) <;> intro hc <;> first | (exfalso; omega) | (exfalso; dsimp only at hc; omega) | skip)
   | ((with_reducible show CallEv _ _ 21 _ _ _ _ _); refine callFR [] 6 (vR 1 x) (fun p : LgT x 0 r0 => mL 1 0 r0 x p.1) (fun p w2 => RsB p.1.2.2 p.1.1 w2) hm1 rfl (fun β w' _ hbw => htour β w' hbw) ?_; intro p)
   | refine cvE5 (by omega) ?_
   | refine Exists.intro (α := Int) ((tn % (x.T.length - 1) : Nat) : Int) ⟨⟨by omega, hkm⟩, ?_⟩
   | refine Exists.intro (α := Int) 1 ⟨⟨by decide, hwm⟩, ?_⟩
   | refine cvE52 (by omega) ?_
   | refine Tx.ldN env (i := 1) (.v (iv t0.d.pay)) rfl rfl rfl rfl rfl (hs p) rfl ?_
   | refine Tx.stN env (i := 1) (.v (iv (imin 1000000 (t0.d.pay + by_)))) rfl rfl rfl rfl rfl rfl rfl (by rw [xsA_len, hpT p]; exact hat) rfl rfl (lts_v _ _) rfl ?_
   | ((with_reducible show CallEv _ _ 20 _ _ _ _ _); refine callF [1, 3, 5] (fun y : Option Addr × Nat => .tuple #[sV sl y, iv b, iv 0]) (fun _ _ => True) (fun β w' hbk hbw => hbest p β w' (hbk 1 (by simp) _ rfl) (hbk 3 (by simp) _ rfl) (hbk 5 (by simp) _ rfl) hbw.2) ?_; intro z)
   | ((with_reducible show CallEv _ _ 19 _ _ _ _ _); refine callE (k := 19) (fun β w' hbw => awake_ok w') ?_)
 all_goals first | (exfalso; omega) | exact ⟨fun β => rfl, fun w' h => (by repeat (first | exact h | replace h := h.1))⟩
set_option maxHeartbeats 8000000 in
set_option maxRecDepth 100000 in
theorem Rm2 (x : Tr) (tn fr to wh by_ : Nat) (t0 : Tn) (a : Int) (w : World) (hT : TrIn x w) (hB : TrB x) (hto : toB x.d = true) (hk : x.T[tn % (x.T.length - 1) + 1]? = some t0) (r0 : Lr) (hr : x.L[0]? = some r0) (h1 : tn ≤ 255) (h2 : fr ≤ 255) (h3 : to ≤ 255) (h4 : wh % 5 = 2) (h40 : wh ≤ 255) (h5 : by_ ≤ 65535) (ha : a = hmO x.d (ALO x.d) 0 0 0) :
 VC Try.prog (rest 3 body5) ⟨177, [(1, .v (.int .u8 tn)), (2, .v (.int .u8 fr)), (3, .v (.int .u8 to)), (4, .v (.int .u8 wh)), (5, .v (.int .u16 by_)), (6, .ptr 0 0), (14, .v (iv a)), (15, .v (iv 0))], [(0, .cells x.l 25)], 1, fun w2 => Below w.heap.size w w2, z0⟩ (endΦ env Try.f5 fun s σ => (∀ β, s.c β = .bool true) ∧ ∀ w', σ.h w' → Below w.heap.size w w') := by
 have hN := toB_n hto
 have hn9 := hN.n
 have hnl := hN.l
 rw [show x.d.T.length = x.T.length from List.length_map ..] at hn9
 rw [show x.d.T.length = x.T.length from List.length_map .., show x.d.L.length = x.L.length from List.length_map ..] at hnl
 have hL0 : x.L ≠ [] := fun e => by rw [e] at hnl; simp at hnl; omega
 have hT0 : x.T ≠ [] := fun e => by rw [e] at hn9; simp at hn9
 have hkl := (List.getElem?_eq_some_iff.1 hk).1
 have hkd : x.d.T[tn % (x.T.length - 1) + 1]? = some t0.d := by show (x.T.map Tn.d)[_]? = _; rw [List.getElem?_map, hk]; rfl
 have hw0 := TwN.of (toB_at hto (by omega) hkd)
 have hkm : (tn : Int).tmod ((x.T.length : Int) - 1) = ((tn % (x.T.length - 1) : Nat) : Int) := by
  rw [show (x.T.length : Int) - 1 = ((x.T.length - 1 : Nat) : Int) from by omega]
  rfl
 have hwm : (wh : Int).tmod 5 = 2 := by
  rw [show (wh : Int).tmod 5 = ((wh % 5 : Nat) : Int) from rfl, h4]; rfl
 have hkn : (1 + ((tn % (x.T.length - 1) : Nat) : Int)).toNat = tn % (x.T.length - 1) + 1 := by omega
 have hpT : ∀ p : LgT x 0 r0, p.1.1.T.length = x.T.length := fun p => by have := congrArg (fun d => d.T.length) p.2.1; simpa using this
 have hpL : ∀ p : LgT x 0 r0, p.1.1.L.length = x.L.length := fun p => by have := congrArg (fun d => d.L.length) p.2.1; simpa using this
 have htkx : ∀ p : LgT x 0 r0, ∃ t, p.1.1.T[tn % (x.T.length - 1) + 1]? = some t ∧ t.d = t0.d := fun p => by
  obtain ⟨t, ht⟩ : ∃ t, p.1.1.T[tn % (x.T.length - 1) + 1]? = some t := ⟨_, List.getElem?_eq_getElem (by rw [hpT p]; exact hkl)⟩
  refine ⟨t, ht, ?_⟩
  have := congrArg (fun d => d.T[tn % (x.T.length - 1) + 1]?) p.2.1
  simp only [Tr.d, List.getElem?_map, ht, hk, Option.map_some, Option.some.injEq] at this
  exact this
 obtain ⟨tk, htk⟩ : ∃ tk : LgT x 0 r0 → Tn, ∀ p, p.1.1.T[tn % (x.T.length - 1) + 1]? = some (tk p) ∧ (tk p).d = t0.d := ⟨fun p => Classical.choose (htkx p), fun p => Classical.choose_spec (htkx p)⟩
 have hr0 : r0.L ≠ [] := fun e => by
  have h1 := (hN.lr r0.L (List.mem_of_getElem? (i := 0) (by show (x.L.map Lr.L)[_]? = _; rw [List.getElem?_map, hr]; rfl))).1
  rw [e, show x.d.T.length = x.T.length from List.length_map ..] at h1
  simp at h1; omega
 have hnew : 0 ≤ (imax 0 (t0.d.rent - by_)) ∧ (imax 0 (t0.d.rent - by_)) ≤ t0.d.rent := by
  rw [imax_eq]; have := hw0.p; have := hw0.t; omega
 obtain ⟨hXB, hle⟩ := room_rent hto (by omega) hkd hnew
 have hs : ∀ p : LgT x 0 r0, (xsA p.1.1)[(1 + ((tn % (x.T.length - 1) : Nat) : Int)).toNat * 9 + 5]? = some (SV.v (iv t0.d.rent)) := fun p => by
  rw [hkn]
  exact xsA_at (htk p).1 5 _ (by rw [← (htk p).2]; rfl)
 have hat : (1 + ((tn % (x.T.length - 1) : Nat) : Int)).toNat * 9 + 5 < x.T.length * 9 := by rw [hkn]; omega
 have hnb := hw0.p
 have hnb2 := hw0.t
 have hm1 : ∀ (p : LgT x 0 r0) (i : Nat) (bk : Blk), lk (mL 1 0 r0 x p.1) i = some bk → 1 ≤ i ∧ i < 1 + 6 ∧ bk.lt (1 + 6) = true ∧ bk.live = true := fun p => hm3 (lts_v _ _) (lts_set rfl (lts_v _ _))
 have htour : ∀ (β : Nat → Nat) (w' : World) (hb : Below w.heap.size w w'), Calls Try.prog 21 #[x.v] w' fun e w2 => ∃ (p : LgT x 0 r0) (γ : Nat → Nat), e = .returned ((vR 1 x).c γ) ∧ (∀ i, i < 1 → γ i = β i) ∧ Below w'.heap.size w' w2 ∧
  (∀ i bk, lk (mL 1 0 r0 x p.1) i = some bk → w'.heap.size ≤ γ i ∧ bk.ok γ w2 (γ i)) ∧ (∀ i j bi bj, lk (mL 1 0 r0 x p.1) i = some bi → lk (mL 1 0 r0 x p.1) j = some bj → i ≠ j → γ i ≠ γ j) ∧
  ∀ w3, w2.heap.size ≤ w3.heap.size → (∀ c, w'.heap.size ≤ c → c < w2.heap.size → (∀ i bk, lk (mL 1 0 r0 x p.1) i = some bk → γ i ≠ c) → w3.heap[c]? = w2.heap[c]?) → RsB p.1.2.2 p.1.1 w3 := fun β w' hb =>
  (TourL_ok x _ r0 w' (hT.below hb) hB hr hr0 hT0 1 β).mono fun e w2 ⟨p, γ, g1, g2, o1, o2, o3, o4⟩ => ⟨p, γ, g1, o1, g2, o2, o3, o4⟩
 have hbest : ∀ (p : LgT x 0 r0) (β : Nat → Nat) (w' : World), (Blk.mix 2 x.T.length 9 [] ((xsA p.1.1).set ((1 + ((tn % (x.T.length - 1) : Nat) : Int)).toNat * 9 + 5) (.v (iv (imax 0 (t0.d.rent - by_))))) 57).ok β w' (β 1) → (Blk.mix 4 x.L.length 1 [] (ysL 5 0 r0.L.length p.1.1) 61).ok β w' (β 3) → (Blk.mix 6 r0.L.length 2 [] ((r0.L.flatMap prF).map SV.v) 60).ok β w' (β 5) → RsB p.1.2.2 p.1.1 w' →
  Calls Try.prog 20 #[.agg #[iv x.days, iv x.shift, iv x.size, .slice (some ⟨β 1, 0, none⟩) x.T.length (β 2), .slice (some ⟨β 3, 0, none⟩) x.L.length (β 4)]] w' fun e w2 => ∃ y : Option Addr × Nat, e = .returned (.tuple #[sV (bsS { x.d with T := x.d.T.set (tn % (x.T.length - 1) + 1) { t0.d with rent := (imax 0 (t0.d.rent - by_)) } }).length y, iv (hmO { x.d with T := x.d.T.set (tn % (x.T.length - 1) + 1) { t0.d with rent := (imax 0 (t0.d.rent - by_)) } } (ALO { x.d with T := x.d.T.set (tn % (x.T.length - 1) + 1) { t0.d with rent := (imax 0 (t0.d.rent - by_)) } }) 0 0 0), iv 0]) ∧ Below w'.heap.size w' w2 ∧ St w'.heap.size (fun _ => True) w2 := fun p β w' h1 h3 h5 hR => by
  refine bestL p (T' := p.1.1.T.set (tn % (x.T.length - 1) + 1) { (tk p) with d := { t0.d with rent := (imax 0 (t0.d.rent - by_)) } }) (row := r0.L) rfl rfl rfl ?_ rfl (cs_v β _) (by rw [List.length_set, hpT p]) (fun t ht => ?_) h1 h3 h5 hR (X := { x.d with T := x.d.T.set (tn % (x.T.length - 1) + 1) { t0.d with rent := (imax 0 (t0.d.rent - by_)) } }) ?_ hXB
  · rw [cs_set, xsA, cs_v, hkn]
    exact flat_set (sz := 9) (f := Tn.cs) (fun _ => rfl) _ _ 5 _ _ _ (htk p).1 (by decide) (by rw [← (htk p).2]; rfl)
  · rcases List.mem_or_eq_of_mem_set ht with ht | rfl
    · exact ⟨t, ht, rfl, rfl, rfl, rfl, rfl, rfl⟩
    · exact ⟨tk p, List.mem_of_getElem? (htk p).1, rfl, rfl, rfl, rfl, by rw [(htk p).2], by rw [(htk p).2]⟩
  · show To.mk x.days x.shift x.size (x.d.T.set _ _) x.d.L = To.mk x.days x.shift x.size _ _
    rw [List.map_set, show p.1.1.T.map Tn.d = x.d.T from congrArg To.T p.2.1, set_same (l := x.d.L) (v := r0.L) (by show (x.L.map Lr.L)[_]? = _; rw [List.getElem?_map, hr]; rfl)]
 rw [← ha] at hle
 generalize hmO { x.d with T := x.d.T.set (tn % (x.T.length - 1) + 1) { t0.d with rent := (imax 0 (t0.d.rent - by_)) } } (ALO { x.d with T := x.d.T.set (tn % (x.T.length - 1) + 1) { t0.d with rent := (imax 0 (t0.d.rent - by_)) } }) 0 0 0 = b at *
 generalize (bsS { x.d with T := x.d.T.set (tn % (x.T.length - 1) + 1) { t0.d with rent := (imax 0 (t0.d.rent - by_)) } }).length = sl at *
 refine VC.of env mixed ?_
 dsimp only [Tr.l]
 clear hXB hT hB
 have hnw := hnew
 repeat'
  conv => whnf
  first
   | refine zA ?_ | refine zB ?_ | refine zC ?_ | refine zD ?_ | refine zE ?_ | refine zF ?_ | refine zG ?_ | refine zH ?_ | refine zJ ?_ | refine zI ?_ | refine splT ?_ | refine splF ?_ | refine splNot ?_
   | ((first | refine splIn ?_ ?_ | refine splD ?_ ?_ | refine splE ?_ ?_ | refine splNE ?_ ?_) <;> intro hc <;> first | (exfalso; omega) | (exfalso; dsimp only at hc; omega) | skip)
   | ((with_reducible show CallEv _ _ 21 _ _ _ _ _); refine callFR [] 6 (vR 1 x) (fun p : LgT x 0 r0 => mL 1 0 r0 x p.1) (fun p w2 => RsB p.1.2.2 p.1.1 w2) hm1 rfl (fun β w' _ hbw => htour β w' hbw) ?_; intro p)
   | refine cvE5 (by omega) ?_
   | refine Exists.intro (α := Int) ((tn % (x.T.length - 1) : Nat) : Int) ⟨⟨by omega, hkm⟩, ?_⟩
   | refine Exists.intro (α := Int) 2 ⟨⟨by decide, hwm⟩, ?_⟩
   | refine cvE52 (by omega) ?_
   | refine Tx.ldN env (i := 1) (.v (iv t0.d.rent)) rfl rfl rfl rfl rfl (hs p) rfl ?_
   | refine Tx.stN env (i := 1) (.v (iv (imax 0 (t0.d.rent - by_)))) rfl rfl rfl rfl rfl rfl rfl (by rw [xsA_len, hpT p]; exact hat) rfl rfl (lts_v _ _) rfl ?_
   | ((with_reducible show CallEv _ _ 20 _ _ _ _ _); refine callF [1, 3, 5] (fun y : Option Addr × Nat => .tuple #[sV sl y, iv b, iv 0]) (fun _ _ => True) (fun β w' hbk hbw => hbest p β w' (hbk 1 (by simp) _ rfl) (hbk 3 (by simp) _ rfl) (hbk 5 (by simp) _ rfl) hbw.2) ?_; intro z)
   | ((with_reducible show CallEv _ _ 19 _ _ _ _ _); refine callE (k := 19) (fun β w' hbw => awake_ok w') ?_)
 all_goals first | (exfalso; omega) | exact ⟨fun β => rfl, fun w' h => (by repeat (first | exact h | replace h := h.1))⟩
set_option maxHeartbeats 8000000 in
set_option maxRecDepth 100000 in
theorem Rm3 (x : Tr) (tn fr to wh by_ : Nat) (t0 : Tn) (a : Int) (w : World) (hT : TrIn x w) (hB : TrB x) (hto : toB x.d = true) (hk : x.T[tn % (x.T.length - 1) + 1]? = some t0) (r0 : Lr) (hr : x.L[(fr % x.T.length)]? = some r0) (q0 : Int × Int) (hq : r0.L[to % x.T.length]? = some q0) (h1 : tn ≤ 255) (h2 : fr ≤ 255) (h3 : to ≤ 255) (h4 : wh % 5 = 3) (h40 : wh ≤ 255) (h5 : by_ ≤ 65535) (ha : a = hmO x.d (ALO x.d) 0 0 0) :
 VC Try.prog (rest 3 body5) ⟨177, [(1, .v (.int .u8 tn)), (2, .v (.int .u8 fr)), (3, .v (.int .u8 to)), (4, .v (.int .u8 wh)), (5, .v (.int .u16 by_)), (6, .ptr 0 0), (14, .v (iv a)), (15, .v (iv 0))], [(0, .cells x.l 25)], 1, fun w2 => Below w.heap.size w w2, z0⟩ (endΦ env Try.f5 fun s σ => (∀ β, s.c β = .bool true) ∧ ∀ w', σ.h w' → Below w.heap.size w w') := by
 have hN := toB_n hto
 have hn9 := hN.n
 have hnl := hN.l
 rw [show x.d.T.length = x.T.length from List.length_map ..] at hn9
 rw [show x.d.T.length = x.T.length from List.length_map .., show x.d.L.length = x.L.length from List.length_map ..] at hnl
 have hL0 : x.L ≠ [] := fun e => by rw [e] at hnl; simp at hnl; omega
 have hT0 : x.T ≠ [] := fun e => by rw [e] at hn9; simp at hn9
 have hkl := (List.getElem?_eq_some_iff.1 hk).1
 have hkd : x.d.T[tn % (x.T.length - 1) + 1]? = some t0.d := by show (x.T.map Tn.d)[_]? = _; rw [List.getElem?_map, hk]; rfl
 have hw0 := TwN.of (toB_at hto (by omega) hkd)
 have hkm : (tn : Int).tmod ((x.T.length : Int) - 1) = ((tn % (x.T.length - 1) : Nat) : Int) := by
  rw [show (x.T.length : Int) - 1 = ((x.T.length - 1 : Nat) : Int) from by omega]
  rfl
 have hwm : (wh : Int).tmod 5 = 3 := by
  rw [show (wh : Int).tmod 5 = ((wh % 5 : Nat) : Int) from rfl, h4]; rfl
 have hkn : (1 + ((tn % (x.T.length - 1) : Nat) : Int)).toNat = tn % (x.T.length - 1) + 1 := by omega
 have hpT : ∀ p : LgT x (fr % x.T.length) r0, p.1.1.T.length = x.T.length := fun p => by have := congrArg (fun d => d.T.length) p.2.1; simpa using this
 have hpL : ∀ p : LgT x (fr % x.T.length) r0, p.1.1.L.length = x.L.length := fun p => by have := congrArg (fun d => d.L.length) p.2.1; simpa using this
 have htkx : ∀ p : LgT x (fr % x.T.length) r0, ∃ t, p.1.1.T[tn % (x.T.length - 1) + 1]? = some t ∧ t.d = t0.d := fun p => by
  obtain ⟨t, ht⟩ : ∃ t, p.1.1.T[tn % (x.T.length - 1) + 1]? = some t := ⟨_, List.getElem?_eq_getElem (by rw [hpT p]; exact hkl)⟩
  refine ⟨t, ht, ?_⟩
  have := congrArg (fun d => d.T[tn % (x.T.length - 1) + 1]?) p.2.1
  simp only [Tr.d, List.getElem?_map, ht, hk, Option.map_some, Option.some.injEq] at this
  exact this
 obtain ⟨tk, htk⟩ : ∃ tk : LgT x (fr % x.T.length) r0 → Tn, ∀ p, p.1.1.T[tn % (x.T.length - 1) + 1]? = some (tk p) ∧ (tk p).d = t0.d := ⟨fun p => Classical.choose (htkx p), fun p => Classical.choose_spec (htkx p)⟩
 have hr0 : r0.L ≠ [] := fun e => by
  have h1 := (hN.lr r0.L (List.mem_of_getElem? (i := (fr % x.T.length)) (by show (x.L.map Lr.L)[_]? = _; rw [List.getElem?_map, hr]; rfl))).1
  rw [e, show x.d.T.length = x.T.length from List.length_map ..] at h1
  simp at h1; omega
 have hqb := hN.lr r0.L (List.mem_of_getElem? (i := (fr % x.T.length)) (by show (x.L.map Lr.L)[_]? = _; rw [List.getElem?_map, hr]; rfl))
 have hqb2 := hqb.2 q0 (List.mem_of_getElem? hq)
 have hnew : 0 ≤ (imax 0 (q0.2 - by_)) ∧ (imax 0 (q0.2 - by_)) ≤ q0.2 := by rw [imax_eq]; omega
 obtain ⟨hXB, hle⟩ := room_leg hto (f := (fr % x.T.length)) (row := r0.L) (by show (x.L.map Lr.L)[_]? = _; rw [List.getElem?_map, hr]; rfl) hq hnew
 have hgl : to % x.T.length < r0.L.length := (List.getElem?_eq_some_iff.1 hq).1
 have hfl : (fr % x.T.length) < x.L.length := (List.getElem?_eq_some_iff.1 hr).1
 have hs : ∀ p : LgT x (fr % x.T.length) r0, (ysL 5 (fr % x.T.length) r0.L.length p.1.1)[((fr % x.T.length : Nat) : Int).toNat * 1 + 0]? = some (SV.os 5 6 r0.L.length) := fun p => by
  rw [Int.toNat_natCast, ysL, List.getElem?_set_self (by rw [List.length_map, flat_len (sz := 1) (fun _ => rfl), hpL p]; omega)]
 have hs2 : ((r0.L.flatMap prF).map SV.v)[((to % x.T.length : Nat) : Int).toNat * 2 + 1]? = some (SV.v (iv q0.2)) := by
  rw [Int.toNat_natCast]
  exact prF_at hq 1 _ rfl
 have hat : ((to % x.T.length : Nat) : Int).toNat * 2 + 1 < (((r0.L.flatMap prF).map SV.v)).length := by rw [prF_len, Int.toNat_natCast]; omega
 have hm1 : ∀ (p : LgT x (fr % x.T.length) r0) (i : Nat) (bk : Blk), lk (mL 1 (fr % x.T.length) r0 x p.1) i = some bk → 1 ≤ i ∧ i < 1 + 6 ∧ bk.lt (1 + 6) = true ∧ bk.live = true := fun p => hm3 (lts_v _ _) (lts_set rfl (lts_v _ _))
 have htour : ∀ (β : Nat → Nat) (w' : World) (hb : Below w.heap.size w w'), Calls Try.prog 21 #[x.v] w' fun e w2 => ∃ (p : LgT x (fr % x.T.length) r0) (γ : Nat → Nat), e = .returned ((vR 1 x).c γ) ∧ (∀ i, i < 1 → γ i = β i) ∧ Below w'.heap.size w' w2 ∧
  (∀ i bk, lk (mL 1 (fr % x.T.length) r0 x p.1) i = some bk → w'.heap.size ≤ γ i ∧ bk.ok γ w2 (γ i)) ∧ (∀ i j bi bj, lk (mL 1 (fr % x.T.length) r0 x p.1) i = some bi → lk (mL 1 (fr % x.T.length) r0 x p.1) j = some bj → i ≠ j → γ i ≠ γ j) ∧
  ∀ w3, w2.heap.size ≤ w3.heap.size → (∀ c, w'.heap.size ≤ c → c < w2.heap.size → (∀ i bk, lk (mL 1 (fr % x.T.length) r0 x p.1) i = some bk → γ i ≠ c) → w3.heap[c]? = w2.heap[c]?) → RsB p.1.2.2 p.1.1 w3 := fun β w' hb =>
  (TourL_ok x _ r0 w' (hT.below hb) hB hr hr0 hT0 1 β).mono fun e w2 ⟨p, γ, g1, g2, o1, o2, o3, o4⟩ => ⟨p, γ, g1, o1, g2, o2, o3, o4⟩
 have hbest : ∀ (p : LgT x (fr % x.T.length) r0) (β : Nat → Nat) (w' : World), (Blk.mix 2 x.T.length 9 [] (xsA p.1.1) 57).ok β w' (β 1) → (Blk.mix 4 x.L.length 1 [] (ysL 5 (fr % x.T.length) r0.L.length p.1.1) 61).ok β w' (β 3) → (Blk.mix 6 r0.L.length 2 [] (((r0.L.flatMap prF).map SV.v).set (((to % x.T.length : Nat) : Int).toNat * 2 + 1) (.v (iv (imax 0 (q0.2 - by_))))) 60).ok β w' (β 5) → RsB p.1.2.2 p.1.1 w' →
  Calls Try.prog 20 #[.agg #[iv x.days, iv x.shift, iv x.size, .slice (some ⟨β 1, 0, none⟩) x.T.length (β 2), .slice (some ⟨β 3, 0, none⟩) x.L.length (β 4)]] w' fun e w2 => ∃ y : Option Addr × Nat, e = .returned (.tuple #[sV (bsS { x.d with L := x.d.L.set (fr % x.T.length) (r0.L.set (to % x.T.length) (q0.1, (imax 0 (q0.2 - by_)))) }).length y, iv (hmO { x.d with L := x.d.L.set (fr % x.T.length) (r0.L.set (to % x.T.length) (q0.1, (imax 0 (q0.2 - by_)))) } (ALO { x.d with L := x.d.L.set (fr % x.T.length) (r0.L.set (to % x.T.length) (q0.1, (imax 0 (q0.2 - by_)))) }) 0 0 0), iv 0]) ∧ Below w'.heap.size w' w2 ∧ St w'.heap.size (fun _ => True) w2 := fun p β w' h1 h3 h5 hR => by
  refine bestL p (T' := p.1.1.T) (row := r0.L.set (to % x.T.length) (q0.1, (imax 0 (q0.2 - by_)))) rfl rfl (by rw [List.length_set]) (cs_v β _) rfl ?_ (hpT p) (fun t ht => ⟨t, ht, rfl, rfl, rfl, rfl, rfl, rfl⟩) h1 h3 h5 hR (X := { x.d with L := x.d.L.set (fr % x.T.length) (r0.L.set (to % x.T.length) (q0.1, (imax 0 (q0.2 - by_)))) }) ?_ hXB
  · rw [cs_set, cs_v, Int.toNat_natCast]
    exact flat_set (sz := 2) (f := prF) (fun _ => rfl) _ _ 1 q0 (q0.1, (imax 0 (q0.2 - by_))) (iv (imax 0 (q0.2 - by_))) hq (by decide) rfl
  · show To.mk x.days x.shift x.size x.d.T _ = To.mk x.days x.shift x.size _ _
    rw [show p.1.1.T.map Tn.d = x.d.T from congrArg To.T p.2.1]
 rw [← ha] at hle
 generalize hmO { x.d with L := x.d.L.set (fr % x.T.length) (r0.L.set (to % x.T.length) (q0.1, (imax 0 (q0.2 - by_)))) } (ALO { x.d with L := x.d.L.set (fr % x.T.length) (r0.L.set (to % x.T.length) (q0.1, (imax 0 (q0.2 - by_)))) }) 0 0 0 = b at *
 generalize (bsS { x.d with L := x.d.L.set (fr % x.T.length) (r0.L.set (to % x.T.length) (q0.1, (imax 0 (q0.2 - by_)))) }).length = sl at *
 refine VC.of env mixed ?_
 dsimp only [Tr.l]
 clear hXB hT hB
 have hnw := hnew
 repeat'
  conv => whnf
  first
   | refine zA ?_ | refine zB ?_ | refine zC ?_ | refine zD ?_ | refine zE ?_ | refine zF ?_ | refine zG ?_ | refine zH ?_ | refine zJ ?_ | refine zI ?_ | refine splT ?_ | refine splF ?_ | refine splNot ?_
   | ((first | refine splIn ?_ ?_ | refine splD ?_ ?_ | refine splE ?_ ?_ | refine splNE ?_ ?_) <;> intro hc <;> first | (exfalso; omega) | (exfalso; dsimp only at hc; omega) | skip)
   | ((with_reducible show CallEv _ _ 21 _ _ _ _ _); refine callFR [] 6 (vR 1 x) (fun p : LgT x (fr % x.T.length) r0 => mL 1 (fr % x.T.length) r0 x p.1) (fun p w2 => RsB p.1.2.2 p.1.1 w2) hm1 rfl (fun β w' _ hbw => htour β w' hbw) ?_; intro p)
   | refine cvE5 (by omega) ?_
   | refine Exists.intro (α := Int) ((tn % (x.T.length - 1) : Nat) : Int) ⟨⟨by omega, hkm⟩, ?_⟩
   | refine Exists.intro (α := Int) 3 ⟨⟨by decide, hwm⟩, ?_⟩
   | refine cvE52 (by omega) ?_
   | refine Exists.intro (α := Int) ((fr % x.T.length : Nat) : Int) ⟨⟨by omega, rfl⟩, ?_⟩
   | refine Exists.intro (α := Int) ((to % x.T.length : Nat) : Int) ⟨⟨by omega, rfl⟩, ?_⟩
   | refine nlC rfl rfl ?_
   | refine Tx.ldN env (i := 3) (.os 5 6 r0.L.length) rfl rfl rfl rfl rfl (hs p) rfl ?_
   | refine Tx.ldN env (i := 5) (.v (iv q0.2)) rfl rfl rfl rfl rfl hs2 rfl ?_
   | refine Tx.stN env (i := 5) (.v (iv (imax 0 (q0.2 - by_)))) rfl rfl rfl rfl rfl rfl rfl hat rfl rfl (lts_v _ _) rfl ?_
   | ((with_reducible show CallEv _ _ 20 _ _ _ _ _); refine callF [1, 3, 5] (fun y : Option Addr × Nat => .tuple #[sV sl y, iv b, iv 0]) (fun _ _ => True) (fun β w' hbk hbw => hbest p β w' (hbk 1 (by simp) _ rfl) (hbk 3 (by simp) _ rfl) (hbk 5 (by simp) _ rfl) hbw.2) ?_; intro z)
   | ((with_reducible show CallEv _ _ 19 _ _ _ _ _); refine callE (k := 19) (fun β w' hbw => awake_ok w') ?_)
 all_goals first | (exfalso; omega) | exact ⟨fun β => rfl, fun w' h => (by repeat (first | exact h | replace h := h.1))⟩
set_option maxHeartbeats 8000000 in
set_option maxRecDepth 100000 in
theorem Rm4 (x : Tr) (tn fr to wh by_ : Nat) (t0 : Tn) (a : Int) (w : World) (hT : TrIn x w) (hB : TrB x) (hto : toB x.d = true) (hk : x.T[tn % (x.T.length - 1) + 1]? = some t0) (h1 : tn ≤ 255) (h2 : fr ≤ 255) (h3 : to ≤ 255) (h4 : wh % 5 = 4) (h40 : wh ≤ 255) (h5 : by_ ≤ 65535) (ha : a = hmO x.d (ALO x.d) 0 0 0) :
 VC Try.prog (rest 3 body5) ⟨177, [(1, .v (.int .u8 tn)), (2, .v (.int .u8 fr)), (3, .v (.int .u8 to)), (4, .v (.int .u8 wh)), (5, .v (.int .u16 by_)), (6, .ptr 0 0), (14, .v (iv a)), (15, .v (iv 0))], [(0, .cells x.l 25)], 1, fun w2 => Below w.heap.size w w2, z0⟩ (endΦ env Try.f5 fun s σ => (∀ β, s.c β = .bool true) ∧ ∀ w', σ.h w' → Below w.heap.size w w') := by
 have hN := toB_n hto
 have hn9 := hN.n
 rw [show x.d.T.length = x.T.length from List.length_map ..] at hn9
 have hkl := (List.getElem?_eq_some_iff.1 hk).1
 have hkm : (tn : Int).tmod ((x.T.length : Int) - 1) = ((tn % (x.T.length - 1) : Nat) : Int) := by
  rw [show (x.T.length : Int) - 1 = ((x.T.length - 1 : Nat) : Int) from by omega]
  rfl
 have hwm : (wh : Int).tmod 5 = 4 := by
  rw [show (wh : Int).tmod 5 = ((wh % 5 : Nat) : Int) from rfl, h4]; rfl
 have hz : 0 ≤ x.size ∧ x.size ≤ 100000 := hN.z
 have hnew : 0 ≤ (imax 0 (x.size - by_)) ∧ (imax 0 (x.size - by_)) ≤ x.size := by rw [imax_eq]; omega
 obtain ⟨hXB, hle⟩ := room_size hto hnew
 have hys : ∀ y : {y : Tr // y.d = x.d}, y.1.size = x.size := fun y => congrArg To.size y.2
 have h21 : ∀ (w' : World), Below w.heap.size w w' → Calls Try.prog 21 #[x.v] w' fun e w2 => ∃ y : {y : Tr // y.d = x.d}, e = .returned (.agg #[iv y.1.days, iv y.1.shift, iv x.size, .slice y.1.to y.1.T.length y.1.tc, .slice y.1.lo y.1.L.length y.1.lc]) ∧ Below w'.heap.size w' w2 ∧ St w'.heap.size (TrIn y.1) w2 := fun w' hb =>
  (Tour_ok x w' (hT.below hb) hB).mono fun e w2 ⟨y, g1, g2, g3⟩ => ⟨⟨y, g3.now.2⟩, by rw [g1, ← hys ⟨y, g3.now.2⟩], g2, g3.imp fun _ q => q.1⟩
 have hbest : ∀ (y : {y : Tr // y.d = x.d}) (w' : World), TrIn y.1 w' → Calls Try.prog 20 #[.agg #[iv y.1.days, iv y.1.shift, iv (imax 0 (x.size - by_)), .slice y.1.to y.1.T.length y.1.tc, .slice y.1.lo y.1.L.length y.1.lc]] w' fun e w2 => ∃ z : Option Addr × Nat, e = .returned (.tuple #[sV (bsS { x.d with size := (imax 0 (x.size - by_)) }).length z, iv (hmO { x.d with size := (imax 0 (x.size - by_)) } (ALO { x.d with size := (imax 0 (x.size - by_)) }) 0 0 0), iv 0]) ∧ Below w'.heap.size w' w2 ∧ St w'.heap.size (fun _ => True) w2 := fun y w' h => by
  have hb := Best_ok ⟨y.1.days, y.1.shift, (imax 0 (x.size - by_)), y.1.to, y.1.tc, y.1.T, y.1.lo, y.1.lc, y.1.L⟩ w' ⟨h.t, h.ti, h.l, h.li, h.tl, h.ll, h.lr, h.tcap⟩
  have e : Tr.d ⟨y.1.days, y.1.shift, (imax 0 (x.size - by_)), y.1.to, y.1.tc, y.1.T, y.1.lo, y.1.lc, y.1.L⟩ = { x.d with size := (imax 0 (x.size - by_)) } := by
   have h1 := congrArg To.days y.2
   have h2 := congrArg To.shift y.2
   have h3 := congrArg To.T y.2
   have h4 := congrArg To.L y.2
   show To.mk y.1.days y.1.shift _ (y.1.T.map Tn.d) (y.1.L.map Lr.L) = To.mk x.d.days x.d.shift _ x.d.T x.d.L
   rw [← h1, ← h2, ← h3, ← h4]
  rw [e] at hb
  unfold bsV at hb
  rw [if_pos hXB] at hb
  exact hb.mono fun e w2 ⟨y, g1, g2, g3⟩ => ⟨y, g1, g2, fun _ _ => trivial⟩
 rw [← ha] at hle
 generalize hmO { x.d with size := (imax 0 (x.size - by_)) } (ALO { x.d with size := (imax 0 (x.size - by_)) }) 0 0 0 = b at *
 generalize (bsS { x.d with size := (imax 0 (x.size - by_)) }).length = sl at *
 refine VC.of env mixed ?_
 dsimp only [Tr.l]
 clear hXB hT hB
 repeat'
  conv => whnf
  first
   | refine zA ?_ | refine zB ?_ | refine zC ?_ | refine zD ?_ | refine zE ?_ | refine zF ?_ | refine zG ?_ | refine zH ?_ | refine zJ ?_ | refine zI ?_ | refine splT ?_ | refine splF ?_ | refine splNot ?_
   | ((first | refine splIn ?_ ?_ | refine splD ?_ ?_ | refine splE ?_ ?_ | refine splNE ?_ ?_) <;> intro hc <;> first | (exfalso; omega) | (exfalso; dsimp only at hc; omega) | skip)
   | ((with_reducible show CallEv _ _ 21 _ _ _ _ _); refine callF [] (fun y : {y : Tr // y.d = x.d} => .agg #[iv y.1.days, iv y.1.shift, iv x.size, .slice y.1.to y.1.T.length y.1.tc, .slice y.1.lo y.1.L.length y.1.lc]) (fun y w2 => TrIn y.1 w2) (fun β w' _ hbw => h21 w' hbw) ?_; intro y)
   | refine cvE5 (by omega) ?_
   | refine cvE52 (by omega) ?_
   | refine Exists.intro (α := Int) ((tn % (x.T.length - 1) : Nat) : Int) ⟨⟨by omega, hkm⟩, ?_⟩
   | refine Exists.intro (α := Int) 4 ⟨⟨by decide, hwm⟩, ?_⟩
   | ((with_reducible show CallEv _ _ 20 _ _ _ _ _); refine callF [] (fun z : Option Addr × Nat => .tuple #[sV sl z, iv b, iv 0]) (fun _ _ => True) (fun β w' hbk hbw => hbest y w' hbw.2) ?_; intro z)
   | ((with_reducible show CallEv _ _ 19 _ _ _ _ _); refine callE (k := 19) (fun β w' hbw => awake_ok w') ?_)
 all_goals first | (exfalso; omega) | exact ⟨fun β => rfl, fun w' h => (by repeat (first | exact h | replace h := h.1))⟩
set_option maxHeartbeats 8000000 in
set_option maxRecDepth 100000 in
theorem RouteRoom_ok (x : Tr) (tn fr to wh by_ : Nat) (w : World) (h : TrI0 x w) (h1 : tn ≤ 255) (h2 : fr ≤ 255) (h3 : to ≤ 255) (h4 : wh ≤ 255) (h5 : by_ ≤ 65535) :
 Calls Try.prog 5 #[x.v, .int .u8 tn, .int .u8 fr, .int .u8 to, .int .u8 wh, .int .u16 by_] w fun e w' => e = .returned (.bool true) ∧ Below w.heap.size w w' := by
 have h22 := fun w' hb => Right_ok x w' (h.below hb)
 by_cases hg : toB x.d = true ∧ x.T.length ≤ 6
 · obtain ⟨hto, h6⟩ := hg
   rw [hto] at h22
   have hB := toB_b hto
   have hI := h.b hB
   have hN := toB_n hto
   have hn9 := hN.n
   have hnl := hN.l
   rw [show x.d.T.length = x.T.length from List.length_map ..] at hn9
   rw [show x.d.T.length = x.T.length from List.length_map .., show x.d.L.length = x.L.length from List.length_map ..] at hnl
   have hkl : tn % (x.T.length - 1) + 1 < x.T.length := by have := Nat.mod_lt tn (show 0 < x.T.length - 1 by omega); omega
   obtain ⟨t0, hk⟩ : ∃ t, x.T[tn % (x.T.length - 1) + 1]? = some t := ⟨_, List.getElem?_eq_getElem hkl⟩
   have hkd : x.d.T[tn % (x.T.length - 1) + 1]? = some t0.d := by show (x.T.map Tn.d)[_]? = _; rw [List.getElem?_map, hk]; rfl
   have h20 : ∀ y w', TrIn y w' ∧ y.d = x.d → Calls Try.prog 20 #[y.v] w' fun e w2 => ∃ z : Option Addr × Nat, e = .returned (.tuple #[sV (bsS x.d).length z, iv (hmO x.d (ALO x.d) 0 0 0), iv 0]) ∧ Below w'.heap.size w' w2 ∧ St w'.heap.size (fun _ => True) w2 := fun y w' hy => by
    have hb := Best_ok y w' hy.1
    rw [hy.2] at hb
    unfold bsV at hb
    rw [if_pos hto] at hb
    exact hb.mono fun e w2 ⟨y, g1, g2, g3⟩ => ⟨y, g1, g2, fun _ _ => trivial⟩
   have h21 := fun w' hb => Tour_ok x w' (hI.below hb) hB
   have hr0 : ∀ r0 : Lr, ∀ i : Nat, x.L[i]? = some r0 → r0.L.length = x.T.length := fun r0 i hi => by
    have := (hN.lr r0.L (List.mem_of_getElem? (i := i) (by show (x.L.map Lr.L)[i]? = _; rw [List.getElem?_map, hi]; rfl))).1
    rw [this]; exact List.length_map ..
   have hcut : ∀ _ : Unit, True → VC Try.prog (rest 3 body5) ⟨177, [(1, .v (.int .u8 tn)), (2, .v (.int .u8 fr)), (3, .v (.int .u8 to)), (4, .v (.int .u8 wh)), (5, .v (.int .u16 by_)), (6, .ptr 0 0), (14, .v (iv (hmO x.d (ALO x.d) 0 0 0))), (15, .v (iv 0))], [(0, .cells x.l 25)], 1, fun w2 => Below w.heap.size w w2, z0⟩ (endΦ env Try.f5 fun s σ => (∀ β, s.c β = .bool true) ∧ ∀ w', σ.h w' → Below w.heap.size w w') := fun _ _ => by
    have h5c : wh % 5 = 0 ∨ wh % 5 = 1 ∨ wh % 5 = 2 ∨ wh % 5 = 3 ∨ wh % 5 = 4 := by omega
    rcases h5c with hc | hc | hc | hc | hc
    · have hO := TwN.of (toB_at hto (by omega) hkd)
      have h1o : 1 ≤ t0.d.O.length := by
       have h1 := toB_at hto (by omega) hkd
       simp only [twB, inB, Bool.and_eq_true, decide_eq_true_eq] at h1
       omega
      obtain ⟨q0, hq⟩ : ∃ q, t0.d.O[t0.d.O.length - 1]? = some q := ⟨_, List.getElem?_eq_getElem (by omega)⟩
      exact Rm0 x tn fr to wh by_ t0 _ w hI hB hto hk q0 hq h1 h2 h3 hc h4 h5 rfl
    · obtain ⟨r0, hr⟩ : ∃ r, x.L[0]? = some r := ⟨_, List.getElem?_eq_getElem (by omega)⟩
      exact Rm1 x tn fr to wh by_ t0 _ w hI hB hto hk r0 hr h1 h2 h3 hc h4 h5 rfl
    · obtain ⟨r0, hr⟩ : ∃ r, x.L[0]? = some r := ⟨_, List.getElem?_eq_getElem (by omega)⟩
      exact Rm2 x tn fr to wh by_ t0 _ w hI hB hto hk r0 hr h1 h2 h3 hc h4 h5 rfl
    · obtain ⟨r0, hr⟩ : ∃ r, x.L[fr % x.T.length]? = some r := ⟨_, List.getElem?_eq_getElem (by have := Nat.mod_lt fr (show 0 < x.T.length by omega); omega)⟩
      obtain ⟨q0, hq⟩ : ∃ q, r0.L[to % x.T.length]? = some q := ⟨_, List.getElem?_eq_getElem (by rw [hr0 r0 _ hr]; exact Nat.mod_lt to (by omega))⟩
      exact Rm3 x tn fr to wh by_ t0 _ w hI hB hto hk r0 hr q0 hq h1 h2 h3 hc h4 h5 rfl
    · exact Rm4 x tn fr to wh by_ t0 _ w hI hB hto hk h1 h2 h3 hc h4 h5 rfl
   refine calls_valV env mixed Try.func5 has5 Try.ntmps5 [.agg #[iv x.days, iv x.shift, iv x.size, .slice x.to x.T.length x.tc, .slice x.lo x.L.length x.lc], .int .u8 tn, .int .u8 fr, .int .u8 to, .int .u8 wh, .int .u16 by_] (by simp) ?_
   refine VC.cutE env mixed 3 1 (fun _ : Unit => [(1, .v (.int .u8 tn)), (2, .v (.int .u8 fr)), (3, .v (.int .u8 to)), (4, .v (.int .u8 wh)), (5, .v (.int .u16 by_)), (6, .ptr 0 0), (14, .v (iv (hmO x.d (ALO x.d) 0 0 0))), (15, .v (iv 0))]) (fun _ => [(0, .cells x.l 25)]) (fun _ => True) (fun _ _ => ⟨rfl, rfl⟩) ?_ hcut
   clear hcut h hI hB hN hkd hr0
   dsimp only [Tr.l]
   generalize hmO x.d (ALO x.d) 0 0 0 = a at *
   generalize (bsS x.d).length = sl at *
   repeat'
    conv => whnf
    first
     | refine zA ?_ | refine zB ?_ | refine zC ?_ | refine zD ?_ | refine zE ?_ | refine zF ?_ | refine zG ?_ | refine zH ?_ | refine zJ ?_ | refine zI ?_ | refine splT ?_ | refine splF ?_ | refine splNot ?_
     | ((first | refine splIn ?_ ?_ | refine splD ?_ ?_ | refine splE ?_ ?_ | refine splNE ?_ ?_) <;> intro hc <;> first | (exfalso; omega) | (exfalso; dsimp only at hc; omega) | skip)
     | ((with_reducible show CallEv _ _ 22 _ _ _ _ _); refine callE (k := 22) (fun β w' hbw => h22 w' (by repeat (first | exact hbw | replace hbw := hbw.1))) ?_)
     | ((with_reducible show CallEv _ _ 19 _ _ _ _ _); refine callE (k := 19) (fun β w' hbw => awake_ok w') ?_)
     | ((with_reducible show CallEv _ _ 21 _ _ _ _ _); refine callF [] (fun y : Tr => y.v) (fun y w2 => TrIn y w2 ∧ y.d = x.d) (fun β w' _ hbw => h21 w' (by repeat (first | exact hbw | replace hbw := hbw.1))) ?_; intro y)
     | ((with_reducible show CallEv _ _ 20 _ _ _ _ _); refine callF [] (fun z : Option Addr × Nat => .tuple #[sV sl z, iv a, iv 0]) (fun _ _ => True) (fun β w' hbk hbw => h20 y w' hbw.2) ?_; intro z)
   all_goals first | (exfalso; omega) | exact ⟨rfl, (), trivial, Ent.weak rfl ⟨rfl, rfl, rfl, rfl, rfl, rfl, rfl, rfl, trivial⟩ ⟨rfl, trivial⟩ fun w2 h => (by repeat (first | exact h | replace h := h.1))⟩ | exact ⟨fun β => rfl, fun w' h => (by repeat (first | exact h | replace h := h.1))⟩
 · obtain ⟨tb, htb⟩ : ∃ b, toB x.d = b := ⟨_, rfl⟩
   rw [htb] at h22 hg
   clear h htb
   refine calls_val env mixed Try.func5 has5 Try.ntmps5 [.agg #[iv x.days, iv x.shift, iv x.size, .slice x.to x.T.length x.tc, .slice x.lo x.L.length x.lc], .int .u8 tn, .int .u8 fr, .int .u8 to, .int .u8 wh, .int .u16 by_] (by simp) ?_
   cases tb
   all_goals
    simp only [Bool.false_eq_true, false_and, true_and, not_false_iff] at hg
    repeat'
     conv => whnf
     first
      | refine zA ?_ | refine zB ?_ | refine zC ?_ | refine zD ?_ | refine zE ?_ | refine zF ?_ | refine zG ?_ | refine zH ?_ | refine zJ ?_ | refine zI ?_ | refine splT ?_ | refine splF ?_ | refine splNot ?_
      | ((first | refine splIn ?_ ?_ | refine splD ?_ ?_ | refine splE ?_ ?_ | refine splNE ?_ ?_) <;> intro hc <;> first | (exfalso; omega) | (exfalso; dsimp only at hc; omega) | skip)
      | ((with_reducible show CallEv _ _ 22 _ _ _ _ _); refine callE (k := 22) (fun β w' hbw => h22 w' (by repeat (first | exact hbw | replace hbw := hbw.1))) ?_)
      | ((with_reducible show CallEv _ _ 19 _ _ _ _ _); refine callE (k := 19) (fun β w' hbw => awake_ok w') ?_)
    all_goals first | (exfalso; omega) | exact ⟨fun β => rfl, fun w' h => (by repeat (first | exact h | replace h := h.1))⟩
end Go.Proofs.Ythfabodamhdhaaa
namespace Go.Proofs.Ythfabodamhdhaaa
open Go Tx Go.RowKit
set_option linter.unusedSimpArgs false
set_option linter.unusedVariables false
abbrev I64 (n : Int) : Prop := -9223372036854775808 ≤ n ∧ n ≤ 9223372036854775807
def shI : Shp := .int .i64
def shRg : Shp := .agg [shI, shI]
def shTw : Shp := .agg [.sl 2 shRg, shRg, shI, shI, shI, .sl 2 shRg, shI, shI]
def shTo : Shp := .agg [shI, shI, shI, .sl 9 shTw, .sl 1 (.sl 2 shRg)]
theorem op_slc {α : Type} {w : World} {sz : Nat} {e : Shp} {f : α → List Value} {Q : α → Prop} (he : ∀ es, e.rd w es → ∃ x, es = f x ∧ Q x) {cs : List Value} (h : (Shp.sl sz e).rd w cs) :
 ∃ (o : Option Addr) (c : Nat) (xs : List α), cs = [.slice o xs.length c] ∧ Rd sz f (.slice o xs.length c) xs w ∧ xs.length ≤ 9223372036854775807 ∧ xs.length ≤ c ∧ ∀ x ∈ xs, Q x := by
 unfold Shp.rd at h
 rcases h with rfl | ⟨a, n, c, rfl, h1, h2, h3⟩
 · exact ⟨none, 0, [], rfl, .inl ⟨rfl, rfl⟩, by simp, by simp, fun x hx => by simp at hx⟩
 · obtain ⟨xs, hl, hb⟩ := list_of (Q := fun i (x : α) => (∀ j v, (f x)[j]? = some v → w.cell? ((a.add (i * sz)).add j) = some v) ∧ Q x) n fun i hi => by
    obtain ⟨es, _, e2, e3⟩ := h3 i hi
    obtain ⟨x, rfl, hx⟩ := he es e3
    exact ⟨x, e2, hx⟩
   subst hl
   exact ⟨some a, c, xs, rfl, .inr ⟨a, c, rfl, fun k b hk => (hb k b hk).1⟩, by unfold maxLen at h2; omega, h1, fun x hx => by
    obtain ⟨k, hk⟩ := List.mem_iff_getElem?.1 hx
    exact (hb k x hk).2⟩
theorem op_i {w : World} {es : List Value} (h : shI.rd w es) : ∃ n : Int, es = [iv n] ∧ I64 n := by
 simp only [shI, Shp.rd] at h
 obtain ⟨n, rfl, g⟩ := h
 exact ⟨n, rfl, wf64 g⟩
theorem op_rg {w : World} {es : List Value} (h : shRg.rd w es) : ∃ r : Int × Int, es = prF r ∧ I64 r.1 ∧ I64 r.2 := by
 simp only [shRg, Shp.rd.eq_3, Shp.rds] at h
 obtain ⟨_, _, rfl, h1, _, _, rfl, h2, rfl⟩ := h
 obtain ⟨a, rfl, ha⟩ := op_i h1
 obtain ⟨b, rfl, hb⟩ := op_i h2
 exact ⟨(a, b), rfl, ha, hb⟩
theorem op_rgs {w : World} {cs : List Value} (h : (Shp.sl 2 shRg).rd w cs) : ∃ (o : Option Addr) (c : Nat) (xs : List (Int × Int)), cs = [.slice o xs.length c] ∧ Rd 2 prF (.slice o xs.length c) xs w ∧ xs.length ≤ 9223372036854775807 := by
 obtain ⟨o, c, xs, h1, h2, h3, _, _⟩ := op_slc (f := prF) (Q := fun r => I64 r.1 ∧ I64 r.2) (fun es h => op_rg h) h
 exact ⟨o, c, xs, h1, h2, h3⟩
theorem op_tw {w : World} {es : List Value} (h : shTw.rd w es) : ∃ t : Tn, es = Tn.cs t ∧ TnI0 t w := by
 simp only [shTw, Shp.rd.eq_3, Shp.rds] at h
 obtain ⟨_, _, rfl, h1, _, _, rfl, h2, _, _, rfl, h3, _, _, rfl, h4, _, _, rfl, h5, _, _, rfl, h6, _, _, rfl, h7, _, _, rfl, h8, rfl⟩ := h
 obtain ⟨oo, oc, O, rfl, a1, a2⟩ := op_rgs h1
 obtain ⟨⟨s1, s2⟩, rfl, _⟩ := op_rg h2
 obtain ⟨pay, rfl, _⟩ := op_i h3
 obtain ⟨lot, rfl, _⟩ := op_i h4
 obtain ⟨rent, rfl, _⟩ := op_i h5
 obtain ⟨ro, rc, R, rfl, b1, b2⟩ := op_rgs h6
 obtain ⟨cold, rfl, _⟩ := op_i h7
 obtain ⟨cut, rfl, _⟩ := op_i h8
 exact ⟨⟨oo, oc, ro, rc, ⟨O, s1, s2, pay, lot, rent, R, cold, cut⟩⟩, rfl, a1, b1, a2, b2⟩
theorem op_lr {w : World} {es : List Value} (h : (Shp.sl 2 shRg).rd w es) : ∃ r : Lr, es = Lr.cs r ∧ Rd 2 prF (.slice r.o r.L.length r.c) r.L w ∧ r.L.length ≤ 9223372036854775807 := by
 obtain ⟨o, c, xs, h1, h2, h3⟩ := op_rgs h
 exact ⟨⟨o, c, xs⟩, h1, h2, h3⟩
theorem op_tour {w : World} {cs : List Value} (h : shTo.rd w cs) : ∃ x : Tr, cs = x.cs ∧ TrI0 x w := by
 simp only [shTo, Shp.rd.eq_3, Shp.rds] at h
 obtain ⟨_, _, rfl, h1, _, _, rfl, h2, _, _, rfl, h3, _, _, rfl, h4, _, _, rfl, h5, rfl⟩ := h
 obtain ⟨days, rfl, _⟩ := op_i h1
 obtain ⟨shift, rfl, _⟩ := op_i h2
 obtain ⟨size, rfl, _⟩ := op_i h3
 obtain ⟨to, tc, T, rfl, a1, a2, a3, a4⟩ := op_slc (f := Tn.cs) (Q := fun t => TnI0 t w) (fun es h => op_tw h) h4
 obtain ⟨lo, lc, L, rfl, b1, b2, _, b4⟩ := op_slc (f := Lr.cs) (Q := fun r => Rd 2 prF (.slice r.o r.L.length r.c) r.L w ∧ r.L.length ≤ 9223372036854775807) (fun es h => op_lr h) h5
 exact ⟨⟨days, shift, size, to, tc, T, lo, lc, L⟩, rfl, a1, a4, b1, fun r hr => (b4 r hr).1, a2, b2, fun r hr => (b4 r hr).2, a3⟩
end Go.Proofs.Ythfabodamhdhaaa
