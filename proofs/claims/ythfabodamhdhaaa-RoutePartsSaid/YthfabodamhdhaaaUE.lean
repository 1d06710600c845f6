/- The plain law of parts of a season: its first stops' faults; the profit of one stop. -/
import Derived.Test.YthfabodamhdhaaaUB
namespace Go.Proofs.Ythfabodamhdhaaa
open Go Tx Go.RowKit
set_option linter.unusedSimpArgs false
set_option linter.unusedVariables false

theorem fsP_mem {x : To} {S : List (Int × Int × Int)} : ∀ (m : Nat) (p : Nat × Nat), p ∈ fsP x S m ↔ ∃ a f l, p.1 < m ∧ S[p.1]? = some (a, f, l) ∧ p.2 = fltO x S p.1 a f l 7 ∧ p.2 ≠ 0
  | 0, p => by simp [fsP]
  | m + 1, p => by
    have ih := fsP_mem (x := x) (S := S) m p
    simp only [fsP]
    cases hs : S[m]? with
    | none =>
      dsimp only
      rw [ih]
      constructor
      · intro ⟨a, f, l, h1, h2⟩; exact ⟨a, f, l, by omega, h2⟩
      · intro ⟨a, f, l, h1, h2, h3⟩
        refine ⟨a, f, l, ?_, h2, h3⟩
        rcases (by omega : p.1 < m ∨ p.1 = m) with h | h
        · exact h
        · rw [h, hs] at h2; cases h2
    | some s =>
      obtain ⟨a0, f0, l0⟩ := s
      dsimp only
      by_cases hz : fltO x S m a0 f0 l0 7 = 0
      · rw [if_pos hz, ih]
        constructor
        · intro ⟨a, f, l, h1, h2⟩; exact ⟨a, f, l, by omega, h2⟩
        · intro ⟨a, f, l, h1, h2, h3, h4⟩
          refine ⟨a, f, l, ?_, h2, h3, h4⟩
          rcases (by omega : p.1 < m ∨ p.1 = m) with h | h
          · exact h
          · rw [h, hs, Option.some.injEq, Prod.mk.injEq, Prod.mk.injEq] at h2
            obtain ⟨rfl, rfl, rfl⟩ := h2
            rw [h] at h3
            exact absurd (h3.trans hz) h4
      · rw [if_neg hz, List.mem_append, ih, List.mem_singleton]
        constructor
        · rintro (⟨a, f, l, h1, h2⟩ | rfl)
          · exact ⟨a, f, l, by omega, h2⟩
          · exact ⟨a0, f0, l0, by simp, hs, rfl, hz⟩
        · intro ⟨a, f, l, h1, h2, h3, h4⟩
          rcases (by omega : p.1 < m ∨ p.1 = m) with h | h
          · exact .inl ⟨a, f, l, h, h2, h3, h4⟩
          · right
            obtain ⟨p1, p2⟩ := p
            dsimp only at h h2 h3 h4 ⊢
            subst h
            rw [hs, Option.some.injEq, Prod.mk.injEq, Prod.mk.injEq] at h2
            obtain ⟨rfl, rfl, rfl⟩ := h2
            rw [h3]
/-- The tests of a stop see what goes ahead of it; the last sees whether it is the last. -/
theorem flt_take {x : To} {S : List (Int × Int × Int)} {n i : Nat} {k f l : Int} (hi : i < n) (hn : n ≤ S.length) : fltO x (S.take n) i k f l 7 = 0 ∨ fltO x (S.take n) i k f l 7 = 7 ∨ fltO x (S.take n) i k f l 7 = fltO x S i k f l 7 := by
  have h5 : ts5 (S.take n) i k = ts5 S i k := by unfold ts5; rw [List.take_take, Nat.min_eq_left (by omega)]
  have h6 : ts6 x (S.take n) i k f = ts6 x S i k f := by
    cases i with
    | zero => rfl
    | succ j => simp only [ts6]; rw [List.getElem?_take_of_lt (by omega)]
  unfold fltO
  simp only [tsA, List.take, h5, h6]
  cases ts1 x k <;> cases ts2 x k <;> cases ts3 x k f l <;> cases ts4 x k f l <;> cases ts5 S i k <;> cases ts6 x S i k f <;> cases ts7 x S i k l <;> cases ts7 x (S.take n) i k l <;> simp [fstT]
/-- A season's first stops have no fault but Home that it did not have. -/
theorem fs_take {x : To} {S : List (Int × Int × Int)} {n : Nat} (hn : n ≤ S.length) : ∀ p ∈ fsO x (S.take n), p.2 = 7 ∨ p ∈ fsO x S := fun p hp => by
  unfold fsO at hp ⊢
  obtain ⟨a, f, l, h1, h2, h3, h4⟩ := (fsP_mem _ p).1 hp
  rw [List.length_take, Nat.min_eq_left hn] at h1
  rw [List.getElem?_take_of_lt h1] at h2
  rcases flt_take (x := x) (k := a) (f := f) (l := l) h1 hn with h5 | h5 | h5
  · exact absurd (h3.trans h5) h4
  · exact .inl (h3.trans h5)
  · exact .inr ((fsP_mem _ p).2 ⟨a, f, l, (List.getElem?_eq_some_iff.1 h2).1, h2, h3.trans h5, h4⟩)
theorem pf_one (x : To) (t f l : Int) : pfO x [(t, f, l)] = gnO x t.toNat f l - csO x 0 t.toNat - csO x t.toNat 0 := by
  simp only [pfO, pfK, List.length_cons, List.length_nil, List.getElem?_cons_zero]
  omega
theorem fs_lt {x : To} {S : List (Int × Int × Int)} : ∀ p ∈ fsO x S, p.1 < S.length ∧ p.2 ≤ 7 := fun p hp => by
  obtain ⟨a, f, l, h1, h2, h3, h4⟩ := (fsP_mem _ p).1 hp
  have := fltO_le x S p.1 a f l 7
  exact ⟨h1, by omega⟩
end Go.Proofs.Ythfabodamhdhaaa
