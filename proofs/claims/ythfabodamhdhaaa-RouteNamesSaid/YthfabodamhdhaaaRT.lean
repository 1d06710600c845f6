/- The stops of a best season, one by one: the plain law. -/
import Derived.Test.YthfabodamhdhaaaRS
namespace Go.Proofs.Ythfabodamhdhaaa
open Go Tx Go.RowKit
set_option linter.unusedSimpArgs false
set_option linter.unusedVariables false
theorem fs_some {α : Type} {g : Nat → Option α} {n : Nat} {v : α} (h : (List.range n).findSome? g = some v) : ∃ k, k < n ∧ g k = some v := by
 obtain ⟨l₁, a, l₂, h1, h2, h3⟩ := List.findSome?_eq_some_iff.1 h
 refine ⟨a, ?_, h2⟩
 have : a ∈ List.range n := by rw [h1]; simp
 exact List.mem_range.1 this
theorem spO_some {x : To} (hn : ToN x) {S a d t f l : Nat} (h : spO x S a d = some (t, f, l)) : 1 ≤ t ∧ t < x.T.length ∧ S.testBit t = false ∧ f ≤ l ∧ (l : Int) ≤ x.days - 1 := by
 unfold spO at h
 split at h
 · cases h
 · obtain ⟨i, h1, h2⟩ := fs_some h
   unfold spT at h2
   split at h2
   · cases h2
   · rename_i hb
     obtain ⟨q, h3, h4⟩ := fs_some h2
     rw [Option.map_eq_some_iff] at h4
     obtain ⟨l', h5, h6⟩ := h4
     simp only [Prod.mk.injEq] at h6
     obtain ⟨rfl, rfl, rfl⟩ := h6
     have hm := ALO_ok hn (i + 1) (d + lsN x a (i + 1) + q) (by omega) (by omega) l' (List.mem_of_find?_eq_some h5)
     exact ⟨by omega, by omega, by simpa using hb, hm.1, by omega⟩
def seqO (x : To) : Nat → Nat → Nat → Nat → List (Int × Int × Int)
 | 0, _, _, _ => []
 | n + 1, S, a, d => match spO x S a d with
  | some (t, f, l) => ((t : Int), (f : Int), (l : Int)) :: seqO x n (S ||| 2 ^ t) t (l + 1)
  | none => []
def bsS (x : To) : List (Int × Int × Int) := seqO x (x.T.length) 0 0 0
theorem spO_none {x : To} (hn : ToN x) {S a d : Nat} (h : unp (x.T.length - 1) S = 0) : spO x S a d = none := by
 cases hs : spO x S a d with
 | none => rfl
 | some s =>
  obtain ⟨t, f, l⟩ := s
  obtain ⟨h1, h2, h3, _⟩ := spO_some hn hs
  have := unp_or (n := x.T.length - 1) (t := t - 1) (S := S) (by omega) (by rwa [show t - 1 + 1 = t from by omega])
  omega
theorem seqO_len (x : To) : ∀ n S a d, (seqO x n S a d).length ≤ n
 | 0, _, _, _ => Nat.le_refl _
 | n + 1, S, a, d => by
  simp only [seqO]
  split
  · rename_i t f l _
    have := seqO_len x n (S ||| 2 ^ t) t (l + 1)
    simp only [List.length_cons]; omega
  · simp
end Go.Proofs.Ythfabodamhdhaaa
