/- Opening of an act. -/
import Derived.Test.YtlehjapeomallaaPm
import Derived.Test.YtlehjapeomallaaVI
namespace Go.Proofs.Ytlehjapeomallaa
open Go Sx Go.RowKit
set_option linter.unusedVariables false

theorem op_act {w : World} {v : Value} (h : (Shp.sl 15 shG).rd w [v]) : ∃ (o : Option Addr) (c : Nat) (act : List (Fg × List Bx)), v = .slice o act.length c ∧ Rd 15 V.csP (.slice o act.length c) act w ∧ act.length ≤ 9223372036854775807 ∧
    ∀ p ∈ act, Rd 4 Bx.cs (.slice p.1.o p.1.n p.1.c) p.2 w := by
  unfold Shp.rd at h
  rcases h with h | ⟨a, n, c, h, h1, h2, h3⟩
  · simp only [List.cons.injEq, and_true] at h
    exact ⟨none, 0, [], h, .inl ⟨rfl, rfl⟩, by simp, fun x hx => by simp at hx⟩
  · simp only [List.cons.injEq, and_true] at h
    obtain ⟨xs, hl, hb⟩ := list_of (Q := fun i (x : Fg × List Bx) => (∀ j v, (V.csP x)[j]? = some v → w.cell? ((a.add (i * 15)).add j) = some v) ∧ Rd 4 Bx.cs (.slice x.1.o x.1.n x.1.c) x.2 w) n fun i hi => by
      obtain ⟨es, _, e2, e3⟩ := h3 i hi
      obtain ⟨g, bs, e4, _, e5, _⟩ := op_fg e3
      have e6 : es = V.csP (g, bs) := by
        have := (Value.agg.inj e4)
        exact List.toArray_inj this
      exact ⟨(g, bs), by rw [← e6]; exact e2, e5⟩
    subst hl
    exact ⟨some a, c, xs, h, .inr ⟨a, c, rfl, fun k b hk => (hb k b hk).1⟩, by unfold maxLen at h2; omega, fun x hx => by
      obtain ⟨k, hk⟩ := List.mem_iff_getElem?.1 hx
      exact (hb k x hk).2⟩
end Go.Proofs.Ytlehjapeomallaa
