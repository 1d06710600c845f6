/- What reading a tent tells. -/
import Derived.Test.YtfbokllafdnglaaPB
namespace Go.Proofs.Ytfbokllafdnglaa
open Go Tx Go.RowKit
set_option linter.unusedSimpArgs false
set_option linter.unusedVariables false

def shGy : Shp := .agg [shI, shI, shI, shI, shI]
def shHd : Shp := .agg [shI, shI, .sl 5 shGy]
theorem op_gy {w : World} {es : List Value} (h : shGy.rd w es) : ∃ g : Gy, es = g.cs ∧ True := by
  simp only [shGy, Shp.rd.eq_3, Shp.rds] at h
  obtain ⟨_, _, rfl, h1, _, _, rfl, h2, _, _, rfl, h3, _, _, rfl, h4, _, _, rfl, h5, rfl⟩ := h
  obtain ⟨a, rfl, _⟩ := op_i h1
  obtain ⟨b, rfl, _⟩ := op_i h2
  obtain ⟨c, rfl, _⟩ := op_i h3
  obtain ⟨d, rfl, _⟩ := op_i h4
  obtain ⟨e, rfl, _⟩ := op_i h5
  exact ⟨⟨a, b, c, d, e⟩, rfl, trivial⟩
theorem op_hd {w : World} {es : List Value} (h : shHd.rd w es) : ∃ t : Hd, es = t.cs ∧ Rd 5 Gy.cs (.slice t.go t.G.length t.gc) t.G w ∧ t.G.length ≤ 9223372036854775807 := by
  simp only [shHd, Shp.rd.eq_3, Shp.rds] at h
  obtain ⟨_, _, rfl, h1, _, _, rfl, h2, _, _, rfl, h3, rfl⟩ := h
  obtain ⟨a, rfl, _⟩ := op_i h1
  obtain ⟨b, rfl, _⟩ := op_i h2
  obtain ⟨o, c, G, rfl, q1, q2, _⟩ := op_slc (f := Gy.cs) (Q := fun _ => True) (fun es h => op_gy h) h3
  exact ⟨⟨a, b, o, c, G⟩, rfl, q1, q2⟩
theorem op_tent {w : World} {v : Value} (h : (Shp.sl 3 shHd).rd w [v]) : ∃ (o : Option Addr) (c : Nat) (T : List Hd), v = .slice o T.length c ∧ TtIn o c T w := by
  obtain ⟨o, c, T, h1, h2, h3, h4⟩ := op_slc (f := Hd.cs) (Q := fun t : Hd => Rd 5 Gy.cs (.slice t.go t.G.length t.gc) t.G w ∧ t.G.length ≤ 9223372036854775807) (fun es h => op_hd h) h
  simp only [List.cons.injEq, and_true] at h1
  exact ⟨o, c, T, h1, h2, fun t ht => (h4 t ht).1, h3, fun t ht => (h4 t ht).2⟩
end Go.Proofs.Ytfbokllafdnglaa
