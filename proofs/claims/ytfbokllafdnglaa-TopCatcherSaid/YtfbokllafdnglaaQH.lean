/- What reading a flight tells. -/
import Derived.Test.YtfbokllafdnglaaQG
namespace Go.Proofs.Ytfbokllafdnglaa
open Go Tx Go.RowKit
set_option linter.unusedSimpArgs false
set_option linter.unusedVariables false

def shPl : Shp := .agg [.int .i64, .int .i64]
theorem op_pl {w : World} {cs : List Value} (h : shPl.rd w cs) : ∃ a b : Int, cs = [iv a, iv b] := by
  simp only [shPl, Shp.rd, Shp.rds] at h
  obtain ⟨_, _, rfl, ⟨n0, rfl, _⟩, _, _, rfl, ⟨n1, rfl, _⟩, rfl⟩ := h
  exact ⟨n0, n1, rfl⟩
def shBx : Shp := .agg [shPl, shPl]
theorem op_bx {w : World} {cs : List Value} (h : shBx.rd w cs) : ∃ b : Bx, cs = b.cs ∧ True := by
  simp only [shBx, Shp.rd, Shp.rds] at h
  obtain ⟨_, _, rfl, h1, _, _, rfl, h2, rfl⟩ := h
  obtain ⟨a, b, rfl⟩ := op_pl h1
  obtain ⟨c, d, rfl⟩ := op_pl h2
  exact ⟨⟨a, b, c, d⟩, rfl, trivial⟩
def shFy : Shp := .agg [shBx, shBx, .int .i64]
def shCt : Shp := .agg [.sl 4 shBx, .int .i64, .int .i64, .int .i64]
def shFt : Shp := .agg [shFy, shCt, .int .i64, .int .i64]
theorem op_ft {w : World} {cs : List Value} (h : shFt.rd w cs) : ∃ f : Ft, (.agg cs.toArray : Value) = f.v ∧ Rd 4 Bx.cs (.slice f.co f.C.length f.cc) f.C w ∧ f.C.length ≤ 9223372036854775807 := by
  simp only [shFt, shFy, shCt, Shp.rd.eq_1, Shp.rd.eq_3, Shp.rds] at h
  obtain ⟨_, _, rfl, ⟨_, _, rfl, h1, _, _, rfl, h2, _, _, rfl, ⟨n0, rfl, _⟩, rfl⟩, _, _, rfl, ⟨_, _, rfl, h3, _, _, rfl, ⟨n1, rfl, _⟩, _, _, rfl, ⟨n2, rfl, _⟩, _, _, rfl, ⟨n3, rfl, _⟩, rfl⟩, _, _, rfl, ⟨n4, rfl, _⟩, _, _, rfl, ⟨n5, rfl, _⟩, rfl⟩ := h
  obtain ⟨p, rfl, _⟩ := op_bx h1
  obtain ⟨s, rfl, _⟩ := op_bx h2
  obtain ⟨o, c, C, rfl, q1, q2, _⟩ := op_slc (f := Bx.cs) (Q := fun _ => True) (fun es h => op_bx h) h3
  exact ⟨⟨p, s, n0, o, c, C, n1, n2, n3, n4, n5⟩, rfl, q1, q2⟩
theorem wfU8 {a : Int} (h : (Lit.int .u8 a).wf = true) : 0 ≤ a ∧ a ≤ 255 := by
  simp [Lit.wf, IntKind.min, IntKind.max, IntKind.bits, IntKind.signed] at h; omega
theorem wfU16 {a : Int} (h : (Lit.int .u16 a).wf = true) : 0 ≤ a ∧ a ≤ 65535 := by
  simp [Lit.wf, IntKind.min, IntKind.max, IntKind.bits, IntKind.signed] at h; omega
end Go.Proofs.Ytfbokllafdnglaa
