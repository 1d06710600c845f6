/- What reading a range, a flyer, a net or a flight of the reference tells: the numbers of its cells, and its boxes. -/
import Derived.Test.YtlehjapeomallaaPl
import Derived.Test.YtlehjapeomallaaFG
namespace Go.Proofs.Ytlehjapeomallaa
open Go Go.RowKit Sx

abbrev I64 (n : Int) : Prop := -9223372036854775808 ≤ n ∧ n ≤ 9223372036854775807
def shI : Shp := .int .i64
def shR : Shp := .agg [.int .i64, .int .i64]
def shB : Shp := .agg [shR, shR]
def shF : Shp := .agg [shB, shB, .int .i64]
def shN : Shp := .agg [shR, .int .i64]
def shC : Shp := .agg [.sl 4 shB, .int .i64, .int .i64, .int .i64]
def shG : Shp := .agg [shF, shC, .int .i64, .int .i64]

theorem op_rg {w : World} {cs : List Value} (h : shR.rd w cs) : ∃ r : Rg, cs = [iv r.lo, iv r.hi] ∧ I64 r.lo ∧ I64 r.hi := by
  simp only [shR, Shp.rd, Shp.rds] at h
  obtain ⟨_, _, rfl, ⟨n0, rfl, g0⟩, _, _, rfl, ⟨n1, rfl, g1⟩, rfl⟩ := h
  exact ⟨⟨n0, n1⟩, rfl, wf64 g0, wf64 g1⟩
theorem op_bx {w : World} {cs : List Value} (h : shB.rd w cs) : ∃ b : Bx, cs = b.cs ∧ I64 b.x.lo ∧ I64 b.x.hi ∧ I64 b.z.lo ∧ I64 b.z.hi := by
  simp only [shB, Shp.rd, Shp.rds] at h
  obtain ⟨_, _, rfl, h1, _, _, rfl, h2, rfl⟩ := h
  obtain ⟨r, rfl, a1, a2⟩ := op_rg h1
  obtain ⟨s, rfl, b1, b2⟩ := op_rg h2
  exact ⟨⟨r, s⟩, rfl, a1, a2, b1, b2⟩
theorem op_fl {w : World} {cs : List Value} (h : shF.rd w cs) : ∃ f : Fl, cs = [iv f.a.x.lo, iv f.a.x.hi, iv f.a.z.lo, iv f.a.z.hi, iv f.s.x.lo, iv f.s.x.hi, iv f.s.z.lo, iv f.s.z.hi, iv f.m] := by
  simp only [shF, Shp.rd, Shp.rds] at h
  obtain ⟨_, _, rfl, h1, _, _, rfl, h2, _, _, rfl, ⟨n, rfl, _⟩, rfl⟩ := h
  obtain ⟨a, rfl, _⟩ := op_bx h1
  obtain ⟨s, rfl, _⟩ := op_bx h2
  exact ⟨⟨a, s, n⟩, rfl⟩
theorem op_nt {w : World} {cs : List Value} (h : shN.rd w cs) : ∃ n : Nt, cs = [iv n.x.lo, iv n.x.hi, iv n.h] := by
  simp only [shN, Shp.rd, Shp.rds] at h
  obtain ⟨_, _, rfl, h1, _, _, rfl, ⟨n, rfl, _⟩, rfl⟩ := h
  obtain ⟨a, rfl, _⟩ := op_rg h1
  exact ⟨⟨a, n⟩, rfl⟩

theorem op_bxs {w : World} {cs : List Value} (h : (Shp.sl 4 shB).rd w cs) : ∃ (o : Option Addr) (n c : Nat) (bs : List Bx), cs = [.slice o n c] ∧ n = bs.length ∧ Rd 4 Bx.cs (.slice o n c) bs w ∧ n ≤ 9223372036854775807 := by
  unfold Shp.rd at h
  rcases h with rfl | ⟨a, n, c, rfl, h1, h2, h3⟩
  · exact ⟨none, 0, 0, [], rfl, rfl, .inl ⟨rfl, rfl⟩, by omega⟩
  · obtain ⟨bs, hl, hb⟩ := list_of (Q := fun i (b : Bx) => ∀ j v, b.cs[j]? = some v → w.cell? ((a.add (i * 4)).add j) = some v) n fun i hi => by
      obtain ⟨es, _, e2, e3⟩ := h3 i hi
      obtain ⟨b, rfl, _⟩ := op_bx e3
      exact ⟨b, e2⟩
    subst hl
    exact ⟨some a, _, c, bs, rfl, rfl, .inr ⟨a, c, rfl, hb⟩, by unfold maxLen at h2; omega⟩

theorem op_fg {w : World} {cs : List Value} (h : shG.rd w cs) : ∃ (g : Fg) (bs : List Bx), (.agg cs.toArray : Value) = g.v ∧ g.n = bs.length ∧ Rd 4 Bx.cs (.slice g.o g.n g.c) bs w ∧ g.n ≤ 9223372036854775807 ∧ I64 g.re ∧ I64 g.so ∧ I64 g.be ∧ I64 g.le ∧ I64 g.mo := by
  simp only [shG, shC, Shp.rd, Shp.rds] at h
  obtain ⟨_, _, rfl, h1, _, _, rfl, ⟨_, _, rfl, h2, _, _, rfl, ⟨n1, rfl, g1⟩, _, _, rfl, ⟨n2, rfl, g2⟩, _, _, rfl, ⟨n3, rfl, g3⟩, rfl⟩, _, _, rfl, ⟨n4, rfl, g4⟩, _, _, rfl, ⟨n5, rfl, g5⟩, rfl⟩ := h
  obtain ⟨f, rfl⟩ := op_fl h1
  obtain ⟨o, n, c, bs, rfl, hn, hr, hx⟩ := op_bxs (by unfold Shp.rd; exact h2)
  exact ⟨⟨f, o, n, c, n1, n2, n3, n4, n5⟩, bs, rfl, hn, hr, hx, wf64 g1, wf64 g2, wf64 g3, wf64 g4, wf64 g5⟩

def shW6 : Shp := .agg [.int .u16, .int .u16, .int .u16, .int .u16, .int .u16, .int .u16]
def shW4 : Shp := .agg [.int .u16, .int .u16, .int .u16, .int .u16]
def shY8 : Shp := .agg [.int .u8, .int .u8, .int .u8, .int .u8, .int .u8, .int .u8, .int .u8, .int .u8]
theorem op_w6 {w : World} {cs : List Value} (h : shW6.rd w cs) : ∃ a b c d e f : Int, cs = [.int .u16 a, .int .u16 b, .int .u16 c, .int .u16 d, .int .u16 e, .int .u16 f] ∧ (0 ≤ a ∧ a ≤ 65535) ∧ (0 ≤ b ∧ b ≤ 65535) ∧ (0 ≤ c ∧ c ≤ 65535) ∧ (0 ≤ d ∧ d ≤ 65535) ∧ (0 ≤ e ∧ e ≤ 65535) ∧ (0 ≤ f ∧ f ≤ 65535) := by
  simp only [shW6, Shp.rd, Shp.rds] at h
  obtain ⟨_, _, rfl, ⟨n0, rfl, g0⟩, _, _, rfl, ⟨n1, rfl, g1⟩, _, _, rfl, ⟨n2, rfl, g2⟩, _, _, rfl, ⟨n3, rfl, g3⟩, _, _, rfl, ⟨n4, rfl, g4⟩, _, _, rfl, ⟨n5, rfl, g5⟩, rfl⟩ := h
  exact ⟨n0, n1, n2, n3, n4, n5, rfl, wf16 g0, wf16 g1, wf16 g2, wf16 g3, wf16 g4, wf16 g5⟩
theorem op_w4 {w : World} {cs : List Value} (h : shW4.rd w cs) : ∃ a b c d : Int, cs = [.int .u16 a, .int .u16 b, .int .u16 c, .int .u16 d] ∧ (0 ≤ a ∧ a ≤ 65535) ∧ (0 ≤ b ∧ b ≤ 65535) ∧ (0 ≤ c ∧ c ≤ 65535) ∧ (0 ≤ d ∧ d ≤ 65535) := by
  simp only [shW4, Shp.rd, Shp.rds] at h
  obtain ⟨_, _, rfl, ⟨n0, rfl, g0⟩, _, _, rfl, ⟨n1, rfl, g1⟩, _, _, rfl, ⟨n2, rfl, g2⟩, _, _, rfl, ⟨n3, rfl, g3⟩, rfl⟩ := h
  exact ⟨n0, n1, n2, n3, rfl, wf16 g0, wf16 g1, wf16 g2, wf16 g3⟩
theorem op_y8 {w : World} {cs : List Value} (h : shY8.rd w cs) : ∃ a b c d e f g i : Int, cs = [.int .u8 a, .int .u8 b, .int .u8 c, .int .u8 d, .int .u8 e, .int .u8 f, .int .u8 g, .int .u8 i] ∧ (0 ≤ a ∧ a ≤ 255) ∧ (0 ≤ b ∧ b ≤ 255) ∧ (0 ≤ c ∧ c ≤ 255) ∧ (0 ≤ d ∧ d ≤ 255) ∧ (0 ≤ e ∧ e ≤ 255) ∧ (0 ≤ f ∧ f ≤ 255) ∧ (0 ≤ g ∧ g ≤ 255) ∧ (0 ≤ i ∧ i ≤ 255) := by
  simp only [shY8, Shp.rd, Shp.rds] at h
  obtain ⟨_, _, rfl, ⟨n0, rfl, g0⟩, _, _, rfl, ⟨n1, rfl, g1⟩, _, _, rfl, ⟨n2, rfl, g2⟩, _, _, rfl, ⟨n3, rfl, g3⟩, _, _, rfl, ⟨n4, rfl, g4⟩, _, _, rfl, ⟨n5, rfl, g5⟩, _, _, rfl, ⟨n6, rfl, g6⟩, _, _, rfl, ⟨n7, rfl, g7⟩, rfl⟩ := h
  exact ⟨n0, n1, n2, n3, n4, n5, n6, n7, rfl, wf8 g0, wf8 g1, wf8 g2, wf8 g3, wf8 g4, wf8 g5, wf8 g6, wf8 g7⟩

theorem op_ints {w : World} {v : Value} (h : (Shp.sl 1 (.int .i64)).rd w [v]) : ∃ (o : Option Addr) (c : Nat) (xs : List Int), v = .slice o xs.length c ∧ Rd 1 iF (.slice o xs.length c) xs w ∧ xs.length ≤ 9223372036854775807 ∧ ∀ x ∈ xs, I64 x := by
  unfold Shp.rd at h
  rcases h with h | ⟨a, n, c, h, h1, h2, h3⟩
  · simp only [List.cons.injEq, and_true] at h
    exact ⟨none, 0, [], h, .inl ⟨rfl, rfl⟩, by simp, fun x hx => by simp at hx⟩
  · simp only [List.cons.injEq, and_true] at h
    obtain ⟨xs, hl, hb⟩ := list_of (Q := fun i (x : Int) => (∀ j v, (iF x)[j]? = some v → w.cell? ((a.add (i * 1)).add j) = some v) ∧ I64 x) n fun i hi => by
      obtain ⟨es, _, e2, e3⟩ := h3 i hi
      simp only [Shp.rd] at e3
      obtain ⟨x, rfl, hx⟩ := e3
      exact ⟨x, e2, wf64 hx⟩
    subst hl
    exact ⟨some a, c, xs, h, .inr ⟨a, c, rfl, fun k b hk => (hb k b hk).1⟩, by unfold maxLen at h2; omega, fun x hx => by
      obtain ⟨k, hk⟩ := List.mem_iff_getElem?.1 hx
      exact (hb k x hk).2⟩
end Go.Proofs.Ytlehjapeomallaa
