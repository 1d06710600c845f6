/- What reading the arguments of the laws tells: lists of numbers, gears, entries; rigs. -/
import Derived.Test.YtaciigegbgnadaaGX
namespace Go.Proofs.Ytaciigegbgnadaa
open Go Tx Go.RowKit
set_option linter.unusedSimpArgs false
set_option linter.unusedVariables false

abbrev I64 (n : Int) : Prop := -9223372036854775808 ≤ n ∧ n ≤ 9223372036854775807
def shI : Shp := .int .i64
def shG : Shp := .agg [.int .i64, .int .i64]
def shE : Shp := .agg [.int .i64, .int .i64, .int .i64, .bool]
def shB : Shp := .agg [.int .i64, .int .i64, .agg [.int .i64, .int .i64], .agg [.int .i64, .int .i64], .int .i64, .int .i64]
def shL : Shp := .agg [.agg [.int .i64, .int .i64], .int .u8, .int .i64, .int .i64]
def shP : Shp := .agg [.int .i64, .int .i64]
def shR : Shp := .agg [.sl 1 shI, .sl 8 shB, .agg [.int .i64, .int .i64, .int .i64], .sl 5 shL]
/-- A slice whose elements are told one by one. -/
theorem op_slc {α : Type} {w : World} {sz : Nat} {e : Shp} {f : α → List Value} {Q : α → Prop} (he : ∀ es, e.rd w es → ∃ x, es = f x ∧ Q x) {cs : List Value} (h : (Shp.sl sz e).rd w cs) :
    ∃ (o : Option Addr) (c : Nat) (xs : List α), cs = [.slice o xs.length c] ∧ Rd sz f (.slice o xs.length c) xs w ∧ xs.length ≤ 9223372036854775807 ∧ ∀ x ∈ xs, Q x := by
  unfold Shp.rd at h
  rcases h with rfl | ⟨a, n, c, rfl, h1, h2, h3⟩
  · exact ⟨none, 0, [], rfl, .inl ⟨rfl, rfl⟩, by simp, fun x hx => by simp at hx⟩
  · obtain ⟨xs, hl, hb⟩ := list_of (Q := fun i (x : α) => (∀ j v, (f x)[j]? = some v → w.cell? ((a.add (i * sz)).add j) = some v) ∧ Q x) n fun i hi => by
      obtain ⟨es, _, e2, e3⟩ := h3 i hi
      obtain ⟨x, rfl, hx⟩ := he es e3
      exact ⟨x, e2, hx⟩
    subst hl
    exact ⟨some a, c, xs, rfl, .inr ⟨a, c, rfl, fun k b hk => (hb k b hk).1⟩, by unfold maxLen at h2; omega, fun x hx => by
      obtain ⟨k, hk⟩ := List.mem_iff_getElem?.1 hx
      exact (hb k x hk).2⟩
theorem op_i {w : World} {es : List Value} (h : shI.rd w es) : ∃ n : Int, es = iF n ∧ I64 n := by
  simp only [shI, Shp.rd] at h
  obtain ⟨n, rfl, g⟩ := h
  exact ⟨n, rfl, wf64 g⟩
theorem op_g {w : World} {es : List Value} (h : shG.rd w es) : ∃ g : Int × Int, es = gF g ∧ I64 g.1 ∧ I64 g.2 := by
  simp only [shG, Shp.rd, Shp.rds] at h
  obtain ⟨_, _, rfl, ⟨n0, rfl, g0⟩, _, _, rfl, ⟨n1, rfl, g1⟩, rfl⟩ := h
  exact ⟨(n0, n1), rfl, wf64 g0, wf64 g1⟩
theorem op_e {w : World} {es : List Value} (h : shE.rd w es) : ∃ x : En, es = x.cs ∧ I64 x.day ∧ I64 x.num ∧ I64 x.hrs := by
  simp only [shE, Shp.rd, Shp.rds] at h
  obtain ⟨_, _, rfl, ⟨n0, rfl, g0⟩, _, _, rfl, ⟨n1, rfl, g1⟩, _, _, rfl, ⟨n2, rfl, g2⟩, _, _, rfl, ⟨b, rfl⟩, rfl⟩ := h
  exact ⟨⟨n0, n1, n2, b⟩, rfl, wf64 g0, wf64 g1, wf64 g2⟩
def bmI (b : Bm) : Prop := I64 b.lo ∧ I64 b.hi ∧ I64 b.ab ∧ I64 b.aa ∧ I64 b.bb ∧ I64 b.ba ∧ I64 b.wt ∧ I64 b.cap
theorem op_b {w : World} {es : List Value} (h : shB.rd w es) : ∃ b : Bm, es = b.cs ∧ bmI b := by
  simp only [shB, Shp.rd, Shp.rds] at h
  obtain ⟨_, _, rfl, ⟨n0, rfl, g0⟩, _, _, rfl, ⟨n1, rfl, g1⟩, _, _, rfl, ⟨_, _, rfl, ⟨n2, rfl, g2⟩, _, _, rfl, ⟨n3, rfl, g3⟩, rfl⟩, _, _, rfl, ⟨_, _, rfl, ⟨n4, rfl, g4⟩, _, _, rfl, ⟨n5, rfl, g5⟩, rfl⟩, _, _, rfl, ⟨n6, rfl, g6⟩, _, _, rfl, ⟨n7, rfl, g7⟩, rfl⟩ := h
  exact ⟨⟨n0, n1, n2, n3, n4, n5, n6, n7⟩, rfl, wf64 g0, wf64 g1, wf64 g2, wf64 g3, wf64 g4, wf64 g5, wf64 g6, wf64 g7⟩
def ldI (l : Ld) : Prop := I64 l.beam ∧ I64 l.at' ∧ l.kind ≤ 255 ∧ I64 l.lo ∧ I64 l.hi
theorem op_l {w : World} {es : List Value} (h : shL.rd w es) : ∃ l : Ld, es = l.cs ∧ ldI l := by
  simp only [shL, Shp.rd, Shp.rds] at h
  obtain ⟨_, _, rfl, ⟨_, _, rfl, ⟨n0, rfl, g0⟩, _, _, rfl, ⟨n1, rfl, g1⟩, rfl⟩, _, _, rfl, ⟨n2, rfl, g2⟩, _, _, rfl, ⟨n3, rfl, g3⟩, _, _, rfl, ⟨n4, rfl, g4⟩, rfl⟩ := h
  have h2 := wf8 g2
  obtain ⟨k, rfl⟩ := Int.eq_ofNat_of_zero_le h2.1
  exact ⟨⟨n0, n1, k, n3, n4⟩, rfl, wf64 g0, wf64 g1, by show k ≤ 255; omega, wf64 g3, wf64 g4⟩
theorem op_gears {w : World} {v : Value} (h : (Shp.sl 2 shG).rd w [v]) : ∃ (o : Option Addr) (c : Nat) (xs : List (Int × Int)), v = .slice o xs.length c ∧ Rd 2 gF (.slice o xs.length c) xs w ∧ xs.length ≤ 9223372036854775807 := by
  obtain ⟨o, c, xs, h1, h2, h3, _⟩ := op_slc (f := gF) (Q := fun g => I64 g.1 ∧ I64 g.2) (fun es h => op_g h) h
  simp only [List.cons.injEq, and_true] at h1
  exact ⟨o, c, xs, h1, h2, h3⟩
theorem op_log {w : World} {v : Value} (h : (Shp.sl 4 shE).rd w [v]) : ∃ (o : Option Addr) (c : Nat) (xs : List En), v = .slice o xs.length c ∧ Rd 4 En.cs (.slice o xs.length c) xs w ∧ xs.length ≤ 9223372036854775807 := by
  obtain ⟨o, c, xs, h1, h2, h3, _⟩ := op_slc (f := En.cs) (Q := fun x => I64 x.day ∧ I64 x.num ∧ I64 x.hrs) (fun es h => op_e h) h
  simp only [List.cons.injEq, and_true] at h1
  exact ⟨o, c, xs, h1, h2, h3⟩
theorem op_ints {w : World} {v : Value} (h : (Shp.sl 1 shI).rd w [v]) : ∃ (o : Option Addr) (c : Nat) (xs : List Int), v = .slice o xs.length c ∧ Rd 1 iF (.slice o xs.length c) xs w ∧ xs.length ≤ 9223372036854775807 ∧ ∀ x ∈ xs, I64 x := by
  obtain ⟨o, c, xs, h1, h2, h3, h4⟩ := op_slc (f := iF) (Q := I64) (fun es h => op_i h) h
  simp only [List.cons.injEq, and_true] at h1
  exact ⟨o, c, xs, h1, h2, h3, h4⟩
/-- A rig of the reference, as it comes. -/
structure RigX (r : Rig) (PP : List Int) (BB : List Bm) (LL : List Ld) (w : World) : Prop where
  p : Rd 1 iF (.slice r.po PP.length r.pc) PP w
  b : Rd 8 Bm.cs (.slice r.bo BB.length r.bc) BB w
  l : Rd 5 Ld.cs (.slice r.lo LL.length r.lc) LL w
  pn : r.pn = PP.length
  bn : r.bn = BB.length
  ln : r.ln = LL.length
  pl : PP.length ≤ 9223372036854775807
  bl : BB.length ≤ 9223372036854775807
  ll : LL.length ≤ 9223372036854775807
  pi : ∀ n ∈ PP, I64 n
  bi : ∀ b ∈ BB, bmI b
  li : ∀ l ∈ LL, ldI l
  f0 : I64 r.f0
  f1 : I64 r.f1
  f2 : I64 r.f2
theorem RigX.below {r : Rig} {PP : List Int} {BB : List Bm} {LL : List Ld} {w w' : World} (h : RigX r PP BB LL w) (hb : Below w.heap.size w w') : RigX r PP BB LL w' :=
  ⟨h.p.below hb, h.b.below hb, h.l.below hb, h.pn, h.bn, h.ln, h.pl, h.bl, h.ll, h.pi, h.bi, h.li, h.f0, h.f1, h.f2⟩
theorem RigX.rin {r : Rig} {PP : List Int} {BB : List Bm} {LL : List Ld} {w : World} (h : RigX r PP BB LL w) (h1 : PP.length ≤ 1000000) (h2 : BB.length ≤ 1000000) (h3 : LL.length ≤ 1000000) : RigIn r PP BB LL w :=
  ⟨h.p, h.b, h.l, h.pn, h.bn, h.ln, h1, h2, h3⟩
theorem op_rig {w : World} {cs : List Value} (h : shR.rd w cs) : ∃ (r : Rig) (PP : List Int) (BB : List Bm) (LL : List Ld), cs = r.cs ∧ RigX r PP BB LL w := by
  unfold shR at h
  simp only [Shp.rd.eq_4, Shp.rd.eq_3, Shp.rds] at h
  obtain ⟨_, _, rfl, h1, _, _, rfl, h2, _, _, rfl, h3, _, _, rfl, h4, rfl⟩ := h
  obtain ⟨po, pc, PP, rfl, p1, p2, p3⟩ := op_slc (f := iF) (Q := I64) (fun es h => op_i h) h1
  obtain ⟨bo, bc, BB, rfl, b1, b2, b3⟩ := op_slc (f := Bm.cs) (Q := bmI) (fun es h => op_b h) h2
  obtain ⟨lo, lc, LL, rfl, l1, l2, l3⟩ := op_slc (f := Ld.cs) (Q := ldI) (fun es h => op_l h) h4
  simp only [Shp.rd, Shp.rds] at h3
  obtain ⟨_, _, rfl, ⟨n0, rfl, g0⟩, _, _, rfl, ⟨n1, rfl, g1⟩, _, _, rfl, ⟨n2, rfl, g2⟩, rfl⟩ := h3
  exact ⟨⟨po, PP.length, pc, bo, BB.length, bc, n0, n1, n2, lo, LL.length, lc⟩, PP, BB, LL, rfl, p1, b1, l1, rfl, rfl, rfl, p2, b2, l2, p3, b3, l3, wf64 g0, wf64 g1, wf64 g2⟩
end Go.Proofs.Ytaciigegbgnadaa
