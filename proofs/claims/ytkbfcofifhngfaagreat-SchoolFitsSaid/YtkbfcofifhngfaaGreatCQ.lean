/- What reading the arguments of the laws of schools tells: a school, a timetable, a reason. -/
import Derived.Test.YtkbfcofifhngfaaGreatCI
import Derived.OpenShut
import Derived.WideShapes
namespace Go.Proofs.YtkbfcofifhngfaaGreat
open Go Tx Go.RowKit Go.WideShapes
set_option linter.unusedSimpArgs false
set_option linter.unusedVariables false

abbrev I64 (n : Int) : Prop := -9223372036854775808 ≤ n ∧ n ≤ 9223372036854775807
def shI : Shp := .int .i64
def shTe : Shp := .agg [.sl 1 shI, shI]
def shSc : Shp := .agg [shI, shI, shI, .sl 1 (.sl 1 shI), .sl 2 shTe]
def shL : Shp := .agg [shI, shI, shI]
def shTb : Shp := .sl 3 shL
/-- A slice whose elements are told one by one. -/
theorem op_slc {α : Type} {w : World} {sz : Nat} {e : Shp} {f : α → List Value} {Q : α → Prop} (he : ∀ es, e.rd w es → ∃ x, es = f x ∧ Q x) {cs : List Value} (h : (Shp.sl sz e).rd w cs) :
    ∃ (o : Option Addr) (c : Nat) (xs : List α), cs = [.slice o xs.length c] ∧ Rd sz f (.slice o xs.length c) xs w ∧ xs.length ≤ 9223372036854775807 ∧ ∀ x ∈ xs, Q x := by
  unfold Shp.rd at h
  rcases h with rfl | ⟨a, n, c, rfl, h1, h2, h3⟩
  · exact ⟨none, 0, [], rfl, .inl ⟨rfl, rfl⟩, by simp, fun x hx => by simp at hx⟩
  · obtain ⟨xs, hl, hb⟩ := list_of (Q := fun i (x : α) => (∀ j v, (f x)[j]? = some v → w.cell? ((a.add (i * sz)).add j) = some v) ∧ Q x) n fun i hi => by
      obtain ⟨es, _, e2, e3⟩ := h3 i hi
      obtain ⟨x, rfl, hx⟩ := he es e3
      exact ⟨x, e2, hx⟩
    subst hl
    exact ⟨some a, c, xs, rfl, .inr ⟨a, c, rfl, fun k b hk => (hb k b hk).1⟩, by unfold maxLen at h2; omega, fun x hx => by
      obtain ⟨k, hk⟩ := List.mem_iff_getElem?.1 hx
      exact (hb k x hk).2⟩
theorem op_i {w : World} {es : List Value} (h : shI.rd w es) : ∃ n : Int, es = iF n ∧ I64 n := by
  simp only [shI, Shp.rd] at h
  obtain ⟨n, rfl, g⟩ := h
  exact ⟨n, rfl, wf64 g⟩
theorem op_ints {w : World} {cs : List Value} (h : (Shp.sl 1 shI).rd w cs) : ∃ (o : Option Addr) (c : Nat) (xs : List Int), cs = [.slice o xs.length c] ∧ Rd 1 iF (.slice o xs.length c) xs w ∧ xs.length ≤ 9223372036854775807 ∧ ∀ x ∈ xs, I64 x :=
  op_slc (f := iF) (Q := I64) (fun es h => op_i h) h
theorem op_rw {w : World} {es : List Value} (h : (Shp.sl 1 shI).rd w es) : ∃ r : Rw, es = Rw.cs r ∧ Rd 1 iF r.v r.xs w ∧ r.xs.length ≤ 9223372036854775807 := by
  obtain ⟨o, c, xs, h1, h2, h3, _⟩ := op_ints h
  exact ⟨⟨o, c, xs⟩, h1, h2, h3⟩
theorem op_te {w : World} {es : List Value} (h : shTe.rd w es) : ∃ s : Tc, es = Tc.cs s ∧ Rd 1 iF (.slice s.o s.T.length s.c) s.T w ∧ s.T.length ≤ 9223372036854775807 ∧ I64 s.h := by
  simp only [shTe, Shp.rd.eq_3, Shp.rds] at h
  obtain ⟨_, _, rfl, h2, _, _, rfl, h3, rfl⟩ := h
  obtain ⟨n0, rfl, g0⟩ := op_i h3
  obtain ⟨o, c, xs, rfl, h3, h4, _⟩ := op_ints h2
  exact ⟨⟨o, c, xs, n0⟩, rfl, h3, h4, g0⟩
theorem op_school {w : World} {cs : List Value} (h : shSc.rd w cs) : ∃ x : Sc, cs = [iv x.sl, iv x.ro, iv x.su, .slice x.go x.G.length x.gc, .slice x.to x.T.length x.tc] ∧ ScIn x w ∧ ScX x ∧ (I64 x.sl ∧ I64 x.ro ∧ I64 x.su ∧ ∀ t ∈ x.T, I64 t.h) := by
  unfold shSc at h
  simp only [Shp.rd.eq_3, Shp.rds] at h
  obtain ⟨_, _, rfl, h1, _, _, rfl, h2, _, _, rfl, h3, _, _, rfl, h4, _, _, rfl, h5, rfl⟩ := h
  obtain ⟨n1, rfl, g1⟩ := op_i h1
  obtain ⟨n2, rfl, g2⟩ := op_i h2
  obtain ⟨n3, rfl, g3⟩ := op_i h3
  obtain ⟨go, gc, G, rfl, b1, b2, b3⟩ := op_slc (f := Rw.cs) (Q := fun r => Rd 1 iF r.v r.xs w ∧ r.xs.length ≤ 9223372036854775807) (fun es h => op_rw h) h4
  obtain ⟨to, tc, T, rfl, d1, d2, d3⟩ := op_slc (f := Tc.cs) (Q := fun s => Rd 1 iF (.slice s.o s.T.length s.c) s.T w ∧ s.T.length ≤ 9223372036854775807 ∧ I64 s.h) (fun es h => op_te h) h5
  exact ⟨⟨n1, n2, n3, go, gc, G, to, tc, T⟩, rfl, ⟨b1, fun r hr => (b3 r hr).1, d1, fun t ht => (d3 t ht).1⟩, ⟨b2, fun r hr => (b3 r hr).2, d2, fun t ht => (d3 t ht).2.1⟩, g1, g2, g3, fun t ht => (d3 t ht).2.2⟩
theorem op_ln {w : World} {es : List Value} (h : shL.rd w es) : ∃ x : Ln, es = Ln.cs x ∧ True := by
  simp only [shL, Shp.rd.eq_3, Shp.rds] at h
  obtain ⟨_, _, rfl, h1, _, _, rfl, h2, _, _, rfl, h3, rfl⟩ := h
  obtain ⟨n1, rfl, g1⟩ := op_i h1
  obtain ⟨n2, rfl, g2⟩ := op_i h2
  obtain ⟨n3, rfl, g3⟩ := op_i h3
  exact ⟨⟨n1, n2, n3⟩, rfl, trivial⟩
theorem op_lr {w : World} {es : List Value} (h : shTb.rd w es) : ∃ r : Lr, es = Lr.cs r ∧ Rd 3 Ln.cs (.slice r.o r.L.length r.c) r.L w ∧ r.L.length ≤ 9223372036854775807 := by
  obtain ⟨o, c, xs, h1, h2, h3, _⟩ := op_slc (f := Ln.cs) (Q := fun _ => True) (fun es h => op_ln h) h
  exact ⟨⟨o, c, xs⟩, h1, h2, h3⟩
theorem op_tab {w : World} {v : Value} (h : (Shp.sl 1 shTb).rd w [v]) : ∃ (o : Option Addr) (c : Nat) (S : List Lr), v = .slice o S.length c ∧ TbL o c S w ∧ S.length ≤ 9223372036854775807 ∧ ∀ r ∈ S, r.L.length ≤ 9223372036854775807 := by
  obtain ⟨o, c, S, h1, h2, h3, h4⟩ := op_slc (f := Lr.cs) (Q := fun r => Rd 3 Ln.cs (.slice r.o r.L.length r.c) r.L w ∧ r.L.length ≤ 9223372036854775807) (fun es h => op_lr h) h
  simp only [List.cons.injEq, and_true] at h1
  exact ⟨o, c, S, h1, ⟨h2, fun r hr => (h4 r hr).1⟩, h3, fun r hr => (h4 r hr).2⟩
end Go.Proofs.YtkbfcofifhngfaaGreat
