/- What reading the arguments of the laws of courses tells: a course, stays, the stays of children. -/
import Derived.Test.YtpleibfohjbneaaGreatSC
namespace Go.Proofs.YtpleibfohjbneaaGreat
open Go Tx Go.RowKit
set_option linter.unusedSimpArgs false
set_option linter.unusedVariables false

abbrev I64 (n : Int) : Prop := -9223372036854775808 ≤ n ∧ n ≤ 9223372036854775807
def shI : Shp := .int .i64
def shC : Shp := .agg [.sl 1 shI, .int .i64, .sl 1 (.sl 1 shI)]
def shS : Shp := .agg [.int .i64, .sl 1 shI]
/-- A slice whose elements are told one by one. -/
theorem op_slc {α : Type} {w : World} {sz : Nat} {e : Shp} {f : α → List Value} {Q : α → Prop} (he : ∀ es, e.rd w es → ∃ x, es = f x ∧ Q x) {cs : List Value} (h : (Shp.sl sz e).rd w cs) :
    ∃ (o : Option Addr) (c : Nat) (xs : List α), cs = [.slice o xs.length c] ∧ Rd sz f (.slice o xs.length c) xs w ∧ xs.length ≤ 9223372036854775807 ∧ ∀ x ∈ xs, Q x := by
  unfold Shp.rd at h
  rcases h with rfl | ⟨a, n, c, rfl, h1, h2, h3⟩
  · exact ⟨none, 0, [], rfl, .inl ⟨rfl, rfl⟩, by simp, fun x hx => by simp at hx⟩
  · obtain ⟨xs, hl, hb⟩ := list_of (Q := fun i (x : α) => (∀ j v, (f x)[j]? = some v → w.cell? ((a.add (i * sz)).add j) = some v) ∧ Q x) n fun i hi => by
      obtain ⟨es, _, e2, e3⟩ := h3 i hi
      obtain ⟨x, rfl, hx⟩ := he es e3
      exact ⟨x, e2, hx⟩
    subst hl
    exact ⟨some a, c, xs, rfl, .inr ⟨a, c, rfl, fun k b hk => (hb k b hk).1⟩, by unfold maxLen at h2; omega, fun x hx => by
      obtain ⟨k, hk⟩ := List.mem_iff_getElem?.1 hx
      exact (hb k x hk).2⟩
theorem op_i {w : World} {es : List Value} (h : shI.rd w es) : ∃ n : Int, es = iF n ∧ I64 n := by
  simp only [shI, Shp.rd] at h
  obtain ⟨n, rfl, g⟩ := h
  exact ⟨n, rfl, wf64 g⟩
theorem op_ints {w : World} {cs : List Value} (h : (Shp.sl 1 shI).rd w cs) : ∃ (o : Option Addr) (c : Nat) (xs : List Int), cs = [.slice o xs.length c] ∧ Rd 1 iF (.slice o xs.length c) xs w ∧ xs.length ≤ 9223372036854775807 ∧ ∀ x ∈ xs, I64 x :=
  op_slc (f := iF) (Q := I64) (fun es h => op_i h) h
theorem op_rw {w : World} {es : List Value} (h : (Shp.sl 1 shI).rd w es) : ∃ r : Rw, es = Rw.cs r ∧ Rd 1 iF r.v r.xs w ∧ r.xs.length ≤ 9223372036854775807 := by
  obtain ⟨o, c, xs, h1, h2, h3, _⟩ := op_ints h
  exact ⟨⟨o, c, xs⟩, h1, h2, h3⟩
theorem op_sy {w : World} {es : List Value} (h : shS.rd w es) : ∃ s : Sy, es = Sy.cs s ∧ Rd 1 iF (.slice s.o s.xs.length s.c) s.xs w ∧ s.xs.length ≤ 9223372036854775807 := by
  simp only [shS, Shp.rd.eq_3, Shp.rd.eq_1, Shp.rds] at h
  obtain ⟨_, _, rfl, ⟨n0, rfl, g0⟩, _, _, rfl, h2, rfl⟩ := h
  obtain ⟨o, c, xs, rfl, h3, h4, _⟩ := op_ints h2
  exact ⟨⟨n0, o, c, xs⟩, rfl, h3, h4⟩
theorem op_stays {w : World} {cs : List Value} (h : (Shp.sl 2 shS).rd w cs) : ∃ (o : Option Addr) (c : Nat) (S : List Sy), cs = [.slice o S.length c] ∧ SyX o c S w := by
  obtain ⟨o, c, S, h1, h2, h3, h4⟩ := op_slc (f := Sy.cs) (Q := fun s => Rd 1 iF (.slice s.o s.xs.length s.c) s.xs w ∧ s.xs.length ≤ 9223372036854775807) (fun es h => op_sy h) h
  exact ⟨o, c, S, h1, h2, fun s hs => (h4 s hs).1, h3, fun s hs => (h4 s hs).2⟩
theorem op_stays1 {w : World} {v : Value} (h : (Shp.sl 2 shS).rd w [v]) : ∃ (o : Option Addr) (c : Nat) (S : List Sy), v = .slice o S.length c ∧ SyX o c S w := by
  obtain ⟨o, c, S, h1, h2⟩ := op_stays h
  simp only [List.cons.injEq, and_true] at h1
  exact ⟨o, c, S, h1, h2⟩
theorem op_course {w : World} {cs : List Value} (h : shC.rd w cs) : ∃ x : Cr, cs = x.cs ∧ CrX x w := by
  unfold shC at h
  simp only [Shp.rd.eq_3, Shp.rds] at h
  obtain ⟨_, _, rfl, h1, _, _, rfl, h2, _, _, rfl, h3, rfl⟩ := h
  obtain ⟨o, c, N, rfl, a1, a2, _⟩ := op_ints h1
  simp only [Shp.rd.eq_1] at h2
  obtain ⟨wk, rfl, _⟩ := h2
  obtain ⟨co, cc, C, rfl, b1, b2, b3⟩ := op_slc (f := Rw.cs) (Q := fun r => Rd 1 iF r.v r.xs w ∧ r.xs.length ≤ 9223372036854775807) (fun es h => op_rw h) h3
  exact ⟨⟨o, c, N, wk, co, cc, C⟩, rfl, a1, b1, fun r hr => (b3 r hr).1, a2, b2, fun r hr => (b3 r hr).2⟩
end Go.Proofs.YtpleibfohjbneaaGreat
