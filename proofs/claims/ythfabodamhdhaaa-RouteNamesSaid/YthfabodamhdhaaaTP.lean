/- What reading the arguments of the laws of tours tells: a tour, a season. -/
import Derived.Test.YthfabodamhdhaaaTD
namespace Go.Proofs.Ythfabodamhdhaaa
open Go Tx Go.RowKit
set_option linter.unusedSimpArgs false
set_option linter.unusedVariables false
abbrev I64 (n : Int) : Prop := -9223372036854775808 ≤ n ∧ n ≤ 9223372036854775807
def shI : Shp := .int .i64
def shRg : Shp := .agg [shI, shI]
def shTw : Shp := .agg [.sl 2 shRg, shRg, shI, shI, shI, .sl 2 shRg, shI, shI]
def shTo : Shp := .agg [shI, shI, shI, .sl 9 shTw, .sl 1 (.sl 2 shRg)]
def shSp : Shp := .agg [shI, shI, shI]
theorem op_slc {α : Type} {w : World} {sz : Nat} {e : Shp} {f : α → List Value} {Q : α → Prop} (he : ∀ es, e.rd w es → ∃ x, es = f x ∧ Q x) {cs : List Value} (h : (Shp.sl sz e).rd w cs) :
 ∃ (o : Option Addr) (c : Nat) (xs : List α), cs = [.slice o xs.length c] ∧ Rd sz f (.slice o xs.length c) xs w ∧ xs.length ≤ 9223372036854775807 ∧ xs.length ≤ c ∧ ∀ x ∈ xs, Q x := by
 unfold Shp.rd at h
 rcases h with rfl | ⟨a, n, c, rfl, h1, h2, h3⟩
 · exact ⟨none, 0, [], rfl, .inl ⟨rfl, rfl⟩, by simp, by simp, fun x hx => by simp at hx⟩
 · obtain ⟨xs, hl, hb⟩ := list_of (Q := fun i (x : α) => (∀ j v, (f x)[j]? = some v → w.cell? ((a.add (i * sz)).add j) = some v) ∧ Q x) n fun i hi => by
    obtain ⟨es, _, e2, e3⟩ := h3 i hi
    obtain ⟨x, rfl, hx⟩ := he es e3
    exact ⟨x, e2, hx⟩
   subst hl
   exact ⟨some a, c, xs, rfl, .inr ⟨a, c, rfl, fun k b hk => (hb k b hk).1⟩, by unfold maxLen at h2; omega, h1, fun x hx => by
    obtain ⟨k, hk⟩ := List.mem_iff_getElem?.1 hx
    exact (hb k x hk).2⟩
theorem op_i {w : World} {es : List Value} (h : shI.rd w es) : ∃ n : Int, es = [iv n] ∧ I64 n := by
 simp only [shI, Shp.rd] at h
 obtain ⟨n, rfl, g⟩ := h
 exact ⟨n, rfl, wf64 g⟩
theorem op_ints {w : World} {cs : List Value} (h : (Shp.sl 1 shI).rd w cs) : ∃ (o : Option Addr) (c : Nat) (xs : List Int), cs = [.slice o xs.length c] ∧ Rd 1 iF (.slice o xs.length c) xs w ∧ xs.length ≤ 9223372036854775807 ∧ ∀ x ∈ xs, I64 x := by
 obtain ⟨o, c, xs, h1, h2, h3, _, h4⟩ := op_slc (f := iF) (Q := I64) (fun es h => op_i h) h
 exact ⟨o, c, xs, h1, h2, h3, h4⟩
theorem op_rg {w : World} {es : List Value} (h : shRg.rd w es) : ∃ r : Int × Int, es = prF r ∧ I64 r.1 ∧ I64 r.2 := by
 simp only [shRg, Shp.rd.eq_3, Shp.rds] at h
 obtain ⟨_, _, rfl, h1, _, _, rfl, h2, rfl⟩ := h
 obtain ⟨a, rfl, ha⟩ := op_i h1
 obtain ⟨b, rfl, hb⟩ := op_i h2
 exact ⟨(a, b), rfl, ha, hb⟩
theorem op_rgs {w : World} {cs : List Value} (h : (Shp.sl 2 shRg).rd w cs) : ∃ (o : Option Addr) (c : Nat) (xs : List (Int × Int)), cs = [.slice o xs.length c] ∧ Rd 2 prF (.slice o xs.length c) xs w ∧ xs.length ≤ 9223372036854775807 := by
 obtain ⟨o, c, xs, h1, h2, h3, _, _⟩ := op_slc (f := prF) (Q := fun r => I64 r.1 ∧ I64 r.2) (fun es h => op_rg h) h
 exact ⟨o, c, xs, h1, h2, h3⟩
theorem op_tw {w : World} {es : List Value} (h : shTw.rd w es) : ∃ t : Tn, es = Tn.cs t ∧ TnI0 t w := by
 simp only [shTw, Shp.rd.eq_3, Shp.rds] at h
 obtain ⟨_, _, rfl, h1, _, _, rfl, h2, _, _, rfl, h3, _, _, rfl, h4, _, _, rfl, h5, _, _, rfl, h6, _, _, rfl, h7, _, _, rfl, h8, rfl⟩ := h
 obtain ⟨oo, oc, O, rfl, a1, a2⟩ := op_rgs h1
 obtain ⟨⟨s1, s2⟩, rfl, _⟩ := op_rg h2
 obtain ⟨pay, rfl, _⟩ := op_i h3
 obtain ⟨lot, rfl, _⟩ := op_i h4
 obtain ⟨rent, rfl, _⟩ := op_i h5
 obtain ⟨ro, rc, R, rfl, b1, b2⟩ := op_rgs h6
 obtain ⟨cold, rfl, _⟩ := op_i h7
 obtain ⟨cut, rfl, _⟩ := op_i h8
 exact ⟨⟨oo, oc, ro, rc, ⟨O, s1, s2, pay, lot, rent, R, cold, cut⟩⟩, rfl, a1, b1, a2, b2⟩
theorem op_lr {w : World} {es : List Value} (h : (Shp.sl 2 shRg).rd w es) : ∃ r : Lr, es = Lr.cs r ∧ Rd 2 prF (.slice r.o r.L.length r.c) r.L w ∧ r.L.length ≤ 9223372036854775807 := by
 obtain ⟨o, c, xs, h1, h2, h3⟩ := op_rgs h
 exact ⟨⟨o, c, xs⟩, h1, h2, h3⟩
theorem op_tour {w : World} {cs : List Value} (h : shTo.rd w cs) : ∃ x : Tr, cs = x.cs ∧ TrI0 x w := by
 simp only [shTo, Shp.rd.eq_3, Shp.rds] at h
 obtain ⟨_, _, rfl, h1, _, _, rfl, h2, _, _, rfl, h3, _, _, rfl, h4, _, _, rfl, h5, rfl⟩ := h
 obtain ⟨days, rfl, _⟩ := op_i h1
 obtain ⟨shift, rfl, _⟩ := op_i h2
 obtain ⟨size, rfl, _⟩ := op_i h3
 obtain ⟨to, tc, T, rfl, a1, a2, a3, a4⟩ := op_slc (f := Tn.cs) (Q := fun t => TnI0 t w) (fun es h => op_tw h) h4
 obtain ⟨lo, lc, L, rfl, b1, b2, _, b4⟩ := op_slc (f := Lr.cs) (Q := fun r => Rd 2 prF (.slice r.o r.L.length r.c) r.L w ∧ r.L.length ≤ 9223372036854775807) (fun es h => op_lr h) h5
 exact ⟨⟨days, shift, size, to, tc, T, lo, lc, L⟩, rfl, a1, a4, b1, fun r hr => (b4 r hr).1, a2, b2, fun r hr => (b4 r hr).2, a3⟩
structure SpI0 (o : Option Addr) (c : Nat) (S : List (Int × Int × Int)) (w : World) : Prop where
 r : Rd 3 spF (.slice o S.length c) S w
 l : S.length ≤ 9223372036854775807
 c : S.length ≤ c
 n : ∀ s ∈ S, I64 s.1 ∧ I64 s.2.1 ∧ I64 s.2.2
theorem op_sp {w : World} {es : List Value} (h : shSp.rd w es) : ∃ s : Int × Int × Int, es = spF s ∧ I64 s.1 ∧ I64 s.2.1 ∧ I64 s.2.2 := by
 simp only [shSp, Shp.rd.eq_3, Shp.rds] at h
 obtain ⟨_, _, rfl, h1, _, _, rfl, h2, _, _, rfl, h3, rfl⟩ := h
 obtain ⟨a, rfl, ha⟩ := op_i h1
 obtain ⟨b, rfl, hb⟩ := op_i h2
 obtain ⟨c, rfl, hc⟩ := op_i h3
 exact ⟨(a, b, c), rfl, ha, hb, hc⟩
theorem op_season {w : World} {v : Value} (h : (Shp.sl 3 shSp).rd w [v]) : ∃ (o : Option Addr) (c : Nat) (S : List (Int × Int × Int)), v = .slice o S.length c ∧ SpI0 o c S w := by
 obtain ⟨o, c, S, h1, h2, h3, h4, h5⟩ := op_slc (f := spF) (Q := fun s => I64 s.1 ∧ I64 s.2.1 ∧ I64 s.2.2) (fun es h => op_sp h) h
 simp only [List.cons.injEq, and_true] at h1
 exact ⟨o, c, S, h1, h2, h3, h4, h5⟩
theorem op_ints1 {w : World} {v : Value} (h : (Shp.sl 1 shI).rd w [v]) : ∃ (o : Option Addr) (c : Nat) (xs : List Int), v = .slice o xs.length c ∧ Rd 1 iF (.slice o xs.length c) xs w ∧ xs.length ≤ 9223372036854775807 ∧ ∀ x ∈ xs, I64 x := by
 obtain ⟨o, c, xs, h1, h2⟩ := op_ints h
 simp only [List.cons.injEq, and_true] at h1
 exact ⟨o, c, xs, h1, h2⟩
end Go.Proofs.Ythfabodamhdhaaa
