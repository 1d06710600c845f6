/- The load after some ticks: what the function returns. -/
import Derived.Test.YtlehjapeomallaaF6
namespace Go.Proofs.Ytlehjapeomallaa
open Go Sx Go.RowKit

theorem flat_get {α : Type} {sz : Nat} {f : α → List Value} (hf : ∀ x, (f x).length = sz) : ∀ (bs : List α) (k j : Nat) (b : α) (v : Value), bs[k]? = some b → (f b)[j]? = some v → (bs.flatMap f)[k * sz + j]? = some v
  | [], k, j, b, v, h, _ => by simp at h
  | x :: r, 0, j, b, v, h, hv => by
    simp only [List.getElem?_cons_zero, Option.some.injEq] at h
    subst h
    have hj : j < (f x).length := (List.getElem?_eq_some_iff.1 hv).1
    rw [List.flatMap_cons, Nat.zero_mul, Nat.zero_add, List.getElem?_append_left hj, hv]
  | x :: r, k + 1, j, b, v, h, hv => by
    have ih := flat_get hf r k j b v (by simpa using h) hv
    rw [List.flatMap_cons, List.getElem?_append_right (by rw [hf, Nat.succ_mul]; omega), hf, Nat.succ_mul]
    rw [show k * sz + sz + j - sz = k * sz + j from by omega]
    exact ih

theorem Rd.of_cells {α : Type} {sz : Nat} {f : α → List Value} (hf : ∀ x, (f x).length = sz) {bs : List α} {w : World} {b : Nat} {ty : TypeId} {c n : Nat} (hn : n = bs.length) (h : w.heap[b]? = some (.cells (bs.flatMap f).toArray ty (0, 0))) :
    Rd sz f (.slice (some ⟨b, 0, none⟩) n c) bs w := by
  subst hn
  refine .inr ⟨_, _, rfl, fun k x hk j v hv => ?_⟩
  rw [own_add, own_add, Nat.zero_add, cell_of_row w b _ _ ty (0, 0) h, List.getElem?_toArray]
  exact flat_get hf bs k j x v hk hv

theorem Rd.of_owns {α : Type} {sz : Nat} {f : α → List Value} (hf : ∀ x, (f x).length = sz) {bs : List α} {w : World} {b base : Nat} {ty : TypeId} {c n : Nat} {xs : List Value} (hx : xs = bs.flatMap f) (hn : n = bs.length)
    (h : w.ownsRow base ty sz (.slice (some ⟨b, 0, none⟩) n c) n xs) : Rd sz f (.slice (some ⟨b, 0, none⟩) n c) bs w := by
  subst hn hx
  refine .inr ⟨_, _, rfl, fun k x hk j v hv => ?_⟩
  have := h.cells (g := b) rfl _ _ (flat_get hf bs k j x v hk hv)
  rw [own_add, Nat.zero_add] at this
  rw [own_add, own_add, Nat.zero_add]
  exact this

/-- A flight; its catcher's boxes are named by their slice. -/
structure Fg where
  f : Fl
  o : Option Addr
  n : Nat
  c : Nat
  re : Int
  so : Int
  be : Int
  le : Int
  mo : Int
abbrev Fg.v (g : Fg) : Value := .agg #[iv g.f.a.x.lo, iv g.f.a.x.hi, iv g.f.a.z.lo, iv g.f.a.z.hi, iv g.f.s.x.lo, iv g.f.s.x.hi, iv g.f.s.z.lo, iv g.f.s.z.hi, iv g.f.m, .slice g.o g.n g.c, iv g.re, iv g.so, iv g.be, iv g.le, iv g.mo]

/-- What is borne after t ticks. -/
def ldF (f : Fl) (so t : Int) : Int := f.m * (98 + (gr [f.s.x.lo, f.s.x.hi, f.s.z.lo - 98 * t, f.s.z.hi - 98 * t] + so - 1) / so)

theorem ld_bd {f : Fl} (hf : f.ok = true) {so t : Int} (hs : 1 ≤ so ∧ so ≤ 100) (h0 : 0 ≤ t) (h1 : t ≤ 300) :
    (0 ≤ gr [f.s.x.lo, f.s.x.hi, f.s.z.lo - 98 * t, f.s.z.hi - 98 * t] ∧ gr [f.s.x.lo, f.s.x.hi, f.s.z.lo - 98 * t, f.s.z.hi - 98 * t] ≤ 40000) ∧
    (0 ≤ (gr [f.s.x.lo, f.s.x.hi, f.s.z.lo - 98 * t, f.s.z.hi - 98 * t] + so - 1) / so ∧ (gr [f.s.x.lo, f.s.x.hi, f.s.z.lo - 98 * t, f.s.z.hi - 98 * t] + so - 1) / so ≤ 40100) ∧ 0 ≤ ldF f so t ∧ ldF f so t ≤ 200 * 40198 := by
  have hf' := Fl.ok_iff.1 hf
  have a := gr_bd [f.s.x.lo, f.s.x.hi, f.s.z.lo - 98 * t, f.s.z.hi - 98 * t] 40000 (by omega) (fun x hx => by
    simp only [List.mem_cons, List.not_mem_nil, or_false] at hx
    rcases hx with rfl | rfl | rfl | rfl <;> omega)
  have b1 : 0 ≤ (gr [f.s.x.lo, f.s.x.hi, f.s.z.lo - 98 * t, f.s.z.hi - 98 * t] + so - 1) / so := Int.ediv_nonneg (by omega) (by omega)
  have b2 : (gr [f.s.x.lo, f.s.x.hi, f.s.z.lo - 98 * t, f.s.z.hi - 98 * t] + so - 1) / so ≤ 40100 := by
    have := Int.ediv_le_self so (show 0 ≤ gr [f.s.x.lo, f.s.x.hi, f.s.z.lo - 98 * t, f.s.z.hi - 98 * t] + so - 1 by omega)
    omega
  have c1 : 0 ≤ ldF f so t := Int.mul_nonneg (by omega) (by omega)
  have c2 : ldF f so t ≤ 200 * 40198 := Int.mul_le_mul (by omega) (by omega) (by omega) (by omega)
  exact ⟨a, ⟨b1, b2⟩, c1, c2⟩

set_option maxRecDepth 100000 in
theorem load_ok (g : Fg) (t : Int) (w : World) (hf : g.f.ok = true) (hs : 1 ≤ g.so ∧ g.so ≤ 100) (h0 : 0 ≤ t) (h1 : t ≤ 300) :
    Calls Try.prog 70 #[g.v, iv t] w fun e w' => e = .returned (iv (ldF g.f g.so t)) ∧ Below w.heap.size w w' := by
  have hb := ld_bd hf hs h0 h1
  have hf' := Fl.ok_iff.1 hf
  refine calls_val env mixed Try.func70 has70 Try.ntmps70 [g.v, iv t] (by simp) ?_
  have hm : IR .i64 (ldF g.f g.so t) := ⟨by omega, by omega⟩
  repeat'
    conv => whnf
    first
      | refine And.intro (a := drawB _ = true) (by kernel_rfl) ?_
      | refine And.intro (a := (_ : Bool) = true) rfl ?_
      | refine And.intro (a := (_ : Bool) = true ∧ (_ : Bool) = true) ⟨rfl, rfl⟩ ?_
      | refine And.intro (a := (_ : Bool) = true ∧ (_ : List _) = []) ⟨rfl, rfl⟩ ?_
      | refine And.intro (a := IR _ _) (And.intro (by omega) (by omega)) ?_
      | refine And.intro (a := (0 : Int) ≤ _ ∧ _ < _) (And.intro (by omega) (by omega)) ?_
      | refine splT ?_
      | refine splF ?_
      | refine splNot ?_
      | (refine splIn (fun hc => ?_) (fun hc => ?_) <;> first | (exfalso; omega) | skip)
      | (refine splD (fun hc => ?_) (fun hc => ?_) <;> first | (exfalso; omega) | skip)
      | (refine splE (fun hc => ?_) (fun hc => ?_) <;> first | (exfalso; omega) | skip)
      | (refine splNE (fun hc => ?_) (fun hc => ?_) <;> first | (exfalso; omega) | skip)
      | refine And.intro (a := IR _ _) hm ?_
      | refine quoE (by omega) (by omega) (And.intro (by omega) (by omega)) ?_
      | ((with_reducible show CallEv _ _ 90 _ _ _ _ _); refine callE (k := 90) (fun β w' _ => sunk_ok _ _ _ _ (by omega) (by omega) (by omega)) ?_)
      | ((with_reducible show CallEv _ _ 91 _ _ _ _ _); refine callM (k := 91) [3] (fun β w' hbk _ => greatest_ok ⟨β 3, 0, none⟩ 4 [g.f.s.x.lo, g.f.s.x.hi, g.f.s.z.lo - 98 * t, g.f.s.z.hi - 98 * t] w' (Rd.of_cells (f := iF) (bs := [g.f.s.x.lo, g.f.s.x.hi, g.f.s.z.lo - 98 * t, g.f.s.z.hi - 98 * t]) (fun _ => rfl) rfl (hbk 3 (by simp) _ rfl)) (by simp) (by intro x hx; simp only [List.mem_cons, List.not_mem_nil, or_false] at hx; rcases hx with rfl | rfl | rfl | rfl <;> omega)) ?_)
  exact ⟨fun β => rfl, fun w' h => h⟩
end Go.Proofs.Ytlehjapeomallaa
