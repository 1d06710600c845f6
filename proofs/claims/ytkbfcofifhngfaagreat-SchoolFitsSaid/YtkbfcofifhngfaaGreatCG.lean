/- A table of numbers in new memory, each row in a block of its own, into which one may write; the least table. -/
import Derived.Test.YtkbfcofifhngfaaGreatCF
import Derived.Test.YtkbfcofifhngfaaGreatSM
import Derived.Laws.OwnMore
namespace Go.Proofs.YtkbfcofifhngfaaGreat
open Go Tx Go.RowKit
set_option linter.unusedSimpArgs false
set_option linter.unusedVariables false

/-- Where a table lies: its block and room, and those of its rows. -/
structure TbG where
  o : Nat
  c : Nat
  D : List (Nat × Nat)
abbrev TbG.v (y : TbG) : Value := .slice (some ⟨y.o, 0, none⟩) y.D.length y.c
/-- A table of rows of N numbers that says C, in blocks that are apart, from block m on. -/
structure TbIn (m N : Nat) (y : TbG) (C : List (List Int)) (w : World) : Prop where
  l : C.length = y.D.length
  n : ∀ r ∈ C, r.length = N
  h : w.ownsRow 0 36 1 (.slice (some ⟨y.o, 0, none⟩) y.D.length y.c) y.D.length (y.D.map fun p => .slice (some ⟨p.1, 0, none⟩) N p.2)
  r : ∀ (i : Nat) (p : Nat × Nat) (xs : List Int), y.D[i]? = some p → C[i]? = some xs → w.ownsRow 0 3 1 (.slice (some ⟨p.1, 0, none⟩) N p.2) N (xs.flatMap iF)
  d : (y.D.map Prod.fst).Nodup
  a : ∀ p ∈ y.D, m ≤ p.1 ∧ p.1 ≠ y.o
  m : m ≤ y.o
theorem own_blockT {w : World} {b n c sz ty : Nat} {xs : List Value} (h : w.ownsRow 0 ty sz (.slice (some ⟨b, 0, none⟩) n c) n xs) : ∃ cur, w.heap[b]? = some (.cells cur ty (0, 0)) := own_heap h
/-- Rows with where they lie. -/
def TbG.rw (y : TbG) (C : List (List Int)) : List Rw := (y.D.zip C).map fun p => ⟨some ⟨p.1.1, 0, none⟩, p.1.2, p.2⟩
theorem TbG.rw_len {y : TbG} {C : List (List Int)} (h : C.length = y.D.length) : (y.rw C).length = y.D.length := by simp [TbG.rw, h]
theorem TbG.rw_at {y : TbG} {C : List (List Int)} {i : Nat} {p : Nat × Nat} {xs : List Int} (h1 : y.D[i]? = some p) (h2 : C[i]? = some xs) : (y.rw C)[i]? = some ⟨some ⟨p.1, 0, none⟩, p.2, xs⟩ := by
  have hz : (y.D.zip C)[i]? = some (p, xs) := List.getElem?_zip_eq_some.2 ⟨h1, h2⟩
  simp only [TbG.rw, List.getElem?_map, hz, Option.map_some]
theorem TbG.rw_xs {y : TbG} {C : List (List Int)} (h : C.length = y.D.length) : (y.rw C).map Rw.xs = C := by
  have : (Rw.xs ∘ fun p : (Nat × Nat) × List Int => (⟨some ⟨p.1.1, 0, none⟩, p.1.2, p.2⟩ : Rw)) = Prod.snd := rfl
  rw [TbG.rw, List.map_map, this, List.map_snd_zip (by omega)]
theorem TbG.rw_mem {y : TbG} {C : List (List Int)} {r : Rw} (h : r ∈ y.rw C) : ∃ (i : Nat) (p : Nat × Nat) (xs : List Int), y.D[i]? = some p ∧ C[i]? = some xs ∧ r = ⟨some ⟨p.1, 0, none⟩, p.2, xs⟩ := by
  obtain ⟨i, hi⟩ := List.mem_iff_getElem?.1 h
  simp only [TbG.rw, List.getElem?_map] at hi
  cases hz : (y.D.zip C)[i]? with
  | none => rw [hz] at hi; cases hi
  | some q =>
    rw [hz, Option.map_some, Option.some.injEq] at hi
    obtain ⟨h1, h2⟩ := List.getElem?_zip_eq_some.1 hz
    exact ⟨i, q.1, q.2, h1, h2, hi.symm⟩
theorem TbIn.out {m N : Nat} {y : TbG} {C : List (List Int)} {w : World} (h : TbIn m N y C w) : Rd 1 Rw.cs (.slice (some ⟨y.o, 0, none⟩) y.D.length y.c) (y.rw C) w :=
  .inr ⟨⟨y.o, 0, none⟩, y.c, by rw [TbG.rw_len h.l], fun k b hk j v hv => by
    obtain ⟨i, p, xs, h1, h2, rfl⟩ : ∃ (i : Nat) (p : Nat × Nat) (xs : List Int), y.D[k]? = some p ∧ C[k]? = some xs ∧ b = ⟨some ⟨p.1, 0, none⟩, p.2, xs⟩ := by
      simp only [TbG.rw, List.getElem?_map] at hk
      cases hz : (y.D.zip C)[k]? with
      | none => rw [hz] at hk; cases hk
      | some q =>
        rw [hz, Option.map_some, Option.some.injEq] at hk
        obtain ⟨h1, h2⟩ := List.getElem?_zip_eq_some.1 hz
        exact ⟨k, q.1, q.2, h1, h2, hk.symm⟩
    match j, hv with
    | 0, hv =>
      have hN := h.n xs (List.mem_of_getElem? h2)
      have hv2 : (y.D.map fun p => Value.slice (some ⟨p.1, 0, none⟩) N p.2)[k]? = some v := by
        rw [List.getElem?_map, h1, Option.map_some, ← hN]; exact hv
      have := h.h.cells (g := y.o) rfl _ _ hv2
      rw [own_add, Nat.zero_add] at this
      rw [own_add, own_add, Nat.zero_add, Nat.mul_one]
      exact this⟩
theorem TbIn.row {m N : Nat} {y : TbG} {C : List (List Int)} {w : World} (h : TbIn m N y C w) : ∀ r ∈ y.rw C, Rd 1 iF (.slice r.o r.xs.length r.c) r.xs w := fun r hr => by
  obtain ⟨i, p, xs, h1, h2, rfl⟩ := TbG.rw_mem hr
  have hN := h.n xs (List.mem_of_getElem? h2)
  dsimp only
  have := h.r i p xs h1 h2
  rw [← hN] at this
  exact Rd.of_owns (sz := 1) (f := iF) (fun _ => rfl) rfl rfl this
/-- The table keeps while its blocks keep. -/
theorem TbIn.keep {m N : Nat} {y : TbG} {C : List (List Int)} {w w2 : World} (h : TbIn m N y C w) (hs : ∀ c, m ≤ c → c < w.heap.size → w2.heap[c]? = w.heap[c]?) : TbIn m N y C w2 :=
  ⟨h.l, h.n, own_keep h.h (hs _ h.m (by obtain ⟨c, hc⟩ := own_heap h.h; exact (Array.getElem?_eq_some_iff.1 hc).1)), fun i p xs h1 h2 => own_keep (h.r i p xs h1 h2) (hs _ (h.a p (List.mem_of_getElem? h1)).1 (by obtain ⟨c, hc⟩ := own_heap (h.r i p xs h1 h2); exact (Array.getElem?_eq_some_iff.1 hc).1)), h.d, h.a, h.m⟩
theorem TbIn.st {m N : Nat} {y : TbG} {C : List (List Int)} {w : World} (h : TbIn m N y C w) : St m (TbIn m N y C) w := fun w2 k => h.keep fun c h1 h2 => k.same c h1 h2
theorem TbIn.set {m N : Nat} {y : TbG} {C : List (List Int)} {w : World} {i j : Nat} {p : Nat × Nat} {xs0 : List Int} {v : Int} (h : TbIn m N y C w) (hr : y.D[i]? = some p) (hx0 : C[i]? = some xs0) (hj : j < N) :
    TbIn m N y (C.set i (xs0.set j v)) (w.setCell ⟨p.1, j, none⟩ (iv v)) := by
  have hpa := h.a p (List.mem_of_getElem? hr)
  have hN := h.n xs0 (List.mem_of_getElem? hx0)
  refine ⟨by rw [List.length_set]; exact h.l, fun r hm => ?_, own_keep h.h (setCell_other fun e => hpa.2 e.symm), fun k q xs hq hx => ?_, h.d, h.a, h.m⟩
  · rcases List.mem_or_eq_of_mem_set hm with hm | rfl
    · exact h.n r hm
    · rw [List.length_set]; exact hN
  · by_cases hp : k = i
    · subst hp
      rw [hr, Option.some.injEq] at hq
      subst hq
      rw [List.getElem?_set, if_pos rfl, if_pos (List.getElem?_eq_some_iff.1 hx0).1, Option.some.injEq] at hx
      subst hx
      have := (World.ownsRow.stored (h.r k p xs0 hr hx0) j (iv v)).1
      have e : (xs0.flatMap iF).set j (iv v) = (xs0.set j v).flatMap iF := by
        rw [← setF (by omega), List.set_eq_take_append_cons_drop, if_pos (by rw [lenF]; omega)]; rfl
      rw [e] at this
      exact this
    · rw [List.getElem?_set, if_neg (fun e => hp e.symm)] at hx
      refine own_keep (h.r k q xs hq hx) (setCell_other fun e => ?_)
      have e1 : (y.D.map Prod.fst)[k]? = some q.1 := by rw [List.getElem?_map, hq]; rfl
      have e2 : (y.D.map Prod.fst)[i]? = some p.1 := by rw [List.getElem?_map, hr]; rfl
      have e : q.1 = p.1 := e
      rw [e] at e1
      exact hp ((List.getElem?_inj (List.getElem?_eq_some_iff.1 e1).1 h.d).1 (e1.trans e2.symm))
theorem TbIn.at {m N : Nat} {y : TbG} {C : List (List Int)} {w : World} {i j : Nat} {p : Nat × Nat} {xs0 : List Int} (h : TbIn m N y C w) (hr : y.D[i]? = some p) (hx0 : C[i]? = some xs0) (hj : j < N) :
    (∃ cs ty fr, w.heap[p.1]? = some (.cells cs ty fr) ∧ j < cs.size) ∧ w.frozen? ⟨p.1, j, none⟩ = false := by
  have q3 := h.r i p xs0 hr hx0
  have hN := h.n xs0 (List.mem_of_getElem? hx0)
  obtain ⟨e1, (⟨h1, _⟩ | ⟨g, cap, cur, h1, _, h2, h3, _, h4, h5⟩)⟩ := h.r i p xs0 hr hx0
  · cases h1
  · simp only [Value.slice.injEq, Option.some.injEq, Addr.mk.injEq] at h1
    obtain ⟨⟨rfl, _⟩, _⟩ := h1
    refine ⟨⟨cur, _, _, h2, ?_⟩, World.ownsRow.frozenAt q3 j⟩
    have h3 : N ≤ _ := h3
    omega
theorem below_set {n : Nat} {w w2 : World} {ad : Addr} {v : Value} (h : Below n w w2) (hn : n ≤ ad.block) : Below n w (w2.setCell ad v) := by
  have h3 : (w2.setCell ad v).heap.size = w2.heap.size := setCell_size
  refine ⟨h.os, h.tape, h.output, by rw [h3]; exact h.size, fun b hb => ?_⟩
  rw [setCell_other (by omega)]
  exact h.block b hb

end Go.Proofs.YtkbfcofifhngfaaGreat
