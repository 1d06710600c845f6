/- A table of numbers in new memory, each row in a block of its own, into which one may write; the least table. -/
import Derived.Test.YthfabodamhdhaaaRY
import Derived.Laws.OwnMore
namespace Go.Proofs.Ythfabodamhdhaaa
open Go Tx Go.RowKit
set_option linter.unusedSimpArgs false
set_option linter.unusedVariables false
structure TbG where
 o : Nat
 c : Nat
 D : List (Nat × Nat)
abbrev TbG.v (y : TbG) : Value := .slice (some ⟨y.o, 0, none⟩) y.D.length y.c
structure TbIn (m N : Nat) (y : TbG) (C : List (List Int)) (w : World) : Prop where
 l : C.length = y.D.length
 n : ∀ r ∈ C, r.length = N
 h : w.ownsRow 0 43 1 (.slice (some ⟨y.o, 0, none⟩) y.D.length y.c) y.D.length (y.D.map fun p => .slice (some ⟨p.1, 0, none⟩) N p.2)
 r : ∀ (i : Nat) (p : Nat × Nat) (xs : List Int), y.D[i]? = some p → C[i]? = some xs → w.ownsRow 0 3 1 (.slice (some ⟨p.1, 0, none⟩) N p.2) N (xs.flatMap iF)
 d : (y.D.map Prod.fst).Nodup
 a : ∀ p ∈ y.D, m ≤ p.1 ∧ p.1 ≠ y.o
 m : m ≤ y.o
theorem own_block {w : World} {b n c sz ty : Nat} {xs : List Value} (h : w.ownsRow 0 ty sz (.slice (some ⟨b, 0, none⟩) n c) n xs) : ∃ cur, w.heap[b]? = some (.cells cur ty (0, 0)) := own_heap h
def TbG.rw (y : TbG) (C : List (List Int)) : List Iw := (y.D.zip C).map fun p => ⟨some ⟨p.1.1, 0, none⟩, p.1.2, p.2⟩
theorem TbG.rw_len {y : TbG} {C : List (List Int)} (h : C.length = y.D.length) : (y.rw C).length = y.D.length := by simp [TbG.rw, h]
theorem TbG.rw_at {y : TbG} {C : List (List Int)} {i : Nat} {p : Nat × Nat} {xs : List Int} (h1 : y.D[i]? = some p) (h2 : C[i]? = some xs) : (y.rw C)[i]? = some ⟨some ⟨p.1, 0, none⟩, p.2, xs⟩ := by
 have hz : (y.D.zip C)[i]? = some (p, xs) := List.getElem?_zip_eq_some.2 ⟨h1, h2⟩
 simp only [TbG.rw, List.getElem?_map, hz, Option.map_some]
theorem TbG.rw_xs {y : TbG} {C : List (List Int)} (h : C.length = y.D.length) : (y.rw C).map Iw.xs = C := by
 have : (Iw.xs ∘ fun p : (Nat × Nat) × List Int => (⟨some ⟨p.1.1, 0, none⟩, p.1.2, p.2⟩ : Iw)) = Prod.snd := rfl
 rw [TbG.rw, List.map_map, this, List.map_snd_zip (by omega)]
theorem TbG.rw_mem {y : TbG} {C : List (List Int)} {r : Iw} (h : r ∈ y.rw C) : ∃ (i : Nat) (p : Nat × Nat) (xs : List Int), y.D[i]? = some p ∧ C[i]? = some xs ∧ r = ⟨some ⟨p.1, 0, none⟩, p.2, xs⟩ := by
 obtain ⟨i, hi⟩ := List.mem_iff_getElem?.1 h
 simp only [TbG.rw, List.getElem?_map] at hi
 cases hz : (y.D.zip C)[i]? with
 | none => rw [hz] at hi; cases hi
 | some q =>
  rw [hz, Option.map_some, Option.some.injEq] at hi
  obtain ⟨h1, h2⟩ := List.getElem?_zip_eq_some.1 hz
  exact ⟨i, q.1, q.2, h1, h2, hi.symm⟩
theorem TbIn.out {m N : Nat} {y : TbG} {C : List (List Int)} {w : World} (h : TbIn m N y C w) : Rd 1 Iw.cs (.slice (some ⟨y.o, 0, none⟩) y.D.length y.c) (y.rw C) w :=
 .inr ⟨⟨y.o, 0, none⟩, y.c, by rw [TbG.rw_len h.l], fun k b hk j v hv => by
  obtain ⟨i, p, xs, h1, h2, rfl⟩ : ∃ (i : Nat) (p : Nat × Nat) (xs : List Int), y.D[k]? = some p ∧ C[k]? = some xs ∧ b = ⟨some ⟨p.1, 0, none⟩, p.2, xs⟩ := by
   simp only [TbG.rw, List.getElem?_map] at hk
   cases hz : (y.D.zip C)[k]? with
   | none => rw [hz] at hk; cases hk
   | some q =>
    rw [hz, Option.map_some, Option.some.injEq] at hk
    obtain ⟨h1, h2⟩ := List.getElem?_zip_eq_some.1 hz
    exact ⟨k, q.1, q.2, h1, h2, hk.symm⟩
  match j, hv with
  | 0, hv =>
   have hN := h.n xs (List.mem_of_getElem? h2)
   have hv2 : (y.D.map fun p => Value.slice (some ⟨p.1, 0, none⟩) N p.2)[k]? = some v := by
    rw [List.getElem?_map, h1, Option.map_some, ← hN]; exact hv
   have := h.h.cells (g := y.o) rfl _ _ hv2
   rw [own_add, Nat.zero_add] at this
   rw [own_add, own_add, Nat.zero_add, Nat.mul_one]
   exact this⟩
theorem TbIn.row {m N : Nat} {y : TbG} {C : List (List Int)} {w : World} (h : TbIn m N y C w) : ∀ r ∈ y.rw C, Rd 1 iF (.slice r.o r.xs.length r.c) r.xs w := fun r hr => by
 obtain ⟨i, p, xs, h1, h2, rfl⟩ := TbG.rw_mem hr
 have hN := h.n xs (List.mem_of_getElem? h2)
 dsimp only
 have := h.r i p xs h1 h2
 rw [← hN] at this
 exact Rd.of_owns (sz := 1) (f := iF) (fun _ => rfl) rfl rfl this
theorem TbIn.keep {m N : Nat} {y : TbG} {C : List (List Int)} {w w2 : World} (h : TbIn m N y C w) (hs : ∀ c, m ≤ c → c < w.heap.size → w2.heap[c]? = w.heap[c]?) : TbIn m N y C w2 :=
 ⟨h.l, h.n, own_keep h.h (hs _ h.m (by obtain ⟨c, hc⟩ := own_heap h.h; exact (Array.getElem?_eq_some_iff.1 hc).1)), fun i p xs h1 h2 => own_keep (h.r i p xs h1 h2) (hs _ (h.a p (List.mem_of_getElem? h1)).1 (by obtain ⟨c, hc⟩ := own_heap (h.r i p xs h1 h2); exact (Array.getElem?_eq_some_iff.1 hc).1)), h.d, h.a, h.m⟩
theorem TbIn.st {m N : Nat} {y : TbG} {C : List (List Int)} {w : World} (h : TbIn m N y C w) : St m (TbIn m N y C) w := fun w2 k => h.keep fun c h1 h2 => k.same c h1 h2
theorem TbIn.set {m N : Nat} {y : TbG} {C : List (List Int)} {w : World} {i j : Nat} {p : Nat × Nat} {xs0 : List Int} {v : Int} (h : TbIn m N y C w) (hr : y.D[i]? = some p) (hx0 : C[i]? = some xs0) (hj : j < N) :
 TbIn m N y (C.set i (xs0.set j v)) (w.setCell ⟨p.1, j, none⟩ (iv v)) := by
 have hpa := h.a p (List.mem_of_getElem? hr)
 have hN := h.n xs0 (List.mem_of_getElem? hx0)
 refine ⟨by rw [List.length_set]; exact h.l, fun r hm => ?_, own_keep h.h (setCell_other fun e => hpa.2 e.symm), fun k q xs hq hx => ?_, h.d, h.a, h.m⟩
 · rcases List.mem_or_eq_of_mem_set hm with hm | rfl
   · exact h.n r hm
   · rw [List.length_set]; exact hN
 · by_cases hp : k = i
   · subst hp
     rw [hr, Option.some.injEq] at hq
     subst hq
     rw [List.getElem?_set, if_pos rfl, if_pos (List.getElem?_eq_some_iff.1 hx0).1, Option.some.injEq] at hx
     subst hx
     have := (World.ownsRow.stored (h.r k p xs0 hr hx0) j (iv v)).1
     have e : (xs0.flatMap iF).set j (iv v) = (xs0.set j v).flatMap iF := by
      rw [← setF (by omega), List.set_eq_take_append_cons_drop, if_pos (by rw [lenF]; omega)]; rfl
     rw [e] at this
     exact this
   · rw [List.getElem?_set, if_neg (fun e => hp e.symm)] at hx
     refine own_keep (h.r k q xs hq hx) (setCell_other fun e => ?_)
     have e1 : (y.D.map Prod.fst)[k]? = some q.1 := by rw [List.getElem?_map, hq]; rfl
     have e2 : (y.D.map Prod.fst)[i]? = some p.1 := by rw [List.getElem?_map, hr]; rfl
     have e : q.1 = p.1 := e
     rw [e] at e1
     exact hp ((List.getElem?_inj (List.getElem?_eq_some_iff.1 e1).1 h.d).1 (e1.trans e2.symm))
theorem TbIn.at {m N : Nat} {y : TbG} {C : List (List Int)} {w : World} {i j : Nat} {p : Nat × Nat} {xs0 : List Int} (h : TbIn m N y C w) (hr : y.D[i]? = some p) (hx0 : C[i]? = some xs0) (hj : j < N) :
 (∃ cs ty fr, w.heap[p.1]? = some (.cells cs ty fr) ∧ j < cs.size) ∧ w.frozen? ⟨p.1, j, none⟩ = false := by
 have q3 := h.r i p xs0 hr hx0
 have hN := h.n xs0 (List.mem_of_getElem? hx0)
 obtain ⟨e1, (⟨h1, _⟩ | ⟨g, cap, cur, h1, _, h2, h3, _, h4, h5⟩)⟩ := h.r i p xs0 hr hx0
 · cases h1
 · simp only [Value.slice.injEq, Option.some.injEq, Addr.mk.injEq] at h1
   obtain ⟨⟨rfl, _⟩, _⟩ := h1
   refine ⟨⟨cur, _, _, h2, ?_⟩, World.ownsRow.frozenAt q3 j⟩
   have h3 : N ≤ _ := h3
   omega
theorem below_set {n : Nat} {w w2 : World} {ad : Addr} {v : Value} (h : Below n w w2) (hn : n ≤ ad.block) : Below n w (w2.setCell ad v) := by
 have h3 : (w2.setCell ad v).heap.size = w2.heap.size := setCell_size
 refine ⟨h.os, h.tape, h.output, by rw [h3]; exact h.size, fun b hb => ?_⟩
 rw [setCell_other (by omega)]
 exact h.block b hb
def setT (R : List (List Int)) (a d : Nat) (v : Int) : List (List Int) := R.set a (((R[a]?).getD []).set d v)
def tabA (x : To) (F : List Int) (d : Nat) : Nat → List (List Int) → List (List Int)
 | 0, R => R
 | a + 1, R => setT (tabA x F d a R) a d (asO x F (tabA x F d a R) a d)
def tabK (x : To) (F : List Int) : Nat → List (List Int)
 | 0 => List.replicate x.T.length (List.replicate (x.days.toNat + 1) 0)
 | k + 1 => tabA x F (x.days.toNat - k) x.T.length (tabK x F k)
def tabO (x : To) (F : List Int) : List (List Int) := tabK x F (x.days.toNat + 1)
def bdO (F : List Int) (R : List (List Int)) : Int := smO F (tbO R 0 0)
structure TbS (n N : Nat) (M : Int) (R : List (List Int)) : Prop where
 l : R.length = n
 n : ∀ r ∈ R, r.length = N
 b : TbB M R
theorem setT_s {n N : Nat} {M M' : Int} {R : List (List Int)} (h : TbS n N M R) (hM : M ≤ M') {a d : Nat} {v : Int} (hv : -1000000000000 ≤ v ∧ v ≤ M') (ha : a < n) : TbS n N M' (setT R a d v) := by
 obtain ⟨r, hr⟩ : ∃ r, R[a]? = some r := ⟨_, List.getElem?_eq_getElem (by rw [h.l]; exact ha)⟩
 have hm := List.mem_of_getElem? hr
 unfold setT
 rw [hr, Option.getD_some]
 refine ⟨by rw [List.length_set]; exact h.l, fun q hq => ?_, fun q hq k hk => ?_⟩
 · rcases List.mem_or_eq_of_mem_set hq with hq | rfl
   · exact h.n q hq
   · rw [List.length_set]; exact h.n r hm
 · rcases List.mem_or_eq_of_mem_set hq with hq | rfl
   · have := h.b q hq k hk; omega
   · rcases List.mem_or_eq_of_mem_set hk with hk | rfl
     · have := h.b r hm k hk; omega
     · exact hv
theorem tabA_s {x : To} {F : List Int} (hn : ToN x) (hF : FeB F) {N d : Nat} {M : Int} (hM : 0 ≤ M) {R : List (List Int)} (h : TbS x.T.length N M R) : ∀ a, a ≤ x.T.length → TbS x.T.length N (M + 10000000 * a) (tabA x F d a R)
 | 0, _ => by simpa [tabA] using h
 | a + 1, ha => by
  have ih := tabA_s hn hF hM h (d := d) a (by omega)
  have hb := asO_bd hn hF ih.b (by omega) a d
  exact setT_s ih (by omega) ⟨hb.1, by omega⟩ (by omega)
theorem tabK_s {x : To} {F : List Int} (hn : ToN x) (hF : FeB F) : ∀ k : Nat, TbS x.T.length (x.days.toNat + 1) (90000000 * (k : Int)) (tabK x F k)
 | 0 => ⟨by simp [tabK], fun r hr => by rw [tabK] at hr; rw [List.eq_of_mem_replicate hr, List.length_replicate], fun r hr n hnr => by rw [tabK] at hr; rw [List.eq_of_mem_replicate hr] at hnr; rw [List.eq_of_mem_replicate hnr]; omega⟩
 | k + 1 => by
  have ih := tabK_s hn hF k
  have h := tabA_s hn hF (d := x.days.toNat - k) (by omega) ih x.T.length (Nat.le_refl _)
  have h9 := hn.n
  refine ⟨h.l, h.n, fun r hr n hm => ?_⟩
  have := h.b r hr n hm
  omega
end Go.Proofs.Ythfabodamhdhaaa
