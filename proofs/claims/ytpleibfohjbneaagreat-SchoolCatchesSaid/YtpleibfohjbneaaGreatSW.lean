/- A course in new memory, said so that one may write into its rows: what Course returns. -/
import Derived.Test.YtpleibfohjbneaaGreatSV
namespace Go.Proofs.YtpleibfohjbneaaGreat
open Go Tx Go.RowKit
set_option linter.unusedSimpArgs false
set_option linter.unusedVariables false

/-- A course in new memory. -/
abbrev crG (av : Nat → Prop) (N : List Int) {CC : List (List Int)} (y : (Nat × Nat) × RwG CC) (w : World) : Prop := (Ro.In ⟨y.1.1, y.1.2, N⟩ w ∧ ¬ av y.1.1) ∧ y.2.In (fun b => av b ∨ b = y.1.1) w
set_option maxHeartbeats 3200000 in
theorem CourseG_ok (x : Cr) (w : World) (av : Nat → Prop) (hav : ∀ b, av b → b < w.heap.size) (h : CrIn x w) (h1 : 1 ≤ x.C.length) (hN0 : x.N ≠ []) (hr0 : ∀ r ∈ x.C, r.xs ≠ []) : Calls Tryz.prog 30 #[x.v] w fun e w' => ∃ y : (Nat × Nat) × RwG x.CC, e = .returned (.agg #[.slice (some ⟨y.1.1, 0, none⟩) x.N.length y.1.2, iv x.wk, y.2.v]) ∧ Below w.heap.size w w' ∧
    St w.heap.size (crG av x.N y) w' := by
  obtain ⟨no, nc, N, wk, co, cc, C⟩ := x
  dsimp only at h1 hN0 hr0
  go_enter Tryz.func30, Tryz.ntmps30
  go_wp
  go_region_held3 (fun w' => Below w.heap.size w w' ∧ w'.cell? ⟨w.heap.size, 0, none⟩ = some (.slice no N.length nc) ∧ w'.cell? ⟨w.heap.size, 1, none⟩ = some (iv wk) ∧ w'.cell? ⟨w.heap.size, 2, none⟩ = some (.slice co C.length cc))
    ((first | exact box3_new | exact box3_set (by assumption) | exact box3_below (by assumption) hb2 | exact box3_below (by assumption) hb))
    (first
      | (go_at_call 47; refine (list_ro N no nc w _ av [] ?_ hN0 h.nl ?_ hav (fun r hr => by cases hr)).mono ?_; (exact h.n.below (And.left (by assumption))); (exact And.left (by assumption)); rintro e w' ⟨y, rfl, hb, hst⟩)
      | (go_at_call 66; refine (rowsG_ok C co cc _ (fun b => av b ∨ b = y.1) ?_ ?_ ?_ h1 h.cl hr0 h.rl).mono ?_; (rintro b (hb' | rfl) <;> first | exact Nat.lt_of_lt_of_le (hav b hb') (Below.size (And.left (by assumption))) | exact Ro.lt (r := ⟨y.1, y.2, N⟩) (St.now (And.left (St.now hst)))); (exact h.c.below (And.left (by assumption))); (exact h.r.below (And.left (by assumption))); rintro e w' ⟨y2, rfl, hb2, hst2⟩; have hB := box3_zero hb hb2; have hS := box3_below (box3_below box3_new hb) hb2; have c0 : w'.cell? ⟨w.heap.size + 1, 0, none⟩ = some (.slice none 0 0) := (cell_of hB.1 rfl); have c1 : w'.cell? ⟨w.heap.size + 1, 1, none⟩ = some (iv 0) := (cell_of hB.1 rfl); have c2 : w'.cell? ⟨w.heap.size + 1, 2, none⟩ = some (.slice none 0 0) := (cell_of hB.1 rfl); have f0 : w'.frozen? ⟨w.heap.size + 1, 0, none⟩ = false := (frozen_of hB.1); have f1 : w'.frozen? ⟨w.heap.size + 1, 1, none⟩ = false := (frozen_of hB.1); have f2 : w'.frozen? ⟨w.heap.size + 1, 2, none⟩ = false := (frozen_of hB.1)))
  go_wp2
  have hHh := And.left (by assumption : Below w.heap.size w _ ∧ _)
  have h0 : Tryz.f30.results = #[.cell 2 63] := by kernel_rfl
  have hc := set3 (u0 := .slice (some ⟨y.1, 0, none⟩) N.length y.2) (u1 := .int .i64 wk) (u2 := .slice (some y2.o) y2.D.length y2.c) hB.1
  have hld := ld63 hc
  refine ⟨rfl, .agg #[.slice (some ⟨y.1, 0, none⟩) N.length y.2, iv wk, y2.v], ?_, (y, y2), rfl, hHh, ?_⟩
  · simp only [results, h0]
    simp only [List.mapM_toArray, List.mapM_cons, List.mapM_nil, Sem.run_bind, Sem.run_map, Sem.run_pure, Result.andThen_ok]
    show (((((asAddr (.pointer (some ⟨w.heap.size + 1, 0, none⟩))).run Tryz.prog _).andThen fun a w' => (loadVar 63 a).run Tryz.prog w').andThen fun a w' => Result.ok [a] w').andThen fun a w' => Result.ok a.toArray w').andThen (fun a w' => Result.ok (if h : a.size = 1 then a[0] else Value.tuple a) w') = _
    rw [hld]
    rfl
  · have h1 := st_set (w := w) (u0 := .slice (some ⟨y.1, 0, none⟩) N.length y.2) (u1 := iv wk) (u2 := .slice (some y2.o) y2.D.length y2.c) hst (by rw [heap2s]; exact Nat.le_refl _) hb.size hb2
    have h2 := st_set (w := w) (w1 := w') (u0 := .slice (some ⟨y.1, 0, none⟩) N.length y.2) (u1 := iv wk) (u2 := .slice (some y2.o) y2.D.length y2.c) hst2 hB.2 hb2.size (Below.refl _ _)
    exact (h1.imp fun w2 q => ⟨q.1.now, q.2.1⟩).and h2
end Go.Proofs.YtpleibfohjbneaaGreat
