/- A course said in the program's types, in new memory: what Course returns (by the kit's walk: its region draws the order of loads and calls). -/
import Derived.Test.YtpleibfohjbneaaGreatSE
import Derived.Tactics
import Derived.Tactics2
import Derived.WalkKit
import Derived.WalkSpells
import Derived.StillTactics
import Derived.Laws.Pointers
import Derived.Deep.RegionHeld3
import Derived.KernelRfl
namespace Go.Proofs.YtpleibfohjbneaaGreat
open Go Tx Go.RowKit
set_option linter.unusedSimpArgs false
set_option linter.unusedVariables false

set_option maxHeartbeats 3200000 in
theorem Course_ok (x : Cr) (w : World) (h : CrIn x w) : Calls Tryz.prog 30 #[x.v] w fun e w' => ∃ (na : Option Addr × Nat) (y : Rws x.CC), e = .returned (.agg #[sV x.N.length na, iv x.wk, y.v]) ∧ Below w.heap.size w w' ∧
    St w.heap.size (fun w2 => Rd 1 iF (sV x.N.length na) x.N w2 ∧ y.In w2) w' := by
  obtain ⟨no, nc, N, wk, co, cc, C⟩ := x
  go_enter Tryz.func30, Tryz.ntmps30
  go_wp
  go_region_held3 (fun w' => Below w.heap.size w w' ∧ w'.cell? ⟨w.heap.size, 0, none⟩ = some (.slice no N.length nc) ∧ w'.cell? ⟨w.heap.size, 1, none⟩ = some (iv wk) ∧ w'.cell? ⟨w.heap.size, 2, none⟩ = some (.slice co C.length cc))
    ((first | exact box3_new | exact box3_set (by assumption) | exact box3_below (by assumption) hb2 | exact box3_below (by assumption) hb))
    (first
      | (go_at_call 47; refine (list_fam N no nc _ ?_ h.nl).mono ?_; (exact h.n.below (And.left (by assumption))); rintro e w' ⟨y, rfl, hb, hst⟩)
      | (go_at_call 66; refine (rows_ok C co cc _ ?_ ?_ h.cl h.rl).mono ?_; (exact h.c.below (And.left (by assumption))); (exact h.r.below (And.left (by assumption))); rintro e w' ⟨y2, rfl, hb2, hst2⟩; have hB := box3_zero hb hb2; have hS := box3_below (box3_below box3_new hb) hb2; have c0 : w'.cell? ⟨w.heap.size + 1, 0, none⟩ = some (.slice none 0 0) := (cell_of hB.1 rfl); have c1 : w'.cell? ⟨w.heap.size + 1, 1, none⟩ = some (iv 0) := (cell_of hB.1 rfl); have c2 : w'.cell? ⟨w.heap.size + 1, 2, none⟩ = some (.slice none 0 0) := (cell_of hB.1 rfl); have f0 : w'.frozen? ⟨w.heap.size + 1, 0, none⟩ = false := (frozen_of hB.1); have f1 : w'.frozen? ⟨w.heap.size + 1, 1, none⟩ = false := (frozen_of hB.1); have f2 : w'.frozen? ⟨w.heap.size + 1, 2, none⟩ = false := (frozen_of hB.1)))
  go_wp2
  have hHh := And.left (by assumption : Below w.heap.size w _ ∧ _)
  have h0 : Tryz.f30.results = #[.cell 2 63] := by kernel_rfl
  have hc := set3 (u0 := .slice y.1 N.length y.2) (u1 := .int .i64 wk) (u2 := .slice y2.o y2.C.length y2.c) hB.1
  have hld := ld63 hc
  refine ⟨rfl, .agg #[sV N.length y, iv wk, y2.v], ?_, y, y2, rfl, hHh, ?_⟩
  · simp only [results, h0]
    simp only [List.mapM_toArray, List.mapM_cons, List.mapM_nil, Sem.run_bind, Sem.run_map, Sem.run_pure, Result.andThen_ok]
    show (((((asAddr (.pointer (some ⟨w.heap.size + 1, 0, none⟩))).run Tryz.prog _).andThen fun a w' => (loadVar 63 a).run Tryz.prog w').andThen fun a w' => Result.ok [a] w').andThen fun a w' => Result.ok a.toArray w').andThen (fun a w' => Result.ok (if h : a.size = 1 then a[0] else Value.tuple a) w') = _
    rw [hld]
    rfl
  · have h1 := st_set (w := w) (u0 := sV N.length y) (u1 := iv wk) (u2 := .slice y2.o y2.C.length y2.c) hst (by rw [heap2s]; exact Nat.le_refl _) hb.size hb2
    have h2 := st_set (w := w) (w1 := w') (u0 := sV N.length y) (u1 := iv wk) (u2 := .slice y2.o y2.C.length y2.c) hst2 hB.2 hb2.size (Below.refl _ _)
    exact h1.and h2
end Go.Proofs.YtpleibfohjbneaaGreat
