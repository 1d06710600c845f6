/- RouteShows: whatever the arguments, the law answers true and its arguments read as they did. -/
import Derived.Test.YthfabodamhdhaaaTW
import Derived.Test.YthfabodamhdhaaaTP
import Derived.Test.YthfabodamhdhaaaRows
import Derived.WalkKit
import Derived.ProofKit
import Derived.OpenShut
namespace Go.Proofs.Ythfabodamhdhaaa.routeShows
open Go.ChangeShapes Go.WideShapes Go.ChangeAt Go.RowKit Tx
set_option linter.unusedVariables false

theorem own : ownKnob Try.prog.godebug = none := by kernel_rfl
theorem laid : laidOutB Try.prog = true := by kernel_rfl
theorem read : readB Try.prog Try.f9.params.toList = true := by kernel_rfl
theorem res : Try.f9.resultTypes = #[4] := by kernel_rfl
theorem und4 : Try.prog.underlying 4 = some .bool := by kernel_rfl
theorem fits0 : Shp.fits Try.prog 20 shTo 25 = true := by kernel_rfl
theorem fits1 : Shp.fits Try.prog 20 (.sl 1 shI) 43 = true := by kernel_rfl
theorem fits3 : Shp.fits Try.prog 20 (.sl 1 (.sl 1 shI)) 44 = true := by kernel_rfl
theorem und_25 : isSt Try.prog 25 = true := by kernel_rfl
theorem und_43 : isSl Try.prog 43 = true := by kernel_rfl
theorem und_3 : Try.prog.underlying 3 = some (.int .i64) := by kernel_rfl
theorem und_44 : isSl Try.prog 44 = true := by kernel_rfl
theorem und_4 : Try.prog.underlying 4 = some .bool := by kernel_rfl

set_option maxHeartbeats 1000000 in
set_option maxRecDepth 100000 in
theorem lifted (os : Os) (started : os.Started) (H : Type) (enc : TypeId × Value → H) :
    ReturnsInHanded {} Try.checked os 9 .any (Rows.routeShowsSpec.pre6 enc Try.prog Try.f9 Rows.routeShowsRow.domain false) (Rows.routeShowsSpec.post enc Try.prog Try.f9 false true false false) := by
  refine returnsInHanded_of_change (C := Try.checked) own started (by kernel_rfl) Try.func9
    (ChangeSpec.witness6 (enc := enc) (C := Try.checked) false ⟨#[], #[.agg #[.int .i64 0, .int .i64 0, .int .i64 0, .slice none 0 0, .slice none 0 0], .slice none 0 0, .int .i64 0, .slice none 0 0, .bool false, .int .i64 0, .int .i64 0, .int .i64 0], []⟩ 8 (by kernel_rfl) (by kernel_rfl) (by kernel_rfl) (by kernel_rfl)) ?_
  intro W base args ds gs before hval0 hW hcnd _
  have hval : ∀ (j : Nat) t v, Try.f9.params[j]? = some t → args[j]? = some v → Value.okWide Try.prog W .any base t v := hval0
  have hW' := hW
  obtain ⟨p, q, hA0, hV, rfl, hfz, hnd⟩ := hW
  have hA : DataW.TrodAll enc Try.prog W 0 (fun _ => true) true Try.f9.params.toList args.toList ds p := hA0
  rw [Try.params9] at hA hval
  obtain ⟨v0, vs0, d0, ds0, p0, q0, hargs, rfl, rfl, h0, r0⟩ := trodAll_cons hA
  obtain ⟨v1, vs1, d1, ds1, p1, q1, rfl, rfl, rfl, h1, r1⟩ := trodAll_cons r0
  obtain ⟨v2, vs2, d2, ds2, p2, q2, rfl, rfl, rfl, h2, r2⟩ := trodAll_cons r1
  obtain ⟨v3, vs3, d3, ds3, p3, q3, rfl, rfl, rfl, h3, r3⟩ := trodAll_cons r2
  obtain ⟨v4, vs4, d4, ds4, p4, q4, rfl, rfl, rfl, h4, r4⟩ := trodAll_cons r3
  obtain ⟨v5, vs5, d5, ds5, p5, q5, rfl, rfl, rfl, h5, r5⟩ := trodAll_cons r4
  obtain ⟨v6, vs6, d6, ds6, p6, q6, rfl, rfl, rfl, h6, r6⟩ := trodAll_cons r5
  obtain ⟨v7, vs7, d7, ds7, p7, q7, rfl, rfl, rfl, h7, r7⟩ := trodAll_cons r6
  obtain ⟨rfl, rfl, rfl⟩ := trodAll_nil r7
  obtain rfl : args = #[v0, v1, v2, v3, v4, v5, v6, v7] := by cases args; simp_all
  obtain ⟨rfl, rfl⟩ := trodVars_none hV
  have close : ∀ W' : World, Below W.heap.size W W' → Rows.routeShowsSpec.post enc Try.prog Try.f9 false true false false W #[v0, v1, v2, v3, v4, v5, v6, v7] (.bool true) W' := fun W' hB => row_close laid read rfl res und4 hB hW' rfl
  suffices hc : Calls Try.prog 9 #[v0, v1, v2, v3, v4, v5, v6, v7] W fun e w' => e = .returned (.bool true) ∧ Below W.heap.size W w' from hc.mono fun e W' ⟨he, hg⟩ => by
    subst he
    exact ⟨_, rfl, close W' hg⟩
  clear close
  obtain ⟨c0, rfl, s0⟩ := open_agg shTo und_25 fits0 (hval 0 25 v0 rfl rfl) h0
  have s1 := open_slc (.sl 1 shI) und_43 fits1 (hval 1 43 v1 rfl rfl) h1
  obtain ⟨a2, rfl, rfl, rfl, w2⟩ := open_int und_3 (hval 2 3 v2 rfl rfl) h2
  have s3 := open_slc (.sl 1 (.sl 1 shI)) und_44 fits3 (hval 3 44 v3 rfl rfl) h3
  obtain ⟨a4, rfl⟩ := open_boo und_4 (hval 4 4 v4 rfl rfl) h4
  obtain ⟨a5, rfl, rfl, rfl, w5⟩ := open_int und_3 (hval 5 3 v5 rfl rfl) h5
  obtain ⟨a6, rfl, rfl, rfl, w6⟩ := open_int und_3 (hval 6 3 v6 rfl rfl) h6
  obtain ⟨a7, rfl, rfl, rfl, w7⟩ := open_int und_3 (hval 7 3 v7 rfl rfl) h7
  obtain ⟨x, rfl, hX⟩ := op_tour s0
  obtain ⟨o1, c1, F, rfl, hF, hl, _⟩ := op_ints1 s1
  obtain ⟨o3, c3, R, e3, hR, hRl, _, hRr⟩ := op_slc (f := Iw.cs) (Q := fun r => Rd 1 iF (.slice r.o r.xs.length r.c) r.xs W ∧ r.xs.length ≤ 9223372036854775807) (fun es h => by obtain ⟨o, c, xs, rfl, h2, h3, _⟩ := op_ints h; exact ⟨⟨o, c, xs⟩, rfl, h2, h3⟩) s3
  simp only [List.cons.injEq, and_true] at e3
  subst e3
  exact RouteShows_ok x o1 c1 F a2 o3 c3 R a4 a5 a6 a7 W hX hF hl hR (fun r hr => (hRr r hr).1) hRl (fun r hr => (hRr r hr).2)

theorem over : Rows.routeShowsRow.holds Try.pinned (OpenSpec.ofChange Rows.routeShowsSpec) :=
  OpenClaim.holds_of_wide 9 Try.f9 rfl rfl rfl rfl rfl rfl rfl ⟨rfl, rfl, rfl, rfl, rfl⟩ rfl rfl rfl rfl rfl (by kernel_rfl) Try.func9 (by kernel_rfl)
    (of_decide_eq_true (by kernel_rfl)) (by unfold Func.isWrapper; first | (rw [if_pos (by decide +kernel)]; kernel_rfl) | (rw [if_neg (by decide +kernel)]; exact ⟨rfl, rfl⟩))
    (fun os started H enc _ => lifted os started H enc)

/-- ████ THE STATEMENT ████ -/
theorem proved : Rows.RouteShowsSaid :=
  over
#print axioms proved
end Go.Proofs.Ythfabodamhdhaaa.routeShows
