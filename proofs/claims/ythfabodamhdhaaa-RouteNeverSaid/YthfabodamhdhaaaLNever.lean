/- RouteNever: whatever the arguments, the law answers true and its arguments read as they did. -/
import Derived.Test.YthfabodamhdhaaaUH
import Derived.Test.YthfabodamhdhaaaTP
import Derived.Test.YthfabodamhdhaaaPz
import Derived.Test.YthfabodamhdhaaaRows
import Derived.WalkKit
import Derived.ProofKit
import Derived.OpenShut
namespace Go.Proofs.Ythfabodamhdhaaa.routeNever
open Go.ChangeShapes Go.WideShapes Go.ChangeAt Go.RowKit Tx
set_option linter.unusedVariables false

theorem own : ownKnob Try.prog.godebug = none := by kernel_rfl
theorem laid : laidOutB Try.prog = true := by kernel_rfl
theorem read : readB Try.prog Try.f11.params.toList = true := by kernel_rfl
theorem res : Try.f11.resultTypes = #[4] := by kernel_rfl
theorem und4 : Try.prog.underlying 4 = some .bool := by kernel_rfl
theorem fits0 : Shp.fits Try.prog 20 shTo 25 = true := by kernel_rfl
theorem fits1 : Shp.fits Try.prog 20 (.sl 3 shSp) 37 = true := by kernel_rfl
theorem fits2 : Shp.fits Try.prog 20 (.sl 1 shI) 43 = true := by kernel_rfl
theorem fits4 : Shp.fits Try.prog 20 (.sl 1 (.sl 1 shI)) 44 = true := by kernel_rfl
theorem und_25 : isSt Try.prog 25 = true := by kernel_rfl
theorem und_37 : isSl Try.prog 37 = true := by kernel_rfl
theorem und_43 : isSl Try.prog 43 = true := by kernel_rfl
theorem und_3 : Try.prog.underlying 3 = some (.int .i64) := by kernel_rfl
theorem und_44 : isSl Try.prog 44 = true := by kernel_rfl

set_option maxHeartbeats 1000000 in
set_option maxRecDepth 100000 in
theorem lifted (os : Os) (started : os.Started) (H : Type) (enc : TypeId × Value → H) :
    ReturnsInHanded {} Try.checked os 11 .any (Rows.routeNeverSpec.pre6 enc Try.prog Try.f11 Rows.routeNeverRow.domain false) (Rows.routeNeverSpec.post enc Try.prog Try.f11 false true false false) := by
  refine handed_sized (C := Try.checked) own started (by kernel_rfl) Try.func11
    (ChangeSpec.witness6 (enc := enc) (C := Try.checked) false ⟨#[], #[.agg #[.int .i64 0, .int .i64 0, .int .i64 0, .slice none 0 0, .slice none 0 0], .slice none 0 0, .slice none 0 0, .int .i64 0, .slice none 0 0], []⟩ 8 (by kernel_rfl) (by kernel_rfl) (by kernel_rfl) (by kernel_rfl)) ?_
  intro W base args ds gs before hval0 hW hwt
  have hval : ∀ (j : Nat) t v, Try.f11.params[j]? = some t → args[j]? = some v → Value.okWide Try.prog W .any base t v := hval0
  have hW' := hW
  obtain ⟨p, q, hA0, hV, rfl, hfz, hnd⟩ := hW
  have hA : DataW.TrodAll enc Try.prog W 0 (fun _ => true) true Try.f11.params.toList args.toList ds p := hA0
  rw [Try.params11] at hA hval
  obtain ⟨v0, vs0, d0, ds0, p0, q0, hargs, rfl, rfl, h0, r0⟩ := trodAll_cons hA
  obtain ⟨v1, vs1, d1, ds1, p1, q1, rfl, rfl, rfl, h1, r1⟩ := trodAll_cons r0
  obtain ⟨v2, vs2, d2, ds2, p2, q2, rfl, rfl, rfl, h2, r2⟩ := trodAll_cons r1
  obtain ⟨v3, vs3, d3, ds3, p3, q3, rfl, rfl, rfl, h3, r3⟩ := trodAll_cons r2
  obtain ⟨v4, vs4, d4, ds4, p4, q4, rfl, rfl, rfl, h4, r4⟩ := trodAll_cons r3
  obtain ⟨rfl, rfl, rfl⟩ := trodAll_nil r4
  obtain rfl : args = #[v0, v1, v2, v3, v4] := by cases args; simp_all
  obtain ⟨rfl, rfl⟩ := trodVars_none hV
  have close : ∀ W' : World, Below W.heap.size W W' → Rows.routeNeverSpec.post enc Try.prog Try.f11 false true false false W #[v0, v1, v2, v3, v4] (.bool true) W' := fun W' hB => row_close laid read rfl res und4 hB hW' rfl
  suffices hc : Calls Try.prog 11 #[v0, v1, v2, v3, v4] W fun e w' => e = .returned (.bool true) ∧ Below W.heap.size W w' from hc.mono fun e W' ⟨he, hg⟩ => by
    subst he
    exact ⟨_, rfl, close W' hg⟩
  clear close
  obtain ⟨c0, rfl, s0⟩ := open_agg shTo und_25 fits0 (hval 0 25 v0 rfl rfl) h0
  have s1 := open_slc (.sl 3 shSp) und_37 fits1 (hval 1 37 v1 rfl rfl) h1
  have s2 := open_slc (.sl 1 shI) und_43 fits2 (hval 2 43 v2 rfl rfl) h2
  obtain ⟨a3, rfl, rfl, rfl, w3⟩ := open_int und_3 (hval 3 3 v3 rfl rfl) h3
  have s4 := open_slc (.sl 1 (.sl 1 shI)) und_44 fits4 (hval 4 44 v4 rfl rfl) h4
  obtain ⟨x, rfl, hX⟩ := op_tour s0
  obtain ⟨o1, c1, S, rfl, hS⟩ := op_season s1
  obtain ⟨o2, c2, F, rfl, hF, hl, _⟩ := op_ints1 s2
  obtain ⟨o4, c4, R, e4, hR, hRl, _, hRr⟩ := op_slc (f := Iw.cs) (Q := fun r => Rd 1 iF (.slice r.o r.xs.length r.c) r.xs W ∧ r.xs.length ≤ 9223372036854775807) (fun es h => by obtain ⟨o, c, xs, rfl, h2, h3, _⟩ := op_ints h; exact ⟨⟨o, c, xs⟩, rfl, h2, h3⟩) s4
  simp only [List.cons.injEq, and_true] at e4
  subst e4
  have hz : (d4.weights Try.prog 44).all (· ≤ reachBytes) = true := by
    rw [Try.params11] at hwt
    simp only [List.cons_append, DataW.weightsEach, List.all_append, Bool.and_eq_true] at hwt
    exact hwt.2.2.2.2.1
  have hRn : ∀ r ∈ R, r.xs.length ≤ 17592186043904 := fun r hr => by
    obtain ⟨i, hi⟩ := List.mem_iff_getElem?.1 hr
    have hil := (List.getElem?_eq_some_iff.1 hi).1
    obtain ⟨_, a, rfl, hcell⟩ := hR.ptr (by omega)
    have := hcell i r hi 0 _ rfl
    rw [show (a.add (i * 1)).add 0 = a.add (i * 1) from by simp [Addr.add]] at this
    exact rows_wt h4 hz i hil r.o r.xs.length r.c this
  exact RouteNever_ok x o1 c1 S o2 c2 F a3 o4 c4 R W hX hS hF hl hR (fun r hr => (hRr r hr).1) hRl hRn

theorem over : Rows.routeNeverRow.holds Try.pinned (OpenSpec.ofChange Rows.routeNeverSpec) :=
  OpenClaim.holds_of_wide 11 Try.f11 rfl rfl rfl rfl rfl rfl rfl ⟨rfl, rfl, rfl, rfl, rfl⟩ rfl rfl rfl rfl rfl (by kernel_rfl) Try.func11 (by kernel_rfl)
    (of_decide_eq_true (by kernel_rfl)) (by unfold Func.isWrapper; first | (rw [if_pos (by decide +kernel)]; kernel_rfl) | (rw [if_neg (by decide +kernel)]; exact ⟨rfl, rfl⟩))
    (fun os started H enc _ => lifted os started H enc)

/-- ████ THE STATEMENT ████ -/
theorem proved : Rows.RouteNeverSaid :=
  over
#print axioms proved
end Go.Proofs.Ythfabodamhdhaaa.routeNever
