/- FlightHolds: whatever the arguments, the law answers true and its arguments read as they did. -/
import Derived.Test.YtlehjapeomallaaVU
import Derived.Test.YtlehjapeomallaaPm
import Derived.Test.YtlehjapeomallaaPl
import Derived.Test.YtlehjapeomallaaRows
import Derived.WalkKit
import Derived.ProofKit
import Derived.OpenShut
namespace Go.Proofs.Ytlehjapeomallaa.flightHolds
open Go.ChangeShapes Go.WideShapes Go.ChangeAt Go.RowKit Sx
set_option linter.unusedVariables false

theorem own : ownKnob Try.prog.godebug = none := by kernel_rfl
theorem laid : laidOutB Try.prog = true := by kernel_rfl
theorem read : readB Try.prog Try.f14.params.toList = true := by kernel_rfl
theorem res : Try.f14.resultTypes = #[4] := by kernel_rfl
theorem und4 : Try.prog.underlying 4 = some .bool := by kernel_rfl
theorem fits0 : Shp.fits Try.prog 20 shG 41 = true := by kernel_rfl
theorem fits3 : Shp.fits Try.prog 20 shR 94 = true := by kernel_rfl
theorem fits4 : Shp.fits Try.prog 20 (.sl 1 (.int .i64)) 43 = true := by kernel_rfl
theorem und_41 : isSt Try.prog 41 = true := by kernel_rfl
theorem und_59 : Try.prog.underlying 59 = some (.int .u16) := by kernel_rfl
theorem und_5 : Try.prog.underlying 5 = some (.int .u8) := by kernel_rfl
theorem und_94 : isSt Try.prog 94 = true := by kernel_rfl
theorem und_43 : isSl Try.prog 43 = true := by kernel_rfl

set_option maxRecDepth 100000 in
theorem lifted (os : Os) (started : os.Started) (H : Type) (enc : TypeId × Value → H) :
    ReturnsInHanded {} Try.checked os 14 .any (Rows.flightHoldsSpec.pre6 enc Try.prog Try.f14 Rows.flightHoldsRow.domain false) (Rows.flightHoldsSpec.post enc Try.prog Try.f14 false true false false) := by
  refine returnsInHanded_of_change (C := Try.checked) own started (by kernel_rfl) Try.func14
    (ChangeSpec.witness6 (enc := enc) (C := Try.checked) false ⟨#[], #[.agg #[.int .i64 0, .int .i64 0, .int .i64 0, .int .i64 0, .int .i64 0, .int .i64 0, .int .i64 0, .int .i64 0, .int .i64 0, .slice none 0 0, .int .i64 0, .int .i64 0, .int .i64 0, .int .i64 0, .int .i64 0], .int .u16 0, .int .u8 0, .agg #[.int .i64 0, .int .i64 0], .slice none 0 0], []⟩ 8 (by kernel_rfl) (by kernel_rfl) (by kernel_rfl) (by kernel_rfl)) ?_
  intro W base args ds gs before hval0 hW hcnd _
  have hval : ∀ (j : Nat) t v, Try.f14.params[j]? = some t → args[j]? = some v → Value.okWide Try.prog W .any base t v := hval0
  have hW' := hW
  obtain ⟨p, q, hA0, hV, rfl, hfz, hnd⟩ := hW
  have hA : DataW.TrodAll enc Try.prog W 0 (fun _ => true) true Try.f14.params.toList args.toList ds p := hA0
  rw [Try.params14] at hA hval
  obtain ⟨v0, vs0, d0, ds0, p0, q0, hargs, rfl, rfl, h0, r0⟩ := trodAll_cons hA
  obtain ⟨v1, vs1, d1, ds1, p1, q1, rfl, rfl, rfl, h1, r1⟩ := trodAll_cons r0
  obtain ⟨v2, vs2, d2, ds2, p2, q2, rfl, rfl, rfl, h2, r2⟩ := trodAll_cons r1
  obtain ⟨v3, vs3, d3, ds3, p3, q3, rfl, rfl, rfl, h3, r3⟩ := trodAll_cons r2
  obtain ⟨v4, vs4, d4, ds4, p4, q4, rfl, rfl, rfl, h4, r4⟩ := trodAll_cons r3
  obtain ⟨rfl, rfl, rfl⟩ := trodAll_nil r4
  obtain rfl : args = #[v0, v1, v2, v3, v4] := by cases args; simp_all
  obtain ⟨rfl, rfl⟩ := trodVars_none hV
  have close : ∀ W' : World, Below W.heap.size W W' → Rows.flightHoldsSpec.post enc Try.prog Try.f14 false true false false W #[v0, v1, v2, v3, v4] (.bool true) W' := fun W' hB => row_close laid read rfl res und4 hB hW' rfl
  suffices hc : Calls Try.prog 14 #[v0, v1, v2, v3, v4] W fun e w' => e = .returned (.bool true) ∧ Below W.heap.size W w' from hc.mono fun e W' ⟨he, hg⟩ => by
    subst he
    exact ⟨_, rfl, close W' hg⟩
  clear close
  obtain ⟨c0, rfl, s0⟩ := open_agg shG und_41 fits0 (hval 0 41 v0 rfl rfl) h0
  obtain ⟨a1, rfl, rfl, rfl, w1⟩ := open_int und_59 (hval 1 59 v1 rfl rfl) h1
  obtain ⟨a2, rfl, rfl, rfl, w2⟩ := open_int und_5 (hval 2 5 v2 rfl rfl) h2
  obtain ⟨c3, rfl, s3⟩ := open_agg shR und_94 fits3 (hval 3 94 v3 rfl rfl) h3
  have s4 := open_slc (.sl 1 (.int .i64)) und_43 fits4 (hval 4 43 v4 rfl rfl) h4
  obtain ⟨g, bs, hv, _, hrd, _⟩ := op_fg s0
  rw [hv]
  obtain ⟨r, rfl, _, _⟩ := op_rg s3
  obtain ⟨o, c, xs, rfl, hx, hxl, hxb⟩ := op_ints s4
  exact V.FlightHolds_ok g bs a1 a2 r.lo r.hi o c xs W hrd (wf16 w1) (wf8 w2) hx hxb

theorem over : Rows.flightHoldsRow.holds Try.pinned (OpenSpec.ofChange Rows.flightHoldsSpec) :=
  OpenClaim.holds_of_wide 14 Try.f14 rfl rfl rfl rfl rfl rfl rfl ⟨rfl, rfl, rfl, rfl, rfl⟩ rfl rfl rfl rfl rfl (by kernel_rfl) Try.func14 (by kernel_rfl)
    (of_decide_eq_true (by kernel_rfl)) (by unfold Func.isWrapper; first | (rw [if_pos (by decide +kernel)]; kernel_rfl) | (rw [if_neg (by decide +kernel)]; exact ⟨rfl, rfl⟩))
    (fun os started H enc _ => lifted os started H enc)

/-- ████ THE STATEMENT ████ -/
theorem proved : Rows.FlightHoldsSaid :=
  over
#print axioms proved
end Go.Proofs.Ytlehjapeomallaa.flightHolds
