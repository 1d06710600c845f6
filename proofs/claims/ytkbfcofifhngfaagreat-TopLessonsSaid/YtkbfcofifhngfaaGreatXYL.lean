/- TopLessons: whatever the arguments, the law answers true and its arguments read as they did. -/
import Derived.Test.YtkbfcofifhngfaaGreatXYf
set_option maxHeartbeats 8000000
set_option maxRecDepth 100000
set_option linter.unusedSectionVars false
set_option linter.unusedSimpArgs false
set_option linter.unusedVariables false
namespace Go.Proofs.YtkbfcofifhngfaaGreat.topLessons
open Go.ChangeShapes Go.WideShapes Go.ChangeAt Go.RowKit Tx
theorem own : ownKnob Tryz.prog.godebug = none := by kernel_rfl
theorem laid : laidOutB Tryz.prog = true := by kernel_rfl
theorem read : readB Tryz.prog Tryz.f10.params.toList = true := by kernel_rfl
theorem res : Tryz.f10.resultTypes = #[4] := by kernel_rfl
theorem und4 : Tryz.prog.underlying 4 = some .bool := by kernel_rfl
theorem fits0 : Shp.fits Tryz.prog 20 shSc 25 = true := by kernel_rfl
theorem und_25 : isSt Tryz.prog 25 = true := by kernel_rfl
theorem und_5 : Tryz.prog.underlying 5 = some (.int .u8) := by kernel_rfl
theorem lifted (os : Os) (started : os.Started) (H : Type) (enc : TypeId × Value → H) :
 ReturnsInHanded {} Tryz.checked os 10 .any (Rows.topLessonsSpec.pre6 enc Tryz.prog Tryz.f10 Rows.topLessonsRow.domain false) (Rows.topLessonsSpec.post enc Tryz.prog Tryz.f10 false true false false) := by
 refine returnsInHanded_of_change (C := Tryz.checked) own started (by kernel_rfl) Tryz.func10
  (ChangeSpec.witness6 (enc := enc) (C := Tryz.checked) false ⟨#[], #[.agg #[.int .i64 0, .int .i64 0, .int .i64 0, .slice none 0 0, .slice none 0 0], .int .u8 0], []⟩ 8 (by kernel_rfl) (by kernel_rfl) (by kernel_rfl) (by kernel_rfl)) ?_
 intro W base args ds gs before hval0 hW hcnd _
 have hval : ∀ (j : Nat) t v, Tryz.f10.params[j]? = some t → args[j]? = some v → Value.okWide Tryz.prog W .any base t v := hval0
 have hW' := hW
 obtain ⟨p, q, hA0, hV, rfl, hfz, hnd⟩ := hW
 have hA : DataW.TrodAll enc Tryz.prog W 0 (fun _ => true) true Tryz.f10.params.toList args.toList ds p := hA0
 rw [Tryz.params10] at hA hval
 obtain ⟨v0, vs0, d0, ds0, p0, q0, hargs, rfl, rfl, h0, r0⟩ := trodAll_cons hA
 obtain ⟨v1, vs1, d1, ds1, p1, q1, rfl, rfl, rfl, h1, r1⟩ := trodAll_cons r0
 obtain ⟨rfl, rfl, rfl⟩ := trodAll_nil r1
 obtain rfl : args = #[v0, v1] := by cases args; simp_all
 obtain ⟨rfl, rfl⟩ := trodVars_none hV
 have close : ∀ W' : World, Below W.heap.size W W' → Rows.topLessonsSpec.post enc Tryz.prog Tryz.f10 false true false false W #[v0, v1] (.bool true) W' := fun W' hB => row_close laid read rfl res und4 hB hW' rfl
 suffices hc : Calls Tryz.prog 10 #[v0, v1] W fun e w' => e = .returned (.bool true) ∧ Below W.heap.size W w' from hc.mono fun e W' ⟨he, hg⟩ => by
  subst he
  exact ⟨_, rfl, close W' hg⟩
 clear close
 obtain ⟨c0, rfl, s0⟩ := open_agg shSc und_25 fits0 (hval 0 25 v0 rfl rfl) h0
 obtain ⟨a1, rfl, rfl, rfl, w1⟩ := open_int und_5 (hval 1 5 v1 rfl rfl) h1
 obtain ⟨x, rfl, hS, hX, hgc, htc⟩ := op_schoolC s0
 obtain ⟨m, rfl, hm⟩ := wfu8 w1
 exact TopLessons_ok x m W hS hX hm
theorem over : Rows.topLessonsRow.holds Tryz.pinned (OpenSpec.ofChange Rows.topLessonsSpec) :=
 OpenClaim.holds_of_wide 10 Tryz.f10 rfl rfl rfl rfl rfl rfl rfl ⟨rfl, rfl, rfl, rfl, rfl⟩ rfl rfl rfl rfl rfl (by kernel_rfl) Tryz.func10 (by kernel_rfl)
  (of_decide_eq_true (by kernel_rfl)) (by unfold Func.isWrapper; first | (rw [if_pos (by decide +kernel)]; kernel_rfl) | (rw [if_neg (by decide +kernel)]; exact ⟨rfl, rfl⟩))
  (fun os started H enc _ => lifted os started H enc)
theorem proved : Rows.TopLessonsSaid :=
 over
#print axioms proved
end Go.Proofs.YtkbfcofifhngfaaGreat.topLessons
