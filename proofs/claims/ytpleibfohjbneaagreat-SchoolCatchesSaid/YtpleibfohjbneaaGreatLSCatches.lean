/- SchoolCatches: whatever the arguments, the law answers true and its arguments read as they did. -/
import Derived.Test.YtpleibfohjbneaaGreatT7
import Derived.Test.YtpleibfohjbneaaGreatRows
import Derived.WalkKit
import Derived.ProofKit
import Derived.OpenShut
namespace Go.Proofs.YtpleibfohjbneaaGreat.schoolCatches
open Go.ChangeShapes Go.WideShapes Go.ChangeAt Go.RowKit Tx
set_option linter.unusedVariables false

theorem own : ownKnob Tryz.prog.godebug = none := by kernel_rfl
theorem laid : laidOutB Tryz.prog = true := by kernel_rfl
theorem read : readB Tryz.prog Tryz.f8.params.toList = true := by kernel_rfl
theorem res : Tryz.f8.resultTypes = #[4] := by kernel_rfl
theorem und4 : Tryz.prog.underlying 4 = some .bool := by kernel_rfl
theorem fits0 : Shp.fits Tryz.prog 20 shC 56 = true := by kernel_rfl
theorem fits1 : Shp.fits Tryz.prog 20 (.sl 2 shS) 57 = true := by kernel_rfl
theorem und_56 : isSt Tryz.prog 56 = true := by kernel_rfl
theorem und_57 : isSl Tryz.prog 57 = true := by kernel_rfl
theorem und_5 : Tryz.prog.underlying 5 = some (.int .u8) := by kernel_rfl

set_option maxHeartbeats 1000000 in
set_option maxRecDepth 100000 in
theorem lifted (os : Os) (started : os.Started) (H : Type) (enc : TypeId × Value → H) :
    ReturnsInHanded {} Tryz.checked os 8 .any (Rows.schoolCatchesSpec.pre6 enc Tryz.prog Tryz.f8 Rows.schoolCatchesRow.domain false) (Rows.schoolCatchesSpec.post enc Tryz.prog Tryz.f8 false true false false) := by
  refine returnsInHanded_of_change (C := Tryz.checked) own started (by kernel_rfl) Tryz.func8
    (ChangeSpec.witness6 (enc := enc) (C := Tryz.checked) false ⟨#[], #[.agg #[.slice none 0 0, .int .i64 0, .slice none 0 0], .slice none 0 0, .int .u8 0], []⟩ 8 (by kernel_rfl) (by kernel_rfl) (by kernel_rfl) (by kernel_rfl)) ?_
  intro W base args ds gs before hval0 hW hcnd _
  have hval : ∀ (j : Nat) t v, Tryz.f8.params[j]? = some t → args[j]? = some v → Value.okWide Tryz.prog W .any base t v := hval0
  have hW' := hW
  obtain ⟨p, q, hA0, hV, rfl, hfz, hnd⟩ := hW
  have hA : DataW.TrodAll enc Tryz.prog W 0 (fun _ => true) true Tryz.f8.params.toList args.toList ds p := hA0
  rw [Tryz.params8] at hA hval
  obtain ⟨v0, vs0, d0, ds0, p0, q0, hargs, rfl, rfl, h0, r0⟩ := trodAll_cons hA
  obtain ⟨v1, vs1, d1, ds1, p1, q1, rfl, rfl, rfl, h1, r1⟩ := trodAll_cons r0
  obtain ⟨v2, vs2, d2, ds2, p2, q2, rfl, rfl, rfl, h2, r2⟩ := trodAll_cons r1
  obtain ⟨rfl, rfl, rfl⟩ := trodAll_nil r2
  obtain rfl : args = #[v0, v1, v2] := by cases args; simp_all
  obtain ⟨rfl, rfl⟩ := trodVars_none hV
  have close : ∀ W' : World, Below W.heap.size W W' → Rows.schoolCatchesSpec.post enc Tryz.prog Tryz.f8 false true false false W #[v0, v1, v2] (.bool true) W' := fun W' hB => row_close laid read rfl res und4 hB hW' rfl
  suffices hc : Calls Tryz.prog 8 #[v0, v1, v2] W fun e w' => e = .returned (.bool true) ∧ Below W.heap.size W w' from hc.mono fun e W' ⟨he, hg⟩ => by
    subst he
    exact ⟨_, rfl, close W' hg⟩
  clear close
  obtain ⟨c0, rfl, s0⟩ := open_agg shC und_56 fits0 (hval 0 56 v0 rfl rfl) h0
  have s1 := open_slc (.sl 2 shS) und_57 fits1 (hval 1 57 v1 rfl rfl) h1
  obtain ⟨a2, rfl, rfl, rfl, w2⟩ := open_int und_5 (hval 2 5 v2 rfl rfl) h2
  obtain ⟨x, rfl, hX⟩ := op_course s0
  obtain ⟨o1, c1, S, rfl, hY⟩ := op_stays1 s1
  exact SchoolCatches_ok x o1 c1 S a2 W hX hY (wf8 w2)

theorem over : Rows.schoolCatchesRow.holds Tryz.pinned (OpenSpec.ofChange Rows.schoolCatchesSpec) :=
  OpenClaim.holds_of_wide 8 Tryz.f8 rfl rfl rfl rfl rfl rfl rfl ⟨rfl, rfl, rfl, rfl, rfl⟩ rfl rfl rfl rfl rfl (by kernel_rfl) Tryz.func8 (by kernel_rfl)
    (of_decide_eq_true (by kernel_rfl)) (by unfold Func.isWrapper; first | (rw [if_pos (by decide +kernel)]; kernel_rfl) | (rw [if_neg (by decide +kernel)]; exact ⟨rfl, rfl⟩))
    (fun os started H enc _ => lifted os started H enc)

/-- ████ THE STATEMENT ████ -/
theorem proved : Rows.SchoolCatchesSaid :=
  over
#print axioms proved
end Go.Proofs.YtpleibfohjbneaaGreat.schoolCatches
