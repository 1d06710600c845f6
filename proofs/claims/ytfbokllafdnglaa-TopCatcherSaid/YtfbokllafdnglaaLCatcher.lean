/- TopCatcher: whatever the arguments, the law answers true and its arguments read as they did. -/
import Derived.Test.YtfbokllafdnglaaQH
import Derived.Test.YtfbokllafdnglaaRows
import Derived.WalkKit
import Derived.ProofKit
import Derived.OpenShut
namespace Go.Proofs.Ytfbokllafdnglaa.topCatcher
open Go.ChangeShapes Go.WideShapes Go.ChangeAt Go.RowKit Tx
set_option linter.unusedVariables false

theorem own : ownKnob Try.prog.godebug = none := by kernel_rfl
theorem laid : laidOutB Try.prog = true := by kernel_rfl
theorem read : readB Try.prog Try.f4.params.toList = true := by kernel_rfl
theorem res : Try.f4.resultTypes = #[4] := by kernel_rfl
theorem und4 : Try.prog.underlying 4 = some .bool := by kernel_rfl
theorem fits0 : Shp.fits Try.prog 20 shR 54 = true := by kernel_rfl
theorem fits1 : Shp.fits Try.prog 20 shPl 55 = true := by kernel_rfl
theorem fits2 : Shp.fits Try.prog 20 shFt 66 = true := by kernel_rfl
theorem und_54 : isSt Try.prog 54 = true := by kernel_rfl
theorem und_55 : isSt Try.prog 55 = true := by kernel_rfl
theorem und_66 : isSt Try.prog 66 = true := by kernel_rfl
theorem und_67 : Try.prog.underlying 67 = some (.int .u16) := by kernel_rfl
theorem und_5 : Try.prog.underlying 5 = some (.int .u8) := by kernel_rfl

set_option maxHeartbeats 1000000 in
set_option maxRecDepth 100000 in
theorem lifted (os : Os) (started : os.Started) (H : Type) (enc : TypeId × Value → H) :
    ReturnsInHanded {} Try.checked os 4 .any (Rows.topCatcherSpec.pre6 enc Try.prog Try.f4 Rows.topCatcherRow.domain false) (Rows.topCatcherSpec.post enc Try.prog Try.f4 false true false false) := by
  refine returnsInHanded_of_change (C := Try.checked) own started (by kernel_rfl) Try.func4
    (ChangeSpec.witness6 (enc := enc) (C := Try.checked) false ⟨#[], #[.agg #[.slice none 0 0, .slice none 0 0, .int .i64 0, .int .i64 0, .int .i64 0, .slice none 0 0], .agg #[.int .i64 0, .int .i64 0], .agg #[.int .i64 0, .int .i64 0, .int .i64 0, .int .i64 0, .int .i64 0, .int .i64 0, .int .i64 0, .int .i64 0, .int .i64 0, .slice none 0 0, .int .i64 0, .int .i64 0, .int .i64 0, .int .i64 0, .int .i64 0], .int .u16 0, .int .u8 0], []⟩ 8 (by kernel_rfl) (by kernel_rfl) (by kernel_rfl) (by kernel_rfl)) ?_
  intro W base args ds gs before hval0 hW hcnd _
  have hval : ∀ (j : Nat) t v, Try.f4.params[j]? = some t → args[j]? = some v → Value.okWide Try.prog W .any base t v := hval0
  have hW' := hW
  obtain ⟨p, q, hA0, hV, rfl, hfz, hnd⟩ := hW
  have hA : DataW.TrodAll enc Try.prog W 0 (fun _ => true) true Try.f4.params.toList args.toList ds p := hA0
  rw [Try.params4] at hA hval
  obtain ⟨v0, vs0, d0, ds0, p0, q0, hargs, rfl, rfl, h0, r0⟩ := trodAll_cons hA
  obtain ⟨v1, vs1, d1, ds1, p1, q1, rfl, rfl, rfl, h1, r1⟩ := trodAll_cons r0
  obtain ⟨v2, vs2, d2, ds2, p2, q2, rfl, rfl, rfl, h2, r2⟩ := trodAll_cons r1
  obtain ⟨v3, vs3, d3, ds3, p3, q3, rfl, rfl, rfl, h3, r3⟩ := trodAll_cons r2
  obtain ⟨v4, vs4, d4, ds4, p4, q4, rfl, rfl, rfl, h4, r4⟩ := trodAll_cons r3
  obtain ⟨rfl, rfl, rfl⟩ := trodAll_nil r4
  obtain rfl : args = #[v0, v1, v2, v3, v4] := by cases args; simp_all
  obtain ⟨rfl, rfl⟩ := trodVars_none hV
  have close : ∀ W' : World, Below W.heap.size W W' → Rows.topCatcherSpec.post enc Try.prog Try.f4 false true false false W #[v0, v1, v2, v3, v4] (.bool true) W' := fun W' hB => row_close laid read rfl res und4 hB hW' rfl
  suffices hc : Calls Try.prog 4 #[v0, v1, v2, v3, v4] W fun e w' => e = .returned (.bool true) ∧ Below W.heap.size W w' from hc.mono fun e W' ⟨he, hg⟩ => by
    subst he
    exact ⟨_, rfl, close W' hg⟩
  clear close
  obtain ⟨c0, rfl, s0⟩ := open_agg shR und_54 fits0 (hval 0 54 v0 rfl rfl) h0
  obtain ⟨c1, rfl, s1⟩ := open_agg shPl und_55 fits1 (hval 1 55 v1 rfl rfl) h1
  obtain ⟨c2, rfl, s2⟩ := open_agg shFt und_66 fits2 (hval 2 66 v2 rfl rfl) h2
  obtain ⟨a3, rfl, rfl, rfl, w3⟩ := open_int und_67 (hval 3 67 v3 rfl rfl) h3
  obtain ⟨a4, rfl, rfl, rfl, w4⟩ := open_int und_5 (hval 4 5 v4 rfl rfl) h4
  obtain ⟨r, PP, BB, LL, rfl, hX⟩ := op_rig s0
  obtain ⟨b, a, rfl⟩ := op_pl s1
  obtain ⟨f, hf, hC, hl⟩ := op_ft s2
  rw [hf]
  exact TopCatcher_ok r PP BB LL b a f a3 a4 W hX hC hl (wfU16 w3) (wfU8 w4)

theorem over : Rows.topCatcherRow.holds Try.pinned (OpenSpec.ofChange Rows.topCatcherSpec) :=
  OpenClaim.holds_of_wide 4 Try.f4 rfl rfl rfl rfl rfl rfl rfl ⟨rfl, rfl, rfl, rfl, rfl⟩ rfl rfl rfl rfl rfl (by kernel_rfl) Try.func4 (by kernel_rfl)
    (of_decide_eq_true (by kernel_rfl)) (by unfold Func.isWrapper; first | (rw [if_pos (by decide +kernel)]; kernel_rfl) | (rw [if_neg (by decide +kernel)]; exact ⟨rfl, rfl⟩))
    (fun os started H enc _ => lifted os started H enc)

/-- ████ THE STATEMENT ████ -/
theorem proved : Rows.TopCatcherSaid :=
  over
#print axioms proved
end Go.Proofs.Ytfbokllafdnglaa.topCatcher
