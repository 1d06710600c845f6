/- TopFodder: whatever the arguments, the law answers true and its arguments read as they did. -/
import Derived.Test.YthfabodamhdhaaaQDe
namespace Go.Proofs.Ythfabodamhdhaaa.topFodder
open Go.ChangeShapes Go.WideShapes Go.ChangeAt Go.RowKit Tx
set_option linter.unusedVariables false
theorem own : ownKnob Try.prog.godebug = none := by kernel_rfl
theorem laid : laidOutB Try.prog = true := by kernel_rfl
theorem read : readB Try.prog Try.f16.params.toList = true := by kernel_rfl
theorem res : Try.f16.resultTypes = #[4] := by kernel_rfl
theorem und4 : Try.prog.underlying 4 = some .bool := by kernel_rfl
theorem fits0 : Shp.fits Try.prog 20 shTo 25 = true := by kernel_rfl
theorem fits2 : Shp.fits Try.prog 20 (.sl 1 shU) 104 = true := by kernel_rfl
theorem und_25 : isSt Try.prog 25 = true := by kernel_rfl
theorem und_5 : Try.prog.underlying 5 = some (.int .u8) := by kernel_rfl
theorem und_104 : isSl Try.prog 104 = true := by kernel_rfl
theorem und_52 : Try.prog.underlying 52 = some (.int .u16) := by kernel_rfl
set_option maxHeartbeats 1000000 in
set_option maxRecDepth 100000 in
theorem lifted (os : Os) (started : os.Started) (H : Type) (enc : TypeId × Value → H) :
 ReturnsInHanded {} Try.checked os 16 .any (Rows.topFodderSpec.pre6 enc Try.prog Try.f16 Rows.topFodderRow.domain false) (Rows.topFodderSpec.post enc Try.prog Try.f16 false true false false) := by
 refine returnsInHanded_of_change (C := Try.checked) own started (by kernel_rfl) Try.func16
  (ChangeSpec.witness6 (enc := enc) (C := Try.checked) false ⟨#[], #[.agg #[.int .i64 0, .int .i64 0, .int .i64 0, .slice none 0 0, .slice none 0 0], .int .u8 0, .slice none 0 0, .int .u16 0, .int .u8 0], []⟩ 8 (by kernel_rfl) (by kernel_rfl) (by kernel_rfl) (by kernel_rfl)) ?_
 intro W base args ds gs before hval0 hW hcnd _
 have hval : ∀ (j : Nat) t v, Try.f16.params[j]? = some t → args[j]? = some v → Value.okWide Try.prog W .any base t v := hval0
 have hW' := hW
 obtain ⟨p, q, hA0, hV, rfl, hfz, hnd⟩ := hW
 have hA : DataW.TrodAll enc Try.prog W 0 (fun _ => true) true Try.f16.params.toList args.toList ds p := hA0
 rw [Try.params16] at hA hval
 obtain ⟨v0, vs0, d0, ds0, p0, q0, hargs, rfl, rfl, h0, r0⟩ := trodAll_cons hA
 obtain ⟨v1, vs1, d1, ds1, p1, q1, rfl, rfl, rfl, h1, r1⟩ := trodAll_cons r0
 obtain ⟨v2, vs2, d2, ds2, p2, q2, rfl, rfl, rfl, h2, r2⟩ := trodAll_cons r1
 obtain ⟨v3, vs3, d3, ds3, p3, q3, rfl, rfl, rfl, h3, r3⟩ := trodAll_cons r2
 obtain ⟨v4, vs4, d4, ds4, p4, q4, rfl, rfl, rfl, h4, r4⟩ := trodAll_cons r3
 obtain ⟨rfl, rfl, rfl⟩ := trodAll_nil r4
 obtain rfl : args = #[v0, v1, v2, v3, v4] := by cases args; simp_all
 obtain ⟨rfl, rfl⟩ := trodVars_none hV
 have close : ∀ W' : World, Below W.heap.size W W' → Rows.topFodderSpec.post enc Try.prog Try.f16 false true false false W #[v0, v1, v2, v3, v4] (.bool true) W' := fun W' hB => row_close laid read rfl res und4 hB hW' rfl
 suffices hc : Calls Try.prog 16 #[v0, v1, v2, v3, v4] W fun e w' => e = .returned (.bool true) ∧ Below W.heap.size W w' from hc.mono fun e W' ⟨he, hg⟩ => by
  subst he
  exact ⟨_, rfl, close W' hg⟩
 clear close
 obtain ⟨c0, rfl, s0⟩ := open_agg shTo und_25 fits0 (hval 0 25 v0 rfl rfl) h0
 obtain ⟨a1, rfl, rfl, rfl, w1⟩ := open_int und_5 (hval 1 5 v1 rfl rfl) h1
 have s2 := open_slc (.sl 1 shU) und_104 fits2 (hval 2 104 v2 rfl rfl) h2
 obtain ⟨a3, rfl, rfl, rfl, w3⟩ := open_int und_52 (hval 3 52 v3 rfl rfl) h3
 obtain ⟨a4, rfl, rfl, rfl, w4⟩ := open_int und_5 (hval 4 5 v4 rfl rfl) h4
 obtain ⟨x, rfl, hX⟩ := op_tour s0
 have h8 := wf8 w1
 obtain ⟨o2, c2, P, rfl, hP, hPl, hPb⟩ := op_us s2
 have h9 := wf16 w3
 have h10 := wf8 w4
 obtain ⟨kp, rfl⟩ : ∃ kp : Nat, a4 = kp := ⟨a4.toNat, by omega⟩
 exact TopFodder_ok x kp _ _ o2 c2 P W hX hP hPb hPl h8 h9 (by omega)
theorem over : Rows.topFodderRow.holds Try.pinned (OpenSpec.ofChange Rows.topFodderSpec) :=
 OpenClaim.holds_of_wide 16 Try.f16 rfl rfl rfl rfl rfl rfl rfl ⟨rfl, rfl, rfl, rfl, rfl⟩ rfl rfl rfl rfl rfl (by kernel_rfl) Try.func16 (by kernel_rfl)
  (of_decide_eq_true (by kernel_rfl)) (by unfold Func.isWrapper; first | (rw [if_pos (by decide +kernel)]; kernel_rfl) | (rw [if_neg (by decide +kernel)]; exact ⟨rfl, rfl⟩))
  (fun os started H enc _ => lifted os started H enc)
theorem proved : Rows.TopFodderSaid :=
 over
#print axioms proved
end Go.Proofs.Ythfabodamhdhaaa.topFodder
