/- What a point may bear: hangs. -/
import Derived.Test.YtfbokllafdnglaaPF
namespace Go.Proofs.Ytfbokllafdnglaa
open Go Tx Go.RowKit
set_option linter.unusedSimpArgs false
set_option linter.unusedVariables false

def hgR (b : Nat) : Rig := ⟨some ⟨b, 0, none⟩, 1, 1, none, 0, 0, 1000, 1000, 2000, none, 0, 0⟩
theorem hg_rm (b : Nat) : rmV (hgR b) [9] [] [] (-1) 0 2 = 4 ∧ rmE (hgR b) [9] [] [] (-1) 0 2 = 0 := ⟨by kernel_rfl, by kernel_rfl⟩
theorem hg_room (b : Nat) (w : World) (h : w.heap[b]? = some (.cells #[iv 9] 3 (0, 0))) : Calls Try.prog 14 #[.agg #[.slice (some ⟨b, 0, none⟩) 1 1, .slice none 0 0, iv 1000, iv 1000, iv 2000, .slice none 0 0], .agg #[iv (-1), iv 0], .int .u8 2] w fun e w' => e = .returned (.tuple #[iv 4, iv 0]) ∧ Below w.heap.size w w' := by
  have := Room_ok (hgR b) [9] [] [] (-1) 0 2 w ⟨Rd.of_cells (sz := 1) (f := iF) (fun _ => rfl) rfl h, .inl ⟨rfl, rfl⟩, .inl ⟨rfl, rfl⟩, rfl, rfl, rfl, by decide, by decide, by decide⟩ (fun _ => ⟨rfl, rfl⟩) (by decide)
  rw [(hg_rm b).1, (hg_rm b).2] at this
  exact this
set_option maxHeartbeats 2000000 in
set_option maxRecDepth 100000 in
theorem hangs_ok (w : World) : Calls Try.prog 8 #[] w fun e w' => e = .returned (.bool true) ∧ Below w.heap.size w w' := by
  refine calls_val env mixed Try.func8 has8 Try.ntmps8 [] (by simp) ?_
  repeat'
   conv => whnf
   first
    | refine zA ?_ | refine zB ?_ | refine zC ?_ | refine zD ?_ | refine zE ?_ | refine zF ?_ | refine zG ?_ | refine zH ?_ | refine zJ ?_ | refine zI ?_ | refine splT ?_ | refine splF ?_ | refine splNot ?_
    | ((first | refine splIn (fun hc => ?_) (fun hc => ?_) | refine splD (fun hc => ?_) (fun hc => ?_) | refine splE (fun hc => ?_) (fun hc => ?_) | refine splNE (fun hc => ?_) (fun hc => ?_)) <;> first | (exfalso; omega) | (exfalso; dsimp only at hc; omega) | skip)
    | ((with_reducible show CallEv _ _ 14 _ _ _ _ _); refine callM (k := 14) [0] (fun β w' hbk hbw => hg_room _ w' (hbk 0 (by simp) _ rfl)) ?_)
  all_goals first | (exfalso; omega) | exact ⟨fun β => rfl, fun w' h => h⟩
end Go.Proofs.Ytfbokllafdnglaa
