/- Ranges and boxes of the reference: what In, Between, Boxed and RightFlyer return. -/
import Derived.Test.YtfbokllafdnglaaRGL
namespace Go.Proofs.Ytfbokllafdnglaa
open Go Tx Go.RowKit
set_option linter.unusedSimpArgs false
set_option linter.unusedVariables false

def btB (lo hi n : Int) : Bool := decide (-n ≤ lo) && (decide (lo ≤ hi) && decide (hi ≤ n))
theorem If_ok (n lo hi : Int) (w : World) : Calls Try.prog 38 #[iv n, iv lo, iv hi] w fun e w' => e = .returned (.bool (inB n lo hi)) ∧ Below w.heap.size w w' := by
  refine calls_val env mixed Try.func38 has38 Try.ntmps38 [iv n, iv lo, iv hi] (by simp) ?_
  repeat'
   conv => whnf
   first
    | refine zA ?_ | refine zB ?_ | refine zC ?_ | refine zD ?_ | refine zE ?_ | refine zF ?_ | refine zG ?_ | refine zH ?_ | refine zJ ?_ | refine zI ?_ | refine splT ?_ | refine splF ?_ | refine splNot ?_
    | ((first | refine splIn (fun hc => ?_) (fun hc => ?_) | refine splD (fun hc => ?_) (fun hc => ?_) | refine splE (fun hc => ?_) (fun hc => ?_) | refine splNE (fun hc => ?_) (fun hc => ?_)) <;> first | (exfalso; omega) | (exfalso; dsimp only at hc; omega) | skip)
  all_goals exact ⟨fun β => congrArg Value.bool (by simp [inB, *]), fun w' h => h⟩
theorem Between_ok (lo hi n : Int) (w : World) (hn : 0 ≤ n ∧ n ≤ 1000000000) : Calls Try.prog 74 #[.agg #[iv lo, iv hi], iv n] w fun e w' => e = .returned (.bool (btB lo hi n)) ∧ Below w.heap.size w w' := by
  refine calls_val env mixed Try.func74 has74 Try.ntmps74 [.agg #[iv lo, iv hi], iv n] (by simp) ?_
  by_cases h1 : -n ≤ lo <;> by_cases h2 : lo ≤ hi <;> by_cases h3 : hi ≤ n
  all_goals skip
  repeat'
   conv => whnf
   first
    | refine zA ?_ | refine zB ?_ | refine zC ?_ | refine zD ?_ | refine zE ?_ | refine zF ?_ | refine zG ?_ | refine zH ?_ | refine zJ ?_ | refine zI ?_ | refine splT ?_ | refine splF ?_ | refine splNot ?_
    | ((first | refine splIn (fun hc => ?_) (fun hc => ?_) | refine splD (fun hc => ?_) (fun hc => ?_) | refine splE (fun hc => ?_) (fun hc => ?_) | refine splNE (fun hc => ?_) (fun hc => ?_)) <;> first | (exfalso; omega) | (exfalso; dsimp only at hc; omega) | skip)
  all_goals first | (exfalso; omega) | exact ⟨fun β => congrArg Value.bool (by simp [btB, *]), fun w' h => h⟩ | exact ⟨fun β => congrArg Value.bool (by simp [btB]; omega), fun w' h => h⟩
set_option maxHeartbeats 1000000 in
theorem Boxed_ok (a b c d n : Int) (w : World) (hn : 0 ≤ n ∧ n ≤ 1000000000) : Calls Try.prog 36 #[.agg #[iv a, iv b, iv c, iv d], iv n] w fun e w' => e = .returned (.bool (btB a b n && btB c d n)) ∧ Below w.heap.size w w' := by
  refine calls_val env mixed Try.func36 has36 Try.ntmps36 [.agg #[iv a, iv b, iv c, iv d], iv n] (by simp) ?_
  have c1 := fun w' => Between_ok a b n w' hn
  have c2 := fun w' => Between_ok c d n w' hn
  cases q1 : btB a b n <;> cases q2 : btB c d n
  all_goals rw [q1] at c1
  all_goals rw [q2] at c2
  all_goals skip
  repeat'
   conv => whnf
   first
    | refine zA ?_ | refine zB ?_ | refine zC ?_ | refine zD ?_ | refine zE ?_ | refine zF ?_ | refine zG ?_ | refine zH ?_ | refine zJ ?_ | refine zI ?_ | refine splT ?_ | refine splF ?_ | refine splNot ?_
    | ((first | refine splIn (fun hc => ?_) (fun hc => ?_) | refine splD (fun hc => ?_) (fun hc => ?_) | refine splE (fun hc => ?_) (fun hc => ?_) | refine splNE (fun hc => ?_) (fun hc => ?_)) <;> first | (exfalso; omega) | (exfalso; dsimp only at hc; omega) | skip)
    | ((with_reducible show CallEv _ _ 74 [.agg [.v (iv a), .v (iv b)], .v (iv n)] _ _ _ _); refine callE (k := 74) (fun β w' hbw => c1 _) ?_)
    | ((with_reducible show CallEv _ _ 74 [.agg [.v (iv c), .v (iv d)], .v (iv n)] _ _ _ _); refine callE (k := 74) (fun β w' hbw => c2 _) ?_)
  all_goals first | (exfalso; omega) | exact ⟨fun β => rfl, fun w' h => h⟩
end Go.Proofs.Ytfbokllafdnglaa
