/- Flyers of the reference: what RightFlyer returns. -/
import Derived.Test.YtfbokllafdnglaaQA
namespace Go.Proofs.Ytfbokllafdnglaa
open Go Tx Go.RowKit
set_option linter.unusedSimpArgs false
set_option linter.unusedVariables false

/-- A box: two ranges. -/
structure Bx where
  a : Int
  b : Int
  c : Int
  d : Int
abbrev Bx.cs (x : Bx) : List Value := [iv x.a, iv x.b, iv x.c, iv x.d]
def bxB (x : Bx) (n : Int) : Bool := btB x.a x.b n && btB x.c x.d n
def flB (p s : Bx) (m : Int) : Bool := bxB p 10000000 && (bxB s 10000 && inB m 1 200)
set_option maxHeartbeats 1000000 in
theorem RightFlyer_ok (p s : Bx) (m : Int) (w : World) : Calls Try.prog 37 #[.agg #[iv p.a, iv p.b, iv p.c, iv p.d, iv s.a, iv s.b, iv s.c, iv s.d, iv m]] w fun e w' => e = .returned (.bool (flB p s m)) ∧ Below w.heap.size w w' := by
  obtain ⟨a, b, c, d⟩ := p
  obtain ⟨a', b', c', d'⟩ := s
  dsimp only
  refine calls_val env mixed Try.func37 has37 Try.ntmps37 [.agg #[iv a, iv b, iv c, iv d, iv a', iv b', iv c', iv d', iv m]] (by simp) ?_
  have c1 := fun w' => Boxed_ok a b c d 10000000 w' (by omega)
  have c2 := fun w' => Boxed_ok a' b' c' d' 10000 w' (by omega)
  have c3 := fun w' => If_ok m 1 200 w'
  unfold flB bxB
  dsimp only
  generalize (btB a b 10000000 && btB c d 10000000) = q1 at *
  generalize (btB a' b' 10000 && btB c' d' 10000) = q2 at *
  generalize inB m 1 200 = q3 at *
  cases q1 <;> cases q2 <;> cases q3
  all_goals skip
  repeat'
   conv => whnf
   first
    | refine zA ?_ | refine zB ?_ | refine zC ?_ | refine zD ?_ | refine zE ?_ | refine zF ?_ | refine zG ?_ | refine zH ?_ | refine zJ ?_ | refine zI ?_ | refine splT ?_ | refine splF ?_ | refine splNot ?_
    | ((first | refine splIn (fun hc => ?_) (fun hc => ?_) | refine splD (fun hc => ?_) (fun hc => ?_) | refine splE (fun hc => ?_) (fun hc => ?_) | refine splNE (fun hc => ?_) (fun hc => ?_)) <;> first | (exfalso; omega) | (exfalso; dsimp only at hc; omega) | skip)
    | ((with_reducible show CallEv _ _ 36 [.agg [.v (iv a), .v (iv b), .v (iv c), .v (iv d)], .v (iv 10000000)] _ _ _ _); refine callE (k := 36) (fun β w' hbw => c1 _) ?_)
    | ((with_reducible show CallEv _ _ 36 [.agg [.v (iv a'), .v (iv b'), .v (iv c'), .v (iv d')], .v (iv 10000)] _ _ _ _); refine callE (k := 36) (fun β w' hbw => c2 _) ?_)
    | ((with_reducible show CallEv _ _ 38 _ _ _ _ _); refine callE (k := 38) (fun β w' hbw => c3 _) ?_)
  all_goals first | (exfalso; omega) | exact ⟨fun β => rfl, fun w' h => h⟩
end Go.Proofs.Ytfbokllafdnglaa
