/- The oracle of awake(). -/
import Derived.Test.YtpleibfohjbneaaGreatH
namespace Go.Proofs.YtpleibfohjbneaaGreat
open Go Go.RowKit Tx
set_option maxRecDepth 100000
def orc1 : Nat → List EV → Option Value := fun k l => match l with
  | [] => bif Nat.beq k 16 then some (.bool true) else none
  | _ => none
theorem orc1_ok : OrcOK Tryz.prog env orc1 := fun k args v h => by
  unfold orc1 at h
  split at h
  · cases hb : Nat.beq k 16 with
    | false => rw [hb] at h; cases h
    | true =>
      rw [hb, cond_true, Option.some.injEq] at h
      subst h
      have hb := Nat.eq_of_beq_eq_true hb
      subst hb
      exact ⟨by kernel_rfl, fun L β w => awake_calls w⟩
  · cases h
end Go.Proofs.YtpleibfohjbneaaGreat
