/- The law of landing answers true at every flyer and net. -/
import Derived.Test.YtlehjapeomallaaFN
namespace Go.Proofs.Ytlehjapeomallaa
open Go Sx Go.RowKit

theorem under4 : Try.prog.underlying 4 = some .bool := by kernel_rfl
theorem eqIn4 (d : Nat) (a b : Bool) (w : World) : (Op.equalIn (d + 1) 4 (.bool a) (.bool b)).run Try.prog w = .ok (a == b) w := by
  rw [Op.equalIn]
  simp [Sem.run_bind, Go.run_underlying under4 w]
theorem neqB (a b : Bool) (x y : Operand) : RunIs Try.prog (do eqGuard .neq 4 x y (.bool a) (.bool b); binOp .neq 4 (.bool a) (.bool b)) (.bool (!(a == b))) := fun w => by
  have h := eqIn4 9999 a b w
  simp [eqGuard, binOp, Op.equal, Op.maxDepth, h]
theorem neqEB {a b : Bool} {x y : Operand} {K : Value → Prop} (h : K (.bool (!(a == b)))) : ∃ v, (∀ _ : Nat → Nat, RunIs Try.prog (do eqGuard .neq 4 x y (.bool a) (.bool b); binOp .neq 4 (.bool a) (.bool b)) v) ∧ K v := ⟨_, fun _ => neqB a b x y, h⟩

theorem Landing_a (f : Fl) (n : Nt) (w : World) (hk : ¬ (f.ok = true ∧ n.ok = true)) :
    Calls Try.prog 33 #[f.v, n.v] w fun e w' => e = .returned (.tuple #[(⟨0, 0⟩ : Rg).v, iv 1]) ∧ Below w.heap.size w w' := by have := Landing_ok f n w; rwa [if_neg (fun h => hk h.1), if_neg hk] at this
theorem Landing_b (f : Fl) (n : Nt) (w : World) (hk : f.ok = true ∧ n.ok = true) (hh : ¬ (lnd f n).hi ≥ 0) :
    Calls Try.prog 33 #[f.v, n.v] w fun e w' => e = .returned (.tuple #[(⟨0, 0⟩ : Rg).v, iv 7]) ∧ Below w.heap.size w w' := by have := Landing_ok f n w; rwa [if_neg (fun h => hh h.2), if_pos hk, if_neg hh] at this
theorem Landing_c (f : Fl) (n : Nt) (w : World) (hk : f.ok = true ∧ n.ok = true) (hh : (lnd f n).hi ≥ 0) :
    Calls Try.prog 33 #[f.v, n.v] w fun e w' => e = .returned (.tuple #[(lnd f n).v, iv 0]) ∧ Below w.heap.size w w' := by have := Landing_ok f n w; rwa [if_pos ⟨hk, hh⟩, if_pos hk, if_pos hh] at this
theorem Takes_a (f : Fl) (n : Nt) (w : World) (hk : ¬ (f.ok = true ∧ n.ok = true)) :
    Calls Try.prog 36 #[f.v, n.v] w fun e w' => e = .returned (.tuple #[.bool false, iv 1]) ∧ Below w.heap.size w w' := by have := Takes_ok f n w; rwa [if_neg hk, show (f.ok && n.ok) = false from by simpa using hk, Bool.false_and] at this
theorem Takes_b (f : Fl) (n : Nt) (w : World) (hk : f.ok = true ∧ n.ok = true) :
    Calls Try.prog 36 #[f.v, n.v] w fun e w' => e = .returned (.tuple #[.bool (tk f n), iv 0]) ∧ Below w.heap.size w w' := by have := Takes_ok f n w; rwa [if_pos hk, hk.1, hk.2, Bool.and_self, Bool.true_and] at this

set_option maxRecDepth 100000 in
theorem FlightLands_ok (f : Fl) (n : Nt) (w : World) : Calls Try.prog 9 #[f.v, n.v] w fun e w' => e = .returned (.bool true) ∧ Below w.heap.size w w' := by
  refine calls_val env mixed Try.func9 has9 Try.ntmps9 [f.v, n.v] (by simp) ?_
  by_cases hk : f.ok = true ∧ n.ok = true
  · by_cases hp : (lnd f n).hi ≥ 0
    · skip
      repeat'
        conv => whnf
        first
          | refine And.intro (a := drawB _ = true) (by kernel_rfl) ?_
          | refine And.intro (a := (_ : Bool) = true) rfl ?_
          | refine And.intro (a := (_ : Bool) = true ∧ (_ : Bool) = true) ⟨rfl, rfl⟩ ?_
          | refine And.intro (a := (_ : Bool) = true ∧ (_ : List _) = []) ⟨rfl, rfl⟩ ?_
          | refine And.intro (a := IR _ _) (And.intro (by omega) (by omega)) ?_
          | refine And.intro (a := (0 : Int) ≤ _ ∧ _ < _) (And.intro (by omega) (by omega)) ?_
          | refine splT ?_
          | refine splF ?_
          | refine splNot ?_
          | (refine splIn (fun hc => ?_) (fun hc => ?_) <;> first | (exfalso; omega) | skip)
          | (refine splD (fun hc => ?_) (fun hc => ?_) <;> first | (exfalso; omega) | skip)
          | (refine splE (fun hc => ?_) (fun hc => ?_) <;> first | (exfalso; omega) | skip)
          | (refine splNE (fun hc => ?_) (fun hc => ?_) <;> first | (exfalso; omega) | skip)
          | ((with_reducible show CallEv _ _ 34 _ _ _ _ _); refine callE (k := 34) (fun β w' hbw => Flyer_ok f _) ?_)
          | ((with_reducible show CallEv _ _ 35 _ _ _ _ _); refine callE (k := 35) (fun β w' hbw => Net_ok n _) ?_)
          | ((with_reducible show CallEv _ _ 33 _ _ _ _ _); refine callE (k := 33) (fun β w' hbw => Landing_c f n _ hk hp) ?_)
          | ((with_reducible show CallEv _ _ 36 _ _ _ _ _); refine callE (k := 36) (fun β w' hbw => Takes_b f n _ hk) ?_)
          | ((with_reducible show CallEv _ _ 37 _ _ _ _ _); refine callE (k := 37) (fun β w' hbw => (by have := RightFlyer_ok f w'; rwa [hk.1] at this)) ?_)
          | ((with_reducible show CallEv _ _ 38 _ _ _ _ _); refine callE (k := 38) (fun β w' hbw => (by have := RightNet_ok n w'; rwa [hk.2] at this)) ?_)
          | ((with_reducible show CallEv _ _ 39 _ _ _ _ _); refine callE (k := 39) (fun β w' hbw => Rlanding_y f n _ hk.1 hp) ?_)
          | ((with_reducible show CallEv _ _ 40 _ _ _ _ _); refine callE (k := 40) (fun β w' hbw => Rtakes_ok f n _ hk.1) ?_)
          | ((with_reducible show CallEv _ _ 21 _ _ _ _ _); refine callE (k := 21) (fun β w' hbw => Range_ok2 _ _ _) ?_)
          | ((with_reducible show CallEv _ _ 20 _ _ _ _ _); refine callE (k := 20) (fun β w' hbw => wakes_ok _) ?_)
          | refine eqlE23 (a := ⟨_, _⟩) (b := ⟨_, _⟩) ?_
          | refine neqEB ?_
          | refine splB (fun hc => ?_) (fun hc => ?_)
      all_goals first | exact ⟨fun β => rfl, fun w' h => h⟩ | (exfalso; rw [Rg.eqB_self] at *; contradiction) | (exfalso; simp_all; done)
    · skip
      repeat'
        conv => whnf
        first
          | refine And.intro (a := drawB _ = true) (by kernel_rfl) ?_
          | refine And.intro (a := (_ : Bool) = true) rfl ?_
          | refine And.intro (a := (_ : Bool) = true ∧ (_ : Bool) = true) ⟨rfl, rfl⟩ ?_
          | refine And.intro (a := (_ : Bool) = true ∧ (_ : List _) = []) ⟨rfl, rfl⟩ ?_
          | refine And.intro (a := IR _ _) (And.intro (by omega) (by omega)) ?_
          | refine And.intro (a := (0 : Int) ≤ _ ∧ _ < _) (And.intro (by omega) (by omega)) ?_
          | refine splT ?_
          | refine splF ?_
          | refine splNot ?_
          | (refine splIn (fun hc => ?_) (fun hc => ?_) <;> first | (exfalso; omega) | skip)
          | (refine splD (fun hc => ?_) (fun hc => ?_) <;> first | (exfalso; omega) | skip)
          | (refine splE (fun hc => ?_) (fun hc => ?_) <;> first | (exfalso; omega) | skip)
          | (refine splNE (fun hc => ?_) (fun hc => ?_) <;> first | (exfalso; omega) | skip)
          | ((with_reducible show CallEv _ _ 34 _ _ _ _ _); refine callE (k := 34) (fun β w' hbw => Flyer_ok f _) ?_)
          | ((with_reducible show CallEv _ _ 35 _ _ _ _ _); refine callE (k := 35) (fun β w' hbw => Net_ok n _) ?_)
          | ((with_reducible show CallEv _ _ 33 _ _ _ _ _); refine callE (k := 33) (fun β w' hbw => Landing_b f n _ hk hp) ?_)
          | ((with_reducible show CallEv _ _ 36 _ _ _ _ _); refine callE (k := 36) (fun β w' hbw => Takes_b f n _ hk) ?_)
          | ((with_reducible show CallEv _ _ 37 _ _ _ _ _); refine callE (k := 37) (fun β w' hbw => (by have := RightFlyer_ok f w'; rwa [hk.1] at this)) ?_)
          | ((with_reducible show CallEv _ _ 38 _ _ _ _ _); refine callE (k := 38) (fun β w' hbw => (by have := RightNet_ok n w'; rwa [hk.2] at this)) ?_)
          | ((with_reducible show CallEv _ _ 39 _ _ _ _ _); refine callE (k := 39) (fun β w' hbw => Rlanding_n f n _ hk.1 hp) ?_)
          | ((with_reducible show CallEv _ _ 40 _ _ _ _ _); refine callE (k := 40) (fun β w' hbw => Rtakes_ok f n _ hk.1) ?_)
          | ((with_reducible show CallEv _ _ 21 _ _ _ _ _); refine callE (k := 21) (fun β w' hbw => Range_ok2 _ _ _) ?_)
          | ((with_reducible show CallEv _ _ 20 _ _ _ _ _); refine callE (k := 20) (fun β w' hbw => wakes_ok _) ?_)
          | refine eqlE23 (a := ⟨_, _⟩) (b := ⟨_, _⟩) ?_
          | refine neqEB ?_
          | refine splB (fun hc => ?_) (fun hc => ?_)
      all_goals first | exact ⟨fun β => rfl, fun w' h => h⟩ | (exfalso; rw [Rg.eqB_self] at *; contradiction) | (exfalso; simp_all; done)
  · skip
    repeat'
      conv => whnf
      first
        | refine And.intro (a := drawB _ = true) (by kernel_rfl) ?_
        | refine And.intro (a := (_ : Bool) = true) rfl ?_
        | refine And.intro (a := (_ : Bool) = true ∧ (_ : Bool) = true) ⟨rfl, rfl⟩ ?_
        | refine And.intro (a := (_ : Bool) = true ∧ (_ : List _) = []) ⟨rfl, rfl⟩ ?_
        | refine And.intro (a := IR _ _) (And.intro (by omega) (by omega)) ?_
        | refine And.intro (a := (0 : Int) ≤ _ ∧ _ < _) (And.intro (by omega) (by omega)) ?_
        | refine splT ?_
        | refine splF ?_
        | refine splNot ?_
        | (refine splIn (fun hc => ?_) (fun hc => ?_) <;> first | (exfalso; omega) | skip)
        | (refine splD (fun hc => ?_) (fun hc => ?_) <;> first | (exfalso; omega) | skip)
        | (refine splE (fun hc => ?_) (fun hc => ?_) <;> first | (exfalso; omega) | skip)
        | (refine splNE (fun hc => ?_) (fun hc => ?_) <;> first | (exfalso; omega) | skip)
        | ((with_reducible show CallEv _ _ 34 _ _ _ _ _); refine callE (k := 34) (fun β w' hbw => Flyer_ok f _) ?_)
        | ((with_reducible show CallEv _ _ 35 _ _ _ _ _); refine callE (k := 35) (fun β w' hbw => Net_ok n _) ?_)
        | ((with_reducible show CallEv _ _ 33 _ _ _ _ _); refine callE (k := 33) (fun β w' hbw => Landing_a f n _ hk) ?_)
        | ((with_reducible show CallEv _ _ 36 _ _ _ _ _); refine callE (k := 36) (fun β w' hbw => Takes_a f n _ hk) ?_)
        | ((with_reducible show CallEv _ _ 37 _ _ _ _ _); refine callE (k := 37) (fun β w' hbw => RightFlyer_ok f _) ?_)
        | ((with_reducible show CallEv _ _ 38 _ _ _ _ _); refine callE (k := 38) (fun β w' hbw => RightNet_ok n _) ?_)
        | ((with_reducible show CallEv _ _ 39 _ _ _ _ _); refine callE (k := 39) (fun β w' hbw => Rlanding_ok f n _ (by simp_all)) ?_)
        | ((with_reducible show CallEv _ _ 20 _ _ _ _ _); refine callE (k := 20) (fun β w' hbw => wakes_ok _) ?_)
        | refine eqlE23 (a := ⟨_, _⟩) (b := ⟨_, _⟩) ?_
        | refine splB (fun hc => ?_) (fun hc => ?_)
    all_goals first | exact ⟨fun β => rfl, fun w' h => h⟩ | (exfalso; rw [Rg.eqB_self] at *; contradiction) | (exfalso; simp_all; done)
end Go.Proofs.Ytlehjapeomallaa
