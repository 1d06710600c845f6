/- The reference's taking, and the law of landing, answer as said. -/
import Derived.Test.YtlehjapeomallaaFM
namespace Go.Proofs.Ytlehjapeomallaa
open Go Sx Go.RowKit

theorem Rlanding_y (f : Fl) (n : Nt) (w : World) (hf : f.ok = true) (hp : (lnd f n).hi ≥ 0) :
    Calls Try.prog 39 #[f.v, n.v] w fun e w' => e = .returned (.tuple #[(lnd f n).v, .bool true]) ∧ Below w.heap.size w w' := by have := Rlanding_ok f n w hf; rwa [decide_eq_true hp] at this
theorem Rlanding_n (f : Fl) (n : Nt) (w : World) (hf : f.ok = true) (hp : ¬ (lnd f n).hi ≥ 0) :
    Calls Try.prog 39 #[f.v, n.v] w fun e w' => e = .returned (.tuple #[(lnd f n).v, .bool false]) ∧ Below w.heap.size w w' := by have := Rlanding_ok f n w hf; rwa [decide_eq_false hp] at this

set_option maxRecDepth 100000 in
theorem Rtakes_ok (f : Fl) (n : Nt) (w : World) (hf : f.ok = true) :
    Calls Try.prog 40 #[f.v, n.v] w fun e w' => e = .returned (.bool (tk f n)) ∧ Below w.heap.size w w' := by
  refine calls_val env mixed Try.func40 has40 Try.ntmps40 [f.v, n.v] (by simp) ?_
  by_cases hp : (lnd f n).hi ≥ 0
  · have hl := lnd_bd n hf hp
    repeat'
      conv => whnf
      first
        | refine And.intro (a := drawB _ = true) (by kernel_rfl) ?_
        | refine And.intro (a := (_ : Bool) = true) rfl ?_
        | refine And.intro (a := (_ : Bool) = true ∧ (_ : Bool) = true) ⟨rfl, rfl⟩ ?_
        | refine And.intro (a := (_ : Bool) = true ∧ (_ : List _) = []) ⟨rfl, rfl⟩ ?_
        | refine And.intro (a := IR _ _) (And.intro (by omega) (by omega)) ?_
        | refine And.intro (a := (0 : Int) ≤ _ ∧ _ < _) (And.intro (by omega) (by omega)) ?_
        | refine splT ?_
        | refine splF ?_
        | refine splNot ?_
        | (refine splIn (fun hc => ?_) (fun hc => ?_) <;> first | (exfalso; omega) | skip)
        | (refine splD (fun hc => ?_) (fun hc => ?_) <;> first | (exfalso; omega) | skip)
        | (refine splE (fun hc => ?_) (fun hc => ?_) <;> first | (exfalso; omega) | skip)
        | (refine splNE (fun hc => ?_) (fun hc => ?_) <;> first | (exfalso; omega) | skip)
        | ((with_reducible show CallEv _ _ 39 _ _ _ _ _); refine callE (k := 39) (fun β w' hbw => Rlanding_y f n _ hf hp) ?_)
    refine loopE (fun t : Int => [(2, .ptr 0 0), (3, .ptr 1 0), (5, .ptr 2 0), (7, .v (iv t))]) (fun _ => [(0, .cells [.v (iv f.a.x.lo), .v (iv f.a.x.hi), .v (iv f.a.z.lo), .v (iv f.a.z.hi), .v (iv f.s.x.lo), .v (iv f.s.x.hi), .v (iv f.s.z.lo), .v (iv f.s.z.hi), .v (iv f.m)] 36), (1, .cells [.v (iv n.x.lo), .v (iv n.x.hi), .v (iv n.h)] 70), (2, .cells [.v (iv (lnd f n).lo), .v (iv (lnd f n).hi)] 30)])
      (fun t => ((lnd f n).lo ≤ t ∧ t ≤ (lnd f n).hi + 1) ∧ ovF f n ((lnd f n).hi + 1 - t).toNat t = tk f n) (fun t => (301 - t).toNat) (lnd f n).lo ⟨by omega, by unfold tk; rw [decide_eq_true hp, Bool.true_and]⟩ ⟨rfl, rfl, rfl, rfl, trivial⟩ ⟨rfl, rfl, rfl, trivial⟩ (fun _ => ⟨rfl, rfl⟩) ?_
    rintro t ⟨g0, g1⟩
    repeat'
      conv => whnf
      first
        | refine And.intro (a := drawB _ = true) (by kernel_rfl) ?_
        | refine And.intro (a := (_ : Bool) = true) rfl ?_
        | refine And.intro (a := (_ : Bool) = true ∧ (_ : Bool) = true) ⟨rfl, rfl⟩ ?_
        | refine And.intro (a := (_ : Bool) = true ∧ (_ : List _) = []) ⟨rfl, rfl⟩ ?_
        | refine And.intro (a := IR _ _) (And.intro (by omega) (by omega)) ?_
        | refine And.intro (a := (0 : Int) ≤ _ ∧ _ < _) (And.intro (by omega) (by omega)) ?_
        | refine splT ?_
        | refine splF ?_
        | refine splNot ?_
        | (refine splIn (fun hc => ?_) (fun hc => ?_) <;> first | (exfalso; omega) | skip)
        | (refine splD (fun hc => ?_) (fun hc => ?_) <;> first | (exfalso; omega) | skip)
        | (refine splE (fun hc => ?_) (fun hc => ?_) <;> first | (exfalso; omega) | skip)
        | (refine splNE (fun hc => ?_) (fun hc => ?_) <;> first | (exfalso; omega) | skip)
        | ((with_reducible show CallEv _ _ 45 _ _ _ _ _); refine callE (k := 45) (fun β w' hbw => Rafter_ok f t _ hf (by omega) (by omega)) ?_)
    · rw [show ((lnd f n).hi + 1 - t).toNat = ((lnd f n).hi - t).toNat + 1 from by omega, ovF] at g1
      exact ⟨fun β => by rw [← g1, decide_eq_false (by omega : ¬ n.x.lo ≤ (f.af t).x.lo)]; rfl, fun w' h => h⟩
    · rw [show ((lnd f n).hi + 1 - t).toNat = ((lnd f n).hi - t).toNat + 1 from by omega, ovF] at g1
      exact ⟨fun β => by rw [← g1, decide_eq_false (by omega : ¬ (f.af t).x.hi ≤ n.x.hi), Bool.and_false]; rfl, fun w' h => h⟩
    · rw [show ((lnd f n).hi + 1 - t).toNat = ((lnd f n).hi + 1 - (t + 1)).toNat + 1 from by omega, ovF, decide_eq_true (by omega : n.x.lo ≤ (f.af t).x.lo), decide_eq_true (by omega : (f.af t).x.hi ≤ n.x.hi)] at g1
      exact ⟨t + 1, ⟨by omega, by simpa using g1⟩, by omega, Ent.weak rfl ⟨rfl, rfl, rfl, rfl, trivial⟩ ⟨rfl, rfl, rfl, trivial⟩ fun _ h => h⟩
    · rw [show ((lnd f n).hi + 1 - t).toNat = 0 from by omega, ovF] at g1
      exact ⟨fun β => by rw [← g1]; rfl, fun w' h => h⟩
  · rw [show tk f n = false from by unfold tk; rw [decide_eq_false hp, Bool.false_and]]
    repeat'
      conv => whnf
      first
        | refine And.intro (a := drawB _ = true) (by kernel_rfl) ?_
        | refine And.intro (a := (_ : Bool) = true) rfl ?_
        | refine And.intro (a := (_ : Bool) = true ∧ (_ : Bool) = true) ⟨rfl, rfl⟩ ?_
        | refine And.intro (a := (_ : Bool) = true ∧ (_ : List _) = []) ⟨rfl, rfl⟩ ?_
        | refine And.intro (a := IR _ _) (And.intro (by omega) (by omega)) ?_
        | refine And.intro (a := (0 : Int) ≤ _ ∧ _ < _) (And.intro (by omega) (by omega)) ?_
        | refine splT ?_
        | refine splF ?_
        | refine splNot ?_
        | (refine splIn (fun hc => ?_) (fun hc => ?_) <;> first | (exfalso; omega) | skip)
        | (refine splD (fun hc => ?_) (fun hc => ?_) <;> first | (exfalso; omega) | skip)
        | (refine splE (fun hc => ?_) (fun hc => ?_) <;> first | (exfalso; omega) | skip)
        | (refine splNE (fun hc => ?_) (fun hc => ?_) <;> first | (exfalso; omega) | skip)
        | ((with_reducible show CallEv _ _ 39 _ _ _ _ _); refine callE (k := 39) (fun β w' hbw => Rlanding_n f n _ hf hp) ?_)
    exact ⟨fun β => rfl, fun w' h => h⟩
end Go.Proofs.Ytlehjapeomallaa
