/- The law of nets that take a flyer answers true at every flyer, net and choice. -/
import Derived.Test.YtlehjapeomallaaFT
namespace Go.Proofs.Ytlehjapeomallaa
open Go Sx Go.RowKit
set_option linter.unusedSimpArgs false
set_option linter.unusedVariables false

/-- What a net that takes says of one choice. -/
theorem net_choice {f : Fl} {n : Nt} (hf : f.ok = true) (htk : tk f n = true) {x z u v : Int}
    (hx : f.a.x.lo ≤ x ∧ x ≤ f.a.x.hi) (hz : f.a.z.lo ≤ z ∧ z ≤ f.a.z.hi) (hu : f.s.x.lo ≤ u ∧ u ≤ f.s.x.hi) (hv : f.s.z.lo ≤ v ∧ v ≤ f.s.z.hi) :
    (lnd f n).hi ≤ 300 ∧ (lnd f n).hi ≥ 0 ∧ ∀ t, 0 ≤ t → t ≤ 300 → z + t * v - 49 * t * t ≤ n.h → (∀ s, 0 ≤ s → s < t → ¬ z + s * v - 49 * s * s ≤ n.h) →
      (lnd f n).lo ≤ t ∧ t ≤ (lnd f n).hi ∧ n.x.lo ≤ x + t * u ∧ x + t * u ≤ n.x.hi := by
  unfold tk at htk
  simp only [Bool.and_eq_true, decide_eq_true_eq] at htk
  obtain ⟨hp, hov⟩ := htk
  obtain ⟨l0, l1, l2⟩ := lnd_bd n hf hp
  rw [ovF_iff] at hov
  refine ⟨l2, hp, fun t t0 t1 ht hs => ?_⟩
  have m1 := mul_mid t0 hu.1 hu.2
  have m2 := mul_mid t0 hv.1 hv.2
  have hz0 : (f.af t).z.lo ≤ n.h := by simp only [Fl.af]; omega
  have hlo : (lnd f n).lo ≤ t := by
    rcases dnF_bd (fun t => (f.af t).z.lo) n.h 301 0 with e | ⟨e1, e2, e3, e4⟩
    · exact absurd hz0 (dnF_none (fun t => (f.af t).z.lo) n.h 301 0 (by omega) e t t0 (by omega))
    · refine Int.not_lt.1 fun hlt => e4 t t0 hlt hz0
  have hhi : t ≤ (lnd f n).hi := by
    refine Int.not_lt.1 fun hlt => ?_
    rcases dnF_bd (fun t => (f.af t).z.hi) n.h 301 0 with e | ⟨e1, e2, e3, e4⟩
    · have : (lnd f n).hi = -1 := e
      omega
    · have e3' : (f.af (lnd f n).hi).z.hi ≤ n.h := e3
      refine hs (lnd f n).hi hp hlt ?_
      have m3 := mul_mid (t := (lnd f n).hi) hp hv.1 hv.2
      simp only [Fl.af] at e3'
      omega
  have hx' := hov t hlo (by omega)
  simp only [Fl.af] at hx'
  exact ⟨hlo, hhi, by omega, by omega⟩

set_option maxRecDepth 100000 in
theorem FlightNetted_ok (f : Fl) (n : Nt) (w0 w1 w2 w3 : Int) (w : World) (h0 : 0 ≤ w0 ∧ w0 ≤ 65535) (h1 : 0 ≤ w1 ∧ w1 ≤ 65535) (h2 : 0 ≤ w2 ∧ w2 ≤ 65535) (h3 : 0 ≤ w3 ∧ w3 ≤ 65535) :
    Calls Try.prog 10 #[f.v, n.v, .agg #[uw w0, uw w1, uw w2, uw w3]] w fun e w' => e = .returned (.bool true) ∧ Below w.heap.size w w' := by
  refine calls_val env mixed Try.func10 has10 Try.ntmps10 [f.v, n.v, .agg #[uw w0, uw w1, uw w2, uw w3]] (by simp) ?_
  by_cases hk : f.ok = true ∧ n.ok = true
  case neg =>
    repeat'
      conv => whnf
      first
        | refine And.intro (a := drawB _ = true) (by kernel_rfl) ?_
        | refine And.intro (a := (_ : Bool) = true) rfl ?_
        | refine And.intro (a := (_ : Bool) = true ∧ (_ : Bool) = true) ⟨rfl, rfl⟩ ?_
        | refine And.intro (a := (_ : Bool) = true ∧ (_ : List _) = []) ⟨rfl, rfl⟩ ?_
        | refine And.intro (a := IR _ _) (And.intro (by omega) (by omega)) ?_
        | refine And.intro (a := (0 : Int) ≤ _ ∧ _ < _) (And.intro (by omega) (by omega)) ?_
        | refine And.intro (a := (_ : Bool) = true) (by simp only [Nat.beq_refl]; rfl) ?_
        | refine And.intro (a := ((_ : Bool) = true → 1 ≤ _) ∧ _ ≤ 9223372036854775807 ∧ _ ≤ 140737488355328) ⟨fun h => (by first | omega | cases h), by omega, by omega⟩ ?_
        | refine splT ?_
        | refine splF ?_
        | refine splNot ?_
        | (refine splIn (fun hc => ?_) (fun hc => ?_) <;> first | (exfalso; omega) | (exfalso; dsimp only at hc; omega) | skip)
        | (refine splD (fun hc => ?_) (fun hc => ?_) <;> first | (exfalso; omega) | (exfalso; dsimp only at hc; omega) | skip)
        | (refine splE (fun hc => ?_) (fun hc => ?_) <;> first | (exfalso; omega) | (exfalso; dsimp only at hc; omega) | skip)
        | (refine splNE (fun hc => ?_) (fun hc => ?_) <;> first | (exfalso; omega) | (exfalso; dsimp only at hc; omega) | skip)
        | ((with_reducible show CallEv _ _ 37 _ _ _ _ _); refine callE (k := 37) (fun β w' hbw => RightFlyer_ok f _) ?_)
        | ((with_reducible show CallEv _ _ 38 _ _ _ _ _); refine callE (k := 38) (fun β w' hbw => RightNet_ok n _) ?_)
        | ((with_reducible show CallEv _ _ 20 _ _ _ _ _); refine callE (k := 20) (fun β w' hbw => wakes_ok _) ?_)
        | refine splB (fun hc => ?_) (fun hc => ?_)
    all_goals first | exact ⟨fun β => rfl, fun w' h => h⟩ | (exfalso; simp_all; done)
  have hRf : ∀ w', Calls Try.prog 37 #[f.v] w' fun e w'' => e = .returned (.bool true) ∧ Below w'.heap.size w' w'' := fun w' => by have := RightFlyer_ok f w'; rwa [hk.1] at this
  have hRn : ∀ w', Calls Try.prog 38 #[n.v] w' fun e w'' => e = .returned (.bool true) ∧ Below w'.heap.size w' w'' := fun w' => by have := RightNet_ok n w'; rwa [hk.2] at this
  by_cases hp : (lnd f n).hi ≥ 0
  case neg =>
    have htk : tk f n = false := by unfold tk; rw [decide_eq_false hp, Bool.false_and]
    have hT := fun w' => Takes_b f n w' hk
    rw [htk] at hT
    repeat'
      conv => whnf
      first
        | refine And.intro (a := drawB _ = true) (by kernel_rfl) ?_
        | refine And.intro (a := (_ : Bool) = true) rfl ?_
        | refine And.intro (a := (_ : Bool) = true ∧ (_ : Bool) = true) ⟨rfl, rfl⟩ ?_
        | refine And.intro (a := (_ : Bool) = true ∧ (_ : List _) = []) ⟨rfl, rfl⟩ ?_
        | refine And.intro (a := IR _ _) (And.intro (by omega) (by omega)) ?_
        | refine And.intro (a := (0 : Int) ≤ _ ∧ _ < _) (And.intro (by omega) (by omega)) ?_
        | refine And.intro (a := (_ : Bool) = true) (by simp only [Nat.beq_refl]; rfl) ?_
        | refine And.intro (a := ((_ : Bool) = true → 1 ≤ _) ∧ _ ≤ 9223372036854775807 ∧ _ ≤ 140737488355328) ⟨fun h => (by first | omega | cases h), by omega, by omega⟩ ?_
        | refine splT ?_
        | refine splF ?_
        | refine splNot ?_
        | (refine splIn (fun hc => ?_) (fun hc => ?_) <;> first | (exfalso; omega) | (exfalso; dsimp only at hc; omega) | skip)
        | (refine splD (fun hc => ?_) (fun hc => ?_) <;> first | (exfalso; omega) | (exfalso; dsimp only at hc; omega) | skip)
        | (refine splE (fun hc => ?_) (fun hc => ?_) <;> first | (exfalso; omega) | (exfalso; dsimp only at hc; omega) | skip)
        | (refine splNE (fun hc => ?_) (fun hc => ?_) <;> first | (exfalso; omega) | (exfalso; dsimp only at hc; omega) | skip)
        | ((with_reducible show CallEv _ _ 34 _ _ _ _ _); refine callE (k := 34) (fun β w' hbw => Flyer_ok f _) ?_)
        | ((with_reducible show CallEv _ _ 35 _ _ _ _ _); refine callE (k := 35) (fun β w' hbw => Net_ok n _) ?_)
        | ((with_reducible show CallEv _ _ 37 _ _ _ _ _); refine callE (k := 37) (fun β w' hbw => hRf _) ?_)
        | ((with_reducible show CallEv _ _ 38 _ _ _ _ _); refine callE (k := 38) (fun β w' hbw => hRn _) ?_)
        | ((with_reducible show CallEv _ _ 36 _ _ _ _ _); refine callE (k := 36) (fun β w' hbw => hT _) ?_)
        | ((with_reducible show CallEv _ _ 33 _ _ _ _ _); refine callE (k := 33) (fun β w' hbw => Landing_b f n _ hk hp) ?_)
        | ((with_reducible show CallEv _ _ 20 _ _ _ _ _); refine callE (k := 20) (fun β w' hbw => wakes_ok _) ?_)
    all_goals exact ⟨fun β => rfl, fun w' h => h⟩
  by_cases htk : tk f n = true
  case neg =>
    have hT := fun w' => Takes_b f n w' hk
    rw [Bool.eq_false_iff.2 htk] at hT
    repeat'
      conv => whnf
      first
        | refine And.intro (a := drawB _ = true) (by kernel_rfl) ?_
        | refine And.intro (a := (_ : Bool) = true) rfl ?_
        | refine And.intro (a := (_ : Bool) = true ∧ (_ : Bool) = true) ⟨rfl, rfl⟩ ?_
        | refine And.intro (a := (_ : Bool) = true ∧ (_ : List _) = []) ⟨rfl, rfl⟩ ?_
        | refine And.intro (a := IR _ _) (And.intro (by omega) (by omega)) ?_
        | refine And.intro (a := (0 : Int) ≤ _ ∧ _ < _) (And.intro (by omega) (by omega)) ?_
        | refine And.intro (a := (_ : Bool) = true) (by simp only [Nat.beq_refl]; rfl) ?_
        | refine And.intro (a := ((_ : Bool) = true → 1 ≤ _) ∧ _ ≤ 9223372036854775807 ∧ _ ≤ 140737488355328) ⟨fun h => (by first | omega | cases h), by omega, by omega⟩ ?_
        | refine splT ?_
        | refine splF ?_
        | refine splNot ?_
        | (refine splIn (fun hc => ?_) (fun hc => ?_) <;> first | (exfalso; omega) | (exfalso; dsimp only at hc; omega) | skip)
        | (refine splD (fun hc => ?_) (fun hc => ?_) <;> first | (exfalso; omega) | (exfalso; dsimp only at hc; omega) | skip)
        | (refine splE (fun hc => ?_) (fun hc => ?_) <;> first | (exfalso; omega) | (exfalso; dsimp only at hc; omega) | skip)
        | (refine splNE (fun hc => ?_) (fun hc => ?_) <;> first | (exfalso; omega) | (exfalso; dsimp only at hc; omega) | skip)
        | ((with_reducible show CallEv _ _ 34 _ _ _ _ _); refine callE (k := 34) (fun β w' hbw => Flyer_ok f _) ?_)
        | ((with_reducible show CallEv _ _ 35 _ _ _ _ _); refine callE (k := 35) (fun β w' hbw => Net_ok n _) ?_)
        | ((with_reducible show CallEv _ _ 37 _ _ _ _ _); refine callE (k := 37) (fun β w' hbw => hRf _) ?_)
        | ((with_reducible show CallEv _ _ 38 _ _ _ _ _); refine callE (k := 38) (fun β w' hbw => hRn _) ?_)
        | ((with_reducible show CallEv _ _ 36 _ _ _ _ _); refine callE (k := 36) (fun β w' hbw => hT _) ?_)
        | ((with_reducible show CallEv _ _ 33 _ _ _ _ _); refine callE (k := 33) (fun β w' hbw => Landing_c f n _ hk hp) ?_)
        | ((with_reducible show CallEv _ _ 20 _ _ _ _ _); refine callE (k := 20) (fun β w' hbw => wakes_ok _) ?_)
    all_goals exact ⟨fun β => rfl, fun w' h => h⟩
  have hT := fun w' => Takes_b f n w' hk
  rw [htk] at hT
  have hL := fun w' => Landing_c f n w' hk hp
  have hf' := Fl.ok_iff.1 hk.1
  have px := pick_bd (lo := f.a.x.lo) (hi := f.a.x.hi) (w := w0) (by omega)
  have pz := pick_bd (lo := f.a.z.lo) (hi := f.a.z.hi) (w := w1) (by omega)
  have pu := pick_bd (lo := f.s.x.lo) (hi := f.s.x.hi) (w := w2) (by omega)
  have pv := pick_bd (lo := f.s.z.lo) (hi := f.s.z.hi) (w := w3) (by omega)
  have kx := fun w' => pick_ok f.a.x.lo f.a.x.hi w0 w' (by omega) (by omega) (by omega) h0
  have kz := fun w' => pick_ok f.a.z.lo f.a.z.hi w1 w' (by omega) (by omega) (by omega) h1
  have ku := fun w' => pick_ok f.s.x.lo f.s.x.hi w2 w' (by omega) (by omega) (by omega) h2
  have kv := fun w' => pick_ok f.s.z.lo f.s.z.hi w3 w' (by omega) (by omega) (by omega) h3
  generalize f.a.x.lo + w0 % (f.a.x.hi - f.a.x.lo + 1) = x at *
  generalize f.a.z.lo + w1 % (f.a.z.hi - f.a.z.lo + 1) = z at *
  generalize f.s.x.lo + w2 % (f.s.x.hi - f.s.x.lo + 1) = u at *
  generalize f.s.z.lo + w3 % (f.s.z.hi - f.s.z.lo + 1) = v at *
  obtain ⟨c1, c2, c3⟩ := net_choice hk.1 htk px pz pu pv
  repeat'
    conv => whnf
    first
      | refine And.intro (a := drawB _ = true) (by kernel_rfl) ?_
      | refine And.intro (a := (_ : Bool) = true) rfl ?_
      | refine And.intro (a := (_ : Bool) = true ∧ (_ : Bool) = true) ⟨rfl, rfl⟩ ?_
      | refine And.intro (a := (_ : Bool) = true ∧ (_ : List _) = []) ⟨rfl, rfl⟩ ?_
      | refine And.intro (a := IR _ _) (And.intro (by omega) (by omega)) ?_
      | refine And.intro (a := (0 : Int) ≤ _ ∧ _ < _) (And.intro (by omega) (by omega)) ?_
      | refine And.intro (a := (_ : Bool) = true) (by simp only [Nat.beq_refl]; rfl) ?_
      | refine And.intro (a := ((_ : Bool) = true → 1 ≤ _) ∧ _ ≤ 9223372036854775807 ∧ _ ≤ 140737488355328) ⟨fun h => (by first | omega | cases h), by omega, by omega⟩ ?_
      | refine splT ?_
      | refine splF ?_
      | refine splNot ?_
      | (refine splIn (fun hc => ?_) (fun hc => ?_) <;> first | (exfalso; omega) | (exfalso; dsimp only at hc; omega) | skip)
      | (refine splD (fun hc => ?_) (fun hc => ?_) <;> first | (exfalso; omega) | (exfalso; dsimp only at hc; omega) | skip)
      | (refine splE (fun hc => ?_) (fun hc => ?_) <;> first | (exfalso; omega) | (exfalso; dsimp only at hc; omega) | skip)
      | (refine splNE (fun hc => ?_) (fun hc => ?_) <;> first | (exfalso; omega) | (exfalso; dsimp only at hc; omega) | skip)
      | ((with_reducible show CallEv _ _ 34 _ _ _ _ _); refine callE (k := 34) (fun β w' hbw => Flyer_ok f _) ?_)
      | ((with_reducible show CallEv _ _ 35 _ _ _ _ _); refine callE (k := 35) (fun β w' hbw => Net_ok n _) ?_)
      | ((with_reducible show CallEv _ _ 37 _ _ _ _ _); refine callE (k := 37) (fun β w' hbw => hRf _) ?_)
      | ((with_reducible show CallEv _ _ 38 _ _ _ _ _); refine callE (k := 38) (fun β w' hbw => hRn _) ?_)
      | ((with_reducible show CallEv _ _ 36 _ _ _ _ _); refine callE (k := 36) (fun β w' hbw => hT _) ?_)
      | ((with_reducible show CallEv _ _ 33 _ _ _ _ _); refine callE (k := 33) (fun β w' hbw => hL _) ?_)
      | ((with_reducible show CallEv _ _ 29 [.agg [.v (iv f.a.x.lo), _], _] _ _ _ _); refine callE (fun β w' hbw => kx _) ?_)
      | ((with_reducible show CallEv _ _ 29 [.agg [.v (iv f.a.z.lo), _], _] _ _ _ _); refine callE (fun β w' hbw => kz _) ?_)
      | ((with_reducible show CallEv _ _ 29 [.agg [.v (iv f.s.x.lo), _], _] _ _ _ _); refine callE (fun β w' hbw => ku _) ?_)
      | ((with_reducible show CallEv _ _ 29 [.agg [.v (iv f.s.z.lo), _], _] _ _ _ _); refine callE (fun β w' hbw => kv _) ?_)
  refine loopE (fun t : Int => [(4, .ptr 1 0), (9, .ptr 3 0), (11, .v (iv x)), (12, .v (iv z)), (13, .v (iv u)), (14, .v (iv v)), (15, .v (iv t))]) (fun _ => [(1, .cells [.v (iv n.x.lo), .v (iv n.x.hi), .v (iv n.h)] 70), (3, .cells [.v (iv (lnd f n).lo), .v (iv (lnd f n).hi)] 23)])
    (fun t => (0 ≤ t ∧ t ≤ 301) ∧ ∀ s, 0 ≤ s → s < t → ¬ z + s * v - 49 * s * s ≤ n.h) (fun t => (301 - t).toNat) 0 ⟨by omega, fun s a b => by omega⟩ ⟨rfl, rfl, rfl, rfl, rfl, rfl, rfl, trivial⟩ ⟨rfl, rfl, trivial⟩ (fun _ => ⟨rfl, rfl⟩) ?_
  rintro t ⟨g0, g1⟩
  by_cases ht : t ≤ 300
  · have b1 := mul_small (t := t) (u := u) (m := 10000) (by omega) (by omega) (by omega)
    have b2 := mul_small (t := t) (u := v) (m := 10000) (by omega) (by omega) (by omega)
    have b3 := sq49 (t := t) (by omega)
    by_cases hle : z + t * v - 49 * t * t ≤ n.h
    · obtain ⟨q1, q2, q3, q4⟩ := c3 t g0.1 ht hle g1
      clear c3 g1
      repeat'
        conv => whnf
        first
          | refine And.intro (a := drawB _ = true) (by kernel_rfl) ?_
          | refine And.intro (a := (_ : Bool) = true) rfl ?_
          | refine And.intro (a := (_ : Bool) = true ∧ (_ : Bool) = true) ⟨rfl, rfl⟩ ?_
          | refine And.intro (a := (_ : Bool) = true ∧ (_ : List _) = []) ⟨rfl, rfl⟩ ?_
          | refine And.intro (a := IR _ _) (And.intro (by omega) (by omega)) ?_
          | refine And.intro (a := (0 : Int) ≤ _ ∧ _ < _) (And.intro (by omega) (by omega)) ?_
          | refine And.intro (a := (_ : Bool) = true) (by simp only [Nat.beq_refl]; rfl) ?_
          | refine And.intro (a := ((_ : Bool) = true → 1 ≤ _) ∧ _ ≤ 9223372036854775807 ∧ _ ≤ 140737488355328) ⟨fun h => (by first | omega | cases h), by omega, by omega⟩ ?_
          | refine splT ?_
          | refine splF ?_
          | refine splNot ?_
          | (refine splIn (fun hc => ?_) (fun hc => ?_) <;> first | (exfalso; omega) | (exfalso; dsimp only at hc; omega) | skip)
          | (refine splD (fun hc => ?_) (fun hc => ?_) <;> first | (exfalso; omega) | (exfalso; dsimp only at hc; omega) | skip)
          | (refine splE (fun hc => ?_) (fun hc => ?_) <;> first | (exfalso; omega) | (exfalso; dsimp only at hc; omega) | skip)
          | (refine splNE (fun hc => ?_) (fun hc => ?_) <;> first | (exfalso; omega) | (exfalso; dsimp only at hc; omega) | skip)
          | ((with_reducible show CallEv _ _ 20 _ _ _ _ _); refine callE (k := 20) (fun β w' hbw => wakes_ok _) ?_)
      all_goals exact ⟨fun β => rfl, fun w' h => h⟩
    · clear c3
      repeat'
        conv => whnf
        first
          | refine And.intro (a := drawB _ = true) (by kernel_rfl) ?_
          | refine And.intro (a := (_ : Bool) = true) rfl ?_
          | refine And.intro (a := (_ : Bool) = true ∧ (_ : Bool) = true) ⟨rfl, rfl⟩ ?_
          | refine And.intro (a := (_ : Bool) = true ∧ (_ : List _) = []) ⟨rfl, rfl⟩ ?_
          | refine And.intro (a := IR _ _) (And.intro (by omega) (by omega)) ?_
          | refine And.intro (a := (0 : Int) ≤ _ ∧ _ < _) (And.intro (by omega) (by omega)) ?_
          | refine And.intro (a := (_ : Bool) = true) (by simp only [Nat.beq_refl]; rfl) ?_
          | refine And.intro (a := ((_ : Bool) = true → 1 ≤ _) ∧ _ ≤ 9223372036854775807 ∧ _ ≤ 140737488355328) ⟨fun h => (by first | omega | cases h), by omega, by omega⟩ ?_
          | refine splT ?_
          | refine splF ?_
          | refine splNot ?_
          | (refine splIn (fun hc => ?_) (fun hc => ?_) <;> first | (exfalso; omega) | (exfalso; dsimp only at hc; omega) | skip)
          | (refine splD (fun hc => ?_) (fun hc => ?_) <;> first | (exfalso; omega) | (exfalso; dsimp only at hc; omega) | skip)
          | (refine splE (fun hc => ?_) (fun hc => ?_) <;> first | (exfalso; omega) | (exfalso; dsimp only at hc; omega) | skip)
          | (refine splNE (fun hc => ?_) (fun hc => ?_) <;> first | (exfalso; omega) | (exfalso; dsimp only at hc; omega) | skip)
          | ((with_reducible show CallEv _ _ 20 _ _ _ _ _); refine callE (k := 20) (fun β w' hbw => wakes_ok _) ?_)
      exact ⟨t + 1, ⟨by omega, fun s a b => by
        by_cases hs : s = t
        · subst hs; exact hle
        · exact g1 s a (by omega)⟩, by omega, Ent.weak rfl ⟨rfl, rfl, rfl, rfl, rfl, rfl, rfl, trivial⟩ ⟨rfl, rfl, trivial⟩ fun _ h => h⟩
  · exfalso
    rcases dnF_bd (fun t => (f.af t).z.hi) n.h 301 0 with e | ⟨e1, e2, e3, e4⟩
    · have : (lnd f n).hi = -1 := e
      omega
    · have e3' : (f.af (lnd f n).hi).z.hi ≤ n.h := e3
      refine g1 (lnd f n).hi hp (by omega) ?_
      have m3 := mul_mid (t := (lnd f n).hi) hp pv.1 pv.2
      simp only [Fl.af] at e3'
      omega
end Go.Proofs.Ytlehjapeomallaa
