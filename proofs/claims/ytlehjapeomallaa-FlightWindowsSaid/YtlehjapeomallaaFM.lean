/- The law's conversions, and the reference's landing and taking, return what is said. -/
import Derived.Test.YtlehjapeomallaaFL
namespace Go.Proofs.Ytlehjapeomallaa
open Go Sx Go.RowKit

theorem Box_ok (a b c d : Int) (w : World) : Calls Try.prog 44 #[.agg #[iv a, iv b, iv c, iv d]] w fun e w' => e = .returned (.agg #[iv a, iv b, iv c, iv d]) ∧ Below w.heap.size w w' := by
  refine calls_val env mixed Try.func44 has44 Try.ntmps44 [.agg #[iv a, iv b, iv c, iv d]] (by simp) ?_
  repeat'
    conv => whnf
    first
      | refine And.intro (a := drawB _ = true) (by kernel_rfl) ?_
      | refine And.intro (a := (_ : Bool) = true) rfl ?_
      | refine And.intro (a := (_ : Bool) = true ∧ (_ : Bool) = true) ⟨rfl, rfl⟩ ?_
      | refine And.intro (a := (_ : Bool) = true ∧ (_ : List _) = []) ⟨rfl, rfl⟩ ?_
      | refine And.intro (a := IR _ _) (And.intro (by omega) (by omega)) ?_
      | refine And.intro (a := (0 : Int) ≤ _ ∧ _ < _) (And.intro (by omega) (by omega)) ?_
      | refine splT ?_
      | refine splF ?_
      | refine splNot ?_
      | (refine splIn (fun hc => ?_) (fun hc => ?_) <;> first | (exfalso; omega) | skip)
      | (refine splD (fun hc => ?_) (fun hc => ?_) <;> first | (exfalso; omega) | skip)
      | (refine splE (fun hc => ?_) (fun hc => ?_) <;> first | (exfalso; omega) | skip)
      | (refine splNE (fun hc => ?_) (fun hc => ?_) <;> first | (exfalso; omega) | skip)
      | ((with_reducible show CallEv _ _ 21 _ _ _ _ _); refine callE (k := 21) (fun β w' hbw => Range_ok2 _ _ _) ?_)
  exact ⟨fun β => rfl, fun w' h => h⟩
theorem Flyer_ok (f : Fl) (w : World) : Calls Try.prog 34 #[f.v] w fun e w' => e = .returned f.v ∧ Below w.heap.size w w' := by
  refine calls_val env mixed Try.func34 has34 Try.ntmps34 [f.v] (by simp) ?_
  repeat'
    conv => whnf
    first
      | refine And.intro (a := drawB _ = true) (by kernel_rfl) ?_
      | refine And.intro (a := (_ : Bool) = true) rfl ?_
      | refine And.intro (a := (_ : Bool) = true ∧ (_ : Bool) = true) ⟨rfl, rfl⟩ ?_
      | refine And.intro (a := (_ : Bool) = true ∧ (_ : List _) = []) ⟨rfl, rfl⟩ ?_
      | refine And.intro (a := IR _ _) (And.intro (by omega) (by omega)) ?_
      | refine And.intro (a := (0 : Int) ≤ _ ∧ _ < _) (And.intro (by omega) (by omega)) ?_
      | refine splT ?_
      | refine splF ?_
      | refine splNot ?_
      | (refine splIn (fun hc => ?_) (fun hc => ?_) <;> first | (exfalso; omega) | skip)
      | (refine splD (fun hc => ?_) (fun hc => ?_) <;> first | (exfalso; omega) | skip)
      | (refine splE (fun hc => ?_) (fun hc => ?_) <;> first | (exfalso; omega) | skip)
      | (refine splNE (fun hc => ?_) (fun hc => ?_) <;> first | (exfalso; omega) | skip)
      | ((with_reducible show CallEv _ _ 44 _ _ _ _ _); refine callE (k := 44) (fun β w' hbw => Box_ok _ _ _ _ _) ?_)
  exact ⟨fun β => rfl, fun w' h => h⟩
theorem Net_ok (n : Nt) (w : World) : Calls Try.prog 35 #[n.v] w fun e w' => e = .returned n.v ∧ Below w.heap.size w w' := by
  refine calls_val env mixed Try.func35 has35 Try.ntmps35 [n.v] (by simp) ?_
  repeat'
    conv => whnf
    first
      | refine And.intro (a := drawB _ = true) (by kernel_rfl) ?_
      | refine And.intro (a := (_ : Bool) = true) rfl ?_
      | refine And.intro (a := (_ : Bool) = true ∧ (_ : Bool) = true) ⟨rfl, rfl⟩ ?_
      | refine And.intro (a := (_ : Bool) = true ∧ (_ : List _) = []) ⟨rfl, rfl⟩ ?_
      | refine And.intro (a := IR _ _) (And.intro (by omega) (by omega)) ?_
      | refine And.intro (a := (0 : Int) ≤ _ ∧ _ < _) (And.intro (by omega) (by omega)) ?_
      | refine splT ?_
      | refine splF ?_
      | refine splNot ?_
      | (refine splIn (fun hc => ?_) (fun hc => ?_) <;> first | (exfalso; omega) | skip)
      | (refine splD (fun hc => ?_) (fun hc => ?_) <;> first | (exfalso; omega) | skip)
      | (refine splE (fun hc => ?_) (fun hc => ?_) <;> first | (exfalso; omega) | skip)
      | (refine splNE (fun hc => ?_) (fun hc => ?_) <;> first | (exfalso; omega) | skip)
      | ((with_reducible show CallEv _ _ 21 _ _ _ _ _); refine callE (k := 21) (fun β w' hbw => Range_ok2 _ _ _) ?_)
  exact ⟨fun β => rfl, fun w' h => h⟩

/-- The first tick from t on of so many, seen from behind. -/
def dnB (g : Int → Int) (h : Int) (t : Int) : Int := dnF g h (301 - t).toNat t
theorem dnB_step (g : Int → Int) (h : Int) {t : Int} (h0 : 0 ≤ t) (h1 : t ≤ 300) : dnB g h t = if g t ≤ h then t else dnB g h (t + 1) := by
  unfold dnB
  rw [show (301 - t).toNat = (301 - (t + 1)).toNat + 1 from by omega, dnF]

set_option maxRecDepth 100000 in
theorem Rlanding_ok (f : Fl) (n : Nt) (w : World) (hf : f.ok = true) :
    Calls Try.prog 39 #[f.v, n.v] w fun e w' => e = .returned (.tuple #[(lnd f n).v, .bool (decide ((lnd f n).hi ≥ 0))]) ∧ Below w.heap.size w w' := by
  refine calls_val env mixed Try.func39 has39 Try.ntmps39 [f.v, n.v] (by simp) ?_
  repeat'
    conv => whnf
    first
      | refine And.intro (a := drawB _ = true) (by kernel_rfl) ?_
      | refine And.intro (a := (_ : Bool) = true) rfl ?_
      | refine And.intro (a := (_ : Bool) = true ∧ (_ : Bool) = true) ⟨rfl, rfl⟩ ?_
      | refine And.intro (a := (_ : Bool) = true ∧ (_ : List _) = []) ⟨rfl, rfl⟩ ?_
      | refine And.intro (a := IR _ _) (And.intro (by omega) (by omega)) ?_
      | refine And.intro (a := (0 : Int) ≤ _ ∧ _ < _) (And.intro (by omega) (by omega)) ?_
      | refine splT ?_
      | refine splF ?_
      | refine splNot ?_
      | (refine splIn (fun hc => ?_) (fun hc => ?_) <;> first | (exfalso; omega) | skip)
      | (refine splD (fun hc => ?_) (fun hc => ?_) <;> first | (exfalso; omega) | skip)
      | (refine splE (fun hc => ?_) (fun hc => ?_) <;> first | (exfalso; omega) | skip)
      | (refine splNE (fun hc => ?_) (fun hc => ?_) <;> first | (exfalso; omega) | skip)
  refine loopE (fun t : Int => [(2, .ptr 0 0), (3, .ptr 1 0), (4, .ptr 2 0), (6, .ptr 3 0), (7, .v (iv t))]) (fun t => [(0, .cells [.v (iv f.a.x.lo), .v (iv f.a.x.hi), .v (iv f.a.z.lo), .v (iv f.a.z.hi), .v (iv f.s.x.lo), .v (iv f.s.x.hi), .v (iv f.s.z.lo), .v (iv f.s.z.hi), .v (iv f.m)] 36), (1, .cells [.v (iv n.x.lo), .v (iv n.x.hi), .v (iv n.h)] 70), (2, .cells [.v (iv 0), .v (iv 0)] 30), (3, .cells [.v (iv (dnB (fun t => (f.af t).z.lo) n.h (t + 1))), .v (iv (dnB (fun t => (f.af t).z.hi) n.h (t + 1)))] 30)])
    (fun t => -1 ≤ t ∧ t ≤ 300) (fun t => (t + 1).toNat) 300 (by omega) ⟨rfl, rfl, rfl, rfl, rfl, trivial⟩ ⟨rfl, rfl, rfl, rfl, trivial⟩ (fun _ => ⟨rfl, rfl⟩) ?_
  rintro t ⟨g0, g1⟩
  repeat'
    conv => whnf
    first
      | refine And.intro (a := drawB _ = true) (by kernel_rfl) ?_
      | refine And.intro (a := (_ : Bool) = true) rfl ?_
      | refine And.intro (a := (_ : Bool) = true ∧ (_ : Bool) = true) ⟨rfl, rfl⟩ ?_
      | refine And.intro (a := (_ : Bool) = true ∧ (_ : List _) = []) ⟨rfl, rfl⟩ ?_
      | refine And.intro (a := IR _ _) (And.intro (by omega) (by omega)) ?_
      | refine And.intro (a := (0 : Int) ≤ _ ∧ _ < _) (And.intro (by omega) (by omega)) ?_
      | refine splT ?_
      | refine splF ?_
      | refine splNot ?_
      | (refine splIn (fun hc => ?_) (fun hc => ?_) <;> first | (exfalso; omega) | skip)
      | (refine splD (fun hc => ?_) (fun hc => ?_) <;> first | (exfalso; omega) | skip)
      | (refine splE (fun hc => ?_) (fun hc => ?_) <;> first | (exfalso; omega) | skip)
      | (refine splNE (fun hc => ?_) (fun hc => ?_) <;> first | (exfalso; omega) | skip)
      | ((with_reducible show CallEv _ _ 45 _ _ _ _ _); refine callE (k := 45) (fun β w' hbw => Rafter_ok f t _ hf (by omega) (by omega)) ?_)
  · exact ⟨t - 1, by omega, by omega, Ent.weak rfl ⟨rfl, rfl, rfl, rfl, rfl, trivial⟩ ⟨rfl, rfl, rfl, by rw [Int.sub_add_cancel, dnB_step (t := t) _ _ (by omega) (by omega), dnB_step (t := t) _ _ (by omega) (by omega), if_pos ‹_›, if_pos ‹_›]; rfl, trivial⟩ fun _ h => h⟩
  · exact ⟨t - 1, by omega, by omega, Ent.weak rfl ⟨rfl, rfl, rfl, rfl, rfl, trivial⟩ ⟨rfl, rfl, rfl, by rw [Int.sub_add_cancel, dnB_step (t := t) _ _ (by omega) (by omega), dnB_step (t := t) _ _ (by omega) (by omega), if_pos ‹_›, if_neg ‹_›]; rfl, trivial⟩ fun _ h => h⟩
  · exact ⟨t - 1, by omega, by omega, Ent.weak rfl ⟨rfl, rfl, rfl, rfl, rfl, trivial⟩ ⟨rfl, rfl, rfl, by rw [Int.sub_add_cancel, dnB_step (t := t) _ _ (by omega) (by omega), dnB_step (t := t) _ _ (by omega) (by omega), if_neg ‹_›, if_pos ‹_›]; rfl, trivial⟩ fun _ h => h⟩
  · exact ⟨t - 1, by omega, by omega, Ent.weak rfl ⟨rfl, rfl, rfl, rfl, rfl, trivial⟩ ⟨rfl, rfl, rfl, by rw [Int.sub_add_cancel, dnB_step (t := t) _ _ (by omega) (by omega), dnB_step (t := t) _ _ (by omega) (by omega), if_neg ‹_›, if_neg ‹_›]; rfl, trivial⟩ fun _ h => h⟩
  · have ht : t = -1 := by omega
    subst ht
    exact ⟨fun β => rfl, fun w' h => h⟩
end Go.Proofs.Ytlehjapeomallaa
