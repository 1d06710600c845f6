/- The reference's words on ranges, boxes, flyers and nets return what the program's return. -/
import Derived.Test.YtlehjapeomallaaFK
namespace Go.Proofs.Ytlehjapeomallaa
open Go Sx Go.RowKit

theorem Between_ok (r : Rg) (most : Int) (w : World) (h0 : 0 ≤ most) (h1 : most ≤ 10000000) :
    Calls Try.prog 68 #[r.v, iv most] w fun e w' => e = .returned (.bool (r.ok most)) ∧ Below w.heap.size w w' := by
  refine calls_val env mixed Try.func68 has68 Try.ntmps68 [r.v, iv most] (by simp) ?_
  repeat'
    conv => whnf
    first
      | refine And.intro (a := drawB _ = true) (by kernel_rfl) ?_
      | refine And.intro (a := (_ : Bool) = true) rfl ?_
      | refine And.intro (a := (_ : Bool) = true ∧ (_ : Bool) = true) ⟨rfl, rfl⟩ ?_
      | refine And.intro (a := (_ : Bool) = true ∧ (_ : List _) = []) ⟨rfl, rfl⟩ ?_
      | refine And.intro (a := IR _ _) (And.intro (by omega) (by omega)) ?_
      | refine And.intro (a := (0 : Int) ≤ _ ∧ _ < _) (And.intro (by omega) (by omega)) ?_
      | refine splT ?_
      | refine splF ?_
      | refine splNot ?_
      | (refine splIn (fun hc => ?_) (fun hc => ?_) <;> first | (exfalso; omega) | skip)
      | (refine splD (fun hc => ?_) (fun hc => ?_) <;> first | (exfalso; omega) | skip)
      | (refine splE (fun hc => ?_) (fun hc => ?_) <;> first | (exfalso; omega) | skip)
      | (refine splNE (fun hc => ?_) (fun hc => ?_) <;> first | (exfalso; omega) | skip)
  all_goals exact ⟨fun β => congrArg Value.bool (by first | (simp_all [Rg.ok]; done) | (simp [Rg.ok]; omega)), fun w' h => h⟩
theorem Boxed_ok (b : Bx) (most : Int) (w : World) (h0 : 0 ≤ most) (h1 : most ≤ 10000000) :
    Calls Try.prog 64 #[b.v, iv most] w fun e w' => e = .returned (.bool (b.ok most)) ∧ Below w.heap.size w w' := by
  refine calls_val env mixed Try.func64 has64 Try.ntmps64 [b.v, iv most] (by simp) ?_
  repeat'
    conv => whnf
    first
      | refine And.intro (a := drawB _ = true) (by kernel_rfl) ?_
      | refine And.intro (a := (_ : Bool) = true) rfl ?_
      | refine And.intro (a := (_ : Bool) = true ∧ (_ : Bool) = true) ⟨rfl, rfl⟩ ?_
      | refine And.intro (a := (_ : Bool) = true ∧ (_ : List _) = []) ⟨rfl, rfl⟩ ?_
      | refine And.intro (a := IR _ _) (And.intro (by omega) (by omega)) ?_
      | refine And.intro (a := (0 : Int) ≤ _ ∧ _ < _) (And.intro (by omega) (by omega)) ?_
      | refine splT ?_
      | refine splF ?_
      | refine splNot ?_
      | (refine splIn (fun hc => ?_) (fun hc => ?_) <;> first | (exfalso; omega) | skip)
      | (refine splD (fun hc => ?_) (fun hc => ?_) <;> first | (exfalso; omega) | skip)
      | (refine splE (fun hc => ?_) (fun hc => ?_) <;> first | (exfalso; omega) | skip)
      | (refine splNE (fun hc => ?_) (fun hc => ?_) <;> first | (exfalso; omega) | skip)
      | ((with_reducible show CallEv _ _ 68 _ _ _ _ _); refine callE (k := 68) (fun β w' hbw => Between_ok ⟨_, _⟩ _ _ h0 h1) ?_)
      | refine splB (fun hc => ?_) (fun hc => ?_)
  all_goals exact ⟨fun β => congrArg Value.bool (by simp [Bx.ok, *]), fun w' h => h⟩
theorem RightFlyer_ok (f : Fl) (w : World) :
    Calls Try.prog 37 #[f.v] w fun e w' => e = .returned (.bool f.ok) ∧ Below w.heap.size w w' := by
  refine calls_val env mixed Try.func37 has37 Try.ntmps37 [f.v] (by simp) ?_
  repeat'
    conv => whnf
    first
      | refine And.intro (a := drawB _ = true) (by kernel_rfl) ?_
      | refine And.intro (a := (_ : Bool) = true) rfl ?_
      | refine And.intro (a := (_ : Bool) = true ∧ (_ : Bool) = true) ⟨rfl, rfl⟩ ?_
      | refine And.intro (a := (_ : Bool) = true ∧ (_ : List _) = []) ⟨rfl, rfl⟩ ?_
      | refine And.intro (a := IR _ _) (And.intro (by omega) (by omega)) ?_
      | refine And.intro (a := (0 : Int) ≤ _ ∧ _ < _) (And.intro (by omega) (by omega)) ?_
      | refine splT ?_
      | refine splF ?_
      | refine splNot ?_
      | (refine splIn (fun hc => ?_) (fun hc => ?_) <;> first | (exfalso; omega) | skip)
      | (refine splD (fun hc => ?_) (fun hc => ?_) <;> first | (exfalso; omega) | skip)
      | (refine splE (fun hc => ?_) (fun hc => ?_) <;> first | (exfalso; omega) | skip)
      | (refine splNE (fun hc => ?_) (fun hc => ?_) <;> first | (exfalso; omega) | skip)
      | ((with_reducible show CallEv _ _ 64 _ _ _ _ _); refine callE (k := 64) (fun β w' hbw => Boxed_ok ⟨⟨_, _⟩, ⟨_, _⟩⟩ _ _ (by omega) (by omega)) ?_)
      | ((with_reducible show CallEv _ _ 19 _ _ _ _ _); refine callE (k := 19) (fun β w' hbw => In_ok _ _ _ _) ?_)
      | refine splB (fun hc => ?_) (fun hc => ?_)
  all_goals exact ⟨fun β => congrArg Value.bool (by simp [Fl.ok, inB, *]), fun w' h => h⟩
theorem RightNet_ok (n : Nt) (w : World) :
    Calls Try.prog 38 #[n.v] w fun e w' => e = .returned (.bool n.ok) ∧ Below w.heap.size w w' := by
  refine calls_val env mixed Try.func38 has38 Try.ntmps38 [n.v] (by simp) ?_
  repeat'
    conv => whnf
    first
      | refine And.intro (a := drawB _ = true) (by kernel_rfl) ?_
      | refine And.intro (a := (_ : Bool) = true) rfl ?_
      | refine And.intro (a := (_ : Bool) = true ∧ (_ : Bool) = true) ⟨rfl, rfl⟩ ?_
      | refine And.intro (a := (_ : Bool) = true ∧ (_ : List _) = []) ⟨rfl, rfl⟩ ?_
      | refine And.intro (a := IR _ _) (And.intro (by omega) (by omega)) ?_
      | refine And.intro (a := (0 : Int) ≤ _ ∧ _ < _) (And.intro (by omega) (by omega)) ?_
      | refine splT ?_
      | refine splF ?_
      | refine splNot ?_
      | (refine splIn (fun hc => ?_) (fun hc => ?_) <;> first | (exfalso; omega) | skip)
      | (refine splD (fun hc => ?_) (fun hc => ?_) <;> first | (exfalso; omega) | skip)
      | (refine splE (fun hc => ?_) (fun hc => ?_) <;> first | (exfalso; omega) | skip)
      | (refine splNE (fun hc => ?_) (fun hc => ?_) <;> first | (exfalso; omega) | skip)
      | ((with_reducible show CallEv _ _ 68 _ _ _ _ _); refine callE (k := 68) (fun β w' hbw => Between_ok ⟨_, _⟩ _ _ (by omega) (by omega)) ?_)
      | ((with_reducible show CallEv _ _ 19 _ _ _ _ _); refine callE (k := 19) (fun β w' hbw => In_ok _ _ _ _) ?_)
      | refine splB (fun hc => ?_) (fun hc => ?_)
  all_goals exact ⟨fun β => congrArg Value.bool (by simp [Nt.ok, inB, *]), fun w' h => h⟩

set_option maxRecDepth 100000 in
theorem Rafter_ok (f : Fl) (t : Int) (w : World) (hf : f.ok = true) (h0 : 0 ≤ t) (h1 : t ≤ 300) :
    Calls Try.prog 45 #[f.v, iv t] w fun e w' => e = .returned (f.af t).v ∧ Below w.heap.size w w' := by
  have hb := Fl.bd hf h0 h1
  have hf' := Fl.ok_iff.1 hf
  refine calls_val env mixed Try.func45 has45 Try.ntmps45 [f.v, iv t] (by simp) ?_
  repeat'
    conv => whnf
    first
      | refine And.intro (a := drawB _ = true) (by kernel_rfl) ?_
      | refine And.intro (a := (_ : Bool) = true) rfl ?_
      | refine And.intro (a := (_ : Bool) = true ∧ (_ : Bool) = true) ⟨rfl, rfl⟩ ?_
      | refine And.intro (a := (_ : Bool) = true ∧ (_ : List _) = []) ⟨rfl, rfl⟩ ?_
      | refine And.intro (a := IR _ _) (And.intro (by omega) (by omega)) ?_
      | refine And.intro (a := (0 : Int) ≤ _ ∧ _ < _) (And.intro (by omega) (by omega)) ?_
      | refine splT ?_
      | refine splF ?_
      | refine splNot ?_
      | (refine splIn (fun hc => ?_) (fun hc => ?_) <;> first | (exfalso; omega) | skip)
      | (refine splD (fun hc => ?_) (fun hc => ?_) <;> first | (exfalso; omega) | skip)
      | (refine splE (fun hc => ?_) (fun hc => ?_) <;> first | (exfalso; omega) | skip)
      | (refine splNE (fun hc => ?_) (fun hc => ?_) <;> first | (exfalso; omega) | skip)
  exact ⟨fun β => rfl, fun w' h => h⟩
theorem Size_ok (n : Int) (w : World) (h : -4000000000000 ≤ n ∧ n ≤ 4000000000000) :
    Calls Try.prog 71 #[iv n] w fun e w' => e = .returned (iv (imax n (-n))) ∧ Below w.heap.size w w' := by
  refine calls_val env mixed Try.func71 has71 Try.ntmps71 [iv n] (by simp) ?_
  repeat'
    conv => whnf
    first
      | refine And.intro (a := drawB _ = true) (by kernel_rfl) ?_
      | refine And.intro (a := (_ : Bool) = true) rfl ?_
      | refine And.intro (a := (_ : Bool) = true ∧ (_ : Bool) = true) ⟨rfl, rfl⟩ ?_
      | refine And.intro (a := (_ : Bool) = true ∧ (_ : List _) = []) ⟨rfl, rfl⟩ ?_
      | refine And.intro (a := IR _ _) (And.intro (by omega) (by omega)) ?_
      | refine And.intro (a := (0 : Int) ≤ _ ∧ _ < _) (And.intro (by omega) (by omega)) ?_
      | refine splT ?_
      | refine splF ?_
      | refine splNot ?_
      | (refine splIn (fun hc => ?_) (fun hc => ?_) <;> first | (exfalso; omega) | skip)
      | (refine splD (fun hc => ?_) (fun hc => ?_) <;> first | (exfalso; omega) | skip)
      | (refine splE (fun hc => ?_) (fun hc => ?_) <;> first | (exfalso; omega) | skip)
      | (refine splNE (fun hc => ?_) (fun hc => ?_) <;> first | (exfalso; omega) | skip)
  exact ⟨fun β => rfl, fun w' h => h⟩
end Go.Proofs.Ytlehjapeomallaa
