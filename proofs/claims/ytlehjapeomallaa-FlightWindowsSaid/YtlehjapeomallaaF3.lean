/- Whether a range, a box, a flyer and a net are valid, and the box after any ticks: what these functions return. -/
import Derived.Test.YtlehjapeomallaaF2
namespace Go.Proofs.Ytlehjapeomallaa
open Go Sx Go.RowKit

structure Rg where
  lo : Int
  hi : Int
structure Bx where
  x : Rg
  z : Rg
structure Fl where
  a : Bx
  s : Bx
  m : Int
structure Nt where
  x : Rg
  h : Int

abbrev iv (n : Int) : Value := .int .i64 n
abbrev Rg.v (r : Rg) : Value := .agg #[iv r.lo, iv r.hi]
abbrev Bx.v (b : Bx) : Value := .agg #[iv b.x.lo, iv b.x.hi, iv b.z.lo, iv b.z.hi]
abbrev Fl.v (f : Fl) : Value := .agg #[iv f.a.x.lo, iv f.a.x.hi, iv f.a.z.lo, iv f.a.z.hi, iv f.s.x.lo, iv f.s.x.hi, iv f.s.z.lo, iv f.s.z.hi, iv f.m]
abbrev Nt.v (n : Nt) : Value := .agg #[iv n.x.lo, iv n.x.hi, iv n.h]

def Rg.ok (r : Rg) (most : Int) : Bool := decide (-most ≤ r.lo) && decide (r.lo ≤ r.hi) && decide (r.hi ≤ most)
def Bx.ok (b : Bx) (most : Int) : Bool := b.x.ok most && b.z.ok most
def Fl.ok (f : Fl) : Bool := f.a.ok 10000000 && f.s.ok 10000 && inB f.m 1 200
def Nt.ok (n : Nt) : Bool := n.x.ok 10000000 && inB n.h (-10000000) 10000000

theorem Rg.ok_iff {r : Rg} {m : Int} : r.ok m = true ↔ -m ≤ r.lo ∧ r.lo ≤ r.hi ∧ r.hi ≤ m := by simp [Rg.ok, and_assoc]
theorem Bx.ok_iff {b : Bx} {m : Int} : b.ok m = true ↔ (-m ≤ b.x.lo ∧ b.x.lo ≤ b.x.hi ∧ b.x.hi ≤ m) ∧ (-m ≤ b.z.lo ∧ b.z.lo ≤ b.z.hi ∧ b.z.hi ≤ m) := by simp [Bx.ok, Rg.ok_iff]
theorem Fl.ok_iff {f : Fl} : f.ok = true ↔ ((-10000000 ≤ f.a.x.lo ∧ f.a.x.lo ≤ f.a.x.hi ∧ f.a.x.hi ≤ 10000000) ∧ (-10000000 ≤ f.a.z.lo ∧ f.a.z.lo ≤ f.a.z.hi ∧ f.a.z.hi ≤ 10000000)) ∧
    ((-10000 ≤ f.s.x.lo ∧ f.s.x.lo ≤ f.s.x.hi ∧ f.s.x.hi ≤ 10000) ∧ (-10000 ≤ f.s.z.lo ∧ f.s.z.lo ≤ f.s.z.hi ∧ f.s.z.hi ≤ 10000)) ∧ 1 ≤ f.m ∧ f.m ≤ 200 := by simp [Fl.ok, Bx.ok_iff, inB_iff, and_assoc]

theorem Rin_ok (r : Rg) (most : Int) (w : World) (h0 : 0 ≤ most) (h1 : most ≤ 10000000) :
    Calls Try.prog 98 #[r.v, iv most] w fun e w' => e = .returned (.bool (r.ok most)) ∧ Below w.heap.size w w' := by
  refine calls_val env mixed Try.func98 has98 Try.ntmps98 [r.v, iv most] (by simp) ?_
  repeat'
    conv => whnf
    first
      | refine And.intro (a := drawB _ = true) (by kernel_rfl) ?_
      | refine And.intro (a := (_ : Bool) = true) rfl ?_
      | refine And.intro (a := (_ : Bool) = true ∧ (_ : Bool) = true) ⟨rfl, rfl⟩ ?_
      | refine And.intro (a := (_ : Bool) = true ∧ (_ : List _) = []) ⟨rfl, rfl⟩ ?_
      | refine And.intro (a := IR _ _) (And.intro (by omega) (by omega)) ?_
      | refine splT ?_
      | refine splF ?_
      | refine splNot ?_
      | (refine splIn (fun hc => ?_) (fun hc => ?_) <;> first | (exfalso; omega) | skip)
      | (refine splD (fun hc => ?_) (fun hc => ?_) <;> first | (exfalso; omega) | skip)
      | (refine splE (fun hc => ?_) (fun hc => ?_) <;> first | (exfalso; omega) | skip)
      | (refine splNE (fun hc => ?_) (fun hc => ?_) <;> first | (exfalso; omega) | skip)
  all_goals exact ⟨fun β => congrArg Value.bool (by simp [Rg.ok, *]), fun w' h => h⟩

theorem Bin_ok (b : Bx) (most : Int) (w : World) (h0 : 0 ≤ most) (h1 : most ≤ 10000000) :
    Calls Try.prog 82 #[b.v, iv most] w fun e w' => e = .returned (.bool (b.ok most)) ∧ Below w.heap.size w w' := by
  refine calls_val env mixed Try.func82 has82 Try.ntmps82 [b.v, iv most] (by simp) ?_
  repeat'
    conv => whnf
    first
      | refine And.intro (a := drawB _ = true) (by kernel_rfl) ?_
      | refine And.intro (a := (_ : Bool) = true) rfl ?_
      | refine And.intro (a := (_ : Bool) = true ∧ (_ : Bool) = true) ⟨rfl, rfl⟩ ?_
      | refine And.intro (a := (_ : Bool) = true ∧ (_ : List _) = []) ⟨rfl, rfl⟩ ?_
      | refine And.intro (a := IR _ _) (And.intro (by omega) (by omega)) ?_
      | refine splT ?_
      | refine splF ?_
      | refine splNot ?_
      | (refine splIn (fun hc => ?_) (fun hc => ?_) <;> first | (exfalso; omega) | skip)
      | (refine splD (fun hc => ?_) (fun hc => ?_) <;> first | (exfalso; omega) | skip)
      | (refine splE (fun hc => ?_) (fun hc => ?_) <;> first | (exfalso; omega) | skip)
      | (refine splNE (fun hc => ?_) (fun hc => ?_) <;> first | (exfalso; omega) | skip)
      | ((with_reducible show CallEv _ _ 98 _ _ _ _ _); refine callE (k := 98) (fun β w' _ => Rin_ok ⟨_, _⟩ _ _ h0 h1) ?_)
      | refine splB (fun hc => ?_) (fun hc => ?_)
  all_goals exact ⟨fun β => congrArg Value.bool (by simp [Bx.ok, *]), fun w' h => h⟩

theorem Fvalid_ok (f : Fl) (w : World) :
    Calls Try.prog 69 #[f.v] w fun e w' => e = .returned (.bool f.ok) ∧ Below w.heap.size w w' := by
  refine calls_val env mixed Try.func69 has69 Try.ntmps69 [f.v] (by simp) ?_
  repeat'
    conv => whnf
    first
      | refine And.intro (a := drawB _ = true) (by kernel_rfl) ?_
      | refine And.intro (a := (_ : Bool) = true) rfl ?_
      | refine And.intro (a := (_ : Bool) = true ∧ (_ : Bool) = true) ⟨rfl, rfl⟩ ?_
      | refine And.intro (a := (_ : Bool) = true ∧ (_ : List _) = []) ⟨rfl, rfl⟩ ?_
      | refine And.intro (a := IR _ _) (And.intro (by omega) (by omega)) ?_
      | refine splT ?_
      | refine splF ?_
      | refine splNot ?_
      | (refine splIn (fun hc => ?_) (fun hc => ?_) <;> first | (exfalso; omega) | skip)
      | (refine splD (fun hc => ?_) (fun hc => ?_) <;> first | (exfalso; omega) | skip)
      | (refine splE (fun hc => ?_) (fun hc => ?_) <;> first | (exfalso; omega) | skip)
      | (refine splNE (fun hc => ?_) (fun hc => ?_) <;> first | (exfalso; omega) | skip)
      | ((with_reducible show CallEv _ _ 82 _ _ _ _ _); refine callE (k := 82) (fun β w' _ => Bin_ok ⟨⟨_, _⟩, ⟨_, _⟩⟩ _ _ (by omega) (by omega)) ?_)
      | ((with_reducible show CallEv _ _ 58 _ _ _ _ _); refine callE (k := 58) (fun β w' _ => within_ok _ _ _ _) ?_)
      | refine splB (fun hc => ?_) (fun hc => ?_)
  all_goals exact ⟨fun β => congrArg Value.bool (by simp [Fl.ok, inB, *]), fun w' h => h⟩

theorem Nvalid_ok (n : Nt) (w : World) :
    Calls Try.prog 85 #[n.v] w fun e w' => e = .returned (.bool n.ok) ∧ Below w.heap.size w w' := by
  refine calls_val env mixed Try.func85 has85 Try.ntmps85 [n.v] (by simp) ?_
  repeat'
    conv => whnf
    first
      | refine And.intro (a := drawB _ = true) (by kernel_rfl) ?_
      | refine And.intro (a := (_ : Bool) = true) rfl ?_
      | refine And.intro (a := (_ : Bool) = true ∧ (_ : Bool) = true) ⟨rfl, rfl⟩ ?_
      | refine And.intro (a := (_ : Bool) = true ∧ (_ : List _) = []) ⟨rfl, rfl⟩ ?_
      | refine And.intro (a := IR _ _) (And.intro (by omega) (by omega)) ?_
      | refine splT ?_
      | refine splF ?_
      | refine splNot ?_
      | (refine splIn (fun hc => ?_) (fun hc => ?_) <;> first | (exfalso; omega) | skip)
      | (refine splD (fun hc => ?_) (fun hc => ?_) <;> first | (exfalso; omega) | skip)
      | (refine splE (fun hc => ?_) (fun hc => ?_) <;> first | (exfalso; omega) | skip)
      | (refine splNE (fun hc => ?_) (fun hc => ?_) <;> first | (exfalso; omega) | skip)
      | ((with_reducible show CallEv _ _ 98 _ _ _ _ _); refine callE (k := 98) (fun β w' _ => Rin_ok ⟨_, _⟩ _ _ (by omega) (by omega)) ?_)
      | ((with_reducible show CallEv _ _ 58 _ _ _ _ _); refine callE (k := 58) (fun β w' _ => within_ok _ _ _ _) ?_)
      | refine splB (fun hc => ?_) (fun hc => ?_)
  all_goals exact ⟨fun β => congrArg Value.bool (by simp [Nt.ok, inB, *]), fun w' h => h⟩

/-- The box after t ticks. -/
def Fl.af (f : Fl) (t : Int) : Bx := ⟨⟨f.a.x.lo + t * f.s.x.lo, f.a.x.hi + t * f.s.x.hi⟩, ⟨f.a.z.lo + t * f.s.z.lo - 49 * t * t, f.a.z.hi + t * f.s.z.hi - 49 * t * t⟩⟩

theorem mul_bd {t u : Int} (h0 : 0 ≤ t) (h1 : t ≤ 300) (hu : -10000 ≤ u ∧ u ≤ 10000) : -3000000 ≤ t * u ∧ t * u ≤ 3000000 := by
  have a : t * u ≤ t * 10000 := Int.mul_le_mul_of_nonneg_left hu.2 h0
  have b : t * -10000 ≤ t * u := Int.mul_le_mul_of_nonneg_left hu.1 h0
  omega
theorem sq_bd {t : Int} (h0 : 0 ≤ t) (h1 : t ≤ 300) : 0 ≤ 49 * t * t ∧ 49 * t * t ≤ 4410000 := by
  have a : 0 ≤ t * t := Int.mul_nonneg h0 h0
  have b : t * t ≤ 300 * 300 := Int.mul_le_mul h1 h1 h0 (by omega)
  have c : 49 * t * t = 49 * (t * t) := Int.mul_assoc _ _ _
  omega

/-- Whatever the numbers are, within their bounds. -/
theorem Fl.bd {f : Fl} (hf : f.ok = true) {t : Int} (h0 : 0 ≤ t) (h1 : t ≤ 300) :
    (-3000000 ≤ t * f.s.x.lo ∧ t * f.s.x.lo ≤ 3000000) ∧ (-3000000 ≤ t * f.s.x.hi ∧ t * f.s.x.hi ≤ 3000000) ∧ (-3000000 ≤ t * f.s.z.lo ∧ t * f.s.z.lo ≤ 3000000) ∧ (-3000000 ≤ t * f.s.z.hi ∧ t * f.s.z.hi ≤ 3000000) ∧ 0 ≤ 49 * t * t ∧ 49 * t * t ≤ 4410000 := by
  rw [Fl.ok_iff] at hf
  exact ⟨mul_bd h0 h1 (by omega), mul_bd h0 h1 (by omega), mul_bd h0 h1 (by omega), mul_bd h0 h1 (by omega), sq_bd h0 h1⟩

theorem after_val (f : Fl) (t : Int) (w : World) (hf : f.ok = true) (h0 : 0 ≤ t) (h1 : t ≤ 300) :
    Calls Try.prog 67 #[f.v, iv t] w fun e w' => e = .returned (f.af t).v ∧ Below w.heap.size w w' := by
  have hb := Fl.bd hf h0 h1
  have hf' := Fl.ok_iff.1 hf
  exact after_ok _ _ _ _ _ _ _ _ _ _ _ (by omega) (by omega) (by omega) (by omega) (by omega) (by omega) (by omega) (by omega) ⟨h0, h1⟩ (by omega)

theorem After_ok (f : Fl) (t : Int) (w : World) :
    Calls Try.prog 41 #[f.v, iv t] w fun e w' => e = .returned (.tuple #[(if f.ok = true ∧ (0 ≤ t ∧ t ≤ 300) then f.af t else ⟨⟨0, 0⟩, ⟨0, 0⟩⟩ : Bx).v, iv (if f.ok = true then (if 0 ≤ t ∧ t ≤ 300 then 0 else 2) else 1)]) ∧ Below w.heap.size w w' := by
  refine calls_val env mixed Try.func41 has41 Try.ntmps41 [f.v, iv t] (by simp) ?_
  repeat'
    conv => whnf
    first
      | refine And.intro (a := drawB _ = true) (by kernel_rfl) ?_
      | refine And.intro (a := (_ : Bool) = true) rfl ?_
      | refine And.intro (a := (_ : Bool) = true ∧ (_ : Bool) = true) ⟨rfl, rfl⟩ ?_
      | refine And.intro (a := (_ : Bool) = true ∧ (_ : List _) = []) ⟨rfl, rfl⟩ ?_
      | refine And.intro (a := IR _ _) (And.intro (by omega) (by omega)) ?_
      | refine splT ?_
      | refine splF ?_
      | refine splNot ?_
      | (refine splIn (fun hc => ?_) (fun hc => ?_) <;> first | (exfalso; omega) | skip)
      | (refine splD (fun hc => ?_) (fun hc => ?_) <;> first | (exfalso; omega) | skip)
      | (refine splE (fun hc => ?_) (fun hc => ?_) <;> first | (exfalso; omega) | skip)
      | (refine splNE (fun hc => ?_) (fun hc => ?_) <;> first | (exfalso; omega) | skip)
      | ((with_reducible show CallEv _ _ 69 _ _ _ _ _); refine callE (k := 69) (fun β w' _ => Fvalid_ok f _) ?_)
      | ((with_reducible show CallEv _ _ 58 _ _ _ _ _); refine callE (k := 58) (fun β w' _ => within_ok _ _ _ _) ?_)
      | ((with_reducible show CallEv _ _ 67 _ _ _ _ _); refine callE (k := 67) (fun β w' _ => after_val f t _ ‹_› (by omega) (by omega)) ?_)
      | refine splB (fun hc => ?_) (fun hc => ?_)
  · exact ⟨fun β => by simp [*]; rfl, fun w' h => h⟩
  · exact ⟨fun β => by simp [*]; rfl, fun w' h => h⟩
  · exact ⟨fun β => by simp [*]; rfl, fun w' h => h⟩
end Go.Proofs.Ytlehjapeomallaa
