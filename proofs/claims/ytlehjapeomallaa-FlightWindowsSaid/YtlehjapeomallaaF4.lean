/- The first ticks at which the ends of a flyer are not above a height: what these functions return. -/
import Derived.Test.YtlehjapeomallaaF3
namespace Go.Proofs.Ytlehjapeomallaa
open Go Sx Go.RowKit

/-- The first of so many ticks from t on at which g is at most h; -1: there is none. -/
def dnF (g : Int → Int) (h : Int) : Nat → Int → Int
  | 0, _ => -1
  | k + 1, t => if g t ≤ h then t else dnF g h k (t + 1)

theorem dnF_bd (g : Int → Int) (h : Int) : ∀ (k : Nat) (t : Int), dnF g h k t = -1 ∨ (t ≤ dnF g h k t ∧ dnF g h k t < t + k ∧ g (dnF g h k t) ≤ h ∧ ∀ s, t ≤ s → s < dnF g h k t → ¬ g s ≤ h)
  | 0, t => .inl rfl
  | k + 1, t => by
    simp only [dnF]
    split
    · exact .inr ⟨by omega, by omega, ‹_›, fun s h1 h2 => by omega⟩
    · rcases dnF_bd g h k (t + 1) with e | ⟨e1, e2, e3, e4⟩
      · exact .inl e
      · refine .inr ⟨by omega, by omega, e3, fun s h1 h2 => ?_⟩
        by_cases hs : s = t
        · subst hs; assumption
        · exact e4 s (by omega) h2
theorem dnF_none (g : Int → Int) (h : Int) : ∀ (k : Nat) (t : Int), 0 ≤ t → dnF g h k t = -1 → ∀ s, t ≤ s → s < t + k → ¬ g s ≤ h
  | 0, t, _, _, s, h1, h2 => by omega
  | k + 1, t, h0, he, s, h1, h2 => by
    simp only [dnF] at he
    split at he
    · omega
    · by_cases hs : s = t
      · subst hs; assumption
      · exact dnF_none g h k (t + 1) (by omega) he s (by omega) (by omega)


theorem end87_ok (r : Rg) (w : World) : Calls Try.prog 87 #[r.v] w fun e w' => e = .returned (iv r.lo) ∧ Below w.heap.size w w' := by
  refine calls_val env mixed Try.func87 has87 Try.ntmps87 [r.v] (by simp) ?_
  repeat'
    conv => whnf
    first
      | refine And.intro (a := drawB _ = true) (by kernel_rfl) ?_
      | refine And.intro (a := (_ : Bool) = true) rfl ?_
      | refine And.intro (a := (_ : Bool) = true ∧ (_ : Bool) = true) ⟨rfl, rfl⟩ ?_
      | refine And.intro (a := (_ : Bool) = true ∧ (_ : List _) = []) ⟨rfl, rfl⟩ ?_
      | refine And.intro (a := IR _ _) (And.intro (by omega) (by omega)) ?_
      | refine splT ?_
      | refine splF ?_
      | refine splNot ?_
      | (refine splIn (fun hc => ?_) (fun hc => ?_) <;> first | (exfalso; omega) | skip)
      | (refine splD (fun hc => ?_) (fun hc => ?_) <;> first | (exfalso; omega) | skip)
      | (refine splE (fun hc => ?_) (fun hc => ?_) <;> first | (exfalso; omega) | skip)
      | (refine splNE (fun hc => ?_) (fun hc => ?_) <;> first | (exfalso; omega) | skip)
  exact ⟨fun β => rfl, fun w' h => h⟩

theorem down87_ok (f : Fl) (h : Int) (w : World) (hf : f.ok = true) :
    Calls Try.prog 86 #[f.v, iv h, .func (.func 87) #[] #[]] w fun e w' => e = .returned (iv (dnF (fun t => (f.af t).z.lo) h 301 0)) ∧ Below w.heap.size w w' := by
  refine calls_val env mixed Try.func86 has86 Try.ntmps86 [f.v, iv h, .func (.func 87) #[] #[]] (by simp) ?_
  repeat'
    conv => whnf
    first
      | refine And.intro (a := drawB _ = true) (by kernel_rfl) ?_
      | refine And.intro (a := (_ : Bool) = true) rfl ?_
      | refine And.intro (a := (_ : Bool) = true ∧ (_ : Bool) = true) ⟨rfl, rfl⟩ ?_
      | refine And.intro (a := (_ : Bool) = true ∧ (_ : List _) = []) ⟨rfl, rfl⟩ ?_
      | refine And.intro (a := IR _ _) (And.intro (by omega) (by omega)) ?_
      | refine splT ?_
      | refine splF ?_
      | refine splNot ?_
      | (refine splIn (fun hc => ?_) (fun hc => ?_) <;> first | (exfalso; omega) | skip)
      | (refine splD (fun hc => ?_) (fun hc => ?_) <;> first | (exfalso; omega) | skip)
      | (refine splE (fun hc => ?_) (fun hc => ?_) <;> first | (exfalso; omega) | skip)
      | (refine splNE (fun hc => ?_) (fun hc => ?_) <;> first | (exfalso; omega) | skip)
  refine loopE (fun t : Int => [(1, .v (iv h)), (2, .v (.func (.func 87) #[] #[])), (3, .ptr 0 0), (7, .v (iv t))]) (fun _ => [(0, .cells [.v (iv f.a.x.lo), .v (iv f.a.x.hi), .v (iv f.a.z.lo), .v (iv f.a.z.hi), .v (iv f.s.x.lo), .v (iv f.s.x.hi), .v (iv f.s.z.lo), .v (iv f.s.z.hi), .v (iv f.m)] 49)])
    (fun t => (0 ≤ t ∧ t ≤ 301) ∧ dnF (fun t => (f.af t).z.lo) h (301 - t).toNat t = dnF (fun t => (f.af t).z.lo) h 301 0) (fun t => (301 - t).toNat) 0 ⟨by omega, rfl⟩ ⟨rfl, rfl, rfl, rfl, trivial⟩ ⟨rfl, trivial⟩ (fun _ => ⟨rfl, rfl⟩) ?_
  rintro t ⟨⟨g0, g1⟩, g2⟩
  repeat'
    conv => whnf
    first
      | refine And.intro (a := drawB _ = true) (by kernel_rfl) ?_
      | refine And.intro (a := (_ : Bool) = true) rfl ?_
      | refine And.intro (a := (_ : Bool) = true ∧ (_ : Bool) = true) ⟨rfl, rfl⟩ ?_
      | refine And.intro (a := (_ : Bool) = true ∧ (_ : List _) = []) ⟨rfl, rfl⟩ ?_
      | refine And.intro (a := IR _ _) (And.intro (by omega) (by omega)) ?_
      | refine splT ?_
      | refine splF ?_
      | refine splNot ?_
      | (refine splIn (fun hc => ?_) (fun hc => ?_) <;> first | (exfalso; omega) | skip)
      | (refine splD (fun hc => ?_) (fun hc => ?_) <;> first | (exfalso; omega) | skip)
      | (refine splE (fun hc => ?_) (fun hc => ?_) <;> first | (exfalso; omega) | skip)
      | (refine splNE (fun hc => ?_) (fun hc => ?_) <;> first | (exfalso; omega) | skip)
      | ((with_reducible show CallEv _ _ 67 _ _ _ _ _); refine callE (k := 67) (fun β w' _ => after_val f t _ hf g0 (by omega)) ?_)
      | ((with_reducible show CallEv _ _ 87 _ _ _ _ _); refine callE (k := 87) (fun β w' _ => end87_ok ⟨_, _⟩ _) ?_)
  · rw [show (301 - t).toNat = (300 - t).toNat + 1 from by omega, dnF, if_pos ‹_›] at g2
    exact ⟨fun β => by rw [← g2]; rfl, fun w' h => h⟩
  · rw [show (301 - t).toNat = (301 - (t + 1)).toNat + 1 from by omega, dnF, if_neg ‹_›] at g2
    exact ⟨t + 1, ⟨by omega, g2⟩, by omega, Ent.weak rfl ⟨rfl, rfl, rfl, rfl, trivial⟩ ⟨rfl, trivial⟩ fun _ h => h⟩
  · rw [show (301 - t).toNat = 0 from by omega, dnF] at g2
    exact ⟨fun β => by rw [← g2]; rfl, fun w' h => h⟩


theorem end88_ok (r : Rg) (w : World) : Calls Try.prog 88 #[r.v] w fun e w' => e = .returned (iv r.hi) ∧ Below w.heap.size w w' := by
  refine calls_val env mixed Try.func88 has88 Try.ntmps88 [r.v] (by simp) ?_
  repeat'
    conv => whnf
    first
      | refine And.intro (a := drawB _ = true) (by kernel_rfl) ?_
      | refine And.intro (a := (_ : Bool) = true) rfl ?_
      | refine And.intro (a := (_ : Bool) = true ∧ (_ : Bool) = true) ⟨rfl, rfl⟩ ?_
      | refine And.intro (a := (_ : Bool) = true ∧ (_ : List _) = []) ⟨rfl, rfl⟩ ?_
      | refine And.intro (a := IR _ _) (And.intro (by omega) (by omega)) ?_
      | refine splT ?_
      | refine splF ?_
      | refine splNot ?_
      | (refine splIn (fun hc => ?_) (fun hc => ?_) <;> first | (exfalso; omega) | skip)
      | (refine splD (fun hc => ?_) (fun hc => ?_) <;> first | (exfalso; omega) | skip)
      | (refine splE (fun hc => ?_) (fun hc => ?_) <;> first | (exfalso; omega) | skip)
      | (refine splNE (fun hc => ?_) (fun hc => ?_) <;> first | (exfalso; omega) | skip)
  exact ⟨fun β => rfl, fun w' h => h⟩

theorem down88_ok (f : Fl) (h : Int) (w : World) (hf : f.ok = true) :
    Calls Try.prog 86 #[f.v, iv h, .func (.func 88) #[] #[]] w fun e w' => e = .returned (iv (dnF (fun t => (f.af t).z.hi) h 301 0)) ∧ Below w.heap.size w w' := by
  refine calls_val env mixed Try.func86 has86 Try.ntmps86 [f.v, iv h, .func (.func 88) #[] #[]] (by simp) ?_
  repeat'
    conv => whnf
    first
      | refine And.intro (a := drawB _ = true) (by kernel_rfl) ?_
      | refine And.intro (a := (_ : Bool) = true) rfl ?_
      | refine And.intro (a := (_ : Bool) = true ∧ (_ : Bool) = true) ⟨rfl, rfl⟩ ?_
      | refine And.intro (a := (_ : Bool) = true ∧ (_ : List _) = []) ⟨rfl, rfl⟩ ?_
      | refine And.intro (a := IR _ _) (And.intro (by omega) (by omega)) ?_
      | refine splT ?_
      | refine splF ?_
      | refine splNot ?_
      | (refine splIn (fun hc => ?_) (fun hc => ?_) <;> first | (exfalso; omega) | skip)
      | (refine splD (fun hc => ?_) (fun hc => ?_) <;> first | (exfalso; omega) | skip)
      | (refine splE (fun hc => ?_) (fun hc => ?_) <;> first | (exfalso; omega) | skip)
      | (refine splNE (fun hc => ?_) (fun hc => ?_) <;> first | (exfalso; omega) | skip)
  refine loopE (fun t : Int => [(1, .v (iv h)), (2, .v (.func (.func 88) #[] #[])), (3, .ptr 0 0), (7, .v (iv t))]) (fun _ => [(0, .cells [.v (iv f.a.x.lo), .v (iv f.a.x.hi), .v (iv f.a.z.lo), .v (iv f.a.z.hi), .v (iv f.s.x.lo), .v (iv f.s.x.hi), .v (iv f.s.z.lo), .v (iv f.s.z.hi), .v (iv f.m)] 49)])
    (fun t => (0 ≤ t ∧ t ≤ 301) ∧ dnF (fun t => (f.af t).z.hi) h (301 - t).toNat t = dnF (fun t => (f.af t).z.hi) h 301 0) (fun t => (301 - t).toNat) 0 ⟨by omega, rfl⟩ ⟨rfl, rfl, rfl, rfl, trivial⟩ ⟨rfl, trivial⟩ (fun _ => ⟨rfl, rfl⟩) ?_
  rintro t ⟨⟨g0, g1⟩, g2⟩
  repeat'
    conv => whnf
    first
      | refine And.intro (a := drawB _ = true) (by kernel_rfl) ?_
      | refine And.intro (a := (_ : Bool) = true) rfl ?_
      | refine And.intro (a := (_ : Bool) = true ∧ (_ : Bool) = true) ⟨rfl, rfl⟩ ?_
      | refine And.intro (a := (_ : Bool) = true ∧ (_ : List _) = []) ⟨rfl, rfl⟩ ?_
      | refine And.intro (a := IR _ _) (And.intro (by omega) (by omega)) ?_
      | refine splT ?_
      | refine splF ?_
      | refine splNot ?_
      | (refine splIn (fun hc => ?_) (fun hc => ?_) <;> first | (exfalso; omega) | skip)
      | (refine splD (fun hc => ?_) (fun hc => ?_) <;> first | (exfalso; omega) | skip)
      | (refine splE (fun hc => ?_) (fun hc => ?_) <;> first | (exfalso; omega) | skip)
      | (refine splNE (fun hc => ?_) (fun hc => ?_) <;> first | (exfalso; omega) | skip)
      | ((with_reducible show CallEv _ _ 67 _ _ _ _ _); refine callE (k := 67) (fun β w' _ => after_val f t _ hf g0 (by omega)) ?_)
      | ((with_reducible show CallEv _ _ 88 _ _ _ _ _); refine callE (k := 88) (fun β w' _ => end88_ok ⟨_, _⟩ _) ?_)
  · rw [show (301 - t).toNat = (300 - t).toNat + 1 from by omega, dnF, if_pos ‹_›] at g2
    exact ⟨fun β => by rw [← g2]; rfl, fun w' h => h⟩
  · rw [show (301 - t).toNat = (301 - (t + 1)).toNat + 1 from by omega, dnF, if_neg ‹_›] at g2
    exact ⟨t + 1, ⟨by omega, g2⟩, by omega, Ent.weak rfl ⟨rfl, rfl, rfl, rfl, trivial⟩ ⟨rfl, trivial⟩ fun _ h => h⟩
  · rw [show (301 - t).toNat = 0 from by omega, dnF] at g2
    exact ⟨fun β => by rw [← g2]; rfl, fun w' h => h⟩


def lnd (f : Fl) (n : Nt) : Rg := ⟨dnF (fun t => (f.af t).z.lo) n.h 301 0, dnF (fun t => (f.af t).z.hi) n.h 301 0⟩

theorem landing_ok (f : Fl) (n : Nt) (w : World) (hf : f.ok = true) :
    Calls Try.prog 66 #[f.v, n.v] w fun e w' => e = .returned (.tuple #[(lnd f n).v, .bool (decide ((lnd f n).hi ≥ 0))]) ∧ Below w.heap.size w w' := by
  refine calls_val env mixed Try.func66 has66 Try.ntmps66 [f.v, n.v] (by simp) ?_
  repeat'
    conv => whnf
    first
      | refine And.intro (a := drawB _ = true) (by kernel_rfl) ?_
      | refine And.intro (a := (_ : Bool) = true) rfl ?_
      | refine And.intro (a := (_ : Bool) = true ∧ (_ : Bool) = true) ⟨rfl, rfl⟩ ?_
      | refine And.intro (a := (_ : Bool) = true ∧ (_ : List _) = []) ⟨rfl, rfl⟩ ?_
      | refine And.intro (a := IR _ _) (And.intro (by omega) (by omega)) ?_
      | refine splT ?_
      | refine splF ?_
      | refine splNot ?_
      | (refine splIn (fun hc => ?_) (fun hc => ?_) <;> first | (exfalso; omega) | skip)
      | (refine splD (fun hc => ?_) (fun hc => ?_) <;> first | (exfalso; omega) | skip)
      | (refine splE (fun hc => ?_) (fun hc => ?_) <;> first | (exfalso; omega) | skip)
      | (refine splNE (fun hc => ?_) (fun hc => ?_) <;> first | (exfalso; omega) | skip)
      | ((with_reducible show CallEv _ _ 86 [_, _, .v (.func (.func 87) _ _)] _ _ _ _); refine callE (k := 86) (fun β w' hh => down87_ok f n.h _ hf) ?_)
      | ((with_reducible show CallEv _ _ 86 _ _ _ _ _); refine callE (k := 86) (fun β w' hh => down88_ok f n.h _ hf) ?_)
  all_goals exact ⟨fun β => rfl, fun w' h => h⟩

theorem netted_ok (f : Fl) (n : Nt) (w : World) :
    Calls Try.prog 65 #[f.v, n.v] w fun e w' => e = .returned (iv (if f.ok = true ∧ n.ok = true then 0 else 1)) ∧ Below w.heap.size w w' := by
  refine calls_val env mixed Try.func65 has65 Try.ntmps65 [f.v, n.v] (by simp) ?_
  repeat'
    conv => whnf
    first
      | refine And.intro (a := drawB _ = true) (by kernel_rfl) ?_
      | refine And.intro (a := (_ : Bool) = true) rfl ?_
      | refine And.intro (a := (_ : Bool) = true ∧ (_ : Bool) = true) ⟨rfl, rfl⟩ ?_
      | refine And.intro (a := (_ : Bool) = true ∧ (_ : List _) = []) ⟨rfl, rfl⟩ ?_
      | refine And.intro (a := IR _ _) (And.intro (by omega) (by omega)) ?_
      | refine splT ?_
      | refine splF ?_
      | refine splNot ?_
      | (refine splIn (fun hc => ?_) (fun hc => ?_) <;> first | (exfalso; omega) | skip)
      | (refine splD (fun hc => ?_) (fun hc => ?_) <;> first | (exfalso; omega) | skip)
      | (refine splE (fun hc => ?_) (fun hc => ?_) <;> first | (exfalso; omega) | skip)
      | (refine splNE (fun hc => ?_) (fun hc => ?_) <;> first | (exfalso; omega) | skip)
      | ((with_reducible show CallEv _ _ 69 _ _ _ _ _); refine callE (k := 69) (fun β w' _ => Fvalid_ok f _) ?_)
      | ((with_reducible show CallEv _ _ 85 _ _ _ _ _); refine callE (k := 85) (fun β w' _ => Nvalid_ok n _) ?_)
      | refine splB (fun hc => ?_) (fun hc => ?_)
  all_goals exact ⟨fun β => by simp [*]; rfl, fun w' h => h⟩
end Go.Proofs.Ytlehjapeomallaa
