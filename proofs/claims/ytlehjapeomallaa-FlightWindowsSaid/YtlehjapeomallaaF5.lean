/- When a flyer comes to a net, and whether the net takes it: what these functions return. -/
import Derived.Test.YtlehjapeomallaaF4
import Derived.Test.YtlehjapeomallaaSk
namespace Go.Proofs.Ytlehjapeomallaa
open Go Sx Go.RowKit

theorem Fl.zle {f : Fl} (hf : f.ok = true) {t : Int} (h0 : 0 ≤ t) : (f.af t).z.lo ≤ (f.af t).z.hi := by
  rw [Fl.ok_iff] at hf
  have := Int.mul_le_mul_of_nonneg_left hf.2.1.2.2.1 h0
  simp only [Fl.af]; omega

theorem lnd_bd {f : Fl} (n : Nt) (hf : f.ok = true) (h : (lnd f n).hi ≥ 0) : 0 ≤ (lnd f n).lo ∧ (lnd f n).lo ≤ (lnd f n).hi ∧ (lnd f n).hi ≤ 300 := by
  rcases dnF_bd (fun t => (f.af t).z.hi) n.h 301 0 with e | ⟨e1, e2, e3, e4⟩
  · simp only [lnd] at h ⊢; omega
  · rcases dnF_bd (fun t => (f.af t).z.lo) n.h 301 0 with e' | ⟨f1, f2, f3, f4⟩
    · have := dnF_none (fun t => (f.af t).z.lo) n.h 301 0 (by omega) e' _ e1 (by omega)
      have h3 := Fl.zle hf e1
      exact absurd (Int.le_trans h3 e3) this
    · refine ⟨f1, ?_, by simp only [lnd]; omega⟩
      refine Int.not_lt.1 fun hlt => ?_
      have := f4 _ e1 hlt
      exact this (Int.le_trans (Fl.zle hf e1) e3)

theorem netted_y (f : Fl) (n : Nt) (w : World) (hk : f.ok = true ∧ n.ok = true) :
    Calls Try.prog 65 #[f.v, n.v] w fun e w' => e = .returned (iv 0) ∧ Below w.heap.size w w' := by have := netted_ok f n w; rwa [if_pos hk] at this
theorem netted_n (f : Fl) (n : Nt) (w : World) (hk : ¬ (f.ok = true ∧ n.ok = true)) :
    Calls Try.prog 65 #[f.v, n.v] w fun e w' => e = .returned (iv 1) ∧ Below w.heap.size w w' := by have := netted_ok f n w; rwa [if_neg hk] at this
theorem landing_y (f : Fl) (n : Nt) (w : World) (hf : f.ok = true) (hh : (lnd f n).hi ≥ 0) :
    Calls Try.prog 66 #[f.v, n.v] w fun e w' => e = .returned (.tuple #[(lnd f n).v, .bool true]) ∧ Below w.heap.size w w' := by have := landing_ok f n w hf; rwa [decide_eq_true hh] at this
theorem landing_n (f : Fl) (n : Nt) (w : World) (hf : f.ok = true) (hh : ¬ (lnd f n).hi ≥ 0) :
    Calls Try.prog 66 #[f.v, n.v] w fun e w' => e = .returned (.tuple #[(lnd f n).v, .bool false]) ∧ Below w.heap.size w w' := by have := landing_ok f n w hf; rwa [decide_eq_false hh] at this

theorem Landing_ok (f : Fl) (n : Nt) (w : World) :
    Calls Try.prog 33 #[f.v, n.v] w fun e w' => e = .returned (.tuple #[(if (f.ok = true ∧ n.ok = true) ∧ (lnd f n).hi ≥ 0 then lnd f n else ⟨0, 0⟩ : Rg).v, iv (if f.ok = true ∧ n.ok = true then (if (lnd f n).hi ≥ 0 then 0 else 7) else 1)]) ∧ Below w.heap.size w w' := by
  refine calls_val env mixed Try.func33 has33 Try.ntmps33 [f.v, n.v] (by simp) ?_
  by_cases hk : f.ok = true ∧ n.ok = true
  · rw [if_pos hk]
    by_cases hh : (lnd f n).hi ≥ 0
    · rw [if_pos hh, if_pos ⟨hk, hh⟩]
      repeat'
        conv => whnf
        first
          | refine And.intro (a := drawB _ = true) (by kernel_rfl) ?_
          | refine And.intro (a := (_ : Bool) = true) rfl ?_
          | refine And.intro (a := (_ : Bool) = true ∧ (_ : Bool) = true) ⟨rfl, rfl⟩ ?_
          | refine And.intro (a := (_ : Bool) = true ∧ (_ : List _) = []) ⟨rfl, rfl⟩ ?_
          | refine And.intro (a := IR _ _) (And.intro (by omega) (by omega)) ?_
          | refine splT ?_
          | refine splF ?_
          | refine splNot ?_
          | (refine splIn (fun hc => ?_) (fun hc => ?_) <;> first | (exfalso; omega) | skip)
          | (refine splD (fun hc => ?_) (fun hc => ?_) <;> first | (exfalso; omega) | skip)
          | (refine splE (fun hc => ?_) (fun hc => ?_) <;> first | (exfalso; omega) | skip)
          | (refine splNE (fun hc => ?_) (fun hc => ?_) <;> first | (exfalso; omega) | skip)
          | ((with_reducible show CallEv _ _ 65 _ _ _ _ _); refine callE (k := 65) (fun β w' _ => netted_y f n w' hk) ?_)
          | ((with_reducible show CallEv _ _ 66 _ _ _ _ _); refine callE (k := 66) (fun β w' _ => landing_y f n w' hk.1 hh) ?_)
      exact ⟨fun β => rfl, fun w' h => h⟩
    · rw [if_neg hh, if_neg (fun h => hh h.2)]
      repeat'
        conv => whnf
        first
          | refine And.intro (a := drawB _ = true) (by kernel_rfl) ?_
          | refine And.intro (a := (_ : Bool) = true) rfl ?_
          | refine And.intro (a := (_ : Bool) = true ∧ (_ : Bool) = true) ⟨rfl, rfl⟩ ?_
          | refine And.intro (a := (_ : Bool) = true ∧ (_ : List _) = []) ⟨rfl, rfl⟩ ?_
          | refine And.intro (a := IR _ _) (And.intro (by omega) (by omega)) ?_
          | refine splT ?_
          | refine splF ?_
          | refine splNot ?_
          | (refine splIn (fun hc => ?_) (fun hc => ?_) <;> first | (exfalso; omega) | skip)
          | (refine splD (fun hc => ?_) (fun hc => ?_) <;> first | (exfalso; omega) | skip)
          | (refine splE (fun hc => ?_) (fun hc => ?_) <;> first | (exfalso; omega) | skip)
          | (refine splNE (fun hc => ?_) (fun hc => ?_) <;> first | (exfalso; omega) | skip)
          | ((with_reducible show CallEv _ _ 65 _ _ _ _ _); refine callE (k := 65) (fun β w' _ => netted_y f n w' hk) ?_)
          | ((with_reducible show CallEv _ _ 66 _ _ _ _ _); refine callE (k := 66) (fun β w' _ => landing_n f n w' hk.1 hh) ?_)
      exact ⟨fun β => rfl, fun w' h => h⟩
  · rw [if_neg hk, if_neg (fun h => hk h.1)]
    repeat'
      conv => whnf
      first
        | refine And.intro (a := drawB _ = true) (by kernel_rfl) ?_
        | refine And.intro (a := (_ : Bool) = true) rfl ?_
        | refine And.intro (a := (_ : Bool) = true ∧ (_ : Bool) = true) ⟨rfl, rfl⟩ ?_
        | refine And.intro (a := (_ : Bool) = true ∧ (_ : List _) = []) ⟨rfl, rfl⟩ ?_
        | refine And.intro (a := IR _ _) (And.intro (by omega) (by omega)) ?_
        | refine splT ?_
        | refine splF ?_
        | refine splNot ?_
        | (refine splIn (fun hc => ?_) (fun hc => ?_) <;> first | (exfalso; omega) | skip)
        | (refine splD (fun hc => ?_) (fun hc => ?_) <;> first | (exfalso; omega) | skip)
        | (refine splE (fun hc => ?_) (fun hc => ?_) <;> first | (exfalso; omega) | skip)
        | (refine splNE (fun hc => ?_) (fun hc => ?_) <;> first | (exfalso; omega) | skip)
        | ((with_reducible show CallEv _ _ 65 _ _ _ _ _); refine callE (k := 65) (fun β w' _ => netted_n f n w' hk) ?_)
    exact ⟨fun β => rfl, fun w' h => h⟩

/-- Is the flyer over the net for so many ticks from t on? -/
def ovF (f : Fl) (n : Nt) : Nat → Int → Bool
  | 0, _ => true
  | k + 1, t => (decide (n.x.lo ≤ (f.af t).x.lo) && decide ((f.af t).x.hi ≤ n.x.hi)) && ovF f n k (t + 1)

theorem ovF_iff (f : Fl) (n : Nt) : ∀ k t, ovF f n k t = true ↔ ∀ s, t ≤ s → s < t + k → n.x.lo ≤ (f.af s).x.lo ∧ (f.af s).x.hi ≤ n.x.hi
  | 0, t => by simp only [ovF, true_iff]; intro s h1 h2; omega
  | k + 1, t => by
    simp only [ovF, Bool.and_eq_true, decide_eq_true_eq, ovF_iff f n k (t + 1)]
    constructor
    · rintro ⟨h, h'⟩ s h1 h2
      by_cases hs : s = t
      · subst hs; exact h
      · exact h' s (by omega) (by omega)
    · exact fun h => ⟨h t (by omega) (by omega), fun s h1 h2 => h s (by omega) (by omega)⟩

def tk (f : Fl) (n : Nt) : Bool := decide ((lnd f n).hi ≥ 0) && ovF f n ((lnd f n).hi + 1 - (lnd f n).lo).toNat (lnd f n).lo

theorem Takes_ok (f : Fl) (n : Nt) (w : World) :
    Calls Try.prog 36 #[f.v, n.v] w fun e w' => e = .returned (.tuple #[.bool ((f.ok && n.ok) && tk f n), iv (if f.ok = true ∧ n.ok = true then 0 else 1)]) ∧ Below w.heap.size w w' := by
  refine calls_val env mixed Try.func36 has36 Try.ntmps36 [f.v, n.v] (by simp) ?_
  by_cases hk : f.ok = true ∧ n.ok = true
  · rw [if_pos hk, hk.1, hk.2]
    have hl := lnd_bd n hk.1
    repeat'
      conv => whnf
      first
        | refine And.intro (a := drawB _ = true) (by kernel_rfl) ?_
        | refine And.intro (a := (_ : Bool) = true) rfl ?_
        | refine And.intro (a := (_ : Bool) = true ∧ (_ : Bool) = true) ⟨rfl, rfl⟩ ?_
        | refine And.intro (a := (_ : Bool) = true ∧ (_ : List _) = []) ⟨rfl, rfl⟩ ?_
        | refine And.intro (a := IR _ _) (And.intro (by omega) (by omega)) ?_
        | refine splT ?_
        | refine splF ?_
        | refine splNot ?_
        | (refine splIn (fun hc => ?_) (fun hc => ?_) <;> first | (exfalso; omega) | skip)
        | (refine splD (fun hc => ?_) (fun hc => ?_) <;> first | (exfalso; omega) | skip)
        | (refine splE (fun hc => ?_) (fun hc => ?_) <;> first | (exfalso; omega) | skip)
        | (refine splNE (fun hc => ?_) (fun hc => ?_) <;> first | (exfalso; omega) | skip)
        | ((with_reducible show CallEv _ _ 65 _ _ _ _ _); refine callE (k := 65) (fun β w' _ => netted_y f n w' hk) ?_)
        | ((with_reducible show CallEv _ _ 66 _ _ _ _ _); refine callE (k := 66) (fun β w' _ => landing_ok f n w' hk.1) ?_)
    refine loopE2 (fun (b : Bool) (t : Int) => [(2, .ptr 0 0), (3, .ptr 1 0), (7, .ptr 2 0), (8, .v (.bool b)), (9, .v (iv t))]) (fun _ _ => [(0, .cells [.v (iv f.a.x.lo), .v (iv f.a.x.hi), .v (iv f.a.z.lo), .v (iv f.a.z.hi), .v (iv f.s.x.lo), .v (iv f.s.x.hi), .v (iv f.s.z.lo), .v (iv f.s.z.hi), .v (iv f.m)] 49), (1, .cells [.v (iv n.x.lo), .v (iv n.x.hi), .v (iv n.h)] 74), (2, .cells [.v (iv (lnd f n).lo), .v (iv (lnd f n).hi)] 23)])
      (fun b t => (b = true → (lnd f n).hi ≥ 0 ∧ (lnd f n).lo ≤ t ∧ t ≤ (lnd f n).hi + 1) ∧ (b && ovF f n ((lnd f n).hi + 1 - t).toNat t) = tk f n) (fun b t => cond b (301 - t).toNat.succ 0) (decide ((lnd f n).hi ≥ 0)) (lnd f n).lo
      ⟨fun h => by have := hl (of_decide_eq_true h); have := of_decide_eq_true h; omega, rfl⟩ ⟨rfl, rfl, rfl, rfl, rfl, trivial⟩ ⟨rfl, rfl, rfl, trivial⟩ (fun _ _ => ⟨rfl, rfl⟩) ?_
    intro is t ⟨g0, g1⟩
    cases is
    · skip
      repeat'
        conv => whnf
        first
          | refine And.intro (a := drawB _ = true) (by kernel_rfl) ?_
          | refine And.intro (a := (_ : Bool) = true) rfl ?_
          | refine And.intro (a := (_ : Bool) = true ∧ (_ : Bool) = true) ⟨rfl, rfl⟩ ?_
          | refine And.intro (a := (_ : Bool) = true ∧ (_ : List _) = []) ⟨rfl, rfl⟩ ?_
          | refine And.intro (a := IR _ _) (And.intro (by omega) (by omega)) ?_
          | refine splT ?_
          | refine splF ?_
          | refine splNot ?_
          | (refine splIn (fun hc => ?_) (fun hc => ?_) <;> first | (exfalso; omega) | skip)
          | (refine splD (fun hc => ?_) (fun hc => ?_) <;> first | (exfalso; omega) | skip)
          | (refine splE (fun hc => ?_) (fun hc => ?_) <;> first | (exfalso; omega) | skip)
          | (refine splNE (fun hc => ?_) (fun hc => ?_) <;> first | (exfalso; omega) | skip)
      exact ⟨fun β => by rw [← g1]; rfl, fun w' h => h⟩
    · have g0 := g0 rfl
      have hl := hl g0.1
      repeat'
        conv => whnf
        first
          | refine And.intro (a := drawB _ = true) (by kernel_rfl) ?_
          | refine And.intro (a := (_ : Bool) = true) rfl ?_
          | refine And.intro (a := (_ : Bool) = true ∧ (_ : Bool) = true) ⟨rfl, rfl⟩ ?_
          | refine And.intro (a := (_ : Bool) = true ∧ (_ : List _) = []) ⟨rfl, rfl⟩ ?_
          | refine And.intro (a := IR _ _) (And.intro (by omega) (by omega)) ?_
          | refine splT ?_
          | refine splF ?_
          | refine splNot ?_
          | (refine splIn (fun hc => ?_) (fun hc => ?_) <;> first | (exfalso; omega) | skip)
          | (refine splD (fun hc => ?_) (fun hc => ?_) <;> first | (exfalso; omega) | skip)
          | (refine splE (fun hc => ?_) (fun hc => ?_) <;> first | (exfalso; omega) | skip)
          | (refine splNE (fun hc => ?_) (fun hc => ?_) <;> first | (exfalso; omega) | skip)
          | ((with_reducible show CallEv _ _ 67 _ _ _ _ _); refine callE (k := 67) (fun β w' _ => after_val f t _ hk.1 (by omega) (by omega)) ?_)
      · rw [show ((lnd f n).hi + 1 - t).toNat = ((lnd f n).hi - t).toNat + 1 from by omega, ovF] at g1
        refine ⟨decide ((f.af t).x.hi ≤ n.x.hi), t + 1, ⟨fun _ => by omega, ?_⟩, ?_, Ent.weak rfl ⟨rfl, rfl, rfl, rfl, rfl, trivial⟩ ⟨rfl, rfl, rfl, trivial⟩ fun _ h => h⟩
        · rw [← g1, show (lnd f n).hi + 1 - (t + 1) = (lnd f n).hi - t from by omega]; simp [*]
        · cases decide ((f.af t).x.hi ≤ n.x.hi) <;> simp only [cond_true, cond_false] <;> omega
      · rw [show ((lnd f n).hi + 1 - t).toNat = ((lnd f n).hi - t).toNat + 1 from by omega, ovF] at g1
        refine ⟨false, t + 1, ⟨fun h => (by cases h), ?_⟩, ?_, Ent.weak rfl ⟨rfl, rfl, rfl, rfl, rfl, trivial⟩ ⟨rfl, rfl, rfl, trivial⟩ fun _ h => h⟩
        · rw [← g1]; simp [*]
        · simp only [cond_true, cond_false]; omega
      · rw [show ((lnd f n).hi + 1 - t).toNat = 0 from by omega, ovF] at g1
        exact ⟨fun β => by rw [← g1]; rfl, fun w' h => h⟩
  · rw [if_neg hk, show (f.ok && n.ok) = false from by simpa using hk]
    repeat'
      conv => whnf
      first
        | refine And.intro (a := drawB _ = true) (by kernel_rfl) ?_
        | refine And.intro (a := (_ : Bool) = true) rfl ?_
        | refine And.intro (a := (_ : Bool) = true ∧ (_ : Bool) = true) ⟨rfl, rfl⟩ ?_
        | refine And.intro (a := (_ : Bool) = true ∧ (_ : List _) = []) ⟨rfl, rfl⟩ ?_
        | refine And.intro (a := IR _ _) (And.intro (by omega) (by omega)) ?_
        | refine splT ?_
        | refine splF ?_
        | refine splNot ?_
        | (refine splIn (fun hc => ?_) (fun hc => ?_) <;> first | (exfalso; omega) | skip)
        | (refine splD (fun hc => ?_) (fun hc => ?_) <;> first | (exfalso; omega) | skip)
        | (refine splE (fun hc => ?_) (fun hc => ?_) <;> first | (exfalso; omega) | skip)
        | (refine splNE (fun hc => ?_) (fun hc => ?_) <;> first | (exfalso; omega) | skip)
        | ((with_reducible show CallEv _ _ 65 _ _ _ _ _); refine callE (k := 65) (fun β w' _ => netted_n f n w' hk) ?_)
    exact ⟨fun β => rfl, fun w' h => h⟩
end Go.Proofs.Ytlehjapeomallaa
