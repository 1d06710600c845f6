/- The check of a flight, and its load at any ticks: what these functions return. -/
import Derived.Test.YtlehjapeomallaaF8
namespace Go.Proofs.Ytlehjapeomallaa
open Go Sx Go.RowKit

theorem Fg.ok_iff {g : Fg} {bs : List Bx} : g.ok bs = true ↔ g.f.ok = true ∧ (1 ≤ (g.n : Int) ∧ (g.n : Int) ≤ 600) ∧ (∀ b ∈ bs, b.ok 10000000 = true) ∧ (0 ≤ g.re ∧ g.re ≤ 10000000) ∧ (1 ≤ g.so ∧ g.so ≤ 100) ∧ (0 ≤ g.be ∧ g.be ≤ 100000000) ∧ (0 ≤ g.le ∧ g.le ≤ 300) ∧ g.le ≤ g.mo ∧ g.mo ≤ 300 := by
  simp [Fg.ok, inB_iff, and_assoc]

theorem Check_ok (g : Fg) (bs : List Bx) (w : World) (hr : Rd 4 Bx.cs (.slice g.o g.n g.c) bs w) (hl : bs.length ≤ 1000000) :
    Calls Try.prog 43 #[g.v] w fun e w' => e = .returned (iv (if g.ok bs = true then 0 else 1)) ∧ Below w.heap.size w w' := by
  refine calls_val env mixed Try.func43 has43 Try.ntmps43 [g.v] (by simp) ?_
  repeat'
    conv => whnf
    first
      | refine And.intro (a := drawB _ = true) (by kernel_rfl) ?_
      | refine And.intro (a := (_ : Bool) = true) rfl ?_
      | refine And.intro (a := (_ : Bool) = true ∧ (_ : Bool) = true) ⟨rfl, rfl⟩ ?_
      | refine And.intro (a := (_ : Bool) = true ∧ (_ : List _) = []) ⟨rfl, rfl⟩ ?_
      | refine And.intro (a := IR _ _) (And.intro (by omega) (by omega)) ?_
      | refine And.intro (a := (0 : Int) ≤ _ ∧ _ < _) (And.intro (by omega) (by omega)) ?_
      | refine splT ?_
      | refine splF ?_
      | refine splNot ?_
      | (refine splIn (fun hc => ?_) (fun hc => ?_) <;> first | (exfalso; omega) | skip)
      | (refine splD (fun hc => ?_) (fun hc => ?_) <;> first | (exfalso; omega) | skip)
      | (refine splE (fun hc => ?_) (fun hc => ?_) <;> first | (exfalso; omega) | skip)
      | (refine splNE (fun hc => ?_) (fun hc => ?_) <;> first | (exfalso; omega) | skip)
      | ((with_reducible show CallEv _ _ 60 _ _ _ _ _); refine callE (k := 60) (fun β w' hbw => Gvalid_ok g bs _ (hr.below hbw) hl) ?_)
      | refine splB (fun hc => ?_) (fun hc => ?_)
  all_goals exact ⟨fun β => by simp [*]; rfl, fun w' h => h⟩

theorem Load_ok (g : Fg) (bs : List Bx) (t : Int) (w : World) (hr : Rd 4 Bx.cs (.slice g.o g.n g.c) bs w) (hl : bs.length ≤ 1000000) :
    Calls Try.prog 42 #[g.v, iv t] w fun e w' => e = .returned (.tuple #[iv (if g.ok bs = true ∧ (0 ≤ t ∧ t ≤ 300) then ldF g.f g.so t else 0), iv (if g.ok bs = true then (if 0 ≤ t ∧ t ≤ 300 then 0 else 2) else 1)]) ∧ Below w.heap.size w w' := by
  refine calls_val env mixed Try.func42 has42 Try.ntmps42 [g.v, iv t] (by simp) ?_
  by_cases hk : g.ok bs = true
  · have hk' := Fg.ok_iff.1 hk
    repeat'
      conv => whnf
      first
        | refine And.intro (a := drawB _ = true) (by kernel_rfl) ?_
        | refine And.intro (a := (_ : Bool) = true) rfl ?_
        | refine And.intro (a := (_ : Bool) = true ∧ (_ : Bool) = true) ⟨rfl, rfl⟩ ?_
        | refine And.intro (a := (_ : Bool) = true ∧ (_ : List _) = []) ⟨rfl, rfl⟩ ?_
        | refine And.intro (a := IR _ _) (And.intro (by omega) (by omega)) ?_
        | refine And.intro (a := (0 : Int) ≤ _ ∧ _ < _) (And.intro (by omega) (by omega)) ?_
        | refine splT ?_
        | refine splF ?_
        | refine splNot ?_
        | (refine splIn (fun hc => ?_) (fun hc => ?_) <;> first | (exfalso; omega) | skip)
        | (refine splD (fun hc => ?_) (fun hc => ?_) <;> first | (exfalso; omega) | skip)
        | (refine splE (fun hc => ?_) (fun hc => ?_) <;> first | (exfalso; omega) | skip)
        | (refine splNE (fun hc => ?_) (fun hc => ?_) <;> first | (exfalso; omega) | skip)
        | ((with_reducible show CallEv _ _ 60 _ _ _ _ _); refine callE (k := 60) (fun β w' hbw => Gvalid_ok g bs _ (hr.below hbw) hl) ?_)
        | ((with_reducible show CallEv _ _ 58 _ _ _ _ _); refine callE (k := 58) (fun β w' hbw => within_ok _ _ _ _) ?_)
        | ((with_reducible show CallEv _ _ 70 _ _ _ _ _); refine callE (k := 70) (fun β w' hbw => load_ok g t _ hk'.1 hk'.2.2.2.2.1 (by omega) (by omega)) ?_)
        | refine splB (fun hc => ?_) (fun hc => ?_)
    all_goals first | exact ⟨fun β => by simp [*]; rfl, fun w' h => h⟩ | (exfalso; simp_all)
  · skip
    repeat'
      conv => whnf
      first
        | refine And.intro (a := drawB _ = true) (by kernel_rfl) ?_
        | refine And.intro (a := (_ : Bool) = true) rfl ?_
        | refine And.intro (a := (_ : Bool) = true ∧ (_ : Bool) = true) ⟨rfl, rfl⟩ ?_
        | refine And.intro (a := (_ : Bool) = true ∧ (_ : List _) = []) ⟨rfl, rfl⟩ ?_
        | refine And.intro (a := IR _ _) (And.intro (by omega) (by omega)) ?_
        | refine And.intro (a := (0 : Int) ≤ _ ∧ _ < _) (And.intro (by omega) (by omega)) ?_
        | refine splT ?_
        | refine splF ?_
        | refine splNot ?_
        | (refine splIn (fun hc => ?_) (fun hc => ?_) <;> first | (exfalso; omega) | skip)
        | (refine splD (fun hc => ?_) (fun hc => ?_) <;> first | (exfalso; omega) | skip)
        | (refine splE (fun hc => ?_) (fun hc => ?_) <;> first | (exfalso; omega) | skip)
        | (refine splNE (fun hc => ?_) (fun hc => ?_) <;> first | (exfalso; omega) | skip)
        | ((with_reducible show CallEv _ _ 60 _ _ _ _ _); refine callE (k := 60) (fun β w' hbw => Gvalid_ok g bs _ (hr.below hbw) hl) ?_)
        | ((with_reducible show CallEv _ _ 58 _ _ _ _ _); refine callE (k := 58) (fun β w' hbw => within_ok _ _ _ _) ?_)
        | ((with_reducible show CallEv _ _ 70 _ _ _ _ _); refine callE (k := 70) (fun β w' hbw => load_ok g t _ (by simp_all) (by simp_all) (by simp_all) (by simp_all)) ?_)
        | refine splB (fun hc => ?_) (fun hc => ?_)
    all_goals first | exact ⟨fun β => by simp [*]; rfl, fun w' h => h⟩ | (exfalso; simp_all)

/-- What is seen of a flight: of n ticks the boxes, and whether the load is borne. -/
def seenB (g : Fg) : Nat → List Bx
  | 0 => []
  | k + 1 => seenB g k ++ [g.f.af (g.le + k)]
def seenL (g : Fg) : Nat → List Bool
  | 0 => []
  | k + 1 => seenL g k ++ [decide (ldF g.f g.so (g.le + k) ≤ g.be)]
abbrev bF (b : Bool) : List Value := [.bool b]

theorem seenB_len (g : Fg) : ∀ k, (seenB g k).length = k
  | 0 => rfl
  | k + 1 => by simp [seenB, seenB_len g k]
theorem seenL_len (g : Fg) : ∀ k, (seenL g k).length = k
  | 0 => rfl
  | k + 1 => by simp [seenL, seenL_len g k]
theorem seenB_get (g : Fg) : ∀ (n k : Nat), k < n → (seenB g n)[k]? = some (g.f.af (g.le + k))
  | n + 1, k, h => by
    rw [seenB, List.getElem?_append, seenB_len]
    split
    · exact seenB_get g n k ‹_›
    · have : k = n := by omega
      subst this; simp
theorem seenL_get (g : Fg) : ∀ (n k : Nat), k < n → (seenL g n)[k]? = some (decide (ldF g.f g.so (g.le + k) ≤ g.be))
  | n + 1, k, h => by
    rw [seenL, List.getElem?_append, seenL_len]
    split
    · exact seenL_get g n k ‹_›
    · have : k = n := by omega
      subst this; simp

/-- What see returns: the flight, the slices of its boxes and of what is borne. -/
structure Sn where
  g : Fg
  b : Value
  l : Value
def Fg.cs (g : Fg) : List Value := [iv g.f.a.x.lo, iv g.f.a.x.hi, iv g.f.a.z.lo, iv g.f.a.z.hi, iv g.f.s.x.lo, iv g.f.s.x.hi, iv g.f.s.z.lo, iv g.f.s.z.hi, iv g.f.m, .slice g.o g.n g.c, iv g.re, iv g.so, iv g.be, iv g.le, iv g.mo]
end Go.Proofs.Ytlehjapeomallaa
