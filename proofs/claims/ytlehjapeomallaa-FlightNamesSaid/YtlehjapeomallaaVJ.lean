/- The first run of good releases: what the reference's First returns. -/
import Derived.Test.YtlehjapeomallaaVI
namespace Go.Proofs.Ytlehjapeomallaa.V
open Go Tx Go.RowKit
set_option linter.unusedSimpArgs false
set_option linter.unusedVariables false

/-- How many releases ahead of a + k are good without a break. -/
def rc (p : Int → Bool) (a : Int) : Nat → Nat
  | 0 => 0
  | k + 1 => if p (a + k) then rc p a k + 1 else 0
/-- The first tick, from a + k on, n ticks at most, at which so many have been good. -/
def srch (p : Int → Bool) (a : Int) (need : Int) : Nat → Nat → Option Int
  | 0, _ => none
  | n + 1, k => if (rc p a (k + 1) : Int) = need then some (a + k) else srch p a need n (k + 1)
theorem rc_le (p : Int → Bool) (a : Int) : ∀ k, rc p a k ≤ k
  | 0 => Nat.le_refl _
  | k + 1 => by
    have := rc_le p a k
    rw [rc]
    split <;> omega
def fstV (need : Int) : Option Int → Value
  | some r => .tuple #[.agg #[iv (r - need + 1), iv r], .bool true]
  | none => .tuple #[.agg #[iv 0, iv 0], .bool false]

set_option maxRecDepth 100000 in
theorem First_ok (g : Fg) (bs : List Bx) (a need : Int) (w : World) (hg : g.ok bs = true) (h0 : 0 ≤ a ∧ a ≤ 100000) (hn : 1 ≤ need ∧ need ≤ 100) (hrd : Rd 4 Bx.cs (.slice g.o g.n g.c) bs w) :
    Calls Try.prog 77 #[g.v, iv a, iv need] w fun e w' => e = .returned (fstV need (srch (gd g bs) a need (6001 - a).toNat 0)) ∧ Below w.heap.size w w' := by
  refine calls_val env mixed Try.func77 has77 Try.ntmps77 [g.v, iv a, iv need] (by simp) ?_
  have hgood := fun r w' hr hb => Rgood_ok g bs r w' hg (hrd.below hb) hr
  repeat'
    conv => whnf
    first
      | refine And.intro (a := drawB _ = true) (by kernel_rfl) ?_
      | refine And.intro (a := (_ : Bool) = true) rfl ?_
      | refine And.intro (a := (_ : Bool) = true ∧ (_ : Bool) = true) ⟨rfl, rfl⟩ ?_
      | refine And.intro (a := (_ : Bool) = true ∧ (_ : List _) = []) ⟨rfl, rfl⟩ ?_
      | refine And.intro (a := IR _ _) (And.intro (by omega) (by omega)) ?_
      | refine wrapE (And.intro (by omega) (by omega)) ?_
      | refine And.intro (a := (0 : Int) ≤ _ ∧ _ < _) (And.intro (by omega) (by omega)) ?_
      | refine And.intro (a := (_ : Bool) = true) (by simp only [Nat.beq_refl]; rfl) ?_
      | refine And.intro (a := ((_ : Bool) = true → 1 ≤ _) ∧ _ ≤ 9223372036854775807 ∧ _ ≤ 140737488355328) ⟨fun h => (by first | omega | cases h), by omega, by omega⟩ ?_
      | refine splT ?_
      | refine splF ?_
      | refine splNot ?_
      | (refine splIn (fun hc => ?_) (fun hc => ?_) <;> first | (exfalso; omega) | (exfalso; dsimp only at hc; omega) | skip)
      | (refine splD (fun hc => ?_) (fun hc => ?_) <;> first | (exfalso; omega) | (exfalso; dsimp only at hc; omega) | skip)
      | (refine splE (fun hc => ?_) (fun hc => ?_) <;> first | (exfalso; omega) | (exfalso; dsimp only at hc; omega) | skip)
      | (refine splNE (fun hc => ?_) (fun hc => ?_) <;> first | (exfalso; omega) | (exfalso; dsimp only at hc; omega) | skip)
  refine loopE (fun k : Nat => [(2, .v (iv need)), (3, .ptr 0 0), (6, .ptr 1 0), (8, .v (iv (rc (gd g bs) a k))), (9, .v (iv (a + k)))]) (fun _ => [(0, .cells (gss g) 41), (1, .cells [.v (iv 0), .v (iv 0)] 94)])
    (fun k => k ≤ (6001 - a).toNat ∧ srch (gd g bs) a need ((6001 - a).toNat - k) k = srch (gd g bs) a need (6001 - a).toNat 0) (fun k => (6001 - a).toNat - k) 0 ⟨Nat.zero_le _, rfl⟩ ⟨rfl, rfl, rfl, rfl, by rw [Int.ofNat_zero, Int.add_zero]; rfl, trivial⟩ ⟨rfl, rfl, trivial⟩ (fun _ => ⟨rfl, rfl⟩) ?_
  intro k ⟨hk, hs⟩
  have hi : a + ((k + 1 : Nat) : Int) = a + (k : Int) + 1 := by omega
  rw [← hs]
  have hrl := rc_le (gd g bs) a k
  rcases Nat.lt_or_ge k (6001 - a).toNat with hkl | hkl
  · obtain ⟨m, hm⟩ : ∃ m, (6001 - a).toNat - k = m + 1 := ⟨(6001 - a).toNat - k - 1, by omega⟩
    have hm2 : (6001 - a).toNat - (k + 1) = m := by omega
    have hgk := fun w' hb => hgood (a + k) w' (by omega) hb
    rw [hm, srch] at hs ⊢
    have hrc : rc (gd g bs) a (k + 1) = if gd g bs (a + k) then rc (gd g bs) a k + 1 else 0 := rfl
    cases hp : gd g bs (a + k) with
    | true =>
      rw [hp, if_pos rfl] at hrc
      simp only [hp] at hgk
      have hc1 : ((rc (gd g bs) a k + 1 : Nat) : Int) = (rc (gd g bs) a k : Int) + 1 := by omega
      by_cases hq : (rc (gd g bs) a k : Int) + 1 = need
      · rw [if_pos (by rw [hrc]; omega)]
        repeat'
          conv => whnf
          first
            | refine And.intro (a := drawB _ = true) (by kernel_rfl) ?_
            | refine And.intro (a := (_ : Bool) = true) rfl ?_
            | refine And.intro (a := (_ : Bool) = true ∧ (_ : Bool) = true) ⟨rfl, rfl⟩ ?_
            | refine And.intro (a := (_ : Bool) = true ∧ (_ : List _) = []) ⟨rfl, rfl⟩ ?_
            | refine And.intro (a := IR _ _) (And.intro (by omega) (by omega)) ?_
            | refine wrapE (And.intro (by omega) (by omega)) ?_
            | refine And.intro (a := (0 : Int) ≤ _ ∧ _ < _) (And.intro (by omega) (by omega)) ?_
            | refine And.intro (a := (_ : Bool) = true) (by simp only [Nat.beq_refl]; rfl) ?_
            | refine And.intro (a := ((_ : Bool) = true → 1 ≤ _) ∧ _ ≤ 9223372036854775807 ∧ _ ≤ 140737488355328) ⟨fun h => (by first | omega | cases h), by omega, by omega⟩ ?_
            | refine splT ?_
            | refine splF ?_
            | refine splNot ?_
            | (refine splIn (fun hc => ?_) (fun hc => ?_) <;> first | (exfalso; omega) | (exfalso; dsimp only at hc; omega) | skip)
            | (refine splD (fun hc => ?_) (fun hc => ?_) <;> first | (exfalso; omega) | (exfalso; dsimp only at hc; omega) | skip)
            | (refine splE (fun hc => ?_) (fun hc => ?_) <;> first | (exfalso; omega) | (exfalso; dsimp only at hc; omega) | skip)
            | (refine splNE (fun hc => ?_) (fun hc => ?_) <;> first | (exfalso; omega) | (exfalso; dsimp only at hc; omega) | skip)
            | ((with_reducible show CallEv _ _ 79 _ _ _ _ _); refine callE (k := 79) (fun β w' hbw => hgk _ (by first | exact hbw | exact hbw.1 | exact hbw.1.1 | exact hbw.1.1.1 | exact hbw.1.1.1.1 | exact hbw.1.1.1.1.1 | exact hbw.1.1.1.1.1.1 | exact hbw.1.1.1.1.1.1.1)) ?_)
        all_goals first | exact ⟨fun β => rfl, fun w' h => h⟩ | (exfalso; omega) | skip
      · rw [if_neg (by rw [hrc]; omega)] at hs ⊢
        repeat'
          conv => whnf
          first
            | refine And.intro (a := drawB _ = true) (by kernel_rfl) ?_
            | refine And.intro (a := (_ : Bool) = true) rfl ?_
            | refine And.intro (a := (_ : Bool) = true ∧ (_ : Bool) = true) ⟨rfl, rfl⟩ ?_
            | refine And.intro (a := (_ : Bool) = true ∧ (_ : List _) = []) ⟨rfl, rfl⟩ ?_
            | refine And.intro (a := IR _ _) (And.intro (by omega) (by omega)) ?_
            | refine wrapE (And.intro (by omega) (by omega)) ?_
            | refine And.intro (a := (0 : Int) ≤ _ ∧ _ < _) (And.intro (by omega) (by omega)) ?_
            | refine And.intro (a := (_ : Bool) = true) (by simp only [Nat.beq_refl]; rfl) ?_
            | refine And.intro (a := ((_ : Bool) = true → 1 ≤ _) ∧ _ ≤ 9223372036854775807 ∧ _ ≤ 140737488355328) ⟨fun h => (by first | omega | cases h), by omega, by omega⟩ ?_
            | refine splT ?_
            | refine splF ?_
            | refine splNot ?_
            | (refine splIn (fun hc => ?_) (fun hc => ?_) <;> first | (exfalso; omega) | (exfalso; dsimp only at hc; omega) | skip)
            | (refine splD (fun hc => ?_) (fun hc => ?_) <;> first | (exfalso; omega) | (exfalso; dsimp only at hc; omega) | skip)
            | (refine splE (fun hc => ?_) (fun hc => ?_) <;> first | (exfalso; omega) | (exfalso; dsimp only at hc; omega) | skip)
            | (refine splNE (fun hc => ?_) (fun hc => ?_) <;> first | (exfalso; omega) | (exfalso; dsimp only at hc; omega) | skip)
            | ((with_reducible show CallEv _ _ 79 _ _ _ _ _); refine callE (k := 79) (fun β w' hbw => hgk _ (by first | exact hbw | exact hbw.1 | exact hbw.1.1 | exact hbw.1.1.1 | exact hbw.1.1.1.1 | exact hbw.1.1.1.1.1 | exact hbw.1.1.1.1.1.1 | exact hbw.1.1.1.1.1.1.1)) ?_)
        all_goals first | (exfalso; omega) | exact ⟨k + 1, ⟨by omega, by rw [hm2]⟩, by omega, Ent.weak rfl ⟨rfl, rfl, rfl, by rw [hrc, hc1]; rfl, by rw [hi]; rfl, trivial⟩ ⟨rfl, rfl, trivial⟩ fun _ h => h⟩
    | false =>
      rw [hp, if_neg (by decide)] at hrc
      simp only [hp] at hgk
      rw [if_neg (by rw [hrc]; omega)] at hs ⊢
      repeat'
        conv => whnf
        first
          | refine And.intro (a := drawB _ = true) (by kernel_rfl) ?_
          | refine And.intro (a := (_ : Bool) = true) rfl ?_
          | refine And.intro (a := (_ : Bool) = true ∧ (_ : Bool) = true) ⟨rfl, rfl⟩ ?_
          | refine And.intro (a := (_ : Bool) = true ∧ (_ : List _) = []) ⟨rfl, rfl⟩ ?_
          | refine And.intro (a := IR _ _) (And.intro (by omega) (by omega)) ?_
          | refine wrapE (And.intro (by omega) (by omega)) ?_
          | refine And.intro (a := (0 : Int) ≤ _ ∧ _ < _) (And.intro (by omega) (by omega)) ?_
          | refine And.intro (a := (_ : Bool) = true) (by simp only [Nat.beq_refl]; rfl) ?_
          | refine And.intro (a := ((_ : Bool) = true → 1 ≤ _) ∧ _ ≤ 9223372036854775807 ∧ _ ≤ 140737488355328) ⟨fun h => (by first | omega | cases h), by omega, by omega⟩ ?_
          | refine splT ?_
          | refine splF ?_
          | refine splNot ?_
          | (refine splIn (fun hc => ?_) (fun hc => ?_) <;> first | (exfalso; omega) | (exfalso; dsimp only at hc; omega) | skip)
          | (refine splD (fun hc => ?_) (fun hc => ?_) <;> first | (exfalso; omega) | (exfalso; dsimp only at hc; omega) | skip)
          | (refine splE (fun hc => ?_) (fun hc => ?_) <;> first | (exfalso; omega) | (exfalso; dsimp only at hc; omega) | skip)
          | (refine splNE (fun hc => ?_) (fun hc => ?_) <;> first | (exfalso; omega) | (exfalso; dsimp only at hc; omega) | skip)
          | ((with_reducible show CallEv _ _ 79 _ _ _ _ _); refine callE (k := 79) (fun β w' hbw => hgk _ (by first | exact hbw | exact hbw.1 | exact hbw.1.1 | exact hbw.1.1.1 | exact hbw.1.1.1.1 | exact hbw.1.1.1.1.1 | exact hbw.1.1.1.1.1.1 | exact hbw.1.1.1.1.1.1.1)) ?_)
      all_goals first | (exfalso; omega) | exact ⟨k + 1, ⟨by omega, by rw [hm2]⟩, by omega, Ent.weak rfl ⟨rfl, rfl, rfl, by rw [hrc]; rfl, by rw [hi]; rfl, trivial⟩ ⟨rfl, rfl, trivial⟩ fun _ h => h⟩
  · rw [show (6001 - a).toNat - k = 0 from by omega, srch]
    repeat'
      conv => whnf
      first
        | refine And.intro (a := drawB _ = true) (by kernel_rfl) ?_
        | refine And.intro (a := (_ : Bool) = true) rfl ?_
        | refine And.intro (a := (_ : Bool) = true ∧ (_ : Bool) = true) ⟨rfl, rfl⟩ ?_
        | refine And.intro (a := (_ : Bool) = true ∧ (_ : List _) = []) ⟨rfl, rfl⟩ ?_
        | refine And.intro (a := IR _ _) (And.intro (by omega) (by omega)) ?_
        | refine wrapE (And.intro (by omega) (by omega)) ?_
        | refine And.intro (a := (0 : Int) ≤ _ ∧ _ < _) (And.intro (by omega) (by omega)) ?_
        | refine And.intro (a := (_ : Bool) = true) (by simp only [Nat.beq_refl]; rfl) ?_
        | refine And.intro (a := ((_ : Bool) = true → 1 ≤ _) ∧ _ ≤ 9223372036854775807 ∧ _ ≤ 140737488355328) ⟨fun h => (by first | omega | cases h), by omega, by omega⟩ ?_
        | refine splT ?_
        | refine splF ?_
        | refine splNot ?_
        | (refine splIn (fun hc => ?_) (fun hc => ?_) <;> first | (exfalso; omega) | (exfalso; dsimp only at hc; omega) | skip)
        | (refine splD (fun hc => ?_) (fun hc => ?_) <;> first | (exfalso; omega) | (exfalso; dsimp only at hc; omega) | skip)
        | (refine splE (fun hc => ?_) (fun hc => ?_) <;> first | (exfalso; omega) | (exfalso; dsimp only at hc; omega) | skip)
        | (refine splNE (fun hc => ?_) (fun hc => ?_) <;> first | (exfalso; omega) | (exfalso; dsimp only at hc; omega) | skip)
    all_goals first | exact ⟨fun β => rfl, fun w' h => h⟩ | (exfalso; omega) | skip
end Go.Proofs.Ytlehjapeomallaa.V
