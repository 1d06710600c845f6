/- A row shared out to a beam's two hangers: what part returns. -/
import Derived.Test.YtaciigegbgnadaaGM
namespace Go.Proofs.Ytaciigegbgnadaa
open Go Tx Go.RowKit
set_option linter.unusedSimpArgs false
set_option linter.unusedVariables false

/-- What the second hanger bears of a row that hangs at a place. -/
def rgt (lo hi a : Int) (f : Row) : Row := fun i => (f i).tdiv (hi - lo) * (a - lo)
def lft (lo hi a : Int) (f : Row) : Row := fun i => f i - rgt lo hi a f i
def zr : Row := fun _ => 0
theorem quoT {k : IntKind} {a b : Int} {K : Int → Prop} (h1 : b ≠ 0) (h2 : IR k (a.tdiv b)) (h : K (a.tdiv b)) : ∃ q : Int, (b ≠ 0 ∧ a.tdiv b = q ∧ IR k q) ∧ K q := ⟨_, ⟨h1, rfl, h2⟩, h⟩
theorem tdiv_bd {a b B : Int} (h1 : -B ≤ a ∧ a ≤ B) (hb : 1 ≤ b) : -B ≤ a.tdiv b ∧ a.tdiv b ≤ B := by
  have h : (a.tdiv b).natAbs = a.natAbs / b.natAbs := Int.natAbs_tdiv a b
  have h2 : (a.natAbs / b.natAbs) ≤ a.natAbs := Nat.div_le_self _ _
  generalize a.tdiv b = q at *
  generalize a.natAbs / b.natAbs = d at *
  omega
theorem mul_bd {a b : Int} (h1 : -10000000000000000 ≤ a ∧ a ≤ 10000000000000000) (h2 : -60 ≤ b ∧ b ≤ 60) : -600000000000000000 ≤ a * b ∧ a * b ≤ 600000000000000000 := by
  have h := Int.natAbs_mul a b
  have h3 : a.natAbs * b.natAbs ≤ 10000000000000000 * 60 := Nat.mul_le_mul (by omega) (by omega)
  omega

set_option maxHeartbeats 4000000 in
set_option maxRecDepth 100000 in
theorem part_ok (b : Bm) (f : Row) (a : Int) (w : World) (hf : rwB f) (hs : 1 ≤ b.hi - b.lo ∧ b.hi - b.lo ≤ 60) (hl : 0 ≤ b.lo ∧ b.lo ≤ 60) (ha : 0 ≤ a ∧ a ≤ 60) :
    Calls Try.prog 93 #[.agg #[iv b.lo, iv b.hi, iv b.ab, iv b.aa, iv b.bb, iv b.ba, iv b.wt, iv b.cap], .agg (rwL f).toArray, iv a] w fun e w' => e = .returned (.tuple #[.agg (rwL (lft b.lo b.hi a f)).toArray, .agg (rwL (rgt b.lo b.hi a f)).toArray]) ∧ Below w.heap.size w w' := by
  obtain ⟨lo, hi, ab, aa, bb, ba, wt, cap⟩ := b
  dsimp only at hs hl ⊢
  refine calls_val env mixed Try.func93 has93 Try.ntmps93 [.agg #[iv lo, iv hi, iv ab, iv aa, iv bb, iv ba, iv wt, iv cap], .agg (rwL f).toArray, iv a] (by simp) ?_
  repeat'
    conv => whnf
    first
      | refine And.intro (a := drawB _ = true) (by kernel_rfl) ?_
      | refine And.intro (a := (_ : Bool) = true) rfl ?_
      | refine And.intro (a := (_ : Bool) = true ∧ (_ : Bool) = true) ⟨rfl, rfl⟩ ?_
      | refine And.intro (a := (_ : Bool) = true ∧ (_ : List _) = []) ⟨rfl, rfl⟩ ?_
      | refine And.intro (a := IR _ _) (And.intro (by omega) (by omega)) ?_
      | refine wrapE (And.intro (by omega) (by omega)) ?_
      | refine And.intro (a := (0 : Int) ≤ _ ∧ _ < _) (And.intro (by omega) (by omega)) ?_
      | refine And.intro (a := (_ : Bool) = true) (by simp only [Nat.beq_refl]; rfl) ?_
      | refine And.intro (a := ((_ : Bool) = true → 1 ≤ _) ∧ _ ≤ 9223372036854775807 ∧ _ ≤ 140737488355328) ⟨fun h => (by first | omega | cases h), by omega, by omega⟩ ?_
      | refine splT ?_
      | refine splF ?_
      | refine splNot ?_
      | (refine splIn (fun hc => ?_) (fun hc => ?_) <;> first | (exfalso; omega) | (exfalso; dsimp only at hc; omega) | skip)
      | (refine splD (fun hc => ?_) (fun hc => ?_) <;> first | (exfalso; omega) | (exfalso; dsimp only at hc; omega) | skip)
      | (refine splE (fun hc => ?_) (fun hc => ?_) <;> first | (exfalso; omega) | (exfalso; dsimp only at hc; omega) | skip)
      | (refine splNE (fun hc => ?_) (fun hc => ?_) <;> first | (exfalso; omega) | (exfalso; dsimp only at hc; omega) | skip)
  refine loopN 4 (fun m : Nat => [(2, .v (iv a)), (3, .ptr 0 0), (6, .ptr 2 0), (7, .ptr 3 0), (10, .agg (rwS f)), (11, .v (iv m))]) (fun m => [(0, .cells [.v (iv lo), .v (iv hi), .v (iv ab), .v (iv aa), .v (iv bb), .v (iv ba), .v (iv wt), .v (iv cap)] 107), (2, .cells (rwS (rwT m (lft lo hi a f) zr)) 142), (3, .cells (rwS (rwT m (rgt lo hi a f) zr)) 142)])
    (fun m => m ≤ 21) (fun m => 21 - m) 0 (by omega) ⟨rfl, rfl, rfl, rfl, rfl, rfl, trivial⟩ ⟨rfl, rfl, rfl, trivial⟩ (fun m _ => ⟨rfl, rfl⟩) ?_
  intro m hm
  have h1 := hf m
  have h2 := tdiv_bd h1 hs.1
  have h3 := mul_bd h2 (b := a - lo) (by omega)
  rcases m22 hm with rfl | rfl | rfl | rfl | rfl | rfl | rfl | rfl | rfl | rfl | rfl | rfl | rfl | rfl | rfl | rfl | rfl | rfl | rfl | rfl | rfl | rfl
  all_goals skip
  repeat'
    conv => whnf
    first
      | refine And.intro (a := drawB _ = true) (by kernel_rfl) ?_
      | refine And.intro (a := (_ : Bool) = true) rfl ?_
      | refine And.intro (a := (_ : Bool) = true ∧ (_ : Bool) = true) ⟨rfl, rfl⟩ ?_
      | refine And.intro (a := (_ : Bool) = true ∧ (_ : List _) = []) ⟨rfl, rfl⟩ ?_
      | refine And.intro (a := IR _ _) (And.intro (by omega) (by omega)) ?_
      | refine wrapE (And.intro (by omega) (by omega)) ?_
      | refine And.intro (a := (0 : Int) ≤ _ ∧ _ < _) (And.intro (by omega) (by omega)) ?_
      | refine And.intro (a := (_ : Bool) = true) (by simp only [Nat.beq_refl]; rfl) ?_
      | refine And.intro (a := ((_ : Bool) = true → 1 ≤ _) ∧ _ ≤ 9223372036854775807 ∧ _ ≤ 140737488355328) ⟨fun h => (by first | omega | cases h), by omega, by omega⟩ ?_
      | refine splT ?_
      | refine splF ?_
      | refine splNot ?_
      | (refine splIn (fun hc => ?_) (fun hc => ?_) <;> first | (exfalso; omega) | (exfalso; dsimp only at hc; omega) | skip)
      | (refine splD (fun hc => ?_) (fun hc => ?_) <;> first | (exfalso; omega) | (exfalso; dsimp only at hc; omega) | skip)
      | (refine splE (fun hc => ?_) (fun hc => ?_) <;> first | (exfalso; omega) | (exfalso; dsimp only at hc; omega) | skip)
      | (refine splNE (fun hc => ?_) (fun hc => ?_) <;> first | (exfalso; omega) | (exfalso; dsimp only at hc; omega) | skip)
      | refine idxS env rfl rfl rfl rfl (And.intro (by omega) (by omega)) rfl rfl (.inr ⟨rfl, rfl⟩) rfl ?_
      | refine quoT (by omega) (And.intro (by omega) (by omega)) ?_
      | refine wrapE (And.intro (by omega) (by omega)) ?_
  all_goals conv => whnf
  · exact ⟨1, by omega, by omega, Ent.weak rfl ⟨rfl, rfl, rfl, rfl, rfl, rfl, trivial⟩ ⟨rfl, rfl, rfl, trivial⟩ fun _ h => h⟩
  · exact ⟨2, by omega, by omega, Ent.weak rfl ⟨rfl, rfl, rfl, rfl, rfl, rfl, trivial⟩ ⟨rfl, rfl, rfl, trivial⟩ fun _ h => h⟩
  · exact ⟨3, by omega, by omega, Ent.weak rfl ⟨rfl, rfl, rfl, rfl, rfl, rfl, trivial⟩ ⟨rfl, rfl, rfl, trivial⟩ fun _ h => h⟩
  · exact ⟨4, by omega, by omega, Ent.weak rfl ⟨rfl, rfl, rfl, rfl, rfl, rfl, trivial⟩ ⟨rfl, rfl, rfl, trivial⟩ fun _ h => h⟩
  · exact ⟨5, by omega, by omega, Ent.weak rfl ⟨rfl, rfl, rfl, rfl, rfl, rfl, trivial⟩ ⟨rfl, rfl, rfl, trivial⟩ fun _ h => h⟩
  · exact ⟨6, by omega, by omega, Ent.weak rfl ⟨rfl, rfl, rfl, rfl, rfl, rfl, trivial⟩ ⟨rfl, rfl, rfl, trivial⟩ fun _ h => h⟩
  · exact ⟨7, by omega, by omega, Ent.weak rfl ⟨rfl, rfl, rfl, rfl, rfl, rfl, trivial⟩ ⟨rfl, rfl, rfl, trivial⟩ fun _ h => h⟩
  · exact ⟨8, by omega, by omega, Ent.weak rfl ⟨rfl, rfl, rfl, rfl, rfl, rfl, trivial⟩ ⟨rfl, rfl, rfl, trivial⟩ fun _ h => h⟩
  · exact ⟨9, by omega, by omega, Ent.weak rfl ⟨rfl, rfl, rfl, rfl, rfl, rfl, trivial⟩ ⟨rfl, rfl, rfl, trivial⟩ fun _ h => h⟩
  · exact ⟨10, by omega, by omega, Ent.weak rfl ⟨rfl, rfl, rfl, rfl, rfl, rfl, trivial⟩ ⟨rfl, rfl, rfl, trivial⟩ fun _ h => h⟩
  · exact ⟨11, by omega, by omega, Ent.weak rfl ⟨rfl, rfl, rfl, rfl, rfl, rfl, trivial⟩ ⟨rfl, rfl, rfl, trivial⟩ fun _ h => h⟩
  · exact ⟨12, by omega, by omega, Ent.weak rfl ⟨rfl, rfl, rfl, rfl, rfl, rfl, trivial⟩ ⟨rfl, rfl, rfl, trivial⟩ fun _ h => h⟩
  · exact ⟨13, by omega, by omega, Ent.weak rfl ⟨rfl, rfl, rfl, rfl, rfl, rfl, trivial⟩ ⟨rfl, rfl, rfl, trivial⟩ fun _ h => h⟩
  · exact ⟨14, by omega, by omega, Ent.weak rfl ⟨rfl, rfl, rfl, rfl, rfl, rfl, trivial⟩ ⟨rfl, rfl, rfl, trivial⟩ fun _ h => h⟩
  · exact ⟨15, by omega, by omega, Ent.weak rfl ⟨rfl, rfl, rfl, rfl, rfl, rfl, trivial⟩ ⟨rfl, rfl, rfl, trivial⟩ fun _ h => h⟩
  · exact ⟨16, by omega, by omega, Ent.weak rfl ⟨rfl, rfl, rfl, rfl, rfl, rfl, trivial⟩ ⟨rfl, rfl, rfl, trivial⟩ fun _ h => h⟩
  · exact ⟨17, by omega, by omega, Ent.weak rfl ⟨rfl, rfl, rfl, rfl, rfl, rfl, trivial⟩ ⟨rfl, rfl, rfl, trivial⟩ fun _ h => h⟩
  · exact ⟨18, by omega, by omega, Ent.weak rfl ⟨rfl, rfl, rfl, rfl, rfl, rfl, trivial⟩ ⟨rfl, rfl, rfl, trivial⟩ fun _ h => h⟩
  · exact ⟨19, by omega, by omega, Ent.weak rfl ⟨rfl, rfl, rfl, rfl, rfl, rfl, trivial⟩ ⟨rfl, rfl, rfl, trivial⟩ fun _ h => h⟩
  · exact ⟨20, by omega, by omega, Ent.weak rfl ⟨rfl, rfl, rfl, rfl, rfl, rfl, trivial⟩ ⟨rfl, rfl, rfl, trivial⟩ fun _ h => h⟩
  · exact ⟨21, by omega, by omega, Ent.weak rfl ⟨rfl, rfl, rfl, rfl, rfl, rfl, trivial⟩ ⟨rfl, rfl, rfl, trivial⟩ fun _ h => h⟩
  · exact ⟨fun β => rfl, fun w' h => h⟩
end Go.Proofs.Ytaciigegbgnadaa
