/- Part 1 of the proof: texts merged. -/
import Derived.Test.YtfbokllafdnglaaS0
namespace Go.Proofs.Ytfbokllafdnglaa
open Go Tx Go.RowKit
set_option linter.unusedSimpArgs false
set_option linter.unusedVariables false
theorem within_ok (n lo hi : Int) (w : World) : Calls Try.prog 58 #[iv n, iv lo, iv hi] w fun e w' => e = .returned (.bool (inB n lo hi)) ∧ Below w.heap.size w w' := by
 refine calls_val env mixed Try.func58 has58 Try.ntmps58 [iv n, iv lo, iv hi] (by simp) ?_
 repeat'
  conv => whnf
  first
   | refine zA ?_ | refine zB ?_ | refine zC ?_ | refine zD ?_ | refine zE ?_ | refine zF ?_ | refine zG ?_ | refine zH ?_ | refine zI ?_ | refine splT ?_ | refine splF ?_ | refine splNot ?_
   | ((first | refine splIn ?_ ?_ | refine splD ?_ ?_ | refine splE ?_ ?_ | refine splNE ?_ ?_) <;> intro hc <;> first | (exfalso; omega) | (exfalso; dsimp only at hc; omega) | skip)
 all_goals exact ⟨fun β => congrArg Value.bool (by simp [inB, *]), fun w' h => h⟩
theorem In_ok (n lo hi : Int) (w : World) : Calls Try.prog 31 #[iv n, iv lo, iv hi] w fun e w' => e = .returned (.bool (inB n lo hi)) ∧ Below w.heap.size w w' := by
 refine calls_val env mixed Try.func31 has31 Try.ntmps31 [iv n, iv lo, iv hi] (by simp) ?_
 repeat'
  conv => whnf
  first
   | refine zA ?_ | refine zB ?_ | refine zC ?_ | refine zD ?_ | refine zE ?_ | refine zF ?_ | refine zG ?_ | refine zH ?_ | refine zI ?_ | refine splT ?_ | refine splF ?_ | refine splNot ?_
   | ((first | refine splIn ?_ ?_ | refine splD ?_ ?_ | refine splE ?_ ?_ | refine splNE ?_ ?_) <;> intro hc <;> first | (exfalso; omega) | (exfalso; dsimp only at hc; omega) | skip)
 all_goals exact ⟨fun β => congrArg Value.bool (by simp [inB, *]), fun w' h => h⟩
structure En where
 day : Int
 num : Int
 hrs : Int
 chk : Bool
abbrev En.cs (x : En) : List Value := [iv x.day, iv x.num, iv x.hrs, .bool x.chk]
abbrev gF (g : Int × Int) : List Value := [iv g.1, iv g.2]
end Go.Proofs.Ytfbokllafdnglaa
namespace Go.Proofs.Ytfbokllafdnglaa
open Go Tx Go.RowKit
set_option linter.unusedSimpArgs false
set_option linter.unusedVariables false
def fstN (p : Nat → Bool) : Nat → Nat → Nat
 | 0, k => k
 | n + 1, k => if p k then k else fstN p n (k + 1)
theorem fstN_spec {p : Nat → Bool} : ∀ (n k : Nat), k ≤ fstN p n k ∧ fstN p n k ≤ k + n ∧ (∀ i, k ≤ i → i < fstN p n k → p i = false) ∧ (fstN p n k < k + n → p (fstN p n k) = true)
 | 0, k => ⟨Nat.le_refl _, Nat.le_refl _, fun i h1 h2 => by simp only [fstN] at h2; omega, fun h => by simp only [fstN] at h; omega⟩
 | n + 1, k => by
  rw [fstN]
  split
  · rename_i hp
    exact ⟨Nat.le_refl _, by omega, fun i h1 h2 => by omega, fun _ => hp⟩
  · rename_i hp
    obtain ⟨h1, h2, h3, h4⟩ := fstN_spec (p := p) n (k + 1)
    refine ⟨by omega, by omega, fun i q1 q2 => ?_, fun h => h4 (by omega)⟩
    by_cases hik : i = k
    · subst hik; simpa using hp
    · exact h3 i (by omega) q2
end Go.Proofs.Ytfbokllafdnglaa
namespace Go.Proofs.Ytfbokllafdnglaa
open Go Tx Go.RowKit
set_option linter.unusedSimpArgs false
set_option linter.unusedVariables false
abbrev Row := Nat → Int
def idx21 : List Nat := [0, 1, 2, 3, 4, 5, 6, 7, 8, 9, 10, 11, 12, 13, 14, 15, 16, 17, 18, 19, 20]
abbrev rwS (f : Row) : List SV := idx21.map fun i => .v (iv (f i))
abbrev rwL (f : Row) : List Value := idx21.map fun i => iv (f i)
def rwB (f : Row) : Prop := ∀ i, -10000000000000000 ≤ f i ∧ f i ≤ 10000000000000000
def rwT (k : Nat) (f g : Row) : Row := fun i => if Nat.blt i k then f i else g i
def acc (f g : Row) : Nat → Row
 | 0 => fun _ => 0
 | 1 => fun i => 0 + f i
 | _ => fun i => 0 + f i + g i
theorem m22 {m : Nat} (h : m ≤ 21) : m = 0 ∨ m = 1 ∨ m = 2 ∨ m = 3 ∨ m = 4 ∨ m = 5 ∨ m = 6 ∨ m = 7 ∨ m = 8 ∨ m = 9 ∨ m = 10 ∨ m = 11 ∨ m = 12 ∨ m = 13 ∨ m = 14 ∨ m = 15 ∨ m = 16 ∨ m = 17 ∨ m = 18 ∨ m = 19 ∨ m = 20 ∨ m = 21 := by omega
theorem rw_ir {a b : Int} (h1 : -10000000000000000 ≤ a ∧ a ≤ 10000000000000000) (h2 : -10000000000000000 ≤ b ∧ b ≤ 10000000000000000) : IR .i64 (a + b) := And.intro (by omega) (by omega)
set_option maxHeartbeats 4000000 in
set_option maxRecDepth 100000 in
theorem sum_ok (f g : Row) (o : Option Addr) (c : Nat) (w : World) (hrd : Rd 21 rwL (.slice o 2 c) [f, g] w) (hf : rwB f) (hg : rwB g) :
 Calls Try.prog 68 #[.slice o 2 c] w fun e w' => e = .returned (.agg (rwL fun i => f i + g i).toArray) ∧ Below w.heap.size w w' := by
 refine calls_val env mixed Try.func68 has68 Try.ntmps68 [.slice o 2 c] (by simp) ?_
 obtain ⟨_, ad, rfl, _⟩ := hrd.ptr (by omega)
 have hz : rwB (acc f g 0) := fun i => by show _ ≤ (0 : Int) ∧ (0 : Int) ≤ _; omega
 have hy : rwB (acc f g 1) := fun i => by have := hf i; show _ ≤ (0 : Int) + f i ∧ (0 : Int) + f i ≤ _; omega
 repeat'
  conv => whnf
  first
   | refine zA ?_ | refine zB ?_ | refine zC ?_ | refine zD ?_ | refine zE ?_ | refine zF ?_ | refine zG ?_ | refine zH ?_ | refine zI ?_ | refine splT ?_ | refine splF ?_ | refine splNot ?_
   | ((first | refine splIn ?_ ?_ | refine splD ?_ ?_ | refine splE ?_ ?_ | refine splNE ?_ ?_) <;> intro hc <;> first | (exfalso; omega) | (exfalso; dsimp only at hc; omega) | skip)
 refine loopN 1 (fun k : Nat => [(2, .ptr 0 0), (6, .v (.slice (some ad) 2 c)), (7, .v (iv 2)), (8, .v (iv k))]) (fun k => [(0, .cells (rwS (acc f g k)) 118)])
  (fun k => k ≤ 2) (fun k => 2 - k) 0 (by omega) ⟨rfl, rfl, rfl, rfl, trivial⟩ ⟨rfl, trivial⟩ (fun k _ => ⟨rfl, rfl⟩) ?_
 intro k hk
 obtain rfl | rfl | rfl : k = 0 ∨ k = 1 ∨ k = 2 := by omega
 · have e0 := fun (w' : World) hw' => rd_atz (hrd.below (w' := w') hw') (k := 0) (b := f) rfl 0 rfl
   repeat'
    conv => whnf
    first
     | refine zA ?_ | refine zB ?_ | refine zC ?_ | refine zD ?_ | refine zE ?_ | refine zF ?_ | refine zG ?_ | refine zH ?_ | refine zI ?_ | refine splT ?_ | refine splF ?_ | refine splNot ?_
     | ((first | refine splIn ?_ ?_ | refine splD ?_ ?_ | refine splE ?_ ?_ | refine splNE ?_ ?_) <;> intro hc <;> first | (exfalso; omega) | (exfalso; dsimp only at hc; omega) | skip)
     | refine Exists.intro (α := List Value) (rwL f) ⟨⟨rfl, fun w' hw' => e0 w' hw'⟩, ?_⟩
   refine loopN 2 (fun m : Nat => [(2, .ptr 0 0), (4, .ptr 1 0), (6, .v (.slice (some ad) 2 c)), (7, .v (iv 2)), (8, .v (iv 0)), (12, .v (iv m))]) (fun m => [(0, .cells (rwS (rwT m (acc f g 1) (acc f g 0))) 118), (1, .cells (rwS f) 118)])
    (fun m => m ≤ 21) (fun m => 21 - m) 0 (by omega) ⟨rfl, rfl, rfl, rfl, rfl, rfl, trivial⟩ ⟨rfl, rfl, trivial⟩ (fun m _ => ⟨rfl, rfl⟩) ?_
   intro m hm
   have h1 := hz m
   have h2 := hf m
   rcases m22 hm with rfl | rfl | rfl | rfl | rfl | rfl | rfl | rfl | rfl | rfl | rfl | rfl | rfl | rfl | rfl | rfl | rfl | rfl | rfl | rfl | rfl | rfl
   all_goals skip
   repeat'
    conv => whnf
    first
     | refine zA ?_ | refine zB ?_ | refine zC ?_ | refine zD ?_ | refine zE ?_ | refine zF ?_ | refine zG ?_ | refine zH ?_ | refine zI ?_ | refine splT ?_ | refine splF ?_ | refine splNot ?_
     | ((first | refine splIn ?_ ?_ | refine splD ?_ ?_ | refine splE ?_ ?_ | refine splNE ?_ ?_) <;> intro hc <;> first | (exfalso; omega) | (exfalso; dsimp only at hc; omega) | skip)
     | refine wrapE (rw_ir h1 h2) ?_
   · exact ⟨1, by omega, by omega, Ent.weak rfl ⟨rfl, rfl, rfl, rfl, rfl, rfl, trivial⟩ ⟨rfl, rfl, trivial⟩ fun _ h => h⟩
   · exact ⟨2, by omega, by omega, Ent.weak rfl ⟨rfl, rfl, rfl, rfl, rfl, rfl, trivial⟩ ⟨rfl, rfl, trivial⟩ fun _ h => h⟩
   · exact ⟨3, by omega, by omega, Ent.weak rfl ⟨rfl, rfl, rfl, rfl, rfl, rfl, trivial⟩ ⟨rfl, rfl, trivial⟩ fun _ h => h⟩
   · exact ⟨4, by omega, by omega, Ent.weak rfl ⟨rfl, rfl, rfl, rfl, rfl, rfl, trivial⟩ ⟨rfl, rfl, trivial⟩ fun _ h => h⟩
   · exact ⟨5, by omega, by omega, Ent.weak rfl ⟨rfl, rfl, rfl, rfl, rfl, rfl, trivial⟩ ⟨rfl, rfl, trivial⟩ fun _ h => h⟩
   · exact ⟨6, by omega, by omega, Ent.weak rfl ⟨rfl, rfl, rfl, rfl, rfl, rfl, trivial⟩ ⟨rfl, rfl, trivial⟩ fun _ h => h⟩
   · exact ⟨7, by omega, by omega, Ent.weak rfl ⟨rfl, rfl, rfl, rfl, rfl, rfl, trivial⟩ ⟨rfl, rfl, trivial⟩ fun _ h => h⟩
   · exact ⟨8, by omega, by omega, Ent.weak rfl ⟨rfl, rfl, rfl, rfl, rfl, rfl, trivial⟩ ⟨rfl, rfl, trivial⟩ fun _ h => h⟩
   · exact ⟨9, by omega, by omega, Ent.weak rfl ⟨rfl, rfl, rfl, rfl, rfl, rfl, trivial⟩ ⟨rfl, rfl, trivial⟩ fun _ h => h⟩
   · exact ⟨10, by omega, by omega, Ent.weak rfl ⟨rfl, rfl, rfl, rfl, rfl, rfl, trivial⟩ ⟨rfl, rfl, trivial⟩ fun _ h => h⟩
   · exact ⟨11, by omega, by omega, Ent.weak rfl ⟨rfl, rfl, rfl, rfl, rfl, rfl, trivial⟩ ⟨rfl, rfl, trivial⟩ fun _ h => h⟩
   · exact ⟨12, by omega, by omega, Ent.weak rfl ⟨rfl, rfl, rfl, rfl, rfl, rfl, trivial⟩ ⟨rfl, rfl, trivial⟩ fun _ h => h⟩
   · exact ⟨13, by omega, by omega, Ent.weak rfl ⟨rfl, rfl, rfl, rfl, rfl, rfl, trivial⟩ ⟨rfl, rfl, trivial⟩ fun _ h => h⟩
   · exact ⟨14, by omega, by omega, Ent.weak rfl ⟨rfl, rfl, rfl, rfl, rfl, rfl, trivial⟩ ⟨rfl, rfl, trivial⟩ fun _ h => h⟩
   · exact ⟨15, by omega, by omega, Ent.weak rfl ⟨rfl, rfl, rfl, rfl, rfl, rfl, trivial⟩ ⟨rfl, rfl, trivial⟩ fun _ h => h⟩
   · exact ⟨16, by omega, by omega, Ent.weak rfl ⟨rfl, rfl, rfl, rfl, rfl, rfl, trivial⟩ ⟨rfl, rfl, trivial⟩ fun _ h => h⟩
   · exact ⟨17, by omega, by omega, Ent.weak rfl ⟨rfl, rfl, rfl, rfl, rfl, rfl, trivial⟩ ⟨rfl, rfl, trivial⟩ fun _ h => h⟩
   · exact ⟨18, by omega, by omega, Ent.weak rfl ⟨rfl, rfl, rfl, rfl, rfl, rfl, trivial⟩ ⟨rfl, rfl, trivial⟩ fun _ h => h⟩
   · exact ⟨19, by omega, by omega, Ent.weak rfl ⟨rfl, rfl, rfl, rfl, rfl, rfl, trivial⟩ ⟨rfl, rfl, trivial⟩ fun _ h => h⟩
   · exact ⟨20, by omega, by omega, Ent.weak rfl ⟨rfl, rfl, rfl, rfl, rfl, rfl, trivial⟩ ⟨rfl, rfl, trivial⟩ fun _ h => h⟩
   · exact ⟨21, by omega, by omega, Ent.weak rfl ⟨rfl, rfl, rfl, rfl, rfl, rfl, trivial⟩ ⟨rfl, rfl, trivial⟩ fun _ h => h⟩
   · exact ⟨1, by omega, by omega, Ent.weak rfl ⟨rfl, rfl, rfl, rfl, trivial⟩ ⟨rfl, trivial⟩ fun _ h => h⟩
 · have e0 := fun (w' : World) hw' => rd_atz (hrd.below (w' := w') hw') (k := 1) (b := g) rfl 1 rfl
   repeat'
    conv => whnf
    first
     | refine zA ?_ | refine zB ?_ | refine zC ?_ | refine zD ?_ | refine zE ?_ | refine zF ?_ | refine zG ?_ | refine zH ?_ | refine zI ?_ | refine splT ?_ | refine splF ?_ | refine splNot ?_
     | ((first | refine splIn ?_ ?_ | refine splD ?_ ?_ | refine splE ?_ ?_ | refine splNE ?_ ?_) <;> intro hc <;> first | (exfalso; omega) | (exfalso; dsimp only at hc; omega) | skip)
     | refine Exists.intro (α := List Value) (rwL g) ⟨⟨rfl, fun w' hw' => e0 w' hw'⟩, ?_⟩
   refine loopN 2 (fun m : Nat => [(2, .ptr 0 0), (4, .ptr 1 0), (6, .v (.slice (some ad) 2 c)), (7, .v (iv 2)), (8, .v (iv 1)), (12, .v (iv m))]) (fun m => [(0, .cells (rwS (rwT m (acc f g 2) (acc f g 1))) 118), (1, .cells (rwS g) 118)])
    (fun m => m ≤ 21) (fun m => 21 - m) 0 (by omega) ⟨rfl, rfl, rfl, rfl, rfl, rfl, trivial⟩ ⟨rfl, rfl, trivial⟩ (fun m _ => ⟨rfl, rfl⟩) ?_
   intro m hm
   have h1 := hy m
   have h2 := hg m
   rcases m22 hm with rfl | rfl | rfl | rfl | rfl | rfl | rfl | rfl | rfl | rfl | rfl | rfl | rfl | rfl | rfl | rfl | rfl | rfl | rfl | rfl | rfl | rfl
   all_goals skip
   repeat'
    conv => whnf
    first
     | refine zA ?_ | refine zB ?_ | refine zC ?_ | refine zD ?_ | refine zE ?_ | refine zF ?_ | refine zG ?_ | refine zH ?_ | refine zI ?_ | refine splT ?_ | refine splF ?_ | refine splNot ?_
     | ((first | refine splIn ?_ ?_ | refine splD ?_ ?_ | refine splE ?_ ?_ | refine splNE ?_ ?_) <;> intro hc <;> first | (exfalso; omega) | (exfalso; dsimp only at hc; omega) | skip)
     | refine wrapE (rw_ir h1 h2) ?_
   · exact ⟨1, by omega, by omega, Ent.weak rfl ⟨rfl, rfl, rfl, rfl, rfl, rfl, trivial⟩ ⟨rfl, rfl, trivial⟩ fun _ h => h⟩
   · exact ⟨2, by omega, by omega, Ent.weak rfl ⟨rfl, rfl, rfl, rfl, rfl, rfl, trivial⟩ ⟨rfl, rfl, trivial⟩ fun _ h => h⟩
   · exact ⟨3, by omega, by omega, Ent.weak rfl ⟨rfl, rfl, rfl, rfl, rfl, rfl, trivial⟩ ⟨rfl, rfl, trivial⟩ fun _ h => h⟩
   · exact ⟨4, by omega, by omega, Ent.weak rfl ⟨rfl, rfl, rfl, rfl, rfl, rfl, trivial⟩ ⟨rfl, rfl, trivial⟩ fun _ h => h⟩
   · exact ⟨5, by omega, by omega, Ent.weak rfl ⟨rfl, rfl, rfl, rfl, rfl, rfl, trivial⟩ ⟨rfl, rfl, trivial⟩ fun _ h => h⟩
   · exact ⟨6, by omega, by omega, Ent.weak rfl ⟨rfl, rfl, rfl, rfl, rfl, rfl, trivial⟩ ⟨rfl, rfl, trivial⟩ fun _ h => h⟩
   · exact ⟨7, by omega, by omega, Ent.weak rfl ⟨rfl, rfl, rfl, rfl, rfl, rfl, trivial⟩ ⟨rfl, rfl, trivial⟩ fun _ h => h⟩
   · exact ⟨8, by omega, by omega, Ent.weak rfl ⟨rfl, rfl, rfl, rfl, rfl, rfl, trivial⟩ ⟨rfl, rfl, trivial⟩ fun _ h => h⟩
   · exact ⟨9, by omega, by omega, Ent.weak rfl ⟨rfl, rfl, rfl, rfl, rfl, rfl, trivial⟩ ⟨rfl, rfl, trivial⟩ fun _ h => h⟩
   · exact ⟨10, by omega, by omega, Ent.weak rfl ⟨rfl, rfl, rfl, rfl, rfl, rfl, trivial⟩ ⟨rfl, rfl, trivial⟩ fun _ h => h⟩
   · exact ⟨11, by omega, by omega, Ent.weak rfl ⟨rfl, rfl, rfl, rfl, rfl, rfl, trivial⟩ ⟨rfl, rfl, trivial⟩ fun _ h => h⟩
   · exact ⟨12, by omega, by omega, Ent.weak rfl ⟨rfl, rfl, rfl, rfl, rfl, rfl, trivial⟩ ⟨rfl, rfl, trivial⟩ fun _ h => h⟩
   · exact ⟨13, by omega, by omega, Ent.weak rfl ⟨rfl, rfl, rfl, rfl, rfl, rfl, trivial⟩ ⟨rfl, rfl, trivial⟩ fun _ h => h⟩
   · exact ⟨14, by omega, by omega, Ent.weak rfl ⟨rfl, rfl, rfl, rfl, rfl, rfl, trivial⟩ ⟨rfl, rfl, trivial⟩ fun _ h => h⟩
   · exact ⟨15, by omega, by omega, Ent.weak rfl ⟨rfl, rfl, rfl, rfl, rfl, rfl, trivial⟩ ⟨rfl, rfl, trivial⟩ fun _ h => h⟩
   · exact ⟨16, by omega, by omega, Ent.weak rfl ⟨rfl, rfl, rfl, rfl, rfl, rfl, trivial⟩ ⟨rfl, rfl, trivial⟩ fun _ h => h⟩
   · exact ⟨17, by omega, by omega, Ent.weak rfl ⟨rfl, rfl, rfl, rfl, rfl, rfl, trivial⟩ ⟨rfl, rfl, trivial⟩ fun _ h => h⟩
   · exact ⟨18, by omega, by omega, Ent.weak rfl ⟨rfl, rfl, rfl, rfl, rfl, rfl, trivial⟩ ⟨rfl, rfl, trivial⟩ fun _ h => h⟩
   · exact ⟨19, by omega, by omega, Ent.weak rfl ⟨rfl, rfl, rfl, rfl, rfl, rfl, trivial⟩ ⟨rfl, rfl, trivial⟩ fun _ h => h⟩
   · exact ⟨20, by omega, by omega, Ent.weak rfl ⟨rfl, rfl, rfl, rfl, rfl, rfl, trivial⟩ ⟨rfl, rfl, trivial⟩ fun _ h => h⟩
   · exact ⟨21, by omega, by omega, Ent.weak rfl ⟨rfl, rfl, rfl, rfl, rfl, rfl, trivial⟩ ⟨rfl, rfl, trivial⟩ fun _ h => h⟩
   · exact ⟨2, by omega, by omega, Ent.weak rfl ⟨rfl, rfl, rfl, rfl, trivial⟩ ⟨rfl, trivial⟩ fun _ h => h⟩
 · rw [show (fun i => f i + g i) = acc f g 2 from funext fun i => by show _ = 0 + f i + g i; omega]
   repeat'
    conv => whnf
    first
     | refine zA ?_ | refine zB ?_ | refine zC ?_ | refine zD ?_ | refine zE ?_ | refine zF ?_ | refine zG ?_ | refine zH ?_ | refine zI ?_ | refine splT ?_ | refine splF ?_ | refine splNot ?_
     | ((first | refine splIn ?_ ?_ | refine splD ?_ ?_ | refine splE ?_ ?_ | refine splNE ?_ ?_) <;> intro hc <;> first | (exfalso; omega) | (exfalso; dsimp only at hc; omega) | skip)
   exact ⟨fun β => rfl, fun w' h => h⟩
end Go.Proofs.Ytfbokllafdnglaa
namespace Go.Proofs.Ytfbokllafdnglaa
open Go Tx Go.RowKit
set_option linter.unusedSimpArgs false
set_option linter.unusedVariables false
theorem choose_ok (b : Bool) (x y : Int) (w : World) : Calls Try.prog 73 #[.bool b, iv x, iv y] w fun e w' => e = .returned (iv (if b then x else y)) ∧ Below w.heap.size w w' := by
 refine calls_val env mixed Try.func73 has73 Try.ntmps73 [.bool b, iv x, iv y] (by simp) ?_
 cases b
 all_goals skip
 repeat'
  conv => whnf
  first
   | refine zA ?_ | refine zB ?_ | refine zC ?_ | refine zD ?_ | refine zE ?_ | refine zF ?_ | refine zG ?_ | refine zH ?_ | refine zI ?_ | refine splT ?_ | refine splF ?_ | refine splNot ?_
   | ((first | refine splIn ?_ ?_ | refine splD ?_ ?_ | refine splE ?_ ?_ | refine splNE ?_ ?_) <;> intro hc <;> first | (exfalso; omega) | (exfalso; dsimp only at hc; omega) | skip)
 all_goals exact ⟨fun β => rfl, fun w' h => h⟩
def dotR (f : Row) (P : List Int) : Nat → Int
 | 0 => f 20
 | k + 1 => dotR f P k + f k * P.getD k 0
def dotB (f : Row) (P : List Int) : Prop := P.length ≤ 20 ∧ (-400000000000000000 ≤ f 20 ∧ f 20 ≤ 400000000000000000) ∧ ∀ i, i < P.length → -400000000000000000 ≤ f i * P.getD i 0 ∧ f i * P.getD i 0 ≤ 400000000000000000
theorem dotR_bd {f : Row} {P : List Int} (h : dotB f P) : ∀ k : Nat, k ≤ P.length → -400000000000000000 * (k + 1 : Int) ≤ dotR f P k ∧ dotR f P k ≤ 400000000000000000 * (k + 1 : Int)
 | 0, _ => by have := h.2.1; show _ ≤ f 20 ∧ f 20 ≤ _; omega
 | k + 1, hk => by
  have ih := dotR_bd h k (by omega)
  have := h.2.2 k (by omega)
  show _ ≤ dotR f P k + f k * P.getD k 0 ∧ dotR f P k + f k * P.getD k 0 ≤ _
  generalize f k * P.getD k 0 = z at *
  omega
set_option maxHeartbeats 4000000 in
set_option maxRecDepth 100000 in
theorem bears_ok (f : Row) (P : List Int) (o : Option Addr) (c : Nat) (w : World) (hrd : Rd 1 iF (.slice o P.length c) P w) (h : dotB f P) :
 Calls Try.prog 97 #[.agg (rwL f).toArray, .slice o P.length c] w fun e w' => e = .returned (iv (dotR f P P.length)) ∧ Below w.heap.size w w' := by
 refine calls_val env mixed Try.func97 has97 Try.ntmps97 [.agg (rwL f).toArray, .slice o P.length c] (by simp) ?_
 have hl := h.1
 repeat'
  conv => whnf
  first
   | refine zA ?_ | refine zB ?_ | refine zC ?_ | refine zD ?_ | refine zE ?_ | refine zF ?_ | refine zG ?_ | refine zH ?_ | refine zI ?_ | refine splT ?_ | refine splF ?_ | refine splNot ?_
   | ((first | refine splIn ?_ ?_ | refine splD ?_ ?_ | refine splE ?_ ?_ | refine splNE ?_ ?_) <;> intro hc <;> first | (exfalso; omega) | (exfalso; dsimp only at hc; omega) | skip)
 refine loopN 1 (fun k : Nat => [(2, .ptr 0 0), (5, .v (iv (dotR f P k))), (10, .v (.slice o P.length c)), (11, .v (iv P.length)), (12, .v (iv k))]) (fun k => [(0, .cells (rwS f) 118)])
  (fun k => k ≤ P.length) (fun k => P.length - k) 0 (Nat.zero_le _) ⟨rfl, rfl, rfl, rfl, rfl, trivial⟩ ⟨rfl, trivial⟩ (fun k _ => ⟨rfl, rfl⟩) ?_
 intro k hk
 rcases Nat.lt_or_ge k P.length with hkl | hkl
 · obtain ⟨x, hx⟩ : ∃ b, P[k]? = some b := ⟨_, List.getElem?_eq_getElem hkl⟩
   obtain ⟨_, ad, rfl, _⟩ := hrd.ptr (by omega)
   have e0 := fun (w' : World) hw' => rd_ati (hrd.below (w' := w') hw') hx
   have h1 := dotR_bd h k hk
   have h2 := h.2.2 k hkl
   have hst : dotR f P (k + 1) = dotR f P k + f k * x := by rw [dotR, List.getD_eq_getElem?_getD, hx]; rfl
   rw [List.getD_eq_getElem?_getD, hx, Option.getD_some] at h2
   generalize dotR f P k = s at *
   clear h hrd
   rcases m22 (show k ≤ 21 by omega) with rfl | rfl | rfl | rfl | rfl | rfl | rfl | rfl | rfl | rfl | rfl | rfl | rfl | rfl | rfl | rfl | rfl | rfl | rfl | rfl | rfl | rfl
   all_goals skip
   repeat'
    conv => whnf
    first
     | refine zA ?_ | refine zB ?_ | refine zC ?_ | refine zD ?_ | refine zE ?_ | refine zF ?_ | refine zG ?_ | refine zH ?_ | refine zI ?_ | refine splT ?_ | refine splF ?_ | refine splNot ?_
     | ((first | refine splIn ?_ ?_ | refine splD ?_ ?_ | refine splE ?_ ?_ | refine splNE ?_ ?_) <;> intro hc <;> first | (exfalso; omega) | (exfalso; dsimp only at hc; omega) | skip)
     | refine Exists.intro (α := List Value) [iv x] ⟨⟨rfl, fun w' hw' => e0 w' hw'⟩, ?_⟩
   all_goals first | (exfalso; omega) | skip
   · exact ⟨0 + 1, by omega, by omega, Ent.weak rfl ⟨rfl, by rw [hst]; rfl, rfl, rfl, rfl, trivial⟩ ⟨rfl, trivial⟩ fun _ h => h⟩
   · exact ⟨1 + 1, by omega, by omega, Ent.weak rfl ⟨rfl, by rw [hst]; rfl, rfl, rfl, rfl, trivial⟩ ⟨rfl, trivial⟩ fun _ h => h⟩
   · exact ⟨2 + 1, by omega, by omega, Ent.weak rfl ⟨rfl, by rw [hst]; rfl, rfl, rfl, rfl, trivial⟩ ⟨rfl, trivial⟩ fun _ h => h⟩
   · exact ⟨3 + 1, by omega, by omega, Ent.weak rfl ⟨rfl, by rw [hst]; rfl, rfl, rfl, rfl, trivial⟩ ⟨rfl, trivial⟩ fun _ h => h⟩
   · exact ⟨4 + 1, by omega, by omega, Ent.weak rfl ⟨rfl, by rw [hst]; rfl, rfl, rfl, rfl, trivial⟩ ⟨rfl, trivial⟩ fun _ h => h⟩
   · exact ⟨5 + 1, by omega, by omega, Ent.weak rfl ⟨rfl, by rw [hst]; rfl, rfl, rfl, rfl, trivial⟩ ⟨rfl, trivial⟩ fun _ h => h⟩
   · exact ⟨6 + 1, by omega, by omega, Ent.weak rfl ⟨rfl, by rw [hst]; rfl, rfl, rfl, rfl, trivial⟩ ⟨rfl, trivial⟩ fun _ h => h⟩
   · exact ⟨7 + 1, by omega, by omega, Ent.weak rfl ⟨rfl, by rw [hst]; rfl, rfl, rfl, rfl, trivial⟩ ⟨rfl, trivial⟩ fun _ h => h⟩
   · exact ⟨8 + 1, by omega, by omega, Ent.weak rfl ⟨rfl, by rw [hst]; rfl, rfl, rfl, rfl, trivial⟩ ⟨rfl, trivial⟩ fun _ h => h⟩
   · exact ⟨9 + 1, by omega, by omega, Ent.weak rfl ⟨rfl, by rw [hst]; rfl, rfl, rfl, rfl, trivial⟩ ⟨rfl, trivial⟩ fun _ h => h⟩
   · exact ⟨10 + 1, by omega, by omega, Ent.weak rfl ⟨rfl, by rw [hst]; rfl, rfl, rfl, rfl, trivial⟩ ⟨rfl, trivial⟩ fun _ h => h⟩
   · exact ⟨11 + 1, by omega, by omega, Ent.weak rfl ⟨rfl, by rw [hst]; rfl, rfl, rfl, rfl, trivial⟩ ⟨rfl, trivial⟩ fun _ h => h⟩
   · exact ⟨12 + 1, by omega, by omega, Ent.weak rfl ⟨rfl, by rw [hst]; rfl, rfl, rfl, rfl, trivial⟩ ⟨rfl, trivial⟩ fun _ h => h⟩
   · exact ⟨13 + 1, by omega, by omega, Ent.weak rfl ⟨rfl, by rw [hst]; rfl, rfl, rfl, rfl, trivial⟩ ⟨rfl, trivial⟩ fun _ h => h⟩
   · exact ⟨14 + 1, by omega, by omega, Ent.weak rfl ⟨rfl, by rw [hst]; rfl, rfl, rfl, rfl, trivial⟩ ⟨rfl, trivial⟩ fun _ h => h⟩
   · exact ⟨15 + 1, by omega, by omega, Ent.weak rfl ⟨rfl, by rw [hst]; rfl, rfl, rfl, rfl, trivial⟩ ⟨rfl, trivial⟩ fun _ h => h⟩
   · exact ⟨16 + 1, by omega, by omega, Ent.weak rfl ⟨rfl, by rw [hst]; rfl, rfl, rfl, rfl, trivial⟩ ⟨rfl, trivial⟩ fun _ h => h⟩
   · exact ⟨17 + 1, by omega, by omega, Ent.weak rfl ⟨rfl, by rw [hst]; rfl, rfl, rfl, rfl, trivial⟩ ⟨rfl, trivial⟩ fun _ h => h⟩
   · exact ⟨18 + 1, by omega, by omega, Ent.weak rfl ⟨rfl, by rw [hst]; rfl, rfl, rfl, rfl, trivial⟩ ⟨rfl, trivial⟩ fun _ h => h⟩
   · exact ⟨19 + 1, by omega, by omega, Ent.weak rfl ⟨rfl, by rw [hst]; rfl, rfl, rfl, rfl, trivial⟩ ⟨rfl, trivial⟩ fun _ h => h⟩
 · obtain rfl : k = P.length := by omega
   repeat'
    conv => whnf
    first
     | refine zA ?_ | refine zB ?_ | refine zC ?_ | refine zD ?_ | refine zE ?_ | refine zF ?_ | refine zG ?_ | refine zH ?_ | refine zI ?_ | refine splT ?_ | refine splF ?_ | refine splNot ?_
     | ((first | refine splIn ?_ ?_ | refine splD ?_ ?_ | refine splE ?_ ?_ | refine splNE ?_ ?_) <;> intro hc <;> first | (exfalso; omega) | (exfalso; dsimp only at hc; omega) | skip)
   exact ⟨fun β => rfl, fun w' h => h⟩
end Go.Proofs.Ytfbokllafdnglaa
namespace Go.Proofs.Ytfbokllafdnglaa
open Go Tx Go.RowKit
set_option linter.unusedSimpArgs false
set_option linter.unusedVariables false
structure Ld where
 beam : Int
 at' : Int
 kind : Nat
 lo : Int
 hi : Int
abbrev Ld.cs (l : Ld) : List Value := [iv l.beam, iv l.at', .int .u8 l.kind, iv l.lo, iv l.hi]
structure Bm where
 lo : Int
 hi : Int
 ab : Int
 aa : Int
 bb : Int
 ba : Int
 wt : Int
 cap : Int
abbrev Bm.cs (b : Bm) : List Value := [iv b.lo, iv b.hi, iv b.ab, iv b.aa, iv b.bb, iv b.ba, iv b.wt, iv b.cap]
structure Rig where
 po : Option Addr
 pn : Nat
 pc : Nat
 bo : Option Addr
 bn : Nat
 bc : Nat
 f0 : Int
 f1 : Int
 f2 : Int
 lo : Option Addr
 ln : Nat
 lc : Nat
abbrev Rig.cs (r : Rig) : List Value := [.slice r.po r.pn r.pc, .slice r.bo r.bn r.bc, iv r.f0, iv r.f1, iv r.f2, .slice r.lo r.ln r.lc]
abbrev Rig.v (r : Rig) : Value := .agg #[.slice r.po r.pn r.pc, .slice r.bo r.bn r.bc, iv r.f0, iv r.f1, iv r.f2, .slice r.lo r.ln r.lc]
def Rig.fac (r : Rig) : Nat → Int
 | 0 => r.f0
 | 1 => r.f1
 | _ => r.f2
def hiP (r : Rig) (l : Ld) : Int := (l.hi * r.fac l.kind + 999) / 1000
set_option maxHeartbeats 1000000 in
set_option maxRecDepth 100000 in
theorem pull_ok (r : Rig) (LL : List Ld) (k : Nat) (l : Ld) (w : World) (hrd : Rd 5 Ld.cs (.slice r.lo LL.length r.lc) LL w) (hn : r.ln = LL.length) (hk : LL[k]? = some l) (hl : LL.length ≤ 1000000)
 (hkind : l.kind ≤ 2) (hhi : 0 ≤ l.hi ∧ l.hi ≤ 1000000000) (hf : 0 ≤ r.fac l.kind ∧ r.fac l.kind ≤ 1000000) :
 Calls Try.prog 72 #[r.v, iv k] w fun e w' => e = .returned (.agg #[iv l.lo, iv (hiP r l)]) ∧ Below w.heap.size w w' := by
 obtain ⟨po, pn, pc, bo, bn, bc, f0, f1, f2, lo, ln, lc⟩ := r
 dsimp only at hrd hn
 subst hn
 refine calls_val env mixed Try.func72 has72 Try.ntmps72 [.agg #[.slice po pn pc, .slice bo bn bc, iv f0, iv f1, iv f2, .slice lo LL.length lc], iv k] (by simp) ?_
 have hkl := (List.getElem?_eq_some_iff.1 hk).1
 obtain ⟨_, ad, rfl, _⟩ := hrd.ptr (by omega)
 have e0 := fun (w' : World) hw' => rd_ati (hrd.below (w' := w') hw') hk
 obtain ⟨lb, la, lk, ll, lh⟩ := l
 dsimp only at *
 unfold hiP
 have hm0 : 0 ≤ lh * Rig.fac ⟨po, pn, pc, bo, bn, bc, f0, f1, f2, some ad, LL.length, lc⟩ lk := Int.mul_nonneg hhi.1 hf.1
 have hm1 : lh * Rig.fac ⟨po, pn, pc, bo, bn, bc, f0, f1, f2, some ad, LL.length, lc⟩ lk ≤ 1000000000 * 1000000 := Int.mul_le_mul hhi.2 hf.2 hf.1 (by omega)
 dsimp only
 repeat'
  conv => whnf
  first
   | refine zA ?_ | refine zB ?_ | refine zC ?_ | refine zD ?_ | refine zE ?_ | refine zF ?_ | refine zG ?_ | refine zH ?_ | refine zI ?_ | refine splT ?_ | refine splF ?_ | refine splNot ?_
   | ((first | refine splIn ?_ ?_ | refine splD ?_ ?_ | refine splE ?_ ?_ | refine splNE ?_ ?_) <;> intro hc <;> first | (exfalso; omega) | (exfalso; dsimp only at hc; omega) | skip)
   | refine Exists.intro (α := List Value) [iv lb, iv la, .int .u8 lk, iv ll, iv lh] ⟨⟨rfl, fun w' hw' => e0 w' hw'⟩, ?_⟩
 obtain rfl | rfl | rfl : lk = 0 ∨ lk = 1 ∨ lk = 2 := by omega
 all_goals simp only [Rig.fac] at hf hm0 hm1
 all_goals skip
 repeat'
  conv => whnf
  first
   | refine zA ?_ | refine zB ?_ | refine zC ?_ | refine zD ?_ | refine zE ?_ | refine zF ?_ | refine zG ?_ | refine zH ?_ | refine zI ?_ | refine splT ?_ | refine splF ?_ | refine splNot ?_
   | ((first | refine splIn ?_ ?_ | refine splD ?_ ?_ | refine splE ?_ ?_ | refine splNE ?_ ?_) <;> intro hc <;> first | (exfalso; omega) | (exfalso; dsimp only at hc; omega) | skip)
   | refine quoE (by omega) (by omega) (And.intro (by omega) (by omega)) ?_
 all_goals conv => whnf
 all_goals exact ⟨fun β => rfl, fun w' h => h⟩
end Go.Proofs.Ytfbokllafdnglaa
namespace Go.Proofs.Ytfbokllafdnglaa
open Go Tx Go.RowKit
set_option linter.unusedSimpArgs false
set_option linter.unusedVariables false
theorem force_ok (n : Int) (w : World) : Calls Try.prog 60 #[iv n] w fun e w' => e = .returned (.bool (inB n 0 1000000)) ∧ Below w.heap.size w w' := by
 refine calls_val env mixed Try.func60 has60 Try.ntmps60 [iv n] (by simp) ?_
 repeat'
  conv => whnf
  first
   | refine zA ?_ | refine zB ?_ | refine zC ?_ | refine zD ?_ | refine zE ?_ | refine zF ?_ | refine zG ?_ | refine zH ?_ | refine zI ?_ | refine splT ?_ | refine splF ?_ | refine splNot ?_
   | ((first | refine splIn ?_ ?_ | refine splD ?_ ?_ | refine splE ?_ ?_ | refine splNE ?_ ?_) <;> intro hc <;> first | (exfalso; omega) | (exfalso; dsimp only at hc; omega) | skip)
   | ((with_reducible show CallEv _ _ 58 _ _ _ _ _); refine callE (k := 58) (fun β w' hbw => within_ok _ _ _ _) ?_)
 all_goals exact ⟨fun β => congrArg Value.bool (by simp [inB, *]), fun w' h => h⟩
theorem facs_ok (n : Int) (w : World) : Calls Try.prog 63 #[iv n] w fun e w' => e = .returned (.bool (inB n 1000 20000)) ∧ Below w.heap.size w w' := by
 refine calls_val env mixed Try.func63 has63 Try.ntmps63 [iv n] (by simp) ?_
 repeat'
  conv => whnf
  first
   | refine zA ?_ | refine zB ?_ | refine zC ?_ | refine zD ?_ | refine zE ?_ | refine zF ?_ | refine zG ?_ | refine zH ?_ | refine zI ?_ | refine splT ?_ | refine splF ?_ | refine splNot ?_
   | ((first | refine splIn ?_ ?_ | refine splD ?_ ?_ | refine splE ?_ ?_ | refine splNE ?_ ?_) <;> intro hc <;> first | (exfalso; omega) | (exfalso; dsimp only at hc; omega) | skip)
   | ((with_reducible show CallEv _ _ 58 _ _ _ _ _); refine callE (k := 58) (fun β w' hbw => within_ok _ _ _ _) ?_)
 all_goals exact ⟨fun β => congrArg Value.bool (by simp [inB, *]), fun w' h => h⟩
set_option maxRecDepth 100000 in
theorem all86_ok (L : List Int) (o : Option Addr) (c : Nat) (w : World) (hrd : Rd 1 iF (.slice o L.length c) L w) (hl : L.length ≤ 1000000) :
 Calls Try.prog 59 #[.slice o L.length c, .func (.func 60) #[] #[]] w fun e w' => e = .returned (.bool (L.all (fun g : Int => inB g 0 1000000))) ∧ Below w.heap.size w w' := by
 refine calls_val env mixed Try.func59 has59 Try.ntmps59 [.slice o L.length c, .func (.func 60) #[] #[]] (by simp) ?_
 repeat'
  conv => whnf
  first
   | refine zA ?_ | refine zB ?_ | refine zC ?_ | refine zD ?_ | refine zE ?_ | refine zF ?_ | refine zG ?_ | refine zH ?_ | refine zI ?_ | refine splT ?_ | refine splF ?_ | refine splNot ?_
   | ((first | refine splIn ?_ ?_ | refine splD ?_ ?_ | refine splE ?_ ?_ | refine splNE ?_ ?_) <;> intro hc <;> first | (exfalso; omega) | (exfalso; dsimp only at hc; omega) | skip)
   | ((with_reducible show CallEv _ _ 91 _ _ _ _ _); refine callI env mixed 1000 [] Try.func91 has91 Try.ntmps91 (Nat.le_of_ble_eq_true rfl) rfl rfl rfl ?_)
   | ((with_reducible show CallEv _ _ 105 _ _ _ _ _); refine callI env mixed 2000 [] Try.func105 has105 Try.ntmps105 (Nat.le_of_ble_eq_true rfl) rfl rfl rfl ?_)
 refine loopE (fun k : Nat => [(0, .v (.slice o L.length c)), (1, .fn (.func 92) [.ptr 0 0]), (7, .v (iv L.length)), (8, .v (iv k))]) (fun _ => [(0, .cells [.v (.func (.func 60) #[] #[])] 122)]) (fun k => k ≤ L.length ∧ (L.take k).all (fun g : Int => inB g 0 1000000) = true) (fun k => L.length - k) 0 ⟨Nat.zero_le _, rfl⟩ ⟨rfl, rfl, rfl, rfl, trivial⟩ ⟨rfl, trivial⟩ (fun _ => ⟨rfl, rfl⟩) ?_
 intro k ⟨hk, hall⟩
 rcases Nat.lt_or_ge k L.length with hkl | hkl
 · obtain ⟨g, hb⟩ : ∃ b, L[k]? = some b := ⟨_, List.getElem?_eq_getElem hkl⟩
   obtain ⟨_, ad, rfl, _⟩ := hrd.ptr (by omega)
   have ht : (L.take (k + 1)).all (fun g : Int => inB g 0 1000000) = inB g 0 1000000 := by rw [List.take_add_one, hb]; simp [hall]
   have e0 := fun (w' : World) hw' => rd_ati (hrd.below (w' := w') hw') hb
   have hv := fun w' => force_ok g w'
   cases hg : inB g 0 1000000 with
   | true =>
    rw [hg] at hv ht
    repeat'
     conv => whnf
     first
      | refine zA ?_ | refine zB ?_ | refine zC ?_ | refine zD ?_ | refine zE ?_ | refine zF ?_ | refine zG ?_ | refine zH ?_ | refine zI ?_ | refine splT ?_ | refine splF ?_ | refine splNot ?_
      | ((first | refine splIn ?_ ?_ | refine splD ?_ ?_ | refine splE ?_ ?_ | refine splNE ?_ ?_) <;> intro hc <;> first | (exfalso; omega) | (exfalso; dsimp only at hc; omega) | skip)
      | refine Exists.intro (α := List Value) [iv g] ⟨⟨rfl, fun w' hw' => e0 w' hw'⟩, ?_⟩
      | ((with_reducible show CallEv _ _ 92 _ _ _ _ _); refine callI env mixed 3000 [0,1,5,7,8] Try.func92 has92 Try.ntmps92 (Nat.le_of_ble_eq_true rfl) rfl rfl rfl ?_)
      | ((with_reducible show CallEv _ _ 60 _ _ _ _ _); refine callE (k := 60) (fun β w' hbw => hv _) ?_)
    exact ⟨k + 1, ⟨by omega, ht⟩, by omega, Ent.weak rfl ⟨rfl, rfl, rfl, rfl, trivial⟩ ⟨rfl, trivial⟩ fun _ h => h⟩
   | false =>
    rw [hg] at hv ht
    have hno : L.all (fun g : Int => inB g 0 1000000) = false := by
     rw [List.all_eq_false]
     exact ⟨_, List.mem_of_getElem? hb, by simp [hg]⟩
    rw [hno]
    repeat'
     conv => whnf
     first
      | refine zA ?_ | refine zB ?_ | refine zC ?_ | refine zD ?_ | refine zE ?_ | refine zF ?_ | refine zG ?_ | refine zH ?_ | refine zI ?_ | refine splT ?_ | refine splF ?_ | refine splNot ?_
      | ((first | refine splIn ?_ ?_ | refine splD ?_ ?_ | refine splE ?_ ?_ | refine splNE ?_ ?_) <;> intro hc <;> first | (exfalso; omega) | (exfalso; dsimp only at hc; omega) | skip)
      | refine Exists.intro (α := List Value) [iv g] ⟨⟨rfl, fun w' hw' => e0 w' hw'⟩, ?_⟩
      | ((with_reducible show CallEv _ _ 92 _ _ _ _ _); refine callI env mixed 3000 [0,1,5,7,8] Try.func92 has92 Try.ntmps92 (Nat.le_of_ble_eq_true rfl) rfl rfl rfl ?_)
      | ((with_reducible show CallEv _ _ 60 _ _ _ _ _); refine callE (k := 60) (fun β w' hbw => hv _) ?_)
    all_goals first | exact ⟨fun β => rfl, fun w' h => h⟩ | (exfalso; omega) | skip
 · rw [List.take_of_length_le hkl] at hall
   rw [hall]
   repeat'
    conv => whnf
    first
     | refine zA ?_ | refine zB ?_ | refine zC ?_ | refine zD ?_ | refine zE ?_ | refine zF ?_ | refine zG ?_ | refine zH ?_ | refine zI ?_ | refine splT ?_ | refine splF ?_ | refine splNot ?_
     | ((first | refine splIn ?_ ?_ | refine splD ?_ ?_ | refine splE ?_ ?_ | refine splNE ?_ ?_) <;> intro hc <;> first | (exfalso; omega) | (exfalso; dsimp only at hc; omega) | skip)
   all_goals first | exact ⟨fun β => rfl, fun w' h => h⟩ | (exfalso; omega) | skip
set_option maxRecDepth 100000 in
theorem all89_ok (L : List Int) (o : Option Addr) (c : Nat) (w : World) (hrd : Rd 1 iF (.slice o L.length c) L w) (hl : L.length ≤ 1000000) :
 Calls Try.prog 59 #[.slice o L.length c, .func (.func 63) #[] #[]] w fun e w' => e = .returned (.bool (L.all (fun g : Int => inB g 1000 20000))) ∧ Below w.heap.size w w' := by
 refine calls_val env mixed Try.func59 has59 Try.ntmps59 [.slice o L.length c, .func (.func 63) #[] #[]] (by simp) ?_
 repeat'
  conv => whnf
  first
   | refine zA ?_ | refine zB ?_ | refine zC ?_ | refine zD ?_ | refine zE ?_ | refine zF ?_ | refine zG ?_ | refine zH ?_ | refine zI ?_ | refine splT ?_ | refine splF ?_ | refine splNot ?_
   | ((first | refine splIn ?_ ?_ | refine splD ?_ ?_ | refine splE ?_ ?_ | refine splNE ?_ ?_) <;> intro hc <;> first | (exfalso; omega) | (exfalso; dsimp only at hc; omega) | skip)
   | ((with_reducible show CallEv _ _ 91 _ _ _ _ _); refine callI env mixed 1000 [] Try.func91 has91 Try.ntmps91 (Nat.le_of_ble_eq_true rfl) rfl rfl rfl ?_)
   | ((with_reducible show CallEv _ _ 105 _ _ _ _ _); refine callI env mixed 2000 [] Try.func105 has105 Try.ntmps105 (Nat.le_of_ble_eq_true rfl) rfl rfl rfl ?_)
 refine loopE (fun k : Nat => [(0, .v (.slice o L.length c)), (1, .fn (.func 92) [.ptr 0 0]), (7, .v (iv L.length)), (8, .v (iv k))]) (fun _ => [(0, .cells [.v (.func (.func 63) #[] #[])] 122)]) (fun k => k ≤ L.length ∧ (L.take k).all (fun g : Int => inB g 1000 20000) = true) (fun k => L.length - k) 0 ⟨Nat.zero_le _, rfl⟩ ⟨rfl, rfl, rfl, rfl, trivial⟩ ⟨rfl, trivial⟩ (fun _ => ⟨rfl, rfl⟩) ?_
 intro k ⟨hk, hall⟩
 rcases Nat.lt_or_ge k L.length with hkl | hkl
 · obtain ⟨g, hb⟩ : ∃ b, L[k]? = some b := ⟨_, List.getElem?_eq_getElem hkl⟩
   obtain ⟨_, ad, rfl, _⟩ := hrd.ptr (by omega)
   have ht : (L.take (k + 1)).all (fun g : Int => inB g 1000 20000) = inB g 1000 20000 := by rw [List.take_add_one, hb]; simp [hall]
   have e0 := fun (w' : World) hw' => rd_ati (hrd.below (w' := w') hw') hb
   have hv := fun w' => facs_ok g w'
   cases hg : inB g 1000 20000 with
   | true =>
    rw [hg] at hv ht
    repeat'
     conv => whnf
     first
      | refine zA ?_ | refine zB ?_ | refine zC ?_ | refine zD ?_ | refine zE ?_ | refine zF ?_ | refine zG ?_ | refine zH ?_ | refine zI ?_ | refine splT ?_ | refine splF ?_ | refine splNot ?_
      | ((first | refine splIn ?_ ?_ | refine splD ?_ ?_ | refine splE ?_ ?_ | refine splNE ?_ ?_) <;> intro hc <;> first | (exfalso; omega) | (exfalso; dsimp only at hc; omega) | skip)
      | refine Exists.intro (α := List Value) [iv g] ⟨⟨rfl, fun w' hw' => e0 w' hw'⟩, ?_⟩
      | ((with_reducible show CallEv _ _ 92 _ _ _ _ _); refine callI env mixed 3000 [0,1,5,7,8] Try.func92 has92 Try.ntmps92 (Nat.le_of_ble_eq_true rfl) rfl rfl rfl ?_)
      | ((with_reducible show CallEv _ _ 63 _ _ _ _ _); refine callE (k := 63) (fun β w' hbw => hv _) ?_)
    exact ⟨k + 1, ⟨by omega, ht⟩, by omega, Ent.weak rfl ⟨rfl, rfl, rfl, rfl, trivial⟩ ⟨rfl, trivial⟩ fun _ h => h⟩
   | false =>
    rw [hg] at hv ht
    have hno : L.all (fun g : Int => inB g 1000 20000) = false := by
     rw [List.all_eq_false]
     exact ⟨_, List.mem_of_getElem? hb, by simp [hg]⟩
    rw [hno]
    repeat'
     conv => whnf
     first
      | refine zA ?_ | refine zB ?_ | refine zC ?_ | refine zD ?_ | refine zE ?_ | refine zF ?_ | refine zG ?_ | refine zH ?_ | refine zI ?_ | refine splT ?_ | refine splF ?_ | refine splNot ?_
      | ((first | refine splIn ?_ ?_ | refine splD ?_ ?_ | refine splE ?_ ?_ | refine splNE ?_ ?_) <;> intro hc <;> first | (exfalso; omega) | (exfalso; dsimp only at hc; omega) | skip)
      | refine Exists.intro (α := List Value) [iv g] ⟨⟨rfl, fun w' hw' => e0 w' hw'⟩, ?_⟩
      | ((with_reducible show CallEv _ _ 92 _ _ _ _ _); refine callI env mixed 3000 [0,1,5,7,8] Try.func92 has92 Try.ntmps92 (Nat.le_of_ble_eq_true rfl) rfl rfl rfl ?_)
      | ((with_reducible show CallEv _ _ 63 _ _ _ _ _); refine callE (k := 63) (fun β w' hbw => hv _) ?_)
    all_goals first | exact ⟨fun β => rfl, fun w' h => h⟩ | (exfalso; omega) | skip
 · rw [List.take_of_length_le hkl] at hall
   rw [hall]
   repeat'
    conv => whnf
    first
     | refine zA ?_ | refine zB ?_ | refine zC ?_ | refine zD ?_ | refine zE ?_ | refine zF ?_ | refine zG ?_ | refine zH ?_ | refine zI ?_ | refine splT ?_ | refine splF ?_ | refine splNot ?_
     | ((first | refine splIn ?_ ?_ | refine splD ?_ ?_ | refine splE ?_ ?_ | refine splNE ?_ ?_) <;> intro hc <;> first | (exfalso; omega) | (exfalso; dsimp only at hc; omega) | skip)
   all_goals first | exact ⟨fun β => rfl, fun w' h => h⟩ | (exfalso; omega) | skip
end Go.Proofs.Ytfbokllafdnglaa
namespace Go.Proofs.Ytfbokllafdnglaa
open Go Tx Go.RowKit
set_option linter.unusedSimpArgs false
set_option linter.unusedVariables false
def hasB (pn : Nat) (b a : Int) (n : Int) : Bool := if b = -1 then inB a 0 (pn - 1) else inB b 0 (n - 1) && inB a 0 60
set_option maxRecDepth 100000 in
theorem has78_ok (r : Rig) (b a n : Int) (w : World) (hp : r.pn ≤ 1000000) (hn : 0 ≤ n ∧ n ≤ 1000000) :
 Calls Try.prog 39 #[r.v, .agg #[iv b, iv a], iv n] w fun e w' => e = .returned (.bool (hasB r.pn b a n)) ∧ Below w.heap.size w w' := by
 obtain ⟨po, pn, pc, bo, bn, bc, f0, f1, f2, lo, ln, lc⟩ := r
 dsimp only at hp ⊢
 refine calls_val env mixed Try.func39 has39 Try.ntmps39 [.agg #[.slice po pn pc, .slice bo bn bc, iv f0, iv f1, iv f2, .slice lo ln lc], .agg #[iv b, iv a], iv n] (by simp) ?_
 unfold hasB
 by_cases hb : b = -1
 · rw [if_pos hb]
   repeat'
    conv => whnf
    first
     | refine zA ?_ | refine zB ?_ | refine zC ?_ | refine zD ?_ | refine zE ?_ | refine zF ?_ | refine zG ?_ | refine zH ?_ | refine zI ?_ | refine splT ?_ | refine splF ?_ | refine splNot ?_
     | ((first | refine splIn ?_ ?_ | refine splD ?_ ?_ | refine splE ?_ ?_ | refine splNE ?_ ?_) <;> intro hc <;> first | (exfalso; omega) | (exfalso; dsimp only at hc; omega) | skip)
     | ((with_reducible show CallEv _ _ 58 _ _ _ _ _); refine callE (k := 58) (fun β w' hbw => within_ok _ _ _ _) ?_)
   all_goals first | (exfalso; omega) | skip
   all_goals exact ⟨fun β => congrArg Value.bool (by simp [inB, *]), fun w' h => h⟩
 · rw [if_neg hb]
   repeat'
    conv => whnf
    first
     | refine zA ?_ | refine zB ?_ | refine zC ?_ | refine zD ?_ | refine zE ?_ | refine zF ?_ | refine zG ?_ | refine zH ?_ | refine zI ?_ | refine splT ?_ | refine splF ?_ | refine splNot ?_
     | ((first | refine splIn ?_ ?_ | refine splD ?_ ?_ | refine splE ?_ ?_ | refine splNE ?_ ?_) <;> intro hc <;> first | (exfalso; omega) | (exfalso; dsimp only at hc; omega) | skip)
     | ((with_reducible show CallEv _ _ 58 _ _ _ _ _); refine callE (k := 58) (fun β w' hbw => within_ok _ _ _ _) ?_)
   all_goals first | (exfalso; omega) | skip
   all_goals exact ⟨fun β => congrArg Value.bool (by simp [inB, *]), fun w' h => h⟩
def spL : List Int := [10, 12, 15, 20, 30, 60]
def spanB (b : Bm) : Bool := spL.contains (b.hi - b.lo)
set_option maxHeartbeats 1000000 in
set_option maxRecDepth 100000 in
theorem index_ok (A : List Int) (n : Int) (o : Option Addr) (c : Nat) (w : World) (hrd : Rd 1 iF (.slice o A.length c) A w) (hl : A.length ≤ 1000000) :
 Calls Try.prog 106 #[.slice o A.length c, iv n] w fun e w' => e = .returned (.bool (A.contains n)) ∧ Below w.heap.size w w' := by
 refine calls_val env mixed Try.func106 has106 Try.ntmps106 [.slice o A.length c, iv n] (by simp) ?_
 repeat'
  conv => whnf
  first
   | refine zA ?_ | refine zB ?_ | refine zC ?_ | refine zD ?_ | refine zE ?_ | refine zF ?_ | refine zG ?_ | refine zH ?_ | refine zI ?_ | refine splT ?_ | refine splF ?_ | refine splNot ?_
   | ((first | refine splIn ?_ ?_ | refine splD ?_ ?_ | refine splE ?_ ?_ | refine splNE ?_ ?_) <;> intro hc <;> first | (exfalso; omega) | (exfalso; dsimp only at hc; omega) | skip)
   | ((with_reducible show CallEv _ _ 110 _ _ _ _ _); refine callI env mixed 1000 [] Try.func110 has110 Try.ntmps110 (Nat.le_of_ble_eq_true rfl) rfl rfl rfl ?_)
 refine loopE (fun k : Nat => [(0, .v (.slice o A.length c)), (1, .v (iv n)), (7, .v (iv A.length)), (8, .v (iv k))]) (fun _ => []) (fun k => k ≤ A.length ∧ (A.take k).contains n = false) (fun k => A.length - k) 0 ⟨Nat.zero_le _, rfl⟩ ⟨rfl, rfl, rfl, rfl, trivial⟩ trivial (fun _ => ⟨rfl, rfl⟩) ?_
 intro k ⟨hk, hall⟩
 rcases Nat.lt_or_ge k A.length with hkl | hkl
 · obtain ⟨x, hx⟩ : ∃ b, A[k]? = some b := ⟨_, List.getElem?_eq_getElem hkl⟩
   obtain ⟨_, ad, rfl, _⟩ := hrd.ptr (by omega)
   have e0 := fun (w' : World) hw' => rd_ati (hrd.below (w' := w') hw') hx
   have ht : (A.take (k + 1)).contains n = decide (n = x) := by
    rw [List.take_add_one, hx]
    simp only [Option.toList_some, List.contains_eq_mem, List.mem_append, List.mem_singleton] at hall ⊢
    simp only [decide_eq_false_iff_not] at hall
    simp [hall]
   by_cases hnx : x = n
   · have hy : A.contains n = true := by
      rw [List.contains_eq_mem, decide_eq_true_eq]
      exact hnx ▸ List.mem_of_getElem? hx
     rw [hy]
     repeat'
      conv => whnf
      first
       | refine zA ?_ | refine zB ?_ | refine zC ?_ | refine zD ?_ | refine zE ?_ | refine zF ?_ | refine zG ?_ | refine zH ?_ | refine zI ?_ | refine splT ?_ | refine splF ?_ | refine splNot ?_
       | ((first | refine splIn ?_ ?_ | refine splD ?_ ?_ | refine splE ?_ ?_ | refine splNE ?_ ?_) <;> intro hc <;> first | (exfalso; omega) | (exfalso; dsimp only at hc; omega) | skip)
       | refine Exists.intro (α := List Value) [iv x] ⟨⟨rfl, fun w' hw' => e0 w' hw'⟩, ?_⟩
     all_goals first | (exfalso; omega) | exact ⟨fun β => rfl, fun w' h => h⟩
   · have hz : 0 = 0 := rfl
     repeat'
      conv => whnf
      first
       | refine zA ?_ | refine zB ?_ | refine zC ?_ | refine zD ?_ | refine zE ?_ | refine zF ?_ | refine zG ?_ | refine zH ?_ | refine zI ?_ | refine splT ?_ | refine splF ?_ | refine splNot ?_
       | ((first | refine splIn ?_ ?_ | refine splD ?_ ?_ | refine splE ?_ ?_ | refine splNE ?_ ?_) <;> intro hc <;> first | (exfalso; omega) | (exfalso; dsimp only at hc; omega) | skip)
       | refine Exists.intro (α := List Value) [iv x] ⟨⟨rfl, fun w' hw' => e0 w' hw'⟩, ?_⟩
     all_goals first | (exfalso; omega) | exact ⟨k + 1, ⟨by omega, by rw [ht]; exact decide_eq_false fun h => hnx h.symm⟩, by omega, Ent.weak rfl ⟨rfl, rfl, rfl, rfl, trivial⟩ trivial fun _ h => h⟩
 · rw [List.take_of_length_le hkl] at hall
   rw [hall]
   repeat'
    conv => whnf
    first
     | refine zA ?_ | refine zB ?_ | refine zC ?_ | refine zD ?_ | refine zE ?_ | refine zF ?_ | refine zG ?_ | refine zH ?_ | refine zI ?_ | refine splT ?_ | refine splF ?_ | refine splNot ?_
     | ((first | refine splIn ?_ ?_ | refine splD ?_ ?_ | refine splE ?_ ?_ | refine splNE ?_ ?_) <;> intro hc <;> first | (exfalso; omega) | (exfalso; dsimp only at hc; omega) | skip)
   all_goals first | (exfalso; omega) | exact ⟨fun β => rfl, fun w' h => h⟩
set_option maxRecDepth 100000 in
theorem span_ok (b : Bm) (w : World) (h1 : -1000000 ≤ b.lo ∧ b.lo ≤ 1000000) (h2 : -1000000 ≤ b.hi ∧ b.hi ≤ 1000000) :
 Calls Try.prog 93 #[.agg #[iv b.lo, iv b.hi, iv b.ab, iv b.aa, iv b.bb, iv b.ba, iv b.wt, iv b.cap]] w fun e w' => e = .returned (.bool (spanB b)) ∧ Below w.heap.size w w' := by
 obtain ⟨lo, hi, ab, aa, bb, ba, wt, cap⟩ := b
 dsimp only at h1 h2 ⊢
 refine calls_val env mixed Try.func93 has93 Try.ntmps93 [.agg #[iv lo, iv hi, iv ab, iv aa, iv bb, iv ba, iv wt, iv cap]] (by simp) ?_
 repeat'
  conv => whnf
  first
   | refine zA ?_ | refine zB ?_ | refine zC ?_ | refine zD ?_ | refine zE ?_ | refine zF ?_ | refine zG ?_ | refine zH ?_ | refine zI ?_ | refine splT ?_ | refine splF ?_ | refine splNot ?_
   | ((first | refine splIn ?_ ?_ | refine splD ?_ ?_ | refine splE ?_ ?_ | refine splNE ?_ ?_) <;> intro hc <;> first | (exfalso; omega) | (exfalso; dsimp only at hc; omega) | skip)
   | ((with_reducible show CallEv _ _ 106 _ _ _ _ _); refine callM (k := 106) [1] (fun β w' hbk hbw => index_ok spL (hi - lo) _ 6 w' (Rd.of_cells (sz := 1) (f := iF) (bs := spL) (fun _ => rfl) rfl (hbk 1 (by simp) _ rfl)) (by decide)) ?_)
 all_goals first | exact ⟨fun β => rfl, fun w' h => h⟩
end Go.Proofs.Ytfbokllafdnglaa
namespace Go.Proofs.Ytfbokllafdnglaa
open Go Tx Go.RowKit
set_option linter.unusedSimpArgs false
set_option linter.unusedVariables false
def rgt (lo hi a : Int) (f : Row) : Row := fun i => (f i).tdiv (hi - lo) * (a - lo)
def lft (lo hi a : Int) (f : Row) : Row := fun i => f i - rgt lo hi a f i
def zr : Row := fun _ => 0
theorem quoT {k : IntKind} {a b : Int} {K : Int → Prop} (h1 : b ≠ 0) (h2 : IR k (a.tdiv b)) (h : K (a.tdiv b)) : ∃ q : Int, (b ≠ 0 ∧ a.tdiv b = q ∧ IR k q) ∧ K q := ⟨_, ⟨h1, rfl, h2⟩, h⟩
theorem tdiv_bd {a b B : Int} (h1 : -B ≤ a ∧ a ≤ B) (hb : 1 ≤ b) : -B ≤ a.tdiv b ∧ a.tdiv b ≤ B := by
 have h : (a.tdiv b).natAbs = a.natAbs / b.natAbs := Int.natAbs_tdiv a b
 have h2 : (a.natAbs / b.natAbs) ≤ a.natAbs := Nat.div_le_self _ _
 generalize a.tdiv b = q at *
 generalize a.natAbs / b.natAbs = d at *
 omega
theorem mul_bd {a b : Int} (h1 : -10000000000000000 ≤ a ∧ a ≤ 10000000000000000) (h2 : -60 ≤ b ∧ b ≤ 60) : -600000000000000000 ≤ a * b ∧ a * b ≤ 600000000000000000 := by
 have h := Int.natAbs_mul a b
 have h3 : a.natAbs * b.natAbs ≤ 10000000000000000 * 60 := Nat.mul_le_mul (by omega) (by omega)
 omega
set_option maxHeartbeats 4000000 in
set_option maxRecDepth 100000 in
theorem part_ok (b : Bm) (f : Row) (a : Int) (w : World) (hf : rwB f) (hs : 1 ≤ b.hi - b.lo ∧ b.hi - b.lo ≤ 60) (hl : 0 ≤ b.lo ∧ b.lo ≤ 60) (ha : 0 ≤ a ∧ a ≤ 60) :
 Calls Try.prog 67 #[.agg #[iv b.lo, iv b.hi, iv b.ab, iv b.aa, iv b.bb, iv b.ba, iv b.wt, iv b.cap], .agg (rwL f).toArray, iv a] w fun e w' => e = .returned (.tuple #[.agg (rwL (lft b.lo b.hi a f)).toArray, .agg (rwL (rgt b.lo b.hi a f)).toArray]) ∧ Below w.heap.size w w' := by
 obtain ⟨lo, hi, ab, aa, bb, ba, wt, cap⟩ := b
 dsimp only at hs hl ⊢
 refine calls_val env mixed Try.func67 has67 Try.ntmps67 [.agg #[iv lo, iv hi, iv ab, iv aa, iv bb, iv ba, iv wt, iv cap], .agg (rwL f).toArray, iv a] (by simp) ?_
 repeat'
  conv => whnf
  first
   | refine zA ?_ | refine zB ?_ | refine zC ?_ | refine zD ?_ | refine zE ?_ | refine zF ?_ | refine zG ?_ | refine zH ?_ | refine zI ?_ | refine splT ?_ | refine splF ?_ | refine splNot ?_
   | ((first | refine splIn ?_ ?_ | refine splD ?_ ?_ | refine splE ?_ ?_ | refine splNE ?_ ?_) <;> intro hc <;> first | (exfalso; omega) | (exfalso; dsimp only at hc; omega) | skip)
 refine loopN 4 (fun m : Nat => [(2, .v (iv a)), (3, .ptr 0 0), (6, .ptr 2 0), (7, .ptr 3 0), (10, .agg (rwS f)), (11, .v (iv m))]) (fun m => [(0, .cells [.v (iv lo), .v (iv hi), .v (iv ab), .v (iv aa), .v (iv bb), .v (iv ba), .v (iv wt), .v (iv cap)] 134), (2, .cells (rwS (rwT m (lft lo hi a f) zr)) 118), (3, .cells (rwS (rwT m (rgt lo hi a f) zr)) 118)])
  (fun m => m ≤ 21) (fun m => 21 - m) 0 (by omega) ⟨rfl, rfl, rfl, rfl, rfl, rfl, trivial⟩ ⟨rfl, rfl, rfl, trivial⟩ (fun m _ => ⟨rfl, rfl⟩) ?_
 intro m hm
 have h1 := hf m
 have h2 := tdiv_bd h1 hs.1
 have h3 := mul_bd h2 (b := a - lo) (by omega)
 rcases m22 hm with rfl | rfl | rfl | rfl | rfl | rfl | rfl | rfl | rfl | rfl | rfl | rfl | rfl | rfl | rfl | rfl | rfl | rfl | rfl | rfl | rfl | rfl
 all_goals skip
 repeat'
  conv => whnf
  first
   | refine zA ?_ | refine zB ?_ | refine zC ?_ | refine zD ?_ | refine zE ?_ | refine zF ?_ | refine zG ?_ | refine zH ?_ | refine zI ?_ | refine splT ?_ | refine splF ?_ | refine splNot ?_
   | ((first | refine splIn ?_ ?_ | refine splD ?_ ?_ | refine splE ?_ ?_ | refine splNE ?_ ?_) <;> intro hc <;> first | (exfalso; omega) | (exfalso; dsimp only at hc; omega) | skip)
   | refine idxS env rfl rfl rfl rfl (And.intro (by omega) (by omega)) rfl rfl (.inr ⟨rfl, rfl⟩) rfl ?_
   | refine quoT (by omega) (And.intro (by omega) (by omega)) ?_
   | refine wrapE (And.intro (by omega) (by omega)) ?_
 all_goals conv => whnf
 · exact ⟨1, by omega, by omega, Ent.weak rfl ⟨rfl, rfl, rfl, rfl, rfl, rfl, trivial⟩ ⟨rfl, rfl, rfl, trivial⟩ fun _ h => h⟩
 · exact ⟨2, by omega, by omega, Ent.weak rfl ⟨rfl, rfl, rfl, rfl, rfl, rfl, trivial⟩ ⟨rfl, rfl, rfl, trivial⟩ fun _ h => h⟩
 · exact ⟨3, by omega, by omega, Ent.weak rfl ⟨rfl, rfl, rfl, rfl, rfl, rfl, trivial⟩ ⟨rfl, rfl, rfl, trivial⟩ fun _ h => h⟩
 · exact ⟨4, by omega, by omega, Ent.weak rfl ⟨rfl, rfl, rfl, rfl, rfl, rfl, trivial⟩ ⟨rfl, rfl, rfl, trivial⟩ fun _ h => h⟩
 · exact ⟨5, by omega, by omega, Ent.weak rfl ⟨rfl, rfl, rfl, rfl, rfl, rfl, trivial⟩ ⟨rfl, rfl, rfl, trivial⟩ fun _ h => h⟩
 · exact ⟨6, by omega, by omega, Ent.weak rfl ⟨rfl, rfl, rfl, rfl, rfl, rfl, trivial⟩ ⟨rfl, rfl, rfl, trivial⟩ fun _ h => h⟩
 · exact ⟨7, by omega, by omega, Ent.weak rfl ⟨rfl, rfl, rfl, rfl, rfl, rfl, trivial⟩ ⟨rfl, rfl, rfl, trivial⟩ fun _ h => h⟩
 · exact ⟨8, by omega, by omega, Ent.weak rfl ⟨rfl, rfl, rfl, rfl, rfl, rfl, trivial⟩ ⟨rfl, rfl, rfl, trivial⟩ fun _ h => h⟩
 · exact ⟨9, by omega, by omega, Ent.weak rfl ⟨rfl, rfl, rfl, rfl, rfl, rfl, trivial⟩ ⟨rfl, rfl, rfl, trivial⟩ fun _ h => h⟩
 · exact ⟨10, by omega, by omega, Ent.weak rfl ⟨rfl, rfl, rfl, rfl, rfl, rfl, trivial⟩ ⟨rfl, rfl, rfl, trivial⟩ fun _ h => h⟩
 · exact ⟨11, by omega, by omega, Ent.weak rfl ⟨rfl, rfl, rfl, rfl, rfl, rfl, trivial⟩ ⟨rfl, rfl, rfl, trivial⟩ fun _ h => h⟩
 · exact ⟨12, by omega, by omega, Ent.weak rfl ⟨rfl, rfl, rfl, rfl, rfl, rfl, trivial⟩ ⟨rfl, rfl, rfl, trivial⟩ fun _ h => h⟩
 · exact ⟨13, by omega, by omega, Ent.weak rfl ⟨rfl, rfl, rfl, rfl, rfl, rfl, trivial⟩ ⟨rfl, rfl, rfl, trivial⟩ fun _ h => h⟩
 · exact ⟨14, by omega, by omega, Ent.weak rfl ⟨rfl, rfl, rfl, rfl, rfl, rfl, trivial⟩ ⟨rfl, rfl, rfl, trivial⟩ fun _ h => h⟩
 · exact ⟨15, by omega, by omega, Ent.weak rfl ⟨rfl, rfl, rfl, rfl, rfl, rfl, trivial⟩ ⟨rfl, rfl, rfl, trivial⟩ fun _ h => h⟩
 · exact ⟨16, by omega, by omega, Ent.weak rfl ⟨rfl, rfl, rfl, rfl, rfl, rfl, trivial⟩ ⟨rfl, rfl, rfl, trivial⟩ fun _ h => h⟩
 · exact ⟨17, by omega, by omega, Ent.weak rfl ⟨rfl, rfl, rfl, rfl, rfl, rfl, trivial⟩ ⟨rfl, rfl, rfl, trivial⟩ fun _ h => h⟩
 · exact ⟨18, by omega, by omega, Ent.weak rfl ⟨rfl, rfl, rfl, rfl, rfl, rfl, trivial⟩ ⟨rfl, rfl, rfl, trivial⟩ fun _ h => h⟩
 · exact ⟨19, by omega, by omega, Ent.weak rfl ⟨rfl, rfl, rfl, rfl, rfl, rfl, trivial⟩ ⟨rfl, rfl, rfl, trivial⟩ fun _ h => h⟩
 · exact ⟨20, by omega, by omega, Ent.weak rfl ⟨rfl, rfl, rfl, rfl, rfl, rfl, trivial⟩ ⟨rfl, rfl, rfl, trivial⟩ fun _ h => h⟩
 · exact ⟨21, by omega, by omega, Ent.weak rfl ⟨rfl, rfl, rfl, rfl, rfl, rfl, trivial⟩ ⟨rfl, rfl, rfl, trivial⟩ fun _ h => h⟩
 · exact ⟨fun β => rfl, fun w' h => h⟩
end Go.Proofs.Ytfbokllafdnglaa
