import Derived.Test.YtaciigegbgnadaaGG
/- Rows of 21 numbers: their sum. -/
namespace Go.Proofs.Ytaciigegbgnadaa
open Go Tx Go.RowKit
set_option linter.unusedSimpArgs false
set_option linter.unusedVariables false

/-- A row: 21 numbers. -/
abbrev Row := Nat → Int
def idx21 : List Nat := [0, 1, 2, 3, 4, 5, 6, 7, 8, 9, 10, 11, 12, 13, 14, 15, 16, 17, 18, 19, 20]
abbrev rwS (f : Row) : List SV := idx21.map fun i => .v (iv (f i))
abbrev rwL (f : Row) : List Value := idx21.map fun i => iv (f i)
def rwB (f : Row) : Prop := ∀ i, -10000000000000000 ≤ f i ∧ f i ≤ 10000000000000000
/-- The first row where the number is below k, else the second. -/
def rwT (k : Nat) (f g : Row) : Row := fun i => if Nat.blt i k then f i else g i
def acc (f g : Row) : Nat → Row
  | 0 => fun _ => 0
  | 1 => fun i => 0 + f i
  | _ => fun i => 0 + f i + g i
theorem m22 {m : Nat} (h : m ≤ 21) : m = 0 ∨ m = 1 ∨ m = 2 ∨ m = 3 ∨ m = 4 ∨ m = 5 ∨ m = 6 ∨ m = 7 ∨ m = 8 ∨ m = 9 ∨ m = 10 ∨ m = 11 ∨ m = 12 ∨ m = 13 ∨ m = 14 ∨ m = 15 ∨ m = 16 ∨ m = 17 ∨ m = 18 ∨ m = 19 ∨ m = 20 ∨ m = 21 := by omega
theorem rw_ir {a b : Int} (h1 : -10000000000000000 ≤ a ∧ a ≤ 10000000000000000) (h2 : -10000000000000000 ≤ b ∧ b ≤ 10000000000000000) : IR .i64 (a + b) := And.intro (by omega) (by omega)

set_option maxHeartbeats 4000000 in
set_option maxRecDepth 100000 in
theorem sum_ok (f g : Row) (o : Option Addr) (c : Nat) (w : World) (hrd : Rd 21 rwL (.slice o 2 c) [f, g] w) (hf : rwB f) (hg : rwB g) :
    Calls Try.prog 94 #[.slice o 2 c] w fun e w' => e = .returned (.agg (rwL fun i => f i + g i).toArray) ∧ Below w.heap.size w w' := by
  refine calls_val env mixed Try.func94 has94 Try.ntmps94 [.slice o 2 c] (by simp) ?_
  obtain ⟨_, ad, rfl, _⟩ := hrd.ptr (by omega)
  have hz : rwB (acc f g 0) := fun i => by show _ ≤ (0 : Int) ∧ (0 : Int) ≤ _; omega
  have hy : rwB (acc f g 1) := fun i => by have := hf i; show _ ≤ (0 : Int) + f i ∧ (0 : Int) + f i ≤ _; omega
  repeat'
   conv => whnf
   first
    | refine zA ?_ | refine zB ?_ | refine zC ?_ | refine zD ?_ | refine zE ?_ | refine zF ?_ | refine zG ?_ | refine zH ?_ | refine zI ?_ | refine splT ?_ | refine splF ?_ | refine splNot ?_
    | ((first | refine splIn (fun hc => ?_) (fun hc => ?_) | refine splD (fun hc => ?_) (fun hc => ?_) | refine splE (fun hc => ?_) (fun hc => ?_) | refine splNE (fun hc => ?_) (fun hc => ?_)) <;> first | (exfalso; omega) | (exfalso; dsimp only at hc; omega) | skip)
  refine loopN 1 (fun k : Nat => [(2, .ptr 0 0), (6, .v (.slice (some ad) 2 c)), (7, .v (iv 2)), (8, .v (iv k))]) (fun k => [(0, .cells (rwS (acc f g k)) 142)])
    (fun k => k ≤ 2) (fun k => 2 - k) 0 (by omega) ⟨rfl, rfl, rfl, rfl, trivial⟩ ⟨rfl, trivial⟩ (fun k _ => ⟨rfl, rfl⟩) ?_
  intro k hk
  obtain rfl | rfl | rfl : k = 0 ∨ k = 1 ∨ k = 2 := by omega
  · have e0 := fun (w' : World) hw' => rd_atz (hrd.below (w' := w') hw') (k := 0) (b := f) rfl 0 rfl
    repeat'
     conv => whnf
     first
      | refine zA ?_ | refine zB ?_ | refine zC ?_ | refine zD ?_ | refine zE ?_ | refine zF ?_ | refine zG ?_ | refine zH ?_ | refine zI ?_ | refine splT ?_ | refine splF ?_ | refine splNot ?_
      | ((first | refine splIn (fun hc => ?_) (fun hc => ?_) | refine splD (fun hc => ?_) (fun hc => ?_) | refine splE (fun hc => ?_) (fun hc => ?_) | refine splNE (fun hc => ?_) (fun hc => ?_)) <;> first | (exfalso; omega) | (exfalso; dsimp only at hc; omega) | skip)
      | refine Exists.intro (α := List Value) (rwL f) ⟨⟨rfl, fun w' hw' => e0 w' hw'⟩, ?_⟩
    refine loopN 2 (fun m : Nat => [(2, .ptr 0 0), (4, .ptr 1 0), (6, .v (.slice (some ad) 2 c)), (7, .v (iv 2)), (8, .v (iv 0)), (12, .v (iv m))]) (fun m => [(0, .cells (rwS (rwT m (acc f g 1) (acc f g 0))) 142), (1, .cells (rwS f) 142)])
      (fun m => m ≤ 21) (fun m => 21 - m) 0 (by omega) ⟨rfl, rfl, rfl, rfl, rfl, rfl, trivial⟩ ⟨rfl, rfl, trivial⟩ (fun m _ => ⟨rfl, rfl⟩) ?_
    intro m hm
    have h1 := hz m
    have h2 := hf m
    rcases m22 hm with rfl | rfl | rfl | rfl | rfl | rfl | rfl | rfl | rfl | rfl | rfl | rfl | rfl | rfl | rfl | rfl | rfl | rfl | rfl | rfl | rfl | rfl
    all_goals skip
    repeat'
     conv => whnf
     first
      | refine zA ?_ | refine zB ?_ | refine zC ?_ | refine zD ?_ | refine zE ?_ | refine zF ?_ | refine zG ?_ | refine zH ?_ | refine zI ?_ | refine splT ?_ | refine splF ?_ | refine splNot ?_
      | ((first | refine splIn (fun hc => ?_) (fun hc => ?_) | refine splD (fun hc => ?_) (fun hc => ?_) | refine splE (fun hc => ?_) (fun hc => ?_) | refine splNE (fun hc => ?_) (fun hc => ?_)) <;> first | (exfalso; omega) | (exfalso; dsimp only at hc; omega) | skip)
      | refine wrapE (rw_ir h1 h2) ?_
    · exact ⟨1, by omega, by omega, Ent.weak rfl ⟨rfl, rfl, rfl, rfl, rfl, rfl, trivial⟩ ⟨rfl, rfl, trivial⟩ fun _ h => h⟩
    · exact ⟨2, by omega, by omega, Ent.weak rfl ⟨rfl, rfl, rfl, rfl, rfl, rfl, trivial⟩ ⟨rfl, rfl, trivial⟩ fun _ h => h⟩
    · exact ⟨3, by omega, by omega, Ent.weak rfl ⟨rfl, rfl, rfl, rfl, rfl, rfl, trivial⟩ ⟨rfl, rfl, trivial⟩ fun _ h => h⟩
    · exact ⟨4, by omega, by omega, Ent.weak rfl ⟨rfl, rfl, rfl, rfl, rfl, rfl, trivial⟩ ⟨rfl, rfl, trivial⟩ fun _ h => h⟩
    · exact ⟨5, by omega, by omega, Ent.weak rfl ⟨rfl, rfl, rfl, rfl, rfl, rfl, trivial⟩ ⟨rfl, rfl, trivial⟩ fun _ h => h⟩
    · exact ⟨6, by omega, by omega, Ent.weak rfl ⟨rfl, rfl, rfl, rfl, rfl, rfl, trivial⟩ ⟨rfl, rfl, trivial⟩ fun _ h => h⟩
    · exact ⟨7, by omega, by omega, Ent.weak rfl ⟨rfl, rfl, rfl, rfl, rfl, rfl, trivial⟩ ⟨rfl, rfl, trivial⟩ fun _ h => h⟩
    · exact ⟨8, by omega, by omega, Ent.weak rfl ⟨rfl, rfl, rfl, rfl, rfl, rfl, trivial⟩ ⟨rfl, rfl, trivial⟩ fun _ h => h⟩
    · exact ⟨9, by omega, by omega, Ent.weak rfl ⟨rfl, rfl, rfl, rfl, rfl, rfl, trivial⟩ ⟨rfl, rfl, trivial⟩ fun _ h => h⟩
    · exact ⟨10, by omega, by omega, Ent.weak rfl ⟨rfl, rfl, rfl, rfl, rfl, rfl, trivial⟩ ⟨rfl, rfl, trivial⟩ fun _ h => h⟩
    · exact ⟨11, by omega, by omega, Ent.weak rfl ⟨rfl, rfl, rfl, rfl, rfl, rfl, trivial⟩ ⟨rfl, rfl, trivial⟩ fun _ h => h⟩
    · exact ⟨12, by omega, by omega, Ent.weak rfl ⟨rfl, rfl, rfl, rfl, rfl, rfl, trivial⟩ ⟨rfl, rfl, trivial⟩ fun _ h => h⟩
    · exact ⟨13, by omega, by omega, Ent.weak rfl ⟨rfl, rfl, rfl, rfl, rfl, rfl, trivial⟩ ⟨rfl, rfl, trivial⟩ fun _ h => h⟩
    · exact ⟨14, by omega, by omega, Ent.weak rfl ⟨rfl, rfl, rfl, rfl, rfl, rfl, trivial⟩ ⟨rfl, rfl, trivial⟩ fun _ h => h⟩
    · exact ⟨15, by omega, by omega, Ent.weak rfl ⟨rfl, rfl, rfl, rfl, rfl, rfl, trivial⟩ ⟨rfl, rfl, trivial⟩ fun _ h => h⟩
    · exact ⟨16, by omega, by omega, Ent.weak rfl ⟨rfl, rfl, rfl, rfl, rfl, rfl, trivial⟩ ⟨rfl, rfl, trivial⟩ fun _ h => h⟩
    · exact ⟨17, by omega, by omega, Ent.weak rfl ⟨rfl, rfl, rfl, rfl, rfl, rfl, trivial⟩ ⟨rfl, rfl, trivial⟩ fun _ h => h⟩
    · exact ⟨18, by omega, by omega, Ent.weak rfl ⟨rfl, rfl, rfl, rfl, rfl, rfl, trivial⟩ ⟨rfl, rfl, trivial⟩ fun _ h => h⟩
    · exact ⟨19, by omega, by omega, Ent.weak rfl ⟨rfl, rfl, rfl, rfl, rfl, rfl, trivial⟩ ⟨rfl, rfl, trivial⟩ fun _ h => h⟩
    · exact ⟨20, by omega, by omega, Ent.weak rfl ⟨rfl, rfl, rfl, rfl, rfl, rfl, trivial⟩ ⟨rfl, rfl, trivial⟩ fun _ h => h⟩
    · exact ⟨21, by omega, by omega, Ent.weak rfl ⟨rfl, rfl, rfl, rfl, rfl, rfl, trivial⟩ ⟨rfl, rfl, trivial⟩ fun _ h => h⟩
    · exact ⟨1, by omega, by omega, Ent.weak rfl ⟨rfl, rfl, rfl, rfl, trivial⟩ ⟨rfl, trivial⟩ fun _ h => h⟩
  · have e0 := fun (w' : World) hw' => rd_atz (hrd.below (w' := w') hw') (k := 1) (b := g) rfl 1 rfl
    repeat'
     conv => whnf
     first
      | refine zA ?_ | refine zB ?_ | refine zC ?_ | refine zD ?_ | refine zE ?_ | refine zF ?_ | refine zG ?_ | refine zH ?_ | refine zI ?_ | refine splT ?_ | refine splF ?_ | refine splNot ?_
      | ((first | refine splIn (fun hc => ?_) (fun hc => ?_) | refine splD (fun hc => ?_) (fun hc => ?_) | refine splE (fun hc => ?_) (fun hc => ?_) | refine splNE (fun hc => ?_) (fun hc => ?_)) <;> first | (exfalso; omega) | (exfalso; dsimp only at hc; omega) | skip)
      | refine Exists.intro (α := List Value) (rwL g) ⟨⟨rfl, fun w' hw' => e0 w' hw'⟩, ?_⟩
    refine loopN 2 (fun m : Nat => [(2, .ptr 0 0), (4, .ptr 1 0), (6, .v (.slice (some ad) 2 c)), (7, .v (iv 2)), (8, .v (iv 1)), (12, .v (iv m))]) (fun m => [(0, .cells (rwS (rwT m (acc f g 2) (acc f g 1))) 142), (1, .cells (rwS g) 142)])
      (fun m => m ≤ 21) (fun m => 21 - m) 0 (by omega) ⟨rfl, rfl, rfl, rfl, rfl, rfl, trivial⟩ ⟨rfl, rfl, trivial⟩ (fun m _ => ⟨rfl, rfl⟩) ?_
    intro m hm
    have h1 := hy m
    have h2 := hg m
    rcases m22 hm with rfl | rfl | rfl | rfl | rfl | rfl | rfl | rfl | rfl | rfl | rfl | rfl | rfl | rfl | rfl | rfl | rfl | rfl | rfl | rfl | rfl | rfl
    all_goals skip
    repeat'
     conv => whnf
     first
      | refine zA ?_ | refine zB ?_ | refine zC ?_ | refine zD ?_ | refine zE ?_ | refine zF ?_ | refine zG ?_ | refine zH ?_ | refine zI ?_ | refine splT ?_ | refine splF ?_ | refine splNot ?_
      | ((first | refine splIn (fun hc => ?_) (fun hc => ?_) | refine splD (fun hc => ?_) (fun hc => ?_) | refine splE (fun hc => ?_) (fun hc => ?_) | refine splNE (fun hc => ?_) (fun hc => ?_)) <;> first | (exfalso; omega) | (exfalso; dsimp only at hc; omega) | skip)
      | refine wrapE (rw_ir h1 h2) ?_
    · exact ⟨1, by omega, by omega, Ent.weak rfl ⟨rfl, rfl, rfl, rfl, rfl, rfl, trivial⟩ ⟨rfl, rfl, trivial⟩ fun _ h => h⟩
    · exact ⟨2, by omega, by omega, Ent.weak rfl ⟨rfl, rfl, rfl, rfl, rfl, rfl, trivial⟩ ⟨rfl, rfl, trivial⟩ fun _ h => h⟩
    · exact ⟨3, by omega, by omega, Ent.weak rfl ⟨rfl, rfl, rfl, rfl, rfl, rfl, trivial⟩ ⟨rfl, rfl, trivial⟩ fun _ h => h⟩
    · exact ⟨4, by omega, by omega, Ent.weak rfl ⟨rfl, rfl, rfl, rfl, rfl, rfl, trivial⟩ ⟨rfl, rfl, trivial⟩ fun _ h => h⟩
    · exact ⟨5, by omega, by omega, Ent.weak rfl ⟨rfl, rfl, rfl, rfl, rfl, rfl, trivial⟩ ⟨rfl, rfl, trivial⟩ fun _ h => h⟩
    · exact ⟨6, by omega, by omega, Ent.weak rfl ⟨rfl, rfl, rfl, rfl, rfl, rfl, trivial⟩ ⟨rfl, rfl, trivial⟩ fun _ h => h⟩
    · exact ⟨7, by omega, by omega, Ent.weak rfl ⟨rfl, rfl, rfl, rfl, rfl, rfl, trivial⟩ ⟨rfl, rfl, trivial⟩ fun _ h => h⟩
    · exact ⟨8, by omega, by omega, Ent.weak rfl ⟨rfl, rfl, rfl, rfl, rfl, rfl, trivial⟩ ⟨rfl, rfl, trivial⟩ fun _ h => h⟩
    · exact ⟨9, by omega, by omega, Ent.weak rfl ⟨rfl, rfl, rfl, rfl, rfl, rfl, trivial⟩ ⟨rfl, rfl, trivial⟩ fun _ h => h⟩
    · exact ⟨10, by omega, by omega, Ent.weak rfl ⟨rfl, rfl, rfl, rfl, rfl, rfl, trivial⟩ ⟨rfl, rfl, trivial⟩ fun _ h => h⟩
    · exact ⟨11, by omega, by omega, Ent.weak rfl ⟨rfl, rfl, rfl, rfl, rfl, rfl, trivial⟩ ⟨rfl, rfl, trivial⟩ fun _ h => h⟩
    · exact ⟨12, by omega, by omega, Ent.weak rfl ⟨rfl, rfl, rfl, rfl, rfl, rfl, trivial⟩ ⟨rfl, rfl, trivial⟩ fun _ h => h⟩
    · exact ⟨13, by omega, by omega, Ent.weak rfl ⟨rfl, rfl, rfl, rfl, rfl, rfl, trivial⟩ ⟨rfl, rfl, trivial⟩ fun _ h => h⟩
    · exact ⟨14, by omega, by omega, Ent.weak rfl ⟨rfl, rfl, rfl, rfl, rfl, rfl, trivial⟩ ⟨rfl, rfl, trivial⟩ fun _ h => h⟩
    · exact ⟨15, by omega, by omega, Ent.weak rfl ⟨rfl, rfl, rfl, rfl, rfl, rfl, trivial⟩ ⟨rfl, rfl, trivial⟩ fun _ h => h⟩
    · exact ⟨16, by omega, by omega, Ent.weak rfl ⟨rfl, rfl, rfl, rfl, rfl, rfl, trivial⟩ ⟨rfl, rfl, trivial⟩ fun _ h => h⟩
    · exact ⟨17, by omega, by omega, Ent.weak rfl ⟨rfl, rfl, rfl, rfl, rfl, rfl, trivial⟩ ⟨rfl, rfl, trivial⟩ fun _ h => h⟩
    · exact ⟨18, by omega, by omega, Ent.weak rfl ⟨rfl, rfl, rfl, rfl, rfl, rfl, trivial⟩ ⟨rfl, rfl, trivial⟩ fun _ h => h⟩
    · exact ⟨19, by omega, by omega, Ent.weak rfl ⟨rfl, rfl, rfl, rfl, rfl, rfl, trivial⟩ ⟨rfl, rfl, trivial⟩ fun _ h => h⟩
    · exact ⟨20, by omega, by omega, Ent.weak rfl ⟨rfl, rfl, rfl, rfl, rfl, rfl, trivial⟩ ⟨rfl, rfl, trivial⟩ fun _ h => h⟩
    · exact ⟨21, by omega, by omega, Ent.weak rfl ⟨rfl, rfl, rfl, rfl, rfl, rfl, trivial⟩ ⟨rfl, rfl, trivial⟩ fun _ h => h⟩
    · exact ⟨2, by omega, by omega, Ent.weak rfl ⟨rfl, rfl, rfl, rfl, trivial⟩ ⟨rfl, trivial⟩ fun _ h => h⟩
  · rw [show (fun i => f i + g i) = acc f g 2 from funext fun i => by show _ = 0 + f i + g i; omega]
    repeat'
     conv => whnf
     first
      | refine zA ?_ | refine zB ?_ | refine zC ?_ | refine zD ?_ | refine zE ?_ | refine zF ?_ | refine zG ?_ | refine zH ?_ | refine zI ?_ | refine splT ?_ | refine splF ?_ | refine splNot ?_
      | ((first | refine splIn (fun hc => ?_) (fun hc => ?_) | refine splD (fun hc => ?_) (fun hc => ?_) | refine splE (fun hc => ?_) (fun hc => ?_) | refine splNE (fun hc => ?_) (fun hc => ?_)) <;> first | (exfalso; omega) | (exfalso; dsimp only at hc; omega) | skip)
    exact ⟨fun β => rfl, fun w' h => h⟩
end Go.Proofs.Ytaciigegbgnadaa

/- What a row bears with pulls; what a load pulls; choose. -/
namespace Go.Proofs.Ytaciigegbgnadaa
open Go Tx Go.RowKit
set_option linter.unusedSimpArgs false
set_option linter.unusedVariables false

theorem choose_ok (b : Bool) (x y : Int) (w : World) : Calls Try.prog 99 #[.bool b, iv x, iv y] w fun e w' => e = .returned (iv (if b then x else y)) ∧ Below w.heap.size w w' := by
  refine calls_val env mixed Try.func99 has99 Try.ntmps99 [.bool b, iv x, iv y] (by simp) ?_
  cases b
  all_goals skip
  repeat'
   conv => whnf
   first
    | refine zA ?_ | refine zB ?_ | refine zC ?_ | refine zD ?_ | refine zE ?_ | refine zF ?_ | refine zG ?_ | refine zH ?_ | refine zI ?_ | refine splT ?_ | refine splF ?_ | refine splNot ?_
    | ((first | refine splIn (fun hc => ?_) (fun hc => ?_) | refine splD (fun hc => ?_) (fun hc => ?_) | refine splE (fun hc => ?_) (fun hc => ?_) | refine splNE (fun hc => ?_) (fun hc => ?_)) <;> first | (exfalso; omega) | (exfalso; dsimp only at hc; omega) | skip)
  all_goals exact ⟨fun β => rfl, fun w' h => h⟩

/-- What a row bears with the first pulls. -/
def dotR (f : Row) (P : List Int) : Nat → Int
  | 0 => f 20
  | k + 1 => dotR f P k + f k * P.getD k 0
/-- A row with pulls whose products are not great. -/
def dotB (f : Row) (P : List Int) : Prop := P.length ≤ 20 ∧ (-400000000000000000 ≤ f 20 ∧ f 20 ≤ 400000000000000000) ∧ ∀ i, i < P.length → -400000000000000000 ≤ f i * P.getD i 0 ∧ f i * P.getD i 0 ≤ 400000000000000000
theorem dotR_bd {f : Row} {P : List Int} (h : dotB f P) : ∀ k : Nat, k ≤ P.length → -400000000000000000 * (k + 1 : Int) ≤ dotR f P k ∧ dotR f P k ≤ 400000000000000000 * (k + 1 : Int)
  | 0, _ => by have := h.2.1; show _ ≤ f 20 ∧ f 20 ≤ _; omega
  | k + 1, hk => by
    have ih := dotR_bd h k (by omega)
    have := h.2.2 k (by omega)
    show _ ≤ dotR f P k + f k * P.getD k 0 ∧ dotR f P k + f k * P.getD k 0 ≤ _
    generalize f k * P.getD k 0 = z at *
    omega

set_option maxHeartbeats 4000000 in
set_option maxRecDepth 100000 in
theorem bears_ok (f : Row) (P : List Int) (o : Option Addr) (c : Nat) (w : World) (hrd : Rd 1 iF (.slice o P.length c) P w) (h : dotB f P) :
    Calls Try.prog 70 #[.agg (rwL f).toArray, .slice o P.length c] w fun e w' => e = .returned (iv (dotR f P P.length)) ∧ Below w.heap.size w w' := by
  refine calls_val env mixed Try.func70 has70 Try.ntmps70 [.agg (rwL f).toArray, .slice o P.length c] (by simp) ?_
  have hl := h.1
  repeat'
   conv => whnf
   first
    | refine zA ?_ | refine zB ?_ | refine zC ?_ | refine zD ?_ | refine zE ?_ | refine zF ?_ | refine zG ?_ | refine zH ?_ | refine zI ?_ | refine splT ?_ | refine splF ?_ | refine splNot ?_
    | ((first | refine splIn (fun hc => ?_) (fun hc => ?_) | refine splD (fun hc => ?_) (fun hc => ?_) | refine splE (fun hc => ?_) (fun hc => ?_) | refine splNE (fun hc => ?_) (fun hc => ?_)) <;> first | (exfalso; omega) | (exfalso; dsimp only at hc; omega) | skip)
  refine loopN 1 (fun k : Nat => [(2, .ptr 0 0), (5, .v (iv (dotR f P k))), (10, .v (.slice o P.length c)), (11, .v (iv P.length)), (12, .v (iv k))]) (fun k => [(0, .cells (rwS f) 142)])
    (fun k => k ≤ P.length) (fun k => P.length - k) 0 (Nat.zero_le _) ⟨rfl, rfl, rfl, rfl, rfl, trivial⟩ ⟨rfl, trivial⟩ (fun k _ => ⟨rfl, rfl⟩) ?_
  intro k hk
  rcases Nat.lt_or_ge k P.length with hkl | hkl
  · obtain ⟨x, hx⟩ : ∃ b, P[k]? = some b := ⟨_, List.getElem?_eq_getElem hkl⟩
    obtain ⟨_, ad, rfl, _⟩ := hrd.ptr (by omega)
    have e0 := fun (w' : World) hw' => rd_ati (hrd.below (w' := w') hw') hx
    have h1 := dotR_bd h k hk
    have h2 := h.2.2 k hkl
    have hst : dotR f P (k + 1) = dotR f P k + f k * x := by rw [dotR, List.getD_eq_getElem?_getD, hx]; rfl
    rw [List.getD_eq_getElem?_getD, hx, Option.getD_some] at h2
    generalize dotR f P k = s at *
    clear h hrd
    rcases m22 (show k ≤ 21 by omega) with rfl | rfl | rfl | rfl | rfl | rfl | rfl | rfl | rfl | rfl | rfl | rfl | rfl | rfl | rfl | rfl | rfl | rfl | rfl | rfl | rfl | rfl
    all_goals skip
    repeat'
     conv => whnf
     first
      | refine zA ?_ | refine zB ?_ | refine zC ?_ | refine zD ?_ | refine zE ?_ | refine zF ?_ | refine zG ?_ | refine zH ?_ | refine zI ?_ | refine splT ?_ | refine splF ?_ | refine splNot ?_
      | ((first | refine splIn (fun hc => ?_) (fun hc => ?_) | refine splD (fun hc => ?_) (fun hc => ?_) | refine splE (fun hc => ?_) (fun hc => ?_) | refine splNE (fun hc => ?_) (fun hc => ?_)) <;> first | (exfalso; omega) | (exfalso; dsimp only at hc; omega) | skip)
      | refine Exists.intro (α := List Value) [iv x] ⟨⟨rfl, fun w' hw' => e0 w' hw'⟩, ?_⟩
    all_goals first | (exfalso; omega) | skip
    · exact ⟨0 + 1, by omega, by omega, Ent.weak rfl ⟨rfl, by rw [hst]; rfl, rfl, rfl, rfl, trivial⟩ ⟨rfl, trivial⟩ fun _ h => h⟩
    · exact ⟨1 + 1, by omega, by omega, Ent.weak rfl ⟨rfl, by rw [hst]; rfl, rfl, rfl, rfl, trivial⟩ ⟨rfl, trivial⟩ fun _ h => h⟩
    · exact ⟨2 + 1, by omega, by omega, Ent.weak rfl ⟨rfl, by rw [hst]; rfl, rfl, rfl, rfl, trivial⟩ ⟨rfl, trivial⟩ fun _ h => h⟩
    · exact ⟨3 + 1, by omega, by omega, Ent.weak rfl ⟨rfl, by rw [hst]; rfl, rfl, rfl, rfl, trivial⟩ ⟨rfl, trivial⟩ fun _ h => h⟩
    · exact ⟨4 + 1, by omega, by omega, Ent.weak rfl ⟨rfl, by rw [hst]; rfl, rfl, rfl, rfl, trivial⟩ ⟨rfl, trivial⟩ fun _ h => h⟩
    · exact ⟨5 + 1, by omega, by omega, Ent.weak rfl ⟨rfl, by rw [hst]; rfl, rfl, rfl, rfl, trivial⟩ ⟨rfl, trivial⟩ fun _ h => h⟩
    · exact ⟨6 + 1, by omega, by omega, Ent.weak rfl ⟨rfl, by rw [hst]; rfl, rfl, rfl, rfl, trivial⟩ ⟨rfl, trivial⟩ fun _ h => h⟩
    · exact ⟨7 + 1, by omega, by omega, Ent.weak rfl ⟨rfl, by rw [hst]; rfl, rfl, rfl, rfl, trivial⟩ ⟨rfl, trivial⟩ fun _ h => h⟩
    · exact ⟨8 + 1, by omega, by omega, Ent.weak rfl ⟨rfl, by rw [hst]; rfl, rfl, rfl, rfl, trivial⟩ ⟨rfl, trivial⟩ fun _ h => h⟩
    · exact ⟨9 + 1, by omega, by omega, Ent.weak rfl ⟨rfl, by rw [hst]; rfl, rfl, rfl, rfl, trivial⟩ ⟨rfl, trivial⟩ fun _ h => h⟩
    · exact ⟨10 + 1, by omega, by omega, Ent.weak rfl ⟨rfl, by rw [hst]; rfl, rfl, rfl, rfl, trivial⟩ ⟨rfl, trivial⟩ fun _ h => h⟩
    · exact ⟨11 + 1, by omega, by omega, Ent.weak rfl ⟨rfl, by rw [hst]; rfl, rfl, rfl, rfl, trivial⟩ ⟨rfl, trivial⟩ fun _ h => h⟩
    · exact ⟨12 + 1, by omega, by omega, Ent.weak rfl ⟨rfl, by rw [hst]; rfl, rfl, rfl, rfl, trivial⟩ ⟨rfl, trivial⟩ fun _ h => h⟩
    · exact ⟨13 + 1, by omega, by omega, Ent.weak rfl ⟨rfl, by rw [hst]; rfl, rfl, rfl, rfl, trivial⟩ ⟨rfl, trivial⟩ fun _ h => h⟩
    · exact ⟨14 + 1, by omega, by omega, Ent.weak rfl ⟨rfl, by rw [hst]; rfl, rfl, rfl, rfl, trivial⟩ ⟨rfl, trivial⟩ fun _ h => h⟩
    · exact ⟨15 + 1, by omega, by omega, Ent.weak rfl ⟨rfl, by rw [hst]; rfl, rfl, rfl, rfl, trivial⟩ ⟨rfl, trivial⟩ fun _ h => h⟩
    · exact ⟨16 + 1, by omega, by omega, Ent.weak rfl ⟨rfl, by rw [hst]; rfl, rfl, rfl, rfl, trivial⟩ ⟨rfl, trivial⟩ fun _ h => h⟩
    · exact ⟨17 + 1, by omega, by omega, Ent.weak rfl ⟨rfl, by rw [hst]; rfl, rfl, rfl, rfl, trivial⟩ ⟨rfl, trivial⟩ fun _ h => h⟩
    · exact ⟨18 + 1, by omega, by omega, Ent.weak rfl ⟨rfl, by rw [hst]; rfl, rfl, rfl, rfl, trivial⟩ ⟨rfl, trivial⟩ fun _ h => h⟩
    · exact ⟨19 + 1, by omega, by omega, Ent.weak rfl ⟨rfl, by rw [hst]; rfl, rfl, rfl, rfl, trivial⟩ ⟨rfl, trivial⟩ fun _ h => h⟩
  · obtain rfl : k = P.length := by omega
    repeat'
     conv => whnf
     first
      | refine zA ?_ | refine zB ?_ | refine zC ?_ | refine zD ?_ | refine zE ?_ | refine zF ?_ | refine zG ?_ | refine zH ?_ | refine zI ?_ | refine splT ?_ | refine splF ?_ | refine splNot ?_
      | ((first | refine splIn (fun hc => ?_) (fun hc => ?_) | refine splD (fun hc => ?_) (fun hc => ?_) | refine splE (fun hc => ?_) (fun hc => ?_) | refine splNE (fun hc => ?_) (fun hc => ?_)) <;> first | (exfalso; omega) | (exfalso; dsimp only at hc; omega) | skip)
    exact ⟨fun β => rfl, fun w' h => h⟩
end Go.Proofs.Ytaciigegbgnadaa

/- Rigs: their values; what a load pulls. -/
namespace Go.Proofs.Ytaciigegbgnadaa
open Go Tx Go.RowKit
set_option linter.unusedSimpArgs false
set_option linter.unusedVariables false

/-- A load: where it lies, of which kind it is, from what to what it pulls. -/
structure Ld where
  beam : Int
  at' : Int
  kind : Nat
  lo : Int
  hi : Int
abbrev Ld.cs (l : Ld) : List Value := [iv l.beam, iv l.at', .int .u8 l.kind, iv l.lo, iv l.hi]
/-- A beam: its hangers, where these hang, its weight, what it bears. -/
structure Bm where
  lo : Int
  hi : Int
  ab : Int
  aa : Int
  bb : Int
  ba : Int
  wt : Int
  cap : Int
abbrev Bm.cs (b : Bm) : List Value := [iv b.lo, iv b.hi, iv b.ab, iv b.aa, iv b.bb, iv b.ba, iv b.wt, iv b.cap]
/-- A rig's value: where its three slices lie, and its three factors. -/
structure Rig where
  po : Option Addr
  pn : Nat
  pc : Nat
  bo : Option Addr
  bn : Nat
  bc : Nat
  f0 : Int
  f1 : Int
  f2 : Int
  lo : Option Addr
  ln : Nat
  lc : Nat
abbrev Rig.cs (r : Rig) : List Value := [.slice r.po r.pn r.pc, .slice r.bo r.bn r.bc, iv r.f0, iv r.f1, iv r.f2, .slice r.lo r.ln r.lc]
abbrev Rig.v (r : Rig) : Value := .agg #[.slice r.po r.pn r.pc, .slice r.bo r.bn r.bc, iv r.f0, iv r.f1, iv r.f2, .slice r.lo r.ln r.lc]
def Rig.fac (r : Rig) : Nat → Int
  | 0 => r.f0
  | 1 => r.f1
  | _ => r.f2
/-- The most that a load pulls. -/
def hiP (r : Rig) (l : Ld) : Int := (l.hi * r.fac l.kind + 999) / 1000

set_option maxHeartbeats 1000000 in
set_option maxRecDepth 100000 in
theorem pull_ok (r : Rig) (LL : List Ld) (k : Nat) (l : Ld) (w : World) (hrd : Rd 5 Ld.cs (.slice r.lo LL.length r.lc) LL w) (hn : r.ln = LL.length) (hk : LL[k]? = some l) (hl : LL.length ≤ 1000000)
    (hkind : l.kind ≤ 2) (hhi : 0 ≤ l.hi ∧ l.hi ≤ 1000000000) (hf : 0 ≤ r.fac l.kind ∧ r.fac l.kind ≤ 1000000) :
    Calls Try.prog 68 #[r.v, iv k] w fun e w' => e = .returned (.agg #[iv l.lo, iv (hiP r l)]) ∧ Below w.heap.size w w' := by
  obtain ⟨po, pn, pc, bo, bn, bc, f0, f1, f2, lo, ln, lc⟩ := r
  dsimp only at hrd hn
  subst hn
  refine calls_val env mixed Try.func68 has68 Try.ntmps68 [.agg #[.slice po pn pc, .slice bo bn bc, iv f0, iv f1, iv f2, .slice lo LL.length lc], iv k] (by simp) ?_
  have hkl := (List.getElem?_eq_some_iff.1 hk).1
  obtain ⟨_, ad, rfl, _⟩ := hrd.ptr (by omega)
  have e0 := fun (w' : World) hw' => rd_ati (hrd.below (w' := w') hw') hk
  obtain ⟨lb, la, lk, ll, lh⟩ := l
  dsimp only at *
  unfold hiP
  have hm0 : 0 ≤ lh * Rig.fac ⟨po, pn, pc, bo, bn, bc, f0, f1, f2, some ad, LL.length, lc⟩ lk := Int.mul_nonneg hhi.1 hf.1
  have hm1 : lh * Rig.fac ⟨po, pn, pc, bo, bn, bc, f0, f1, f2, some ad, LL.length, lc⟩ lk ≤ 1000000000 * 1000000 := Int.mul_le_mul hhi.2 hf.2 hf.1 (by omega)
  dsimp only
  repeat'
   conv => whnf
   first
    | refine zA ?_ | refine zB ?_ | refine zC ?_ | refine zD ?_ | refine zE ?_ | refine zF ?_ | refine zG ?_ | refine zH ?_ | refine zI ?_ | refine splT ?_ | refine splF ?_ | refine splNot ?_
    | ((first | refine splIn (fun hc => ?_) (fun hc => ?_) | refine splD (fun hc => ?_) (fun hc => ?_) | refine splE (fun hc => ?_) (fun hc => ?_) | refine splNE (fun hc => ?_) (fun hc => ?_)) <;> first | (exfalso; omega) | (exfalso; dsimp only at hc; omega) | skip)
    | refine Exists.intro (α := List Value) [iv lb, iv la, .int .u8 lk, iv ll, iv lh] ⟨⟨rfl, fun w' hw' => e0 w' hw'⟩, ?_⟩
  obtain rfl | rfl | rfl : lk = 0 ∨ lk = 1 ∨ lk = 2 := by omega
  all_goals simp only [Rig.fac] at hf hm0 hm1
  all_goals skip
  repeat'
   conv => whnf
   first
    | refine zA ?_ | refine zB ?_ | refine zC ?_ | refine zD ?_ | refine zE ?_ | refine zF ?_ | refine zG ?_ | refine zH ?_ | refine zI ?_ | refine splT ?_ | refine splF ?_ | refine splNot ?_
    | ((first | refine splIn (fun hc => ?_) (fun hc => ?_) | refine splD (fun hc => ?_) (fun hc => ?_) | refine splE (fun hc => ?_) (fun hc => ?_) | refine splNE (fun hc => ?_) (fun hc => ?_)) <;> first | (exfalso; omega) | (exfalso; dsimp only at hc; omega) | skip)
    | refine quoE (by omega) (by omega) (And.intro (by omega) (by omega)) ?_
  all_goals conv => whnf
  all_goals exact ⟨fun β => rfl, fun w' h => h⟩
end Go.Proofs.Ytaciigegbgnadaa

/- Forces and factors of a rig that are right: what these functions return. -/
namespace Go.Proofs.Ytaciigegbgnadaa
open Go Tx Go.RowKit
set_option linter.unusedSimpArgs false
set_option linter.unusedVariables false

theorem force_ok (n : Int) (w : World) : Calls Try.prog 86 #[iv n] w fun e w' => e = .returned (.bool (inB n 0 1000000)) ∧ Below w.heap.size w w' := by
  refine calls_val env mixed Try.func86 has86 Try.ntmps86 [iv n] (by simp) ?_
  repeat'
   conv => whnf
   first
    | refine zA ?_ | refine zB ?_ | refine zC ?_ | refine zD ?_ | refine zE ?_ | refine zF ?_ | refine zG ?_ | refine zH ?_ | refine zI ?_ | refine splT ?_ | refine splF ?_ | refine splNot ?_
    | ((first | refine splIn (fun hc => ?_) (fun hc => ?_) | refine splD (fun hc => ?_) (fun hc => ?_) | refine splE (fun hc => ?_) (fun hc => ?_) | refine splNE (fun hc => ?_) (fun hc => ?_)) <;> first | (exfalso; omega) | (exfalso; dsimp only at hc; omega) | skip)
    | ((with_reducible show CallEv _ _ 56 _ _ _ _ _); refine callE (k := 56) (fun β w' hbw => within_ok _ _ _ _) ?_)
  all_goals exact ⟨fun β => congrArg Value.bool (by simp [inB, *]), fun w' h => h⟩
theorem facs_ok (n : Int) (w : World) : Calls Try.prog 89 #[iv n] w fun e w' => e = .returned (.bool (inB n 1000 20000)) ∧ Below w.heap.size w w' := by
  refine calls_val env mixed Try.func89 has89 Try.ntmps89 [iv n] (by simp) ?_
  repeat'
   conv => whnf
   first
    | refine zA ?_ | refine zB ?_ | refine zC ?_ | refine zD ?_ | refine zE ?_ | refine zF ?_ | refine zG ?_ | refine zH ?_ | refine zI ?_ | refine splT ?_ | refine splF ?_ | refine splNot ?_
    | ((first | refine splIn (fun hc => ?_) (fun hc => ?_) | refine splD (fun hc => ?_) (fun hc => ?_) | refine splE (fun hc => ?_) (fun hc => ?_) | refine splNE (fun hc => ?_) (fun hc => ?_)) <;> first | (exfalso; omega) | (exfalso; dsimp only at hc; omega) | skip)
    | ((with_reducible show CallEv _ _ 56 _ _ _ _ _); refine callE (k := 56) (fun β w' hbw => within_ok _ _ _ _) ?_)
  all_goals exact ⟨fun β => congrArg Value.bool (by simp [inB, *]), fun w' h => h⟩

set_option maxRecDepth 100000 in
theorem all86_ok (L : List Int) (o : Option Addr) (c : Nat) (w : World) (hrd : Rd 1 iF (.slice o L.length c) L w) (hl : L.length ≤ 1000000) :
    Calls Try.prog 85 #[.slice o L.length c, .func (.func 86) #[] #[]] w fun e w' => e = .returned (.bool (L.all (fun g : Int => inB g 0 1000000))) ∧ Below w.heap.size w w' := by
  refine calls_val env mixed Try.func85 has85 Try.ntmps85 [.slice o L.length c, .func (.func 86) #[] #[]] (by simp) ?_
  repeat'
   conv => whnf
   first
    | refine zA ?_ | refine zB ?_ | refine zC ?_ | refine zD ?_ | refine zE ?_ | refine zF ?_ | refine zG ?_ | refine zH ?_ | refine zI ?_ | refine splT ?_ | refine splF ?_ | refine splNot ?_
    | ((first | refine splIn (fun hc => ?_) (fun hc => ?_) | refine splD (fun hc => ?_) (fun hc => ?_) | refine splE (fun hc => ?_) (fun hc => ?_) | refine splNE (fun hc => ?_) (fun hc => ?_)) <;> first | (exfalso; omega) | (exfalso; dsimp only at hc; omega) | skip)
    | ((with_reducible show CallEv _ _ 103 _ _ _ _ _); refine callI env mixed 1000 [] Try.func103 has103 Try.ntmps103 (Nat.le_of_ble_eq_true rfl) rfl rfl rfl ?_)
    | ((with_reducible show CallEv _ _ 109 _ _ _ _ _); refine callI env mixed 2000 [] Try.func109 has109 Try.ntmps109 (Nat.le_of_ble_eq_true rfl) rfl rfl rfl ?_)
  refine loopE (fun k : Nat => [(0, .v (.slice o L.length c)), (1, .fn (.func 104) [.ptr 0 0]), (7, .v (iv L.length)), (8, .v (iv k))]) (fun _ => [(0, .cells [.v (.func (.func 86) #[] #[])] 130)]) (fun k => k ≤ L.length ∧ (L.take k).all (fun g : Int => inB g 0 1000000) = true) (fun k => L.length - k) 0 ⟨Nat.zero_le _, rfl⟩ ⟨rfl, rfl, rfl, rfl, trivial⟩ ⟨rfl, trivial⟩ (fun _ => ⟨rfl, rfl⟩) ?_
  intro k ⟨hk, hall⟩
  rcases Nat.lt_or_ge k L.length with hkl | hkl
  · obtain ⟨g, hb⟩ : ∃ b, L[k]? = some b := ⟨_, List.getElem?_eq_getElem hkl⟩
    obtain ⟨_, ad, rfl, _⟩ := hrd.ptr (by omega)
    have ht : (L.take (k + 1)).all (fun g : Int => inB g 0 1000000) = inB g 0 1000000 := by rw [List.take_add_one, hb]; simp [hall]
    have e0 := fun (w' : World) hw' => rd_ati (hrd.below (w' := w') hw') hb
    have hv := fun w' => force_ok g w'
    cases hg : inB g 0 1000000 with
    | true =>
      rw [hg] at hv ht
      repeat'
       conv => whnf
       first
        | refine zA ?_ | refine zB ?_ | refine zC ?_ | refine zD ?_ | refine zE ?_ | refine zF ?_ | refine zG ?_ | refine zH ?_ | refine zI ?_ | refine splT ?_ | refine splF ?_ | refine splNot ?_
        | ((first | refine splIn (fun hc => ?_) (fun hc => ?_) | refine splD (fun hc => ?_) (fun hc => ?_) | refine splE (fun hc => ?_) (fun hc => ?_) | refine splNE (fun hc => ?_) (fun hc => ?_)) <;> first | (exfalso; omega) | (exfalso; dsimp only at hc; omega) | skip)
        | refine Exists.intro (α := List Value) [iv g] ⟨⟨rfl, fun w' hw' => e0 w' hw'⟩, ?_⟩
        | ((with_reducible show CallEv _ _ 104 _ _ _ _ _); refine callI env mixed 3000 [0,1,5,7,8] Try.func104 has104 Try.ntmps104 (Nat.le_of_ble_eq_true rfl) rfl rfl rfl ?_)
        | ((with_reducible show CallEv _ _ 86 _ _ _ _ _); refine callE (k := 86) (fun β w' hbw => hv _) ?_)
      exact ⟨k + 1, ⟨by omega, ht⟩, by omega, Ent.weak rfl ⟨rfl, rfl, rfl, rfl, trivial⟩ ⟨rfl, trivial⟩ fun _ h => h⟩
    | false =>
      rw [hg] at hv ht
      have hno : L.all (fun g : Int => inB g 0 1000000) = false := by
        rw [List.all_eq_false]
        exact ⟨_, List.mem_of_getElem? hb, by simp [hg]⟩
      rw [hno]
      repeat'
       conv => whnf
       first
        | refine zA ?_ | refine zB ?_ | refine zC ?_ | refine zD ?_ | refine zE ?_ | refine zF ?_ | refine zG ?_ | refine zH ?_ | refine zI ?_ | refine splT ?_ | refine splF ?_ | refine splNot ?_
        | ((first | refine splIn (fun hc => ?_) (fun hc => ?_) | refine splD (fun hc => ?_) (fun hc => ?_) | refine splE (fun hc => ?_) (fun hc => ?_) | refine splNE (fun hc => ?_) (fun hc => ?_)) <;> first | (exfalso; omega) | (exfalso; dsimp only at hc; omega) | skip)
        | refine Exists.intro (α := List Value) [iv g] ⟨⟨rfl, fun w' hw' => e0 w' hw'⟩, ?_⟩
        | ((with_reducible show CallEv _ _ 104 _ _ _ _ _); refine callI env mixed 3000 [0,1,5,7,8] Try.func104 has104 Try.ntmps104 (Nat.le_of_ble_eq_true rfl) rfl rfl rfl ?_)
        | ((with_reducible show CallEv _ _ 86 _ _ _ _ _); refine callE (k := 86) (fun β w' hbw => hv _) ?_)
      all_goals first | exact ⟨fun β => rfl, fun w' h => h⟩ | (exfalso; omega) | skip
  · rw [List.take_of_length_le hkl] at hall
    rw [hall]
    repeat'
     conv => whnf
     first
      | refine zA ?_ | refine zB ?_ | refine zC ?_ | refine zD ?_ | refine zE ?_ | refine zF ?_ | refine zG ?_ | refine zH ?_ | refine zI ?_ | refine splT ?_ | refine splF ?_ | refine splNot ?_
      | ((first | refine splIn (fun hc => ?_) (fun hc => ?_) | refine splD (fun hc => ?_) (fun hc => ?_) | refine splE (fun hc => ?_) (fun hc => ?_) | refine splNE (fun hc => ?_) (fun hc => ?_)) <;> first | (exfalso; omega) | (exfalso; dsimp only at hc; omega) | skip)
    all_goals first | exact ⟨fun β => rfl, fun w' h => h⟩ | (exfalso; omega) | skip

set_option maxRecDepth 100000 in
theorem all89_ok (L : List Int) (o : Option Addr) (c : Nat) (w : World) (hrd : Rd 1 iF (.slice o L.length c) L w) (hl : L.length ≤ 1000000) :
    Calls Try.prog 85 #[.slice o L.length c, .func (.func 89) #[] #[]] w fun e w' => e = .returned (.bool (L.all (fun g : Int => inB g 1000 20000))) ∧ Below w.heap.size w w' := by
  refine calls_val env mixed Try.func85 has85 Try.ntmps85 [.slice o L.length c, .func (.func 89) #[] #[]] (by simp) ?_
  repeat'
   conv => whnf
   first
    | refine zA ?_ | refine zB ?_ | refine zC ?_ | refine zD ?_ | refine zE ?_ | refine zF ?_ | refine zG ?_ | refine zH ?_ | refine zI ?_ | refine splT ?_ | refine splF ?_ | refine splNot ?_
    | ((first | refine splIn (fun hc => ?_) (fun hc => ?_) | refine splD (fun hc => ?_) (fun hc => ?_) | refine splE (fun hc => ?_) (fun hc => ?_) | refine splNE (fun hc => ?_) (fun hc => ?_)) <;> first | (exfalso; omega) | (exfalso; dsimp only at hc; omega) | skip)
    | ((with_reducible show CallEv _ _ 103 _ _ _ _ _); refine callI env mixed 1000 [] Try.func103 has103 Try.ntmps103 (Nat.le_of_ble_eq_true rfl) rfl rfl rfl ?_)
    | ((with_reducible show CallEv _ _ 109 _ _ _ _ _); refine callI env mixed 2000 [] Try.func109 has109 Try.ntmps109 (Nat.le_of_ble_eq_true rfl) rfl rfl rfl ?_)
  refine loopE (fun k : Nat => [(0, .v (.slice o L.length c)), (1, .fn (.func 104) [.ptr 0 0]), (7, .v (iv L.length)), (8, .v (iv k))]) (fun _ => [(0, .cells [.v (.func (.func 89) #[] #[])] 130)]) (fun k => k ≤ L.length ∧ (L.take k).all (fun g : Int => inB g 1000 20000) = true) (fun k => L.length - k) 0 ⟨Nat.zero_le _, rfl⟩ ⟨rfl, rfl, rfl, rfl, trivial⟩ ⟨rfl, trivial⟩ (fun _ => ⟨rfl, rfl⟩) ?_
  intro k ⟨hk, hall⟩
  rcases Nat.lt_or_ge k L.length with hkl | hkl
  · obtain ⟨g, hb⟩ : ∃ b, L[k]? = some b := ⟨_, List.getElem?_eq_getElem hkl⟩
    obtain ⟨_, ad, rfl, _⟩ := hrd.ptr (by omega)
    have ht : (L.take (k + 1)).all (fun g : Int => inB g 1000 20000) = inB g 1000 20000 := by rw [List.take_add_one, hb]; simp [hall]
    have e0 := fun (w' : World) hw' => rd_ati (hrd.below (w' := w') hw') hb
    have hv := fun w' => facs_ok g w'
    cases hg : inB g 1000 20000 with
    | true =>
      rw [hg] at hv ht
      repeat'
       conv => whnf
       first
        | refine zA ?_ | refine zB ?_ | refine zC ?_ | refine zD ?_ | refine zE ?_ | refine zF ?_ | refine zG ?_ | refine zH ?_ | refine zI ?_ | refine splT ?_ | refine splF ?_ | refine splNot ?_
        | ((first | refine splIn (fun hc => ?_) (fun hc => ?_) | refine splD (fun hc => ?_) (fun hc => ?_) | refine splE (fun hc => ?_) (fun hc => ?_) | refine splNE (fun hc => ?_) (fun hc => ?_)) <;> first | (exfalso; omega) | (exfalso; dsimp only at hc; omega) | skip)
        | refine Exists.intro (α := List Value) [iv g] ⟨⟨rfl, fun w' hw' => e0 w' hw'⟩, ?_⟩
        | ((with_reducible show CallEv _ _ 104 _ _ _ _ _); refine callI env mixed 3000 [0,1,5,7,8] Try.func104 has104 Try.ntmps104 (Nat.le_of_ble_eq_true rfl) rfl rfl rfl ?_)
        | ((with_reducible show CallEv _ _ 89 _ _ _ _ _); refine callE (k := 89) (fun β w' hbw => hv _) ?_)
      exact ⟨k + 1, ⟨by omega, ht⟩, by omega, Ent.weak rfl ⟨rfl, rfl, rfl, rfl, trivial⟩ ⟨rfl, trivial⟩ fun _ h => h⟩
    | false =>
      rw [hg] at hv ht
      have hno : L.all (fun g : Int => inB g 1000 20000) = false := by
        rw [List.all_eq_false]
        exact ⟨_, List.mem_of_getElem? hb, by simp [hg]⟩
      rw [hno]
      repeat'
       conv => whnf
       first
        | refine zA ?_ | refine zB ?_ | refine zC ?_ | refine zD ?_ | refine zE ?_ | refine zF ?_ | refine zG ?_ | refine zH ?_ | refine zI ?_ | refine splT ?_ | refine splF ?_ | refine splNot ?_
        | ((first | refine splIn (fun hc => ?_) (fun hc => ?_) | refine splD (fun hc => ?_) (fun hc => ?_) | refine splE (fun hc => ?_) (fun hc => ?_) | refine splNE (fun hc => ?_) (fun hc => ?_)) <;> first | (exfalso; omega) | (exfalso; dsimp only at hc; omega) | skip)
        | refine Exists.intro (α := List Value) [iv g] ⟨⟨rfl, fun w' hw' => e0 w' hw'⟩, ?_⟩
        | ((with_reducible show CallEv _ _ 104 _ _ _ _ _); refine callI env mixed 3000 [0,1,5,7,8] Try.func104 has104 Try.ntmps104 (Nat.le_of_ble_eq_true rfl) rfl rfl rfl ?_)
        | ((with_reducible show CallEv _ _ 89 _ _ _ _ _); refine callE (k := 89) (fun β w' hbw => hv _) ?_)
      all_goals first | exact ⟨fun β => rfl, fun w' h => h⟩ | (exfalso; omega) | skip
  · rw [List.take_of_length_le hkl] at hall
    rw [hall]
    repeat'
     conv => whnf
     first
      | refine zA ?_ | refine zB ?_ | refine zC ?_ | refine zD ?_ | refine zE ?_ | refine zF ?_ | refine zG ?_ | refine zH ?_ | refine zI ?_ | refine splT ?_ | refine splF ?_ | refine splNot ?_
      | ((first | refine splIn (fun hc => ?_) (fun hc => ?_) | refine splD (fun hc => ?_) (fun hc => ?_) | refine splE (fun hc => ?_) (fun hc => ?_) | refine splNE (fun hc => ?_) (fun hc => ?_)) <;> first | (exfalso; omega) | (exfalso; dsimp only at hc; omega) | skip)
    all_goals first | exact ⟨fun β => rfl, fun w' h => h⟩ | (exfalso; omega) | skip
end Go.Proofs.Ytaciigegbgnadaa

/- Places and spans of a rig that are right: what these functions return. -/
namespace Go.Proofs.Ytaciigegbgnadaa
open Go Tx Go.RowKit
set_option linter.unusedSimpArgs false
set_option linter.unusedVariables false

/-- Is a place on one of the points, or on one of the first beams? -/
def hasB (pn : Nat) (b a : Int) (n : Int) : Bool := if b = -1 then inB a 0 (pn - 1) else inB b 0 (n - 1) && inB a 0 60

set_option maxRecDepth 100000 in
theorem has78_ok (r : Rig) (b a n : Int) (w : World) (hp : r.pn ≤ 1000000) (hn : 0 ≤ n ∧ n ≤ 1000000) :
    Calls Try.prog 78 #[r.v, .agg #[iv b, iv a], iv n] w fun e w' => e = .returned (.bool (hasB r.pn b a n)) ∧ Below w.heap.size w w' := by
  obtain ⟨po, pn, pc, bo, bn, bc, f0, f1, f2, lo, ln, lc⟩ := r
  dsimp only at hp ⊢
  refine calls_val env mixed Try.func78 has78 Try.ntmps78 [.agg #[.slice po pn pc, .slice bo bn bc, iv f0, iv f1, iv f2, .slice lo ln lc], .agg #[iv b, iv a], iv n] (by simp) ?_
  unfold hasB
  by_cases hb : b = -1
  · rw [if_pos hb]
    repeat'
     conv => whnf
     first
      | refine zA ?_ | refine zB ?_ | refine zC ?_ | refine zD ?_ | refine zE ?_ | refine zF ?_ | refine zG ?_ | refine zH ?_ | refine zI ?_ | refine splT ?_ | refine splF ?_ | refine splNot ?_
      | ((first | refine splIn (fun hc => ?_) (fun hc => ?_) | refine splD (fun hc => ?_) (fun hc => ?_) | refine splE (fun hc => ?_) (fun hc => ?_) | refine splNE (fun hc => ?_) (fun hc => ?_)) <;> first | (exfalso; omega) | (exfalso; dsimp only at hc; omega) | skip)
      | ((with_reducible show CallEv _ _ 56 _ _ _ _ _); refine callE (k := 56) (fun β w' hbw => within_ok _ _ _ _) ?_)
    all_goals first | (exfalso; omega) | skip
    all_goals exact ⟨fun β => congrArg Value.bool (by simp [inB, *]), fun w' h => h⟩
  · rw [if_neg hb]
    repeat'
     conv => whnf
     first
      | refine zA ?_ | refine zB ?_ | refine zC ?_ | refine zD ?_ | refine zE ?_ | refine zF ?_ | refine zG ?_ | refine zH ?_ | refine zI ?_ | refine splT ?_ | refine splF ?_ | refine splNot ?_
      | ((first | refine splIn (fun hc => ?_) (fun hc => ?_) | refine splD (fun hc => ?_) (fun hc => ?_) | refine splE (fun hc => ?_) (fun hc => ?_) | refine splNE (fun hc => ?_) (fun hc => ?_)) <;> first | (exfalso; omega) | (exfalso; dsimp only at hc; omega) | skip)
      | ((with_reducible show CallEv _ _ 56 _ _ _ _ _); refine callE (k := 56) (fun β w' hbw => within_ok _ _ _ _) ?_)
    all_goals first | (exfalso; omega) | skip
    all_goals exact ⟨fun β => congrArg Value.bool (by simp [inB, *]), fun w' h => h⟩

def spL : List Int := [10, 12, 15, 20, 30, 60]
def spanB (b : Bm) : Bool := spL.contains (b.hi - b.lo)
set_option maxHeartbeats 1000000 in
set_option maxRecDepth 100000 in
theorem index_ok (A : List Int) (n : Int) (o : Option Addr) (c : Nat) (w : World) (hrd : Rd 1 iF (.slice o A.length c) A w) (hl : A.length ≤ 1000000) :
    Calls Try.prog 110 #[.slice o A.length c, iv n] w fun e w' => e = .returned (.bool (A.contains n)) ∧ Below w.heap.size w w' := by
  refine calls_val env mixed Try.func110 has110 Try.ntmps110 [.slice o A.length c, iv n] (by simp) ?_
  repeat'
   conv => whnf
   first
    | refine zA ?_ | refine zB ?_ | refine zC ?_ | refine zD ?_ | refine zE ?_ | refine zF ?_ | refine zG ?_ | refine zH ?_ | refine zI ?_ | refine splT ?_ | refine splF ?_ | refine splNot ?_
    | ((first | refine splIn (fun hc => ?_) (fun hc => ?_) | refine splD (fun hc => ?_) (fun hc => ?_) | refine splE (fun hc => ?_) (fun hc => ?_) | refine splNE (fun hc => ?_) (fun hc => ?_)) <;> first | (exfalso; omega) | (exfalso; dsimp only at hc; omega) | skip)
    | ((with_reducible show CallEv _ _ 112 _ _ _ _ _); refine callI env mixed 1000 [] Try.func112 has112 Try.ntmps112 (Nat.le_of_ble_eq_true rfl) rfl rfl rfl ?_)
  refine loopE (fun k : Nat => [(0, .v (.slice o A.length c)), (1, .v (iv n)), (7, .v (iv A.length)), (8, .v (iv k))]) (fun _ => []) (fun k => k ≤ A.length ∧ (A.take k).contains n = false) (fun k => A.length - k) 0 ⟨Nat.zero_le _, rfl⟩ ⟨rfl, rfl, rfl, rfl, trivial⟩ trivial (fun _ => ⟨rfl, rfl⟩) ?_
  intro k ⟨hk, hall⟩
  rcases Nat.lt_or_ge k A.length with hkl | hkl
  · obtain ⟨x, hx⟩ : ∃ b, A[k]? = some b := ⟨_, List.getElem?_eq_getElem hkl⟩
    obtain ⟨_, ad, rfl, _⟩ := hrd.ptr (by omega)
    have e0 := fun (w' : World) hw' => rd_ati (hrd.below (w' := w') hw') hx
    have ht : (A.take (k + 1)).contains n = decide (n = x) := by
      rw [List.take_add_one, hx]
      simp only [Option.toList_some, List.contains_eq_mem, List.mem_append, List.mem_singleton] at hall ⊢
      simp only [decide_eq_false_iff_not] at hall
      simp [hall]
    by_cases hnx : x = n
    · have hy : A.contains n = true := by
        rw [List.contains_eq_mem, decide_eq_true_eq]
        exact hnx ▸ List.mem_of_getElem? hx
      rw [hy]
      repeat'
       conv => whnf
       first
        | refine zA ?_ | refine zB ?_ | refine zC ?_ | refine zD ?_ | refine zE ?_ | refine zF ?_ | refine zG ?_ | refine zH ?_ | refine zI ?_ | refine splT ?_ | refine splF ?_ | refine splNot ?_
        | ((first | refine splIn (fun hc => ?_) (fun hc => ?_) | refine splD (fun hc => ?_) (fun hc => ?_) | refine splE (fun hc => ?_) (fun hc => ?_) | refine splNE (fun hc => ?_) (fun hc => ?_)) <;> first | (exfalso; omega) | (exfalso; dsimp only at hc; omega) | skip)
        | refine Exists.intro (α := List Value) [iv x] ⟨⟨rfl, fun w' hw' => e0 w' hw'⟩, ?_⟩
      all_goals first | (exfalso; omega) | exact ⟨fun β => rfl, fun w' h => h⟩
    · have hz : 0 = 0 := rfl
      repeat'
       conv => whnf
       first
        | refine zA ?_ | refine zB ?_ | refine zC ?_ | refine zD ?_ | refine zE ?_ | refine zF ?_ | refine zG ?_ | refine zH ?_ | refine zI ?_ | refine splT ?_ | refine splF ?_ | refine splNot ?_
        | ((first | refine splIn (fun hc => ?_) (fun hc => ?_) | refine splD (fun hc => ?_) (fun hc => ?_) | refine splE (fun hc => ?_) (fun hc => ?_) | refine splNE (fun hc => ?_) (fun hc => ?_)) <;> first | (exfalso; omega) | (exfalso; dsimp only at hc; omega) | skip)
        | refine Exists.intro (α := List Value) [iv x] ⟨⟨rfl, fun w' hw' => e0 w' hw'⟩, ?_⟩
      all_goals first | (exfalso; omega) | exact ⟨k + 1, ⟨by omega, by rw [ht]; exact decide_eq_false fun h => hnx h.symm⟩, by omega, Ent.weak rfl ⟨rfl, rfl, rfl, rfl, trivial⟩ trivial fun _ h => h⟩
  · rw [List.take_of_length_le hkl] at hall
    rw [hall]
    repeat'
     conv => whnf
     first
      | refine zA ?_ | refine zB ?_ | refine zC ?_ | refine zD ?_ | refine zE ?_ | refine zF ?_ | refine zG ?_ | refine zH ?_ | refine zI ?_ | refine splT ?_ | refine splF ?_ | refine splNot ?_
      | ((first | refine splIn (fun hc => ?_) (fun hc => ?_) | refine splD (fun hc => ?_) (fun hc => ?_) | refine splE (fun hc => ?_) (fun hc => ?_) | refine splNE (fun hc => ?_) (fun hc => ?_)) <;> first | (exfalso; omega) | (exfalso; dsimp only at hc; omega) | skip)
    all_goals first | (exfalso; omega) | exact ⟨fun β => rfl, fun w' h => h⟩
set_option maxRecDepth 100000 in
theorem span_ok (b : Bm) (w : World) (h1 : -1000000 ≤ b.lo ∧ b.lo ≤ 1000000) (h2 : -1000000 ≤ b.hi ∧ b.hi ≤ 1000000) :
    Calls Try.prog 105 #[.agg #[iv b.lo, iv b.hi, iv b.ab, iv b.aa, iv b.bb, iv b.ba, iv b.wt, iv b.cap]] w fun e w' => e = .returned (.bool (spanB b)) ∧ Below w.heap.size w w' := by
  obtain ⟨lo, hi, ab, aa, bb, ba, wt, cap⟩ := b
  dsimp only at h1 h2 ⊢
  refine calls_val env mixed Try.func105 has105 Try.ntmps105 [.agg #[iv lo, iv hi, iv ab, iv aa, iv bb, iv ba, iv wt, iv cap]] (by simp) ?_
  repeat'
   conv => whnf
   first
    | refine zA ?_ | refine zB ?_ | refine zC ?_ | refine zD ?_ | refine zE ?_ | refine zF ?_ | refine zG ?_ | refine zH ?_ | refine zI ?_ | refine splT ?_ | refine splF ?_ | refine splNot ?_
    | ((first | refine splIn (fun hc => ?_) (fun hc => ?_) | refine splD (fun hc => ?_) (fun hc => ?_) | refine splE (fun hc => ?_) (fun hc => ?_) | refine splNE (fun hc => ?_) (fun hc => ?_)) <;> first | (exfalso; omega) | (exfalso; dsimp only at hc; omega) | skip)
    | ((with_reducible show CallEv _ _ 110 _ _ _ _ _); refine callM (k := 110) [1] (fun β w' hbk hbw => index_ok spL (hi - lo) _ 6 w' (Rd.of_cells (sz := 1) (f := iF) (bs := spL) (fun _ => rfl) rfl (hbk 1 (by simp) _ rfl)) (by decide)) ?_)
  all_goals first | exact ⟨fun β => rfl, fun w' h => h⟩
end Go.Proofs.Ytaciigegbgnadaa

/- An engine arm that lacked: an element of an array that is a value. -/
namespace Go.Proofs.Ytaciigegbgnadaa.Tx
open Go Go.RowKit
set_option linter.unusedSimpArgs false
set_option linter.unusedVariables false

theorem idxE {P : Program} (T : Env P) {dst : Option Tmp} {ty : TypeId} {pos : String} {after : Array Edge} {gd : Option (Nat × Bool)} {gs : List Nat} {σ : Sg} {K : Ef → Prop} {t e n : Nat} {x ix : Operand} {s0 s : SV} {k : IntKind} {z : Int}
    {sz : Nat} {zr : List Value} {by_ : Nat} {ti : TI} (hx : gv σ x = some s0) (hix : gv σ ix = some (.v (.int k z))) (ht : T.ty t = some ⟨sz, zr, by_, .arr n e⟩) (he : T.ty e = some ti) (h01 : 0 ≤ z ∧ z < n)
    (hag : s0.isAgg = true) (hlen : ((s0.cells.drop (z.toNat * ti.size)).take ti.size).length = ti.size)
    (hs : (ti.kind.agg = true ∧ s = .agg ((s0.cells.drop (z.toNat * ti.size)).take ti.size)) ∨ (ti.kind.agg = false ∧ (s0.cells.drop (z.toNat * ti.size)).take ti.size = [s]))
    (hB : efB σ ⟨s, [], [], gs ++ (os x ++ os ix), []⟩ = true) (hK : K ⟨s, [], [], gs ++ (os x ++ os ix), []⟩) : OpEv P ⟨dst, .index t x ix, ty, pos, after, gd⟩ gs σ K := by
  refine .mk _ hB (fun k hk => by simp [hk]) rfl (runOK_pure fun β a w hss => ?_) hK
  have e1 := gv_eval hss hx (fun k hk => by simp [hk])
  have e2 := gv_eval hss hix (fun k hk => by simp [hk])
  have hu := under_arr (T.tok t _ ht) rfl
  have hsz := (T.tok e ti he).run_sizeOf w
  obtain ⟨cs, hcs, hcs'⟩ : ∃ cs : List Value, s0.c β = .agg cs.toArray ∧ SV.cs β s0.cells = cs := by
    cases s0 with
    | agg l => exact ⟨_, rfl, rfl⟩
    | v v =>
      cases v with
      | agg c => exact ⟨c.toList, rfl, by simp only [SV.cells]; exact cs_v β _⟩
      | _ => cases hag
    | _ => cases hag
  have hp := run_part (P := P) (T.tok e ti he) (cs := cs) (off := z.toNat * ti.size) (w := w) (β := β) (l := (s0.cells.drop (z.toNat * ti.size)).take ti.size) (s := s)
    (by rw [← hcs', SV.cs_eq, SV.cs_eq, List.map_take, List.map_drop]) hlen hs
  simp only [execOp, Instr.index, e1, e2, hcs, SV.c, asIntOf, Sem.run_bind, Sem.run_pure, Result.andThen_ok, Go.run_underlying hu w, h01.1, h01.2, and_self, if_true, hsz, hp]
theorem idxS {P : Program} (T : Env P) {dst : Option Tmp} {ty : TypeId} {pos : String} {after : Array Edge} {gd : Option (Nat × Bool)} {gs : List Nat} {σ : Sg} {K : Ef → Prop} {KF : Option KT} {t e n : Nat} {x ix : Operand} {s0 s : SV} {k : IntKind} {z : Int}
    {sz : Nat} {zr : List Value} {by_ : Nat} {ti : TI} (hx : gv σ x = some s0) (hix : gv σ ix = some (.v (.int k z))) (ht : T.ty t = some ⟨sz, zr, by_, .arr n e⟩) (he : T.ty e = some ti) (h01 : 0 ≤ z ∧ z < n)
    (hag : s0.isAgg = true) (hlen : ((s0.cells.drop (z.toNat * ti.size)).take ti.size).length = ti.size)
    (hs : (ti.kind.agg = true ∧ s = .agg ((s0.cells.drop (z.toNat * ti.size)).take ti.size)) ∨ (ti.kind.agg = false ∧ (s0.cells.drop (z.toNat * ti.size)).take ti.size = [s]))
    (hB : efB σ ⟨s, [], [], gs ++ (os x ++ os ix), []⟩ = true) (hK : K ⟨s, [], [], gs ++ (os x ++ os ix), []⟩) : OpEvS P ⟨dst, .index t x ix, ty, pos, after, gd⟩ gs σ K KF := by
  refine .mk _ hB (fun k hk => by simp [hk]) rfl (runOK_pure fun β a w hss => ?_) hK
  have e1 := gv_eval hss hx (fun k hk => by simp [hk])
  have e2 := gv_eval hss hix (fun k hk => by simp [hk])
  have hu := under_arr (T.tok t _ ht) rfl
  have hsz := (T.tok e ti he).run_sizeOf w
  obtain ⟨cs, hcs, hcs'⟩ : ∃ cs : List Value, s0.c β = .agg cs.toArray ∧ SV.cs β s0.cells = cs := by
    cases s0 with
    | agg l => exact ⟨_, rfl, rfl⟩
    | v v =>
      cases v with
      | agg c => exact ⟨c.toList, rfl, by simp only [SV.cells]; exact cs_v β _⟩
      | _ => cases hag
    | _ => cases hag
  have hp := run_part (P := P) (T.tok e ti he) (cs := cs) (off := z.toNat * ti.size) (w := w) (β := β) (l := (s0.cells.drop (z.toNat * ti.size)).take ti.size) (s := s)
    (by rw [← hcs', SV.cs_eq, SV.cs_eq, List.map_take, List.map_drop]) hlen hs
  simp only [execOp, Instr.index, e1, e2, hcs, SV.c, asIntOf, Sem.run_bind, Sem.run_pure, Result.andThen_ok, Go.run_underlying hu w, h01.1, h01.2, and_self, if_true, hsz, hp]

/-- The whole of an array that lies in an own block, as a slice. -/
theorem slS {P : Program} (T : Env P) {dst : Option Tmp} {ty : TypeId} {pos : String} {after : Array Edge} {gd : Option (Nat × Bool)} {gs : List Nat} {σ : Sg} {K : Ef → Prop} {KF : Option KT} {t e n : Nat} {x : Operand} {i o : Nat}
    {sz : Nat} {zr : List Value} {by_ : Nat} {ti : TI} (hx : gv σ x = some (.ptr i o)) (ht : T.ty t = some ⟨sz, zr, by_, .arr n e⟩) (he : T.ty e = some ti)
    (hB : efB σ ⟨.sl i o n n, [], [], gs ++ os x, []⟩ = true) (hK : K ⟨.sl i o n n, [], [], gs ++ os x, []⟩) : OpEvS P ⟨dst, .slice t x none none none, ty, pos, after, gd⟩ gs σ K KF := by
  refine .mk _ hB (fun k hk => by simp [hk]) rfl (runOK_pure fun β a w hss => ?_) hK
  have e1 := gv_eval hss hx (fun k hk => by simp [hk])
  have hu := under_arr (T.tok t _ ht) rfl
  have hsz := (T.tok e ti he).run_sizeOf w
  simp only [execOp, Instr.sliceAt, Option.map_none, e1, SV.c, Sem.run_bind, Sem.run_pure, Result.andThen_ok, Go.run_underlying hu w, Instr.sureAddr, Instr.sliceBounds, hsz, own_add, Nat.zero_mul, Nat.add_zero, Nat.sub_zero, ite_self]
end Go.Proofs.Ytaciigegbgnadaa.Tx

/- A row shared out to a beam's two hangers: what part returns. -/
namespace Go.Proofs.Ytaciigegbgnadaa
open Go Tx Go.RowKit
set_option linter.unusedSimpArgs false
set_option linter.unusedVariables false

/-- What the second hanger bears of a row that hangs at a place. -/
def rgt (lo hi a : Int) (f : Row) : Row := fun i => (f i).tdiv (hi - lo) * (a - lo)
def lft (lo hi a : Int) (f : Row) : Row := fun i => f i - rgt lo hi a f i
def zr : Row := fun _ => 0
theorem quoT {k : IntKind} {a b : Int} {K : Int → Prop} (h1 : b ≠ 0) (h2 : IR k (a.tdiv b)) (h : K (a.tdiv b)) : ∃ q : Int, (b ≠ 0 ∧ a.tdiv b = q ∧ IR k q) ∧ K q := ⟨_, ⟨h1, rfl, h2⟩, h⟩
theorem tdiv_bd {a b B : Int} (h1 : -B ≤ a ∧ a ≤ B) (hb : 1 ≤ b) : -B ≤ a.tdiv b ∧ a.tdiv b ≤ B := by
  have h : (a.tdiv b).natAbs = a.natAbs / b.natAbs := Int.natAbs_tdiv a b
  have h2 : (a.natAbs / b.natAbs) ≤ a.natAbs := Nat.div_le_self _ _
  generalize a.tdiv b = q at *
  generalize a.natAbs / b.natAbs = d at *
  omega
theorem mul_bd {a b : Int} (h1 : -10000000000000000 ≤ a ∧ a ≤ 10000000000000000) (h2 : -60 ≤ b ∧ b ≤ 60) : -600000000000000000 ≤ a * b ∧ a * b ≤ 600000000000000000 := by
  have h := Int.natAbs_mul a b
  have h3 : a.natAbs * b.natAbs ≤ 10000000000000000 * 60 := Nat.mul_le_mul (by omega) (by omega)
  omega

set_option maxHeartbeats 4000000 in
set_option maxRecDepth 100000 in
theorem part_ok (b : Bm) (f : Row) (a : Int) (w : World) (hf : rwB f) (hs : 1 ≤ b.hi - b.lo ∧ b.hi - b.lo ≤ 60) (hl : 0 ≤ b.lo ∧ b.lo ≤ 60) (ha : 0 ≤ a ∧ a ≤ 60) :
    Calls Try.prog 93 #[.agg #[iv b.lo, iv b.hi, iv b.ab, iv b.aa, iv b.bb, iv b.ba, iv b.wt, iv b.cap], .agg (rwL f).toArray, iv a] w fun e w' => e = .returned (.tuple #[.agg (rwL (lft b.lo b.hi a f)).toArray, .agg (rwL (rgt b.lo b.hi a f)).toArray]) ∧ Below w.heap.size w w' := by
  obtain ⟨lo, hi, ab, aa, bb, ba, wt, cap⟩ := b
  dsimp only at hs hl ⊢
  refine calls_val env mixed Try.func93 has93 Try.ntmps93 [.agg #[iv lo, iv hi, iv ab, iv aa, iv bb, iv ba, iv wt, iv cap], .agg (rwL f).toArray, iv a] (by simp) ?_
  repeat'
   conv => whnf
   first
    | refine zA ?_ | refine zB ?_ | refine zC ?_ | refine zD ?_ | refine zE ?_ | refine zF ?_ | refine zG ?_ | refine zH ?_ | refine zI ?_ | refine splT ?_ | refine splF ?_ | refine splNot ?_
    | ((first | refine splIn (fun hc => ?_) (fun hc => ?_) | refine splD (fun hc => ?_) (fun hc => ?_) | refine splE (fun hc => ?_) (fun hc => ?_) | refine splNE (fun hc => ?_) (fun hc => ?_)) <;> first | (exfalso; omega) | (exfalso; dsimp only at hc; omega) | skip)
  refine loopN 4 (fun m : Nat => [(2, .v (iv a)), (3, .ptr 0 0), (6, .ptr 2 0), (7, .ptr 3 0), (10, .agg (rwS f)), (11, .v (iv m))]) (fun m => [(0, .cells [.v (iv lo), .v (iv hi), .v (iv ab), .v (iv aa), .v (iv bb), .v (iv ba), .v (iv wt), .v (iv cap)] 107), (2, .cells (rwS (rwT m (lft lo hi a f) zr)) 142), (3, .cells (rwS (rwT m (rgt lo hi a f) zr)) 142)])
    (fun m => m ≤ 21) (fun m => 21 - m) 0 (by omega) ⟨rfl, rfl, rfl, rfl, rfl, rfl, trivial⟩ ⟨rfl, rfl, rfl, trivial⟩ (fun m _ => ⟨rfl, rfl⟩) ?_
  intro m hm
  have h1 := hf m
  have h2 := tdiv_bd h1 hs.1
  have h3 := mul_bd h2 (b := a - lo) (by omega)
  rcases m22 hm with rfl | rfl | rfl | rfl | rfl | rfl | rfl | rfl | rfl | rfl | rfl | rfl | rfl | rfl | rfl | rfl | rfl | rfl | rfl | rfl | rfl | rfl
  all_goals skip
  repeat'
   conv => whnf
   first
    | refine zA ?_ | refine zB ?_ | refine zC ?_ | refine zD ?_ | refine zE ?_ | refine zF ?_ | refine zG ?_ | refine zH ?_ | refine zI ?_ | refine splT ?_ | refine splF ?_ | refine splNot ?_
    | ((first | refine splIn (fun hc => ?_) (fun hc => ?_) | refine splD (fun hc => ?_) (fun hc => ?_) | refine splE (fun hc => ?_) (fun hc => ?_) | refine splNE (fun hc => ?_) (fun hc => ?_)) <;> first | (exfalso; omega) | (exfalso; dsimp only at hc; omega) | skip)
    | refine idxS env rfl rfl rfl rfl (And.intro (by omega) (by omega)) rfl rfl (.inr ⟨rfl, rfl⟩) rfl ?_
    | refine quoT (by omega) (And.intro (by omega) (by omega)) ?_
    | refine wrapE (And.intro (by omega) (by omega)) ?_
  all_goals conv => whnf
  · exact ⟨1, by omega, by omega, Ent.weak rfl ⟨rfl, rfl, rfl, rfl, rfl, rfl, trivial⟩ ⟨rfl, rfl, rfl, trivial⟩ fun _ h => h⟩
  · exact ⟨2, by omega, by omega, Ent.weak rfl ⟨rfl, rfl, rfl, rfl, rfl, rfl, trivial⟩ ⟨rfl, rfl, rfl, trivial⟩ fun _ h => h⟩
  · exact ⟨3, by omega, by omega, Ent.weak rfl ⟨rfl, rfl, rfl, rfl, rfl, rfl, trivial⟩ ⟨rfl, rfl, rfl, trivial⟩ fun _ h => h⟩
  · exact ⟨4, by omega, by omega, Ent.weak rfl ⟨rfl, rfl, rfl, rfl, rfl, rfl, trivial⟩ ⟨rfl, rfl, rfl, trivial⟩ fun _ h => h⟩
  · exact ⟨5, by omega, by omega, Ent.weak rfl ⟨rfl, rfl, rfl, rfl, rfl, rfl, trivial⟩ ⟨rfl, rfl, rfl, trivial⟩ fun _ h => h⟩
  · exact ⟨6, by omega, by omega, Ent.weak rfl ⟨rfl, rfl, rfl, rfl, rfl, rfl, trivial⟩ ⟨rfl, rfl, rfl, trivial⟩ fun _ h => h⟩
  · exact ⟨7, by omega, by omega, Ent.weak rfl ⟨rfl, rfl, rfl, rfl, rfl, rfl, trivial⟩ ⟨rfl, rfl, rfl, trivial⟩ fun _ h => h⟩
  · exact ⟨8, by omega, by omega, Ent.weak rfl ⟨rfl, rfl, rfl, rfl, rfl, rfl, trivial⟩ ⟨rfl, rfl, rfl, trivial⟩ fun _ h => h⟩
  · exact ⟨9, by omega, by omega, Ent.weak rfl ⟨rfl, rfl, rfl, rfl, rfl, rfl, trivial⟩ ⟨rfl, rfl, rfl, trivial⟩ fun _ h => h⟩
  · exact ⟨10, by omega, by omega, Ent.weak rfl ⟨rfl, rfl, rfl, rfl, rfl, rfl, trivial⟩ ⟨rfl, rfl, rfl, trivial⟩ fun _ h => h⟩
  · exact ⟨11, by omega, by omega, Ent.weak rfl ⟨rfl, rfl, rfl, rfl, rfl, rfl, trivial⟩ ⟨rfl, rfl, rfl, trivial⟩ fun _ h => h⟩
  · exact ⟨12, by omega, by omega, Ent.weak rfl ⟨rfl, rfl, rfl, rfl, rfl, rfl, trivial⟩ ⟨rfl, rfl, rfl, trivial⟩ fun _ h => h⟩
  · exact ⟨13, by omega, by omega, Ent.weak rfl ⟨rfl, rfl, rfl, rfl, rfl, rfl, trivial⟩ ⟨rfl, rfl, rfl, trivial⟩ fun _ h => h⟩
  · exact ⟨14, by omega, by omega, Ent.weak rfl ⟨rfl, rfl, rfl, rfl, rfl, rfl, trivial⟩ ⟨rfl, rfl, rfl, trivial⟩ fun _ h => h⟩
  · exact ⟨15, by omega, by omega, Ent.weak rfl ⟨rfl, rfl, rfl, rfl, rfl, rfl, trivial⟩ ⟨rfl, rfl, rfl, trivial⟩ fun _ h => h⟩
  · exact ⟨16, by omega, by omega, Ent.weak rfl ⟨rfl, rfl, rfl, rfl, rfl, rfl, trivial⟩ ⟨rfl, rfl, rfl, trivial⟩ fun _ h => h⟩
  · exact ⟨17, by omega, by omega, Ent.weak rfl ⟨rfl, rfl, rfl, rfl, rfl, rfl, trivial⟩ ⟨rfl, rfl, rfl, trivial⟩ fun _ h => h⟩
  · exact ⟨18, by omega, by omega, Ent.weak rfl ⟨rfl, rfl, rfl, rfl, rfl, rfl, trivial⟩ ⟨rfl, rfl, rfl, trivial⟩ fun _ h => h⟩
  · exact ⟨19, by omega, by omega, Ent.weak rfl ⟨rfl, rfl, rfl, rfl, rfl, rfl, trivial⟩ ⟨rfl, rfl, rfl, trivial⟩ fun _ h => h⟩
  · exact ⟨20, by omega, by omega, Ent.weak rfl ⟨rfl, rfl, rfl, rfl, rfl, rfl, trivial⟩ ⟨rfl, rfl, rfl, trivial⟩ fun _ h => h⟩
  · exact ⟨21, by omega, by omega, Ent.weak rfl ⟨rfl, rfl, rfl, rfl, rfl, rfl, trivial⟩ ⟨rfl, rfl, rfl, trivial⟩ fun _ h => h⟩
  · exact ⟨fun β => rfl, fun w' h => h⟩
end Go.Proofs.Ytaciigegbgnadaa

/- An engine arm that lacked: makeSlice of a known number of elements. -/
namespace Go.Proofs.Ytaciigegbgnadaa.Tx
open Go Go.RowKit
set_option linter.unusedSimpArgs false
set_option linter.unusedVariables false

theorem mkS {P : Program} (T : Env P) {dst : Option Tmp} {ty : TypeId} {pos : String} {after : Array Edge} {gd : Option (Nat × Bool)} {gs : List Nat} {σ : Sg} {K : Ef → Prop} {KF : Option KT} {t e : Nat} {x : Operand} (nb m : Nat)
    {sz : Nat} {zr : List Value} {by_ : Nat} {ti : TI} (hx : gv σ x = some (.v (iv m))) (ht : T.ty t = some ⟨sz, zr, by_, .slice e⟩) (he : T.ty e = some ti)
    (h01 : 0 < ti.size) (h03 : ti.zero.length = ti.size) (hm : m ≤ 100) (hby : ti.bytes ≤ 100000)
    (hB : efB σ ⟨.sl nb 0 m m, [nb], [(nb, .cells ((List.replicate m ti.zero).flatten.map .v) e)], gs ++ os x, []⟩ = true) (hK : K ⟨.sl nb 0 m m, [nb], [(nb, .cells ((List.replicate m ti.zero).flatten.map .v) e)], gs ++ os x, []⟩) :
    OpEvS P ⟨dst, .makeSlice t x x, ty, pos, after, gd⟩ gs σ K KF := by
  refine .mk _ hB (fun k hk => by simp [hk]) rfl (fun β a w hss => ?_) hK
  have e1 := gv_eval hss hx (fun k hk => by simp [hk])
  refine ⟨_, _, EfPost.newBlk (lts_v _ _), .inl ?_⟩
  rw [cs_v]
  obtain ⟨i, z, q1, q2, q3, q4, q5⟩ := (T.tok e ti he).row
  have hu := under_slice (T.tok t _ ht) rfl
  have hzc : (Array.range (m * ti.size)).map (fun i => z.cells[i % z.cells.size]!) = (List.replicate m ti.zero).flatten.toArray := by
    have hzz : z.cells = ti.zero.toArray := by rw [← q4]
    have hzs : z.cells.size = ti.size := by rw [hzz]; simpa using h03
    have := rep_zero (z := ti.zero) (by omega) m
    rw [h03] at this
    rw [← this, hzs, hzz]
  have hw1 : IntKind.i64.wrap (m : Int) = m := IR.wrap (And.intro (by omega) (by omega))
  simp only [execOp, Instr.makeSlice, Sem.run_bind, Go.run_underlying hu w, Result.andThen_ok, e1, SV.c, asInt, asIntOf, Sem.run_pure, hw1]
  have hti : (typeInfo e).run P w = .ok i w := by simp [typeInfo, q1]
  have hb2 : (i.bytes : Int) * m ≤ 100000 * 100 := by
    rw [q5]
    exact Int.mul_le_mul (by omega) (by omega) (by omega) (by omega)
  have c1 : (decide ((m : Int) < 0) || decide ((i.bytes : Int) * m > 2 ^ 48) || decide ((m : Int) < 0) || decide ((m : Int) > m)) = false := by
    simp; omega
  rw [hti]
  simp only [Result.andThen_ok, c1, Bool.false_eq_true, if_false, Sem.run_bind, askRoom, Int.toNat_natCast]
  have hroom : ¬ (m * i.bytes > roomBytes) := by
    have h2 : m * ti.bytes ≤ 100 * 100000 := Nat.mul_le_mul hm hby
    rw [q5]
    simp only [roomBytes]
    omega
  rw [if_neg hroom]
  simp only [Sem.run_pure, Result.andThen_ok, (T.tok e ti he).run_sizeOf w]
  by_cases hm0 : m * ti.size = 0
  · have hm00 : m = 0 := by
      rcases Nat.mul_eq_zero.1 hm0 with h | h
      · exact h
      · omega
    subst hm00
    rw [if_pos hm0]
    simp [newRow, Sem.run_bind, Sem.run_pure]
    congr 2
    exact Array.eq_empty_of_size_eq_zero (by simp)
  · rw [if_neg hm0]
    have hzr : (zeroValue e).run P w = .ok z w := by simp [zeroValue, typeInfo, q1, q3]
    simp only [Sem.run_bind, hzr, Sem.run_pure, Result.andThen_ok]
    rw [hzc]
    simp [newRow, SV.c]
end Go.Proofs.Ytaciigegbgnadaa.Tx

/- Engine arms that lacked: makeSlice of any number of elements; the beams of a rig: whether they are right. -/
namespace Go.Proofs.Ytaciigegbgnadaa.Tx
open Go Go.RowKit
set_option linter.unusedSimpArgs false
set_option linter.unusedVariables false

theorem mkO {P : Program} (T : Env P) {dst : Option Tmp} {ty : TypeId} {pos : String} {after : Array Edge} {gd : Option (Nat × Bool)} {gs : List Nat} {σ : Sg} {K : Ef → Prop} {KF : Option KT} {t e : Nat} {x : Operand} (nb m : Nat) (xs : List Value)
    {sz : Nat} {zr : List Value} {by_ : Nat} {ti : TI} (hx : gv σ x = some (.v (iv m))) (ht : T.ty t = some ⟨sz, zr, by_, .slice e⟩) (he : T.ty e = some ti)
    (h01 : 0 < ti.size) (h03 : ti.zero.length = ti.size) (hm : m ≤ 100) (hby : ti.bytes ≤ 100000) (hxs : xs = (List.replicate m ti.zero).flatten)
    (hB : efB σ ⟨.os nb (nb + 1) m, [nb, nb + 1], [(nb, .own (nb + 1) m ti.size xs e)], gs ++ os x, []⟩ = true) (hK : K ⟨.os nb (nb + 1) m, [nb, nb + 1], [(nb, .own (nb + 1) m ti.size xs e)], gs ++ os x, []⟩) :
    OpEvS P ⟨dst, .makeSlice t x x, ty, pos, after, gd⟩ gs σ K KF := by
  subst hxs
  refine .mk _ hB (fun k hk => by simp [hk]) rfl (fun β a w hss => ?_) hK
  have e1 := gv_eval hss hx (fun k hk => by simp [hk])
  have hzl : ((List.replicate m ti.zero).flatten).length = m * ti.size := by
    simp [List.length_flatten, h03]
  refine ⟨fun j => if j = nb then w.heap.size else if j = nb + 1 then m else β j, w.alloc (.cells ((List.replicate m ti.zero).flatten).toArray e), ⟨fun i hi => ?_, ⟨rfl, rfl, rfl, by show w.heap.size ≤ (w.heap.push _).size; rw [Array.size_push]; omega, fun b hb _ => ?_⟩, fun i bk hi => ?_, fun i hi hL => ?_, fun i hi j hj hL hL' hne => ?_⟩, .inl ?_⟩
  · simp only [List.mem_cons, List.not_mem_nil, or_false, not_or] at hi
    simp [hi.1, hi.2]
  · simp only [World.alloc, Array.getElem?_push]
    rw [if_neg (show ¬ b = w.heap.size by omega)]
  · simp only [List.mem_singleton, Prod.mk.injEq] at hi
    obtain ⟨rfl, rfl⟩ := hi
    have hn1 : ¬ (i + 1 = i) := by omega
    simp only [Blk.ok, if_true, if_neg hn1]
    refine ⟨hzl, .inr ⟨w.heap.size, m, _, rfl, Nat.zero_le _, ?_, Nat.le_refl _, by unfold maxLen; omega, by rw [List.size_toArray, hzl], ?_⟩⟩
    · show (w.heap.push _)[w.heap.size]? = _
      rw [Array.getElem?_push, if_pos rfl]
    · rw [← hzl, List.toList_toArray, List.take_length]
  · obtain ⟨bk, hbk, _⟩ := hL
    simp only [List.mem_singleton, Prod.mk.injEq] at hbk
    obtain ⟨rfl, _⟩ := hbk
    exact .inl (by simp)
  · obtain ⟨bk, hbk, _⟩ := hL
    obtain ⟨bk', hbk', _⟩ := hL'
    simp only [List.mem_singleton, Prod.mk.injEq] at hbk hbk'
    exact absurd (hbk.1.trans hbk'.1.symm) hne
  obtain ⟨i, z, q1, q2, q3, q4, q5⟩ := (T.tok e ti he).row
  have hu := under_slice (T.tok t _ ht) rfl
  have hzc : (Array.range (m * ti.size)).map (fun i => z.cells[i % z.cells.size]!) = (List.replicate m ti.zero).flatten.toArray := by
    have hzz : z.cells = ti.zero.toArray := by rw [← q4]
    have hzs : z.cells.size = ti.size := by rw [hzz]; simpa using h03
    have := rep_zero (z := ti.zero) (by omega) m
    rw [h03] at this
    rw [← this, hzs, hzz]
  have hw1 : IntKind.i64.wrap (m : Int) = m := IR.wrap (And.intro (by omega) (by omega))
  have hn1 : ¬ (nb + 1 = nb) := by omega
  simp only [execOp, Instr.makeSlice, Sem.run_bind, Go.run_underlying hu w, Result.andThen_ok, e1, SV.c, asInt, asIntOf, Sem.run_pure, hw1, if_true, if_neg hn1]
  have hti : (typeInfo e).run P w = .ok i w := by simp [typeInfo, q1]
  have hb2 : (i.bytes : Int) * m ≤ 100000 * 100 := by
    rw [q5]
    exact Int.mul_le_mul (by omega) (by omega) (by omega) (by omega)
  have c1 : (decide ((m : Int) < 0) || decide ((i.bytes : Int) * m > 2 ^ 48) || decide ((m : Int) < 0) || decide ((m : Int) > m)) = false := by
    simp; omega
  rw [hti]
  simp only [Result.andThen_ok, c1, Bool.false_eq_true, if_false, Sem.run_bind, askRoom, Int.toNat_natCast]
  have hroom : ¬ (m * i.bytes > roomBytes) := by
    have h2 : m * ti.bytes ≤ 100 * 100000 := Nat.mul_le_mul hm hby
    rw [q5]
    simp only [roomBytes]
    omega
  rw [if_neg hroom]
  simp only [Sem.run_pure, Result.andThen_ok, (T.tok e ti he).run_sizeOf w]
  by_cases hm0 : m * ti.size = 0
  · have hm00 : m = 0 := by
      rcases Nat.mul_eq_zero.1 hm0 with h | h
      · exact h
      · omega
    subst hm00
    rw [if_pos hm0]
    simp [newRow, Sem.run_bind, Sem.run_pure]
    congr 2
    exact Array.eq_empty_of_size_eq_zero (by simp)
  · rw [if_neg hm0]
    have hzr : (zeroValue e).run P w = .ok z w := by simp [zeroValue, typeInfo, q1, q3]
    simp only [Sem.run_bind, hzr, Sem.run_pure, Result.andThen_ok]
    rw [hzc]
    simp [newRow, SV.c]

/-- `loopN` with two things that change. -/
theorem loopN2 {V : Sg → (Exit → Sg → Prop) → Prop} {nt nb : Nat} {t0 : List (Nat × SV)} {m0 : List (Nat × Blk)} {h : World → Prop} {z : Gz} {Φ : Exit → Sg → Prop} {α β : Type} (nb' : Nat) (t : α → β → List (Nat × SV)) (m : α → β → List (Nat × Blk))
    (pre : α → β → Prop) (μ : α → β → Nat) (a0 : α) (b0 : β) (h0 : pre a0 b0) (ht : TSub t0 (t a0 b0)) (hm : MSub m0 (m a0 b0)) (hok : ∀ a b, pre a b → tB nt nb' (t a b) = true ∧ mB nb' (m a b) = true)
    (hr : ∀ a b, pre a b → V ⟨nt, t a b, m a b, nb', h, z⟩ (seqΦ (fun σ' => ∃ a' b', pre a' b' ∧ μ a' b' < μ a b ∧ Ent σ' ⟨nt, t a' b', m a' b', nb', h, z⟩) Φ)) (hz : gB nb' z.g = true := by rfl) : LoopEv V ⟨nt, t0, m0, nb, h, z⟩ Φ :=
  loopN nb' (fun x : α × β => t x.1 x.2) (fun x => m x.1 x.2) (fun x => pre x.1 x.2) (fun x => μ x.1 x.2) (a0, b0) h0 ht hm (fun x hx => hok x.1 x.2 hx) (hz := hz) fun x hx => by
    have := hr x.1 x.2 hx
    rwa [show (fun σ' => ∃ a' b', pre a' b' ∧ μ a' b' < μ x.1 x.2 ∧ Ent σ' ⟨nt, t a' b', m a' b', nb', h, z⟩) = (fun σ' => ∃ x' : α × β, pre x'.1 x'.2 ∧ μ x'.1 x'.2 < μ x.1 x.2 ∧ Ent σ' ⟨nt, t x'.1 x'.2, m x'.1 x'.2, nb', h, z⟩) from
      funext fun σ' => propext ⟨fun ⟨a, b, h⟩ => ⟨(a, b), h⟩, fun ⟨y, h⟩ => ⟨y.1, y.2, h⟩⟩] at this
end Go.Proofs.Ytaciigegbgnadaa.Tx
