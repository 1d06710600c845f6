/- Valid schools: what subjects, valid, CheckSchool and the reference's rising return. -/
import Derived.Test.YtkbfcofifhngfaaGreatCC
namespace Go.Proofs.YtkbfcofifhngfaaGreat
open Go Tx Go.RowKit
set_option linter.unusedSimpArgs false
set_option linter.unusedVariables false

/-- Is it so of all numbers below k? -/
def alN (f : Nat → Bool) : Nat → Bool
  | 0 => true
  | k + 1 => alN f k && f k
theorem alN_iff {f : Nat → Bool} : ∀ {n}, alN f n = true ↔ ∀ i, i < n → f i = true
  | 0 => by simp [alN]
  | n + 1 => by
    rw [alN, Bool.and_eq_true, alN_iff]
    constructor
    · intro h i hi
      by_cases e : i = n
      · subst e; exact h.2
      · exact h.1 i (by omega)
    · exact fun h => ⟨fun i hi => h i (by omega), h n (by omega)⟩
theorem alN_no {f : Nat → Bool} {n i : Nat} (hi : i < n) (h : f i = false) : alN f n = false := by
  rw [Bool.eq_false_iff]
  intro hc
  have := alN_iff.1 hc i hi
  rw [h] at this; cases this
theorem alN_and (f g : Nat → Bool) : ∀ n, alN (fun i => f i && g i) n = (alN f n && alN g n)
  | 0 => rfl
  | n + 1 => by
    rw [alN, alN, alN, alN_and f g n]
    cases alN f n <;> cases alN g n <;> cases f n <;> cases g n <;> rfl
theorem alN_congr {f g : Nat → Bool} : ∀ n, (∀ i, i < n → f i = g i) → alN f n = alN g n
  | 0, _ => rfl
  | n + 1, h => by rw [alN, alN, alN_congr n fun i hi => h i (by omega), h n (by omega)]
theorem evB_alN (l : List Int) (lo hi : Int) : evB l lo hi = alN (fun i => inB (l.getD i 0) lo hi) l.length := by
  rw [Bool.eq_iff_iff, alN_iff]
  unfold evB
  rw [List.all_eq_true]
  constructor
  · intro h i hi
    rw [List.getD_eq_getElem?_getD, List.getElem?_eq_getElem hi]
    exact h _ (List.getElem_mem hi)
  · intro h x hx
    obtain ⟨i, hi, rfl⟩ := List.getElem_of_mem hx
    have := h i hi
    rwa [List.getD_eq_getElem?_getD, List.getElem?_eq_getElem hi] at this
theorem getD_at {l : List Int} {i : Nat} {x : Int} (h : l[i]? = some x) : l.getD i 0 = x := by rw [List.getD_eq_getElem?_getD, h]; rfl
/-- Does number i rise above the one before it? -/
def riA (l : List Int) (i : Nat) : Bool := decide (i = 0) || decide (l.getD (i - 1) 0 < l.getD i 0)
/-- Are these subjects, rising, at least one? -/
def subB (su : Int) (l : List Int) : Bool := decide (0 < l.length) && (evB l 0 (su - 1) && alN (riA l) l.length)
def grB (su : Int) (l : List Int) : Bool := decide ((l.length : Int) = su) && evB l 0 20
def teB (su : Int) (t : List Int × Int) : Bool := subB su t.1 && inB t.2 0 40
def scOk (s : SD) : Bool := inB s.sl 1 40 && (inB s.ro 1 6 && (inB s.su 1 6 && (decide (s.G.length ≤ 8) && (decide (s.T.length ≤ 8) && (s.G.all (grB s.su) && s.T.all (teB s.su))))))
theorem scOk_iff {s : SD} : scOk s = true ↔ (1 ≤ s.sl ∧ s.sl ≤ 40) ∧ (1 ≤ s.ro ∧ s.ro ≤ 6) ∧ (1 ≤ s.su ∧ s.su ≤ 6) ∧ s.G.length ≤ 8 ∧ s.T.length ≤ 8 ∧ s.G.all (grB s.su) = true ∧ s.T.all (teB s.su) = true := by
  unfold scOk
  simp only [Bool.and_eq_true, inB_iff, decide_eq_true_eq]

set_option maxHeartbeats 2000000 in
set_option maxRecDepth 100000 in
theorem subjects_ok (s : Sc) (l : List Int) (o : Option Addr) (c : Nat) (w : World) (hrd : Rd 1 iF (.slice o l.length c) l w) (hl : l.length ≤ 1000000) (hs : -1000000 ≤ s.su ∧ s.su ≤ 1000000) :
    Calls Tryz.prog 63 #[s.v, .slice o l.length c] w fun e w' => e = .returned (.bool (subB s.su l)) ∧ Below w.heap.size w w' := by
  obtain ⟨sl, ro, su, go, gc, G, to, tc, T⟩ := s
  dsimp only at hs ⊢
  have hsp : subB su l = (decide (0 < l.length) && alN (fun i => inB (l.getD i 0) 0 (su - 1) && riA l i) l.length) := by
    rw [subB, alN_and, evB_alN]
  rw [hsp]
  refine calls_val env mixed Tryz.func63 has63 Tryz.ntmps63 [.agg #[iv sl, iv ro, iv su, .slice go G.length gc, .slice to T.length tc], .slice o l.length c] (by simp) ?_
  repeat'
   conv => whnf
   first
    | refine zA ?_ | refine zB ?_ | refine zC ?_ | refine zD ?_ | refine zE ?_ | refine zF ?_ | refine zG ?_ | refine zH ?_ | refine zJ ?_ | refine zI ?_ | refine splT ?_ | refine splF ?_ | refine splNot ?_
    | ((first | refine splIn (fun hc => ?_) (fun hc => ?_) | refine splD (fun hc => ?_) (fun hc => ?_) | refine splE (fun hc => ?_) (fun hc => ?_) | refine splNE (fun hc => ?_) (fun hc => ?_)) <;> first | (exfalso; omega) | (exfalso; dsimp only at hc; omega) | skip)
  refine loopE (fun k : Nat => [(1, .v (.slice o l.length c)), (2, .ptr 0 0), (7, .v (.slice o l.length c)), (8, .v (iv l.length)), (9, .v (iv k))]) (fun _ => [(0, .cells [.v (iv sl), .v (iv ro), .v (iv su), .v (.slice go G.length gc), .v (.slice to T.length tc)] 34)])
    (fun k => k ≤ l.length ∧ alN (fun i => inB (l.getD i 0) 0 (su - 1) && riA l i) k = true) (fun k => l.length - k) 0 ⟨Nat.zero_le _, rfl⟩ ⟨rfl, rfl, rfl, rfl, rfl, trivial⟩ ⟨rfl, trivial⟩ (fun _ => ⟨rfl, rfl⟩) ?_
  intro k ⟨hk, hall⟩
  rcases Nat.lt_or_ge k l.length with hkl | hkl
  · obtain ⟨x, hx⟩ : ∃ b, l[k]? = some b := ⟨_, List.getElem?_eq_getElem hkl⟩
    obtain ⟨_, ad, rfl, _⟩ := hrd.ptr (by omega)
    have e0 := fun (w' : World) hw' => rd_ati (hrd.below (w' := w') hw') hx
    have hno := fun (h : (inB (l.getD k 0) 0 (su - 1) && riA l k) = false) => alN_no (f := fun i => inB (l.getD i 0) 0 (su - 1) && riA l i) hkl h
    have hnx : alN (fun i => inB (l.getD i 0) 0 (su - 1) && riA l i) (k + 1) = (inB (l.getD k 0) 0 (su - 1) && riA l k) := by rw [alN, hall, Bool.true_and]
    rw [getD_at hx] at hno hnx
    have hri : riA l k = (decide (k = 0) || decide (l.getD (k - 1) 0 < x)) := by unfold riA; rw [getD_at hx]
    rw [hri] at hno hnx
    have c61 := fun w' => within_ok x 0 (su - 1) w'
    cases hw : inB x 0 (su - 1) with
    | false =>
      rw [hw] at c61 hno
      rw [hno rfl, Bool.and_false]
      repeat'
       conv => whnf
       first
        | refine zA ?_ | refine zB ?_ | refine zC ?_ | refine zD ?_ | refine zE ?_ | refine zF ?_ | refine zG ?_ | refine zH ?_ | refine zJ ?_ | refine zI ?_ | refine splT ?_ | refine splF ?_ | refine splNot ?_
        | ((first | refine splIn (fun hc => ?_) (fun hc => ?_) | refine splD (fun hc => ?_) (fun hc => ?_) | refine splE (fun hc => ?_) (fun hc => ?_) | refine splNE (fun hc => ?_) (fun hc => ?_)) <;> first | (exfalso; omega) | (exfalso; dsimp only at hc; omega) | skip)
        | refine Exists.intro (α := List Value) [iv x] ⟨⟨rfl, fun w' hw' => e0 w' hw'⟩, ?_⟩
        | ((with_reducible show CallEv _ _ 61 _ _ _ _ _); refine callE (k := 61) (fun β w' hbw => c61 _) ?_)
      all_goals first | (exfalso; omega) | exact ⟨fun β => rfl, fun w' h => h⟩
    | true =>
      rw [hw] at c61 hno hnx
      rw [Bool.true_and] at hno hnx
      by_cases hk0 : k = 0
      · subst hk0
        repeat'
         conv => whnf
         first
          | refine zA ?_ | refine zB ?_ | refine zC ?_ | refine zD ?_ | refine zE ?_ | refine zF ?_ | refine zG ?_ | refine zH ?_ | refine zJ ?_ | refine zI ?_ | refine splT ?_ | refine splF ?_ | refine splNot ?_
          | ((first | refine splIn (fun hc => ?_) (fun hc => ?_) | refine splD (fun hc => ?_) (fun hc => ?_) | refine splE (fun hc => ?_) (fun hc => ?_) | refine splNE (fun hc => ?_) (fun hc => ?_)) <;> first | (exfalso; omega) | (exfalso; dsimp only at hc; omega) | skip)
          | refine Exists.intro (α := List Value) [iv x] ⟨⟨rfl, fun w' hw' => e0 w' hw'⟩, ?_⟩
          | ((with_reducible show CallEv _ _ 61 _ _ _ _ _); refine callE (k := 61) (fun β w' hbw => c61 _) ?_)
        all_goals first | (exfalso; omega) | exact ⟨0 + 1, ⟨by omega, by rw [hnx]; rfl⟩, by omega, Ent.weak rfl ⟨rfl, rfl, rfl, rfl, rfl, trivial⟩ ⟨rfl, trivial⟩ fun _ h => h⟩
      · obtain ⟨y, hy⟩ : ∃ b, l[k - 1]? = some b := ⟨_, List.getElem?_eq_getElem (by omega)⟩
        rw [getD_at hy, decide_eq_false hk0, Bool.false_or] at hno hnx
        have e1 := fun (w' : World) hw' => rd_atz (hrd.below (w' := w') hw') hy ((k : Int) - 1) (by omega)
        by_cases hlt : y < x
        · rw [decide_eq_true hlt] at hnx
          repeat'
           conv => whnf
           first
            | refine zA ?_ | refine zB ?_ | refine zC ?_ | refine zD ?_ | refine zE ?_ | refine zF ?_ | refine zG ?_ | refine zH ?_ | refine zJ ?_ | refine zI ?_ | refine splT ?_ | refine splF ?_ | refine splNot ?_
            | ((first | refine splIn (fun hc => ?_) (fun hc => ?_) | refine splD (fun hc => ?_) (fun hc => ?_) | refine splE (fun hc => ?_) (fun hc => ?_) | refine splNE (fun hc => ?_) (fun hc => ?_)) <;> first | (exfalso; omega) | (exfalso; dsimp only at hc; omega) | skip)
            | refine Exists.intro (α := List Value) [iv x] ⟨⟨rfl, fun w' hw' => e0 w' hw'⟩, ?_⟩
            | ((with_reducible show CallEv _ _ 61 _ _ _ _ _); refine callE (k := 61) (fun β w' hbw => c61 _) ?_)
            | refine Exists.intro (α := List Value) [iv y] ⟨⟨rfl, fun w' hw' => e1 w' hw'⟩, ?_⟩
          all_goals first | (exfalso; omega) | exact ⟨k + 1, ⟨by omega, hnx⟩, by omega, Ent.weak rfl ⟨rfl, rfl, rfl, rfl, rfl, trivial⟩ ⟨rfl, trivial⟩ fun _ h => h⟩
        · rw [hno (decide_eq_false hlt), Bool.and_false]
          repeat'
           conv => whnf
           first
            | refine zA ?_ | refine zB ?_ | refine zC ?_ | refine zD ?_ | refine zE ?_ | refine zF ?_ | refine zG ?_ | refine zH ?_ | refine zJ ?_ | refine zI ?_ | refine splT ?_ | refine splF ?_ | refine splNot ?_
            | ((first | refine splIn (fun hc => ?_) (fun hc => ?_) | refine splD (fun hc => ?_) (fun hc => ?_) | refine splE (fun hc => ?_) (fun hc => ?_) | refine splNE (fun hc => ?_) (fun hc => ?_)) <;> first | (exfalso; omega) | (exfalso; dsimp only at hc; omega) | skip)
            | refine Exists.intro (α := List Value) [iv x] ⟨⟨rfl, fun w' hw' => e0 w' hw'⟩, ?_⟩
            | ((with_reducible show CallEv _ _ 61 _ _ _ _ _); refine callE (k := 61) (fun β w' hbw => c61 _) ?_)
            | refine Exists.intro (α := List Value) [iv y] ⟨⟨rfl, fun w' hw' => e1 w' hw'⟩, ?_⟩
          all_goals first | (exfalso; omega) | exact ⟨fun β => rfl, fun w' h => h⟩
  · obtain rfl : k = l.length := by omega
    rw [hall, Bool.and_true]
    repeat'
     conv => whnf
     first
      | refine zA ?_ | refine zB ?_ | refine zC ?_ | refine zD ?_ | refine zE ?_ | refine zF ?_ | refine zG ?_ | refine zH ?_ | refine zJ ?_ | refine zI ?_ | refine splT ?_ | refine splF ?_ | refine splNot ?_
      | ((first | refine splIn (fun hc => ?_) (fun hc => ?_) | refine splD (fun hc => ?_) (fun hc => ?_) | refine splE (fun hc => ?_) (fun hc => ?_) | refine splNE (fun hc => ?_) (fun hc => ?_)) <;> first | (exfalso; omega) | (exfalso; dsimp only at hc; omega) | skip)
    all_goals first | (exfalso; omega) | exact ⟨fun β => congrArg Value.bool (by simp; try omega), fun w' h => h⟩
set_option maxHeartbeats 2000000 in
set_option maxRecDepth 100000 in
theorem rising_ok (su : Int) (l : List Int) (o : Option Addr) (c : Nat) (w : World) (hrd : Rd 1 iF (.slice o l.length c) l w) (hl : l.length ≤ 1000000) (hs : -1000000 ≤ su ∧ su ≤ 1000000) :
    Calls Tryz.prog 52 #[.slice o l.length c, iv su] w fun e w' => e = .returned (.bool (subB su l)) ∧ Below w.heap.size w w' := by
  have c51 := fun (w' : World) (hb : Below w.heap.size w w') => everyR_ok l o c 0 (su - 1) w' (hrd.below hb) hl
  refine calls_val env mixed Tryz.func52 has52 Tryz.ntmps52 [.slice o l.length c, iv su] (by simp) ?_
  by_cases hl0 : l.length = 0
  · have : subB su l = false := by unfold subB; rw [decide_eq_false (by omega), Bool.false_and]
    rw [this]
    repeat'
     conv => whnf
     first
      | refine zA ?_ | refine zB ?_ | refine zC ?_ | refine zD ?_ | refine zE ?_ | refine zF ?_ | refine zG ?_ | refine zH ?_ | refine zJ ?_ | refine zI ?_ | refine splT ?_ | refine splF ?_ | refine splNot ?_
      | ((first | refine splIn (fun hc => ?_) (fun hc => ?_) | refine splD (fun hc => ?_) (fun hc => ?_) | refine splE (fun hc => ?_) (fun hc => ?_) | refine splNE (fun hc => ?_) (fun hc => ?_)) <;> first | (exfalso; omega) | (exfalso; dsimp only at hc; omega) | skip)
    refine loopE (fun k : Nat => [(0, .v (.slice o l.length c)), (1, .v (iv su)), (5, .v (iv (1 + k)))]) (fun _ => []) (fun k => k ≤ 0) (fun k => l.length - k) 0 (Nat.le_refl _) ⟨rfl, rfl, rfl, trivial⟩ trivial (fun _ => ⟨rfl, rfl⟩) ?_
    intro k hk
    repeat'
     conv => whnf
     first
      | refine zA ?_ | refine zB ?_ | refine zC ?_ | refine zD ?_ | refine zE ?_ | refine zF ?_ | refine zG ?_ | refine zH ?_ | refine zJ ?_ | refine zI ?_ | refine splT ?_ | refine splF ?_ | refine splNot ?_
      | ((first | refine splIn (fun hc => ?_) (fun hc => ?_) | refine splD (fun hc => ?_) (fun hc => ?_) | refine splE (fun hc => ?_) (fun hc => ?_) | refine splNE (fun hc => ?_) (fun hc => ?_)) <;> first | (exfalso; omega) | (exfalso; dsimp only at hc; omega) | skip)
    all_goals first | (exfalso; omega) | exact ⟨fun β => rfl, fun w' h => h⟩
  have hsp : subB su l = (evB l 0 (su - 1) && alN (riA l) l.length) := by unfold subB; rw [decide_eq_true (by omega), Bool.true_and]
  rw [hsp]
  repeat'
   conv => whnf
   first
    | refine zA ?_ | refine zB ?_ | refine zC ?_ | refine zD ?_ | refine zE ?_ | refine zF ?_ | refine zG ?_ | refine zH ?_ | refine zJ ?_ | refine zI ?_ | refine splT ?_ | refine splF ?_ | refine splNot ?_
    | ((first | refine splIn (fun hc => ?_) (fun hc => ?_) | refine splD (fun hc => ?_) (fun hc => ?_) | refine splE (fun hc => ?_) (fun hc => ?_) | refine splNE (fun hc => ?_) (fun hc => ?_)) <;> first | (exfalso; omega) | (exfalso; dsimp only at hc; omega) | skip)
  refine loopE (fun k : Nat => [(0, .v (.slice o l.length c)), (1, .v (iv su)), (5, .v (iv (1 + k)))]) (fun _ => []) (fun k => 1 + k ≤ l.length ∧ alN (riA l) (1 + k) = true) (fun k => l.length - k) 0 ⟨by omega, rfl⟩ ⟨rfl, rfl, rfl, trivial⟩ trivial (fun _ => ⟨rfl, rfl⟩) ?_
  intro k ⟨hk, hall⟩
  rcases Nat.lt_or_ge (1 + k) l.length with hkl | hkl
  · obtain ⟨x, hx⟩ : ∃ b, l[1 + k]? = some b := ⟨_, List.getElem?_eq_getElem hkl⟩
    obtain ⟨y, hy⟩ : ∃ b, l[k]? = some b := ⟨_, List.getElem?_eq_getElem (by omega)⟩
    obtain ⟨_, ad, rfl, _⟩ := hrd.ptr (by omega)
    have e0 := fun (w' : World) hw' => rd_atz (hrd.below (w' := w') hw') hx (1 + (k : Int)) (by omega)
    have e1 := fun (w' : World) hw' => rd_atz (hrd.below (w' := w') hw') hy (1 + (k : Int) - 1) (by omega)
    have hri : riA l (1 + k) = decide (y < x) := by unfold riA; rw [decide_eq_false (by omega), Bool.false_or, Nat.add_sub_cancel_left, getD_at hx, getD_at hy]
    by_cases hlt : y < x
    · rw [decide_eq_true hlt] at hri
      have hnx : alN (riA l) (1 + (k + 1)) = true := by rw [show 1 + (k + 1) = (1 + k) + 1 from by omega, alN, hall, hri]; rfl
      repeat'
       conv => whnf
       first
        | refine zA ?_ | refine zB ?_ | refine zC ?_ | refine zD ?_ | refine zE ?_ | refine zF ?_ | refine zG ?_ | refine zH ?_ | refine zJ ?_ | refine zI ?_ | refine splT ?_ | refine splF ?_ | refine splNot ?_
        | ((first | refine splIn (fun hc => ?_) (fun hc => ?_) | refine splD (fun hc => ?_) (fun hc => ?_) | refine splE (fun hc => ?_) (fun hc => ?_) | refine splNE (fun hc => ?_) (fun hc => ?_)) <;> first | (exfalso; omega) | (exfalso; dsimp only at hc; omega) | skip)
        | refine Exists.intro (α := List Value) [iv x] ⟨⟨rfl, fun w' hw' => e0 w' hw'⟩, ?_⟩
        | refine Exists.intro (α := List Value) [iv y] ⟨⟨rfl, fun w' hw' => e1 w' hw'⟩, ?_⟩
      all_goals first | (exfalso; omega) | exact ⟨k + 1, ⟨by omega, hnx⟩, by omega, Ent.weak rfl ⟨rfl, rfl, by rw [show (1 : Int) + ((k + 1 : Nat) : Int) = 1 + (k : Int) + 1 from by omega]; rfl, trivial⟩ trivial fun _ h => h⟩
    · rw [decide_eq_false hlt] at hri
      rw [alN_no hkl hri, Bool.and_false]
      repeat'
       conv => whnf
       first
        | refine zA ?_ | refine zB ?_ | refine zC ?_ | refine zD ?_ | refine zE ?_ | refine zF ?_ | refine zG ?_ | refine zH ?_ | refine zJ ?_ | refine zI ?_ | refine splT ?_ | refine splF ?_ | refine splNot ?_
        | ((first | refine splIn (fun hc => ?_) (fun hc => ?_) | refine splD (fun hc => ?_) (fun hc => ?_) | refine splE (fun hc => ?_) (fun hc => ?_) | refine splNE (fun hc => ?_) (fun hc => ?_)) <;> first | (exfalso; omega) | (exfalso; dsimp only at hc; omega) | skip)
        | refine Exists.intro (α := List Value) [iv x] ⟨⟨rfl, fun w' hw' => e0 w' hw'⟩, ?_⟩
        | refine Exists.intro (α := List Value) [iv y] ⟨⟨rfl, fun w' hw' => e1 w' hw'⟩, ?_⟩
      all_goals first | (exfalso; omega) | exact ⟨fun β => rfl, fun w' h => h⟩
  · have hall' : alN (riA l) l.length = true := by rw [show l.length = 1 + k from by omega]; exact hall
    rw [hall', Bool.and_true]
    cases hw : evB l 0 (su - 1)
    all_goals rw [hw] at c51
    all_goals skip
    repeat'
     conv => whnf
     first
      | refine zA ?_ | refine zB ?_ | refine zC ?_ | refine zD ?_ | refine zE ?_ | refine zF ?_ | refine zG ?_ | refine zH ?_ | refine zJ ?_ | refine zI ?_ | refine splT ?_ | refine splF ?_ | refine splNot ?_
      | ((first | refine splIn (fun hc => ?_) (fun hc => ?_) | refine splD (fun hc => ?_) (fun hc => ?_) | refine splE (fun hc => ?_) (fun hc => ?_) | refine splNE (fun hc => ?_) (fun hc => ?_)) <;> first | (exfalso; omega) | (exfalso; dsimp only at hc; omega) | skip)
      | ((with_reducible show CallEv _ _ 51 _ _ _ _ _); refine callE (k := 51) (fun β w' hbw => c51 _ hbw) ?_)
    all_goals first | (exfalso; omega) | exact ⟨fun β => rfl, fun w' h => h⟩

abbrev scC (s : Sc) : List Value := [iv s.sl, iv s.ro, iv s.su, .slice s.go s.G.length s.gc, .slice s.to s.T.length s.tc]
theorem cell_at {w : World} {b : Nat} {C : List Value} {ty : TypeId} (h : w.heap[b]? = some (.cells C.toArray ty (0, 0))) {o : Nat} {v : Value} (hv : C[o]? = some v) : ∀ j u, [v][j]? = some u → w.cell? (((⟨b, 0, none⟩ : Addr).add o).add j) = some u := fun j u hj => by
  match j, hj with
  | 0, hj =>
    rw [own_add, own_add, Nat.zero_add, Nat.add_zero, cell_of_row w b o _ ty (0, 0) h, List.getElem?_toArray, hv]
    simpa using hj
theorem heap_below {w w' : World} {b : Nat} {x : Obj} (h : w.heap[b]? = some x) (hb : Below w.heap.size w w') : w'.heap[b]? = some x := by
  rw [hb.block b (Array.getElem?_eq_some_iff.1 h).1]; exact h
theorem agg_at {w : World} {b : Nat} {C : List Value} {ty : TypeId} (h : w.heap[b]? = some (.cells C.toArray ty (0, 0))) : ∀ j u, C[j]? = some u → w.cell? ((⟨b, 0, none⟩ : Addr).add j) = some u := fun j u hj => by
  rw [own_add, Nat.zero_add, cell_of_row w b j _ ty (0, 0) h, List.getElem?_toArray]
  exact hj
set_option maxHeartbeats 2000000 in
set_option maxRecDepth 100000 in
theorem valid1_ok (s : Sc) (b : Nat) (l : List Int) (o : Option Addr) (c : Nat) (w : World) (hb : w.heap[b]? = some (.cells (scC s).toArray 34 (0, 0))) (hrd : Rd 1 iF (.slice o l.length c) l w) (hl : l.length ≤ 1000000) :
    Calls Tryz.prog 81 #[.slice o l.length c, .pointer (some ⟨b, 0, none⟩)] w fun e w' => e = .returned (.bool (grB s.su l)) ∧ Below w.heap.size w w' := by
  have c82 := fun (w' : World) (hb : Below w.heap.size w w') => every_ok l o c 0 20 w' (hrd.below hb) hl
  have e0 := fun (w' : World) (hw : Below w.heap.size w w') => cell_at (heap_below hb hw) (o := 2) (v := iv s.su) rfl
  refine calls_val env mixed Tryz.func81 has81 Tryz.ntmps81 [.slice o l.length c, .pointer (some ⟨b, 0, none⟩)] (by simp) ?_
  unfold grB
  cases hw : evB l 0 20
  all_goals rw [hw] at c82
  all_goals skip
  repeat'
   conv => whnf
   first
    | refine zA ?_ | refine zB ?_ | refine zC ?_ | refine zD ?_ | refine zE ?_ | refine zF ?_ | refine zG ?_ | refine zH ?_ | refine zJ ?_ | refine zI ?_ | refine splT ?_ | refine splF ?_ | refine splNot ?_
    | ((first | refine splIn (fun hc => ?_) (fun hc => ?_) | refine splD (fun hc => ?_) (fun hc => ?_) | refine splE (fun hc => ?_) (fun hc => ?_) | refine splNE (fun hc => ?_) (fun hc => ?_)) <;> first | (exfalso; omega) | (exfalso; dsimp only at hc; omega) | skip)
    | refine Exists.intro (α := List Value) [iv s.su] ⟨⟨rfl, fun w' hw' => e0 w' hw'⟩, ?_⟩
    | ((with_reducible show CallEv _ _ 82 _ _ _ _ _); refine callE (k := 82) (fun β w' hbw => c82 _ hbw) ?_)
  all_goals first | (exfalso; omega) | exact ⟨fun β => congrArg Value.bool (by simp [*]), fun w' h => h⟩
set_option maxHeartbeats 2000000 in
set_option maxRecDepth 100000 in
theorem valid2_ok (s : Sc) (b : Nat) (t : Tc) (w : World) (hb : w.heap[b]? = some (.cells (scC s).toArray 34 (0, 0))) (hrd : Rd 1 iF (.slice t.o t.T.length t.c) t.T w) (hl : t.T.length ≤ 1000000) (hs : -1000000 ≤ s.su ∧ s.su ≤ 1000000) :
    Calls Tryz.prog 84 #[.agg #[.slice t.o t.T.length t.c, iv t.h], .pointer (some ⟨b, 0, none⟩)] w fun e w' => e = .returned (.bool (teB s.su t.d)) ∧ Below w.heap.size w w' := by
  have c63 := fun (w' : World) (hb : Below w.heap.size w w') => subjects_ok s t.T t.o t.c w' (hrd.below hb) hl hs
  have c61 := fun (w' : World) => within_ok t.h 0 40 w'
  have e0 := fun (w' : World) (hw : Below w.heap.size w w') => agg_at (heap_below hb hw)
  obtain ⟨o, c, T, h⟩ := t
  dsimp only at c61 c63 ⊢
  refine calls_val env mixed Tryz.func84 has84 Tryz.ntmps84 [.agg #[.slice o T.length c, iv h], .pointer (some ⟨b, 0, none⟩)] (by simp) ?_
  unfold teB Tc.d
  dsimp only
  cases hw : subB s.su T <;> cases hw2 : inB h 0 40
  all_goals rw [hw] at c63
  all_goals rw [hw2] at c61
  all_goals skip
  repeat'
   conv => whnf
   first
    | refine zA ?_ | refine zB ?_ | refine zC ?_ | refine zD ?_ | refine zE ?_ | refine zF ?_ | refine zG ?_ | refine zH ?_ | refine zJ ?_ | refine zI ?_ | refine splT ?_ | refine splF ?_ | refine splNot ?_
    | ((first | refine splIn (fun hc => ?_) (fun hc => ?_) | refine splD (fun hc => ?_) (fun hc => ?_) | refine splE (fun hc => ?_) (fun hc => ?_) | refine splNE (fun hc => ?_) (fun hc => ?_)) <;> first | (exfalso; omega) | (exfalso; dsimp only at hc; omega) | skip)
    | refine Exists.intro (α := List Value) (scC s) ⟨⟨rfl, fun w' hw' => e0 w' hw'⟩, ?_⟩
    | ((with_reducible show CallEv _ _ 61 _ _ _ _ _); refine callE (k := 61) (fun β w' hbw => c61 _) ?_)
    | ((with_reducible show CallEv _ _ 63 _ _ _ _ _); refine callE (k := 63) (fun β w' hbw => c63 _ hbw) ?_)
  all_goals first | (exfalso; omega) | exact ⟨fun β => rfl, fun w' h => h⟩
end Go.Proofs.YtkbfcofifhngfaaGreat
