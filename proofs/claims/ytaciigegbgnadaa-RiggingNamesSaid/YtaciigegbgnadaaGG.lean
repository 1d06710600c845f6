import Derived.Test.YtaciigegbgnadaaE
/- Gear: what its log says, whether it is stale: what these functions return. -/
namespace Go.Proofs.Ytaciigegbgnadaa
open Go Tx Go.RowKit
set_option linter.unusedSimpArgs false
set_option linter.unusedVariables false

theorem within_ok (n lo hi : Int) (w : World) : Calls Try.prog 56 #[iv n, iv lo, iv hi] w fun e w' => e = .returned (.bool (inB n lo hi)) ∧ Below w.heap.size w w' := by
  refine calls_val env mixed Try.func56 has56 Try.ntmps56 [iv n, iv lo, iv hi] (by simp) ?_
  repeat'
   conv => whnf
   first
    | refine zA ?_ | refine zB ?_ | refine zC ?_ | refine zD ?_ | refine zE ?_ | refine zF ?_ | refine zG ?_ | refine zH ?_ | refine zI ?_ | refine splT ?_ | refine splF ?_ | refine splNot ?_
    | ((first | refine splIn (fun hc => ?_) (fun hc => ?_) | refine splD (fun hc => ?_) (fun hc => ?_) | refine splE (fun hc => ?_) (fun hc => ?_) | refine splNE (fun hc => ?_) (fun hc => ?_)) <;> first | (exfalso; omega) | (exfalso; dsimp only at hc; omega) | skip)
  all_goals exact ⟨fun β => congrArg Value.bool (by simp [inB, *]), fun w' h => h⟩
theorem In_ok (n lo hi : Int) (w : World) : Calls Try.prog 23 #[iv n, iv lo, iv hi] w fun e w' => e = .returned (.bool (inB n lo hi)) ∧ Below w.heap.size w w' := by
  refine calls_val env mixed Try.func23 has23 Try.ntmps23 [iv n, iv lo, iv hi] (by simp) ?_
  repeat'
   conv => whnf
   first
    | refine zA ?_ | refine zB ?_ | refine zC ?_ | refine zD ?_ | refine zE ?_ | refine zF ?_ | refine zG ?_ | refine zH ?_ | refine zI ?_ | refine splT ?_ | refine splF ?_ | refine splNot ?_
    | ((first | refine splIn (fun hc => ?_) (fun hc => ?_) | refine splD (fun hc => ?_) (fun hc => ?_) | refine splE (fun hc => ?_) (fun hc => ?_) | refine splNE (fun hc => ?_) (fun hc => ?_)) <;> first | (exfalso; omega) | (exfalso; dsimp only at hc; omega) | skip)
  all_goals exact ⟨fun β => congrArg Value.bool (by simp [inB, *]), fun w' h => h⟩

/-- An entry of a log. -/
structure En where
  day : Int
  num : Int
  hrs : Int
  chk : Bool
abbrev En.cs (x : En) : List Value := [iv x.day, iv x.num, iv x.hrs, .bool x.chk]
abbrev gF (g : Int × Int) : List Value := [iv g.1, iv g.2]
/-- What a log says of a gear up to a day: whether it was checked, the last day, the hours since. -/
def stS (num day : Int) (s : Bool × Int × Int) (x : En) : Bool × Int × Int :=
  if x.num ≠ num ∨ x.day > day then s else if x.chk then (true, x.day, 0) else (s.1, s.2.1, s.2.2 + x.hrs)
def stL (num day : Int) (L : List En) : Bool × Int × Int := L.foldl (stS num day) (false, 0, 0)
theorem stL_take {num day : Int} {L : List En} {k : Nat} {x : En} (h : L[k]? = some x) : stL num day (L.take (k + 1)) = stS num day (stL num day (L.take k)) x := by
  unfold stL
  rw [List.take_add_one, h, Option.toList_some, List.foldl_append]
  rfl
/-- A log of hours and days that are not great. -/
def EB (L : List En) : Prop := L.length ≤ 1000 ∧ ∀ x ∈ L, (0 ≤ x.hrs ∧ x.hrs ≤ 24) ∧ (0 ≤ x.day ∧ x.day ≤ 10000)
theorem stL_bd {num day : Int} {L : List En} (h : EB L) : ∀ k, (0 ≤ (stL num day (L.take k)).2.2 ∧ (stL num day (L.take k)).2.2 ≤ 24 * k) ∧ (0 ≤ (stL num day (L.take k)).2.1 ∧ (stL num day (L.take k)).2.1 ≤ 10000)
  | 0 => by simp [stL]
  | k + 1 => by
    have ih := stL_bd (num := num) (day := day) h k
    cases hx : L[k]? with
    | none =>
      rw [List.getElem?_eq_none_iff] at hx
      rw [List.take_of_length_le (show L.length ≤ k + 1 by omega)]
      rw [List.take_of_length_le hx] at ih
      omega
    | some x =>
      have hb := h.2 x (List.mem_of_getElem? hx)
      rw [stL_take hx, stS]
      split
      · omega
      · split
        · dsimp only; omega
        · dsimp only; omega
theorem stL_bdl {num day : Int} {L : List En} (h : EB L) : (0 ≤ (stL num day L).2.2 ∧ (stL num day L).2.2 ≤ 24000) ∧ (0 ≤ (stL num day L).2.1 ∧ (stL num day L).2.1 ≤ 10000) := by
  have := stL_bd (num := num) (day := day) h L.length
  rw [List.take_of_length_le (Nat.le_refl _)] at this
  have := h.1
  omega
abbrev rcV (g : Int × Int) (s : Bool × Int × Int) : Value := .agg #[iv g.1, iv g.2, .bool s.1, iv s.2.1, iv s.2.2]

set_option maxRecDepth 100000 in
theorem record_ok (g : Int × Int) (L : List En) (o : Option Addr) (c : Nat) (num day : Int) (w : World) (hrd : Rd 4 En.cs (.slice o L.length c) L w) (hE : EB L) :
    Calls Try.prog 57 #[.agg #[iv g.1, iv g.2], .slice o L.length c, iv num, iv day] w fun e w' => e = .returned (rcV g (stL num day L)) ∧ Below w.heap.size w w' := by
  refine calls_val env mixed Try.func57 has57 Try.ntmps57 [.agg #[iv g.1, iv g.2], .slice o L.length c, iv num, iv day] (by simp) ?_
  have hl := hE.1
  repeat'
   conv => whnf
   first
    | refine zA ?_ | refine zB ?_ | refine zC ?_ | refine zD ?_ | refine zE ?_ | refine zF ?_ | refine zG ?_ | refine zH ?_ | refine zI ?_ | refine splT ?_ | refine splF ?_ | refine splNot ?_
    | ((first | refine splIn (fun hc => ?_) (fun hc => ?_) | refine splD (fun hc => ?_) (fun hc => ?_) | refine splE (fun hc => ?_) (fun hc => ?_) | refine splNE (fun hc => ?_) (fun hc => ?_)) <;> first | (exfalso; omega) | (exfalso; dsimp only at hc; omega) | skip)
  refine loopN 3 (fun k : Nat => [(2, .v (iv num)), (3, .v (iv day)), (8, .ptr 1 0), (9, .ptr 2 0), (14, .v (.slice o L.length c)), (15, .v (iv L.length)), (16, .v (iv k))])
    (fun k => [(1, .cells [.v (iv 0), .v (iv 0), .v (.bool false), .v (iv 0), .v (iv 0)] 121), (2, .cells [.v (iv g.1), .v (iv g.2), .v (.bool (stL num day (L.take k)).1), .v (iv (stL num day (L.take k)).2.1), .v (iv (stL num day (L.take k)).2.2)] 121)])
    (fun k => k ≤ L.length) (fun k => L.length - k) 0 (Nat.zero_le _) ⟨rfl, rfl, rfl, rfl, rfl, rfl, rfl, trivial⟩ ⟨rfl, rfl, trivial⟩ (fun _ _ => ⟨rfl, rfl⟩) ?_
  intro k hk
  have hbd := stL_bd (num := num) (day := day) hE k
  rcases Nat.lt_or_ge k L.length with hkl | hkl
  · obtain ⟨x, hx⟩ : ∃ b, L[k]? = some b := ⟨_, List.getElem?_eq_getElem hkl⟩
    obtain ⟨_, ad, rfl, _⟩ := hrd.ptr (by omega)
    have e0 := fun (w' : World) hw' => rd_ati (hrd.below (w' := w') hw') hx
    have hxb := hE.2 x (List.mem_of_getElem? hx)
    have hst := stL_take (num := num) (day := day) hx
    rw [stS] at hst
    generalize stL num day (L.take k) = s at *
    obtain ⟨s1, s2, s3⟩ := s
    dsimp only at hbd hst ⊢
    by_cases hc1 : x.num ≠ num ∨ x.day > day
    · rw [if_pos hc1] at hst
      repeat'
       conv => whnf
       first
        | refine zA ?_ | refine zB ?_ | refine zC ?_ | refine zD ?_ | refine zE ?_ | refine zF ?_ | refine zG ?_ | refine zH ?_ | refine zI ?_ | refine splT ?_ | refine splF ?_ | refine splNot ?_
        | ((first | refine splIn (fun hc => ?_) (fun hc => ?_) | refine splD (fun hc => ?_) (fun hc => ?_) | refine splE (fun hc => ?_) (fun hc => ?_) | refine splNE (fun hc => ?_) (fun hc => ?_)) <;> first | (exfalso; omega) | (exfalso; dsimp only at hc; omega) | skip)
        | refine Exists.intro (α := List Value) x.cs ⟨⟨rfl, fun w' hw' => e0 w' hw'⟩, ?_⟩
      all_goals first | (exfalso; omega) | exact ⟨k + 1, by omega, by omega, Ent.weak rfl ⟨rfl, rfl, rfl, rfl, rfl, rfl, rfl, trivial⟩ (by rw [hst]; exact ⟨rfl, rfl, trivial⟩) fun _ h => h⟩
    · rw [if_neg hc1] at hst
      cases hch : x.chk with
      | true =>
        rw [hch, if_pos rfl] at hst
        repeat'
         conv => whnf
         first
          | refine zA ?_ | refine zB ?_ | refine zC ?_ | refine zD ?_ | refine zE ?_ | refine zF ?_ | refine zG ?_ | refine zH ?_ | refine zI ?_ | refine splT ?_ | refine splF ?_ | refine splNot ?_
          | ((first | refine splIn (fun hc => ?_) (fun hc => ?_) | refine splD (fun hc => ?_) (fun hc => ?_) | refine splE (fun hc => ?_) (fun hc => ?_) | refine splNE (fun hc => ?_) (fun hc => ?_)) <;> first | (exfalso; omega) | (exfalso; dsimp only at hc; omega) | skip)
          | refine Exists.intro (α := List Value) x.cs ⟨⟨rfl, fun w' hw' => e0 w' hw'⟩, ?_⟩
          | refine splB (fun hb => ?_) (fun hb => ?_)
        all_goals first | (exfalso; omega) | (exfalso; simp_all; done) | exact ⟨k + 1, by omega, by omega, Ent.weak rfl ⟨rfl, rfl, rfl, rfl, rfl, rfl, rfl, trivial⟩ (by rw [hst]; exact ⟨rfl, rfl, trivial⟩) fun _ h => h⟩
      | false =>
        rw [hch, if_neg (by decide)] at hst
        repeat'
         conv => whnf
         first
          | refine zA ?_ | refine zB ?_ | refine zC ?_ | refine zD ?_ | refine zE ?_ | refine zF ?_ | refine zG ?_ | refine zH ?_ | refine zI ?_ | refine splT ?_ | refine splF ?_ | refine splNot ?_
          | ((first | refine splIn (fun hc => ?_) (fun hc => ?_) | refine splD (fun hc => ?_) (fun hc => ?_) | refine splE (fun hc => ?_) (fun hc => ?_) | refine splNE (fun hc => ?_) (fun hc => ?_)) <;> first | (exfalso; omega) | (exfalso; dsimp only at hc; omega) | skip)
          | refine Exists.intro (α := List Value) x.cs ⟨⟨rfl, fun w' hw' => e0 w' hw'⟩, ?_⟩
          | refine splB (fun hb => ?_) (fun hb => ?_)
        all_goals first | (exfalso; omega) | (exfalso; simp_all; done) | exact ⟨k + 1, by omega, by omega, Ent.weak rfl ⟨rfl, rfl, rfl, rfl, rfl, rfl, rfl, trivial⟩ (by rw [hst]; exact ⟨rfl, rfl, trivial⟩) fun _ h => h⟩
  · rw [List.take_of_length_le hkl]
    repeat'
     conv => whnf
     first
      | refine zA ?_ | refine zB ?_ | refine zC ?_ | refine zD ?_ | refine zE ?_ | refine zF ?_ | refine zG ?_ | refine zH ?_ | refine zI ?_ | refine splT ?_ | refine splF ?_ | refine splNot ?_
      | ((first | refine splIn (fun hc => ?_) (fun hc => ?_) | refine splD (fun hc => ?_) (fun hc => ?_) | refine splE (fun hc => ?_) (fun hc => ?_) | refine splNE (fun hc => ?_) (fun hc => ?_)) <;> first | (exfalso; omega) | (exfalso; dsimp only at hc; omega) | skip)
    exact ⟨fun β => rfl, fun w' h => h⟩
end Go.Proofs.Ytaciigegbgnadaa

/- Gear: whether it is stale, until when it is not: what these functions return, the program's and the reference's. -/
namespace Go.Proofs.Ytaciigegbgnadaa
open Go Tx Go.RowKit
set_option linter.unusedSimpArgs false
set_option linter.unusedVariables false

set_option maxRecDepth 100000 in
theorem State_ok (L : List En) (o : Option Addr) (c : Nat) (num day : Int) (w : World) (hrd : Rd 4 En.cs (.slice o L.length c) L w) (hE : EB L) :
    Calls Try.prog 63 #[.slice o L.length c, iv num, iv day] w fun e w' => e = .returned (.tuple #[.bool (stL num day L).1, iv (stL num day L).2.1, iv (stL num day L).2.2]) ∧ Below w.heap.size w w' := by
  refine calls_val env mixed Try.func63 has63 Try.ntmps63 [.slice o L.length c, iv num, iv day] (by simp) ?_
  have hl := hE.1
  repeat'
   conv => whnf
   first
    | refine zA ?_ | refine zB ?_ | refine zC ?_ | refine zD ?_ | refine zE ?_ | refine zF ?_ | refine zG ?_ | refine zH ?_ | refine zI ?_ | refine splT ?_ | refine splF ?_ | refine splNot ?_
    | ((first | refine splIn (fun hc => ?_) (fun hc => ?_) | refine splD (fun hc => ?_) (fun hc => ?_) | refine splE (fun hc => ?_) (fun hc => ?_) | refine splNE (fun hc => ?_) (fun hc => ?_)) <;> first | (exfalso; omega) | (exfalso; dsimp only at hc; omega) | skip)
  refine loopE (fun k : Nat => [(0, .v (.slice o L.length c)), (1, .v (iv num)), (2, .v (iv day)), (9, .v (.bool (stL num day (L.take k)).1)), (10, .v (iv (stL num day (L.take k)).2.1)), (11, .v (iv (stL num day (L.take k)).2.2)), (12, .v (iv k))])
    (fun _ => []) (fun k => k ≤ L.length) (fun k => L.length - k) 0 (Nat.zero_le _) ⟨rfl, rfl, rfl, rfl, rfl, rfl, rfl, trivial⟩ trivial (fun _ => ⟨rfl, rfl⟩) ?_
  intro k hk
  have hbd := stL_bd (num := num) (day := day) hE k
  rcases Nat.lt_or_ge k L.length with hkl | hkl
  · obtain ⟨x, hx⟩ : ∃ b, L[k]? = some b := ⟨_, List.getElem?_eq_getElem hkl⟩
    obtain ⟨_, ad, rfl, _⟩ := hrd.ptr (by omega)
    have e1 := fun (w' : World) hw' => rd_fld (hrd.below (w' := w') hw') hx
    have hxb := hE.2 x (List.mem_of_getElem? hx)
    have hst := stL_take (num := num) (day := day) hx
    rw [stS] at hst
    generalize stL num day (L.take k) = s at *
    obtain ⟨s1, s2, s3⟩ := s
    dsimp only at hbd hst ⊢
    by_cases hc1 : x.num ≠ num ∨ x.day > day
    · rw [if_pos hc1] at hst
      repeat'
       conv => whnf
       first
        | refine zA ?_ | refine zB ?_ | refine zC ?_ | refine zD ?_ | refine zE ?_ | refine zF ?_ | refine zG ?_ | refine zH ?_ | refine zI ?_ | refine splT ?_ | refine splF ?_ | refine splNot ?_
        | ((first | refine splIn (fun hc => ?_) (fun hc => ?_) | refine splD (fun hc => ?_) (fun hc => ?_) | refine splE (fun hc => ?_) (fun hc => ?_) | refine splNE (fun hc => ?_) (fun hc => ?_)) <;> first | (exfalso; omega) | (exfalso; dsimp only at hc; omega) | skip)
        | refine Exists.intro (α := List Value) [iv x.day] ⟨⟨rfl, fun w' hw' => e1 w' hw' 0 _ rfl⟩, ?_⟩
        | refine Exists.intro (α := List Value) [iv x.num] ⟨⟨rfl, fun w' hw' => e1 w' hw' 1 _ rfl⟩, ?_⟩
        | refine Exists.intro (α := List Value) [iv x.hrs] ⟨⟨rfl, fun w' hw' => e1 w' hw' 2 _ rfl⟩, ?_⟩
        | refine Exists.intro (α := List Value) [.bool x.chk] ⟨⟨rfl, fun w' hw' => e1 w' hw' 3 _ rfl⟩, ?_⟩
      all_goals first | (exfalso; omega) | exact ⟨k + 1, by omega, by omega, Ent.weak rfl ⟨rfl, rfl, rfl, by rw [hst]; rfl, by rw [hst]; rfl, by rw [hst]; rfl, rfl, trivial⟩ trivial fun _ h => h⟩
    · rw [if_neg hc1] at hst
      cases hch : x.chk with
      | true =>
        rw [hch, if_pos rfl] at hst
        repeat'
         conv => whnf
         first
          | refine zA ?_ | refine zB ?_ | refine zC ?_ | refine zD ?_ | refine zE ?_ | refine zF ?_ | refine zG ?_ | refine zH ?_ | refine zI ?_ | refine splT ?_ | refine splF ?_ | refine splNot ?_
          | ((first | refine splIn (fun hc => ?_) (fun hc => ?_) | refine splD (fun hc => ?_) (fun hc => ?_) | refine splE (fun hc => ?_) (fun hc => ?_) | refine splNE (fun hc => ?_) (fun hc => ?_)) <;> first | (exfalso; omega) | (exfalso; dsimp only at hc; omega) | skip)
          | refine Exists.intro (α := List Value) [iv x.day] ⟨⟨rfl, fun w' hw' => e1 w' hw' 0 _ rfl⟩, ?_⟩
          | refine Exists.intro (α := List Value) [iv x.num] ⟨⟨rfl, fun w' hw' => e1 w' hw' 1 _ rfl⟩, ?_⟩
          | refine Exists.intro (α := List Value) [iv x.hrs] ⟨⟨rfl, fun w' hw' => e1 w' hw' 2 _ rfl⟩, ?_⟩
          | refine Exists.intro (α := List Value) [.bool true] ⟨⟨rfl, fun w' hw' => e1 w' hw' 3 _ (by rw [← hch]; rfl)⟩, ?_⟩
        all_goals first | (exfalso; omega) | exact ⟨k + 1, by omega, by omega, Ent.weak rfl ⟨rfl, rfl, rfl, by rw [hst]; rfl, by rw [hst]; rfl, by rw [hst]; rfl, rfl, trivial⟩ trivial fun _ h => h⟩
      | false =>
        rw [hch, if_neg (by decide)] at hst
        repeat'
         conv => whnf
         first
          | refine zA ?_ | refine zB ?_ | refine zC ?_ | refine zD ?_ | refine zE ?_ | refine zF ?_ | refine zG ?_ | refine zH ?_ | refine zI ?_ | refine splT ?_ | refine splF ?_ | refine splNot ?_
          | ((first | refine splIn (fun hc => ?_) (fun hc => ?_) | refine splD (fun hc => ?_) (fun hc => ?_) | refine splE (fun hc => ?_) (fun hc => ?_) | refine splNE (fun hc => ?_) (fun hc => ?_)) <;> first | (exfalso; omega) | (exfalso; dsimp only at hc; omega) | skip)
          | refine Exists.intro (α := List Value) [iv x.day] ⟨⟨rfl, fun w' hw' => e1 w' hw' 0 _ rfl⟩, ?_⟩
          | refine Exists.intro (α := List Value) [iv x.num] ⟨⟨rfl, fun w' hw' => e1 w' hw' 1 _ rfl⟩, ?_⟩
          | refine Exists.intro (α := List Value) [iv x.hrs] ⟨⟨rfl, fun w' hw' => e1 w' hw' 2 _ rfl⟩, ?_⟩
          | refine Exists.intro (α := List Value) [.bool false] ⟨⟨rfl, fun w' hw' => e1 w' hw' 3 _ (by rw [← hch]; rfl)⟩, ?_⟩
        all_goals first | (exfalso; omega) | exact ⟨k + 1, by omega, by omega, Ent.weak rfl ⟨rfl, rfl, rfl, by rw [hst]; rfl, by rw [hst]; rfl, by rw [hst]; rfl, rfl, trivial⟩ trivial fun _ h => h⟩
  · rw [List.take_of_length_le hkl]
    repeat'
     conv => whnf
     first
      | refine zA ?_ | refine zB ?_ | refine zC ?_ | refine zD ?_ | refine zE ?_ | refine zF ?_ | refine zG ?_ | refine zH ?_ | refine zI ?_ | refine splT ?_ | refine splF ?_ | refine splNot ?_
      | ((first | refine splIn (fun hc => ?_) (fun hc => ?_) | refine splD (fun hc => ?_) (fun hc => ?_) | refine splE (fun hc => ?_) (fun hc => ?_) | refine splNE (fun hc => ?_) (fun hc => ?_)) <;> first | (exfalso; omega) | (exfalso; dsimp only at hc; omega) | skip)
    exact ⟨fun β => rfl, fun w' h => h⟩

/-- Is a gear stale, with what its log says, on a day, with more hours? -/
def stB (g : Int × Int) (s : Bool × Int × Int) (day more : Int) : Bool := (!s.1 || decide (day - s.2.1 > g.1)) || decide (s.2.2 + more > g.2)

set_option maxRecDepth 100000 in
theorem stale_ok (g : Int × Int) (s : Bool × Int × Int) (day more : Int) (w : World) (h1 : (0 ≤ s.2.2 ∧ s.2.2 ≤ 24000) ∧ (0 ≤ s.2.1 ∧ s.2.1 ≤ 10000)) (h2 : 0 ≤ day ∧ day ≤ 1000000) (h3 : 0 ≤ more ∧ more ≤ 100000000) :
    Calls Try.prog 58 #[rcV g s, iv day, iv more] w fun e w' => e = .returned (.bool (stB g s day more)) ∧ Below w.heap.size w w' := by
  obtain ⟨s1, s2, s3⟩ := s
  dsimp only at h1
  refine calls_val env mixed Try.func58 has58 Try.ntmps58 [.agg #[iv g.1, iv g.2, .bool s1, iv s2, iv s3], iv day, iv more] (by simp) ?_
  unfold stB
  dsimp only
  cases s1
  all_goals skip
  repeat'
   conv => whnf
   first
    | refine zA ?_ | refine zB ?_ | refine zC ?_ | refine zD ?_ | refine zE ?_ | refine zF ?_ | refine zG ?_ | refine zH ?_ | refine zI ?_ | refine splT ?_ | refine splF ?_ | refine splNot ?_
    | ((first | refine splIn (fun hc => ?_) (fun hc => ?_) | refine splD (fun hc => ?_) (fun hc => ?_) | refine splE (fun hc => ?_) (fun hc => ?_) | refine splNE (fun hc => ?_) (fun hc => ?_)) <;> first | (exfalso; omega) | (exfalso; dsimp only at hc; omega) | skip)
  all_goals exact ⟨fun β => congrArg Value.bool (by simp [*]), fun w' h => h⟩

set_option maxRecDepth 100000 in
theorem Rstale_ok (g : Int × Int) (L : List En) (o : Option Addr) (c : Nat) (num fr day more : Int) (w : World) (hrd : Rd 4 En.cs (.slice o L.length c) L w) (hE : EB L) (h2 : 0 ≤ day ∧ day ≤ 1000000) (h3 : 0 ≤ more ∧ more ≤ 100000000) :
    Calls Try.prog 24 #[.agg #[iv g.1, iv g.2], .slice o L.length c, iv num, iv fr, iv day, iv more] w fun e w' => e = .returned (.bool (stB g (stL num fr L) day more)) ∧ Below w.heap.size w w' := by
  refine calls_val env mixed Try.func24 has24 Try.ntmps24 [.agg #[iv g.1, iv g.2], .slice o L.length c, iv num, iv fr, iv day, iv more] (by simp) ?_
  have hS := fun w' hb => State_ok L o c num fr w' (hrd.below hb) hE
  have hbd := stL_bdl (num := num) (day := fr) hE
  generalize stL num fr L = s at *
  obtain ⟨s1, s2, s3⟩ := s
  dsimp only at hbd hS
  unfold stB
  dsimp only
  cases s1
  all_goals skip
  repeat'
   conv => whnf
   first
    | refine zA ?_ | refine zB ?_ | refine zC ?_ | refine zD ?_ | refine zE ?_ | refine zF ?_ | refine zG ?_ | refine zH ?_ | refine zI ?_ | refine splT ?_ | refine splF ?_ | refine splNot ?_
    | ((first | refine splIn (fun hc => ?_) (fun hc => ?_) | refine splD (fun hc => ?_) (fun hc => ?_) | refine splE (fun hc => ?_) (fun hc => ?_) | refine splNE (fun hc => ?_) (fun hc => ?_)) <;> first | (exfalso; omega) | (exfalso; dsimp only at hc; omega) | skip)
    | ((with_reducible show CallEv _ _ 63 _ _ _ _ _); refine callE (k := 63) (fun β w' hbw => hS _ hbw) ?_)
  all_goals exact ⟨fun β => congrArg Value.bool (by simp [*]), fun w' h => h⟩

/-- The first number at which something holds; n if none ahead of it. -/
def fstN (p : Nat → Bool) : Nat → Nat → Nat
  | 0, k => k
  | n + 1, k => if p k then k else fstN p n (k + 1)
theorem fstN_spec {p : Nat → Bool} : ∀ (n k : Nat), k ≤ fstN p n k ∧ fstN p n k ≤ k + n ∧ (∀ i, k ≤ i → i < fstN p n k → p i = false) ∧ (fstN p n k < k + n → p (fstN p n k) = true)
  | 0, k => ⟨Nat.le_refl _, Nat.le_refl _, fun i h1 h2 => by simp only [fstN] at h2; omega, fun h => by simp only [fstN] at h; omega⟩
  | n + 1, k => by
    rw [fstN]
    split
    · rename_i hp
      exact ⟨Nat.le_refl _, by omega, fun i h1 h2 => by omega, fun _ => hp⟩
    · rename_i hp
      obtain ⟨h1, h2, h3, h4⟩ := fstN_spec (p := p) n (k + 1)
      refine ⟨by omega, by omega, fun i q1 q2 => ?_, fun h => h4 (by omega)⟩
      by_cases hik : i = k
      · subst hik; simpa using hp
      · exact h3 i (by omega) q2
/-- How many days from a day on a gear is not stale, if it works some hours a day. -/
def untN (g : Int × Int) (s : Bool × Int × Int) (day hours : Int) : Nat := fstN (fun m => stB g s (day + m) ((m + 1) * hours)) 12001 0
theorem stB_end {g : Int × Int} {s : Bool × Int × Int} {day : Int} (hg : g.1 ≤ 2000) (h1 : s.2.1 ≤ 10000) (h2 : 0 ≤ day) {m : Nat} (hm : 12001 ≤ m) (more : Int) : stB g s (day + m) more = true := by
  unfold stB
  rw [show decide (day + (m : Int) - s.2.1 > g.1) = true from decide_eq_true (by omega)]
  simp
theorem untN_st {g : Int × Int} {s : Bool × Int × Int} {day hours : Int} (hg : g.1 ≤ 2000) (h1 : s.2.1 ≤ 10000) (h2 : 0 ≤ day) : stB g s (day + untN g s day hours) ((untN g s day hours + 1) * hours) = true := by
  obtain ⟨_, q2, _, q4⟩ := fstN_spec (p := fun m : Nat => stB g s (day + m) ((m + 1) * hours)) 12001 0
  by_cases h : fstN (fun m : Nat => stB g s (day + m) ((m + 1) * hours)) 12001 0 < 0 + 12001
  · exact q4 h
  · exact stB_end hg h1 h2 (by unfold untN; omega) _
theorem untN_no {g : Int × Int} {s : Bool × Int × Int} {day hours : Int} {m : Nat} (h : m < untN g s day hours) : stB g s (day + m) ((m + 1) * hours) = false := by
  obtain ⟨_, _, q3, _⟩ := fstN_spec (p := fun m : Nat => stB g s (day + m) ((m + 1) * hours)) 12001 0
  exact q3 m (Nat.zero_le _) h
theorem untN_le {g : Int × Int} {s : Bool × Int × Int} {day hours : Int} : untN g s day hours ≤ 12001 := by
  obtain ⟨_, q2, _, _⟩ := fstN_spec (p := fun m : Nat => stB g s (day + m) ((m + 1) * hours)) 12001 0
  unfold untN; omega

set_option maxRecDepth 100000 in
theorem Runtil_ok (g : Int × Int) (L : List En) (o : Option Addr) (c : Nat) (num day hours : Int) (w : World) (hrd : Rd 4 En.cs (.slice o L.length c) L w) (hE : EB L) (hg : g.1 ≤ 2000) (h2 : 0 ≤ day ∧ day ≤ 10000) (h3 : 0 ≤ hours ∧ hours ≤ 24) :
    Calls Try.prog 26 #[.agg #[iv g.1, iv g.2], .slice o L.length c, iv num, iv day, iv hours] w fun e w' => e = .returned (iv (day + untN g (stL num day L) day hours)) ∧ Below w.heap.size w w' := by
  refine calls_val env mixed Try.func26 has26 Try.ntmps26 [.agg #[iv g.1, iv g.2], .slice o L.length c, iv num, iv day, iv hours] (by simp) ?_
  have hbd := stL_bdl (num := num) (day := day) hE
  have hu := untN_st (g := g) (s := stL num day L) (day := day) (hours := hours) hg hbd.2.2 h2.1
  have hle := untN_le (g := g) (s := stL num day L) (day := day) (hours := hours)
  repeat'
   conv => whnf
   first
    | refine zA ?_ | refine zB ?_ | refine zC ?_ | refine zD ?_ | refine zE ?_ | refine zF ?_ | refine zG ?_ | refine zH ?_ | refine zI ?_ | refine splT ?_ | refine splF ?_ | refine splNot ?_
    | ((first | refine splIn (fun hc => ?_) (fun hc => ?_) | refine splD (fun hc => ?_) (fun hc => ?_) | refine splE (fun hc => ?_) (fun hc => ?_) | refine splNE (fun hc => ?_) (fun hc => ?_)) <;> first | (exfalso; omega) | (exfalso; dsimp only at hc; omega) | skip)
  refine loopE (fun k : Nat => [(1, .v (.slice o L.length c)), (2, .v (iv num)), (3, .v (iv day)), (4, .v (iv hours)), (5, .ptr 0 0), (11, .v (iv (day + k)))]) (fun _ => [(0, .cells [.v (iv g.1), .v (iv g.2)] 40)])
    (fun k => k ≤ untN g (stL num day L) day hours) (fun k => untN g (stL num day L) day hours - k) 0 (Nat.zero_le _) ⟨rfl, rfl, rfl, rfl, rfl, by rw [Int.natCast_zero, Int.add_zero]; rfl, trivial⟩ ⟨rfl, trivial⟩ (fun _ => ⟨rfl, rfl⟩) ?_
  intro k hk
  have hik : day + ((k + 1 : Nat) : Int) = day + (k : Int) + 1 := by omega
  have hm0 : 0 ≤ ((k : Int) + 1) * hours := Int.mul_nonneg (by omega) h3.1
  have hm1 : ((k : Int) + 1) * hours ≤ 12002 * 24 := Int.mul_le_mul (by omega) h3.2 h3.1 (by omega)
  have hmul : (day + (k : Int) - day + 1) * hours = ((k : Int) + 1) * hours := by congr 1; omega
  have hS := fun w' hb => Rstale_ok g L o c num day (day + k) (((k : Int) + 1) * hours) w' (hrd.below hb) hE (by omega) (by omega)
  rw [← hmul] at hS hm0 hm1
  by_cases hlt : k < untN g (stL num day L) day hours
  · have hno := untN_no hlt
    rw [← hmul] at hno
    rw [hno] at hS
    repeat'
     conv => whnf
     first
      | refine zA ?_ | refine zB ?_ | refine zC ?_ | refine zD ?_ | refine zE ?_ | refine zF ?_ | refine zG ?_ | refine zH ?_ | refine zI ?_ | refine splT ?_ | refine splF ?_ | refine splNot ?_
      | ((first | refine splIn (fun hc => ?_) (fun hc => ?_) | refine splD (fun hc => ?_) (fun hc => ?_) | refine splE (fun hc => ?_) (fun hc => ?_) | refine splNE (fun hc => ?_) (fun hc => ?_)) <;> first | (exfalso; omega) | (exfalso; dsimp only at hc; omega) | skip)
      | ((with_reducible show CallEv _ _ 24 _ _ _ _ _); refine callE (k := 24) (fun β w' hbw => hS _ hbw) ?_)
    exact ⟨k + 1, by omega, by omega, Ent.weak rfl ⟨rfl, rfl, rfl, rfl, rfl, by rw [hik]; rfl, trivial⟩ ⟨rfl, trivial⟩ fun _ h => h⟩
  · obtain rfl : k = untN g (stL num day L) day hours := by omega
    rw [← hmul] at hu
    rw [hu] at hS
    repeat'
     conv => whnf
     first
      | refine zA ?_ | refine zB ?_ | refine zC ?_ | refine zD ?_ | refine zE ?_ | refine zF ?_ | refine zG ?_ | refine zH ?_ | refine zI ?_ | refine splT ?_ | refine splF ?_ | refine splNot ?_
      | ((first | refine splIn (fun hc => ?_) (fun hc => ?_) | refine splD (fun hc => ?_) (fun hc => ?_) | refine splE (fun hc => ?_) (fun hc => ?_) | refine splNE (fun hc => ?_) (fun hc => ?_)) <;> first | (exfalso; omega) | (exfalso; dsimp only at hc; omega) | skip)
      | ((with_reducible show CallEv _ _ 24 _ _ _ _ _); refine callE (k := 24) (fun β w' hbw => hS _ hbw) ?_)
    exact ⟨fun β => rfl, fun w' h => h⟩
end Go.Proofs.Ytaciigegbgnadaa

/- Gear and logs that are right: what CheckLog and the reference's LogFault return. -/
namespace Go.Proofs.Ytaciigegbgnadaa
open Go Tx Go.RowKit
set_option linter.unusedSimpArgs false
set_option linter.unusedVariables false

def gOk (g : Int × Int) : Bool := inB g.1 1 2000 && inB g.2 1 20000
theorem gok_ok (g : Int × Int) (w : World) : Calls Try.prog 60 #[.agg #[iv g.1, iv g.2]] w fun e w' => e = .returned (.bool (gOk g)) ∧ Below w.heap.size w w' := by
  refine calls_val env mixed Try.func60 has60 Try.ntmps60 [.agg #[iv g.1, iv g.2]] (by simp) ?_
  repeat'
   conv => whnf
   first
    | refine zA ?_ | refine zB ?_ | refine zC ?_ | refine zD ?_ | refine zE ?_ | refine zF ?_ | refine zG ?_ | refine zH ?_ | refine zI ?_ | refine splT ?_ | refine splF ?_ | refine splNot ?_
    | ((first | refine splIn (fun hc => ?_) (fun hc => ?_) | refine splD (fun hc => ?_) (fun hc => ?_) | refine splE (fun hc => ?_) (fun hc => ?_) | refine splNE (fun hc => ?_) (fun hc => ?_)) <;> first | (exfalso; omega) | (exfalso; dsimp only at hc; omega) | skip)
    | ((with_reducible show CallEv _ _ 56 _ _ _ _ _); refine callE (k := 56) (fun β w' hbw => within_ok _ _ _ _) ?_)
  all_goals exact ⟨fun β => congrArg Value.bool (by simp [gOk, inB, *]), fun w' h => h⟩

set_option maxRecDepth 100000 in
theorem all59_ok (L : List (Int × Int)) (o : Option Addr) (c : Nat) (w : World) (hrd : Rd 2 gF (.slice o L.length c) L w) (hl : L.length ≤ 1000000) :
    Calls Try.prog 59 #[.slice o L.length c, .func (.func 60) #[] #[]] w fun e w' => e = .returned (.bool (L.all gOk)) ∧ Below w.heap.size w w' := by
  refine calls_val env mixed Try.func59 has59 Try.ntmps59 [.slice o L.length c, .func (.func 60) #[] #[]] (by simp) ?_
  repeat'
   conv => whnf
   first
    | refine zA ?_ | refine zB ?_ | refine zC ?_ | refine zD ?_ | refine zE ?_ | refine zF ?_ | refine zG ?_ | refine zH ?_ | refine zI ?_ | refine splT ?_ | refine splF ?_ | refine splNot ?_
    | ((first | refine splIn (fun hc => ?_) (fun hc => ?_) | refine splD (fun hc => ?_) (fun hc => ?_) | refine splE (fun hc => ?_) (fun hc => ?_) | refine splNE (fun hc => ?_) (fun hc => ?_)) <;> first | (exfalso; omega) | (exfalso; dsimp only at hc; omega) | skip)
    | ((with_reducible show CallEv _ _ 81 _ _ _ _ _); refine callI env mixed 1000 [] Try.func81 has81 Try.ntmps81 (Nat.le_of_ble_eq_true rfl) rfl rfl rfl ?_)
    | ((with_reducible show CallEv _ _ 101 _ _ _ _ _); refine callI env mixed 2000 [] Try.func101 has101 Try.ntmps101 (Nat.le_of_ble_eq_true rfl) rfl rfl rfl ?_)
  refine loopE (fun k : Nat => [(0, .v (.slice o L.length c)), (1, .fn (.func 82) [.ptr 0 0]), (7, .v (iv L.length)), (8, .v (iv k))]) (fun _ => [(0, .cells [.v (.func (.func 60) #[] #[])] 125)]) (fun k => k ≤ L.length ∧ (L.take k).all gOk = true) (fun k => L.length - k) 0 ⟨Nat.zero_le _, rfl⟩ ⟨rfl, rfl, rfl, rfl, trivial⟩ ⟨rfl, trivial⟩ (fun _ => ⟨rfl, rfl⟩) ?_
  intro k ⟨hk, hall⟩
  rcases Nat.lt_or_ge k L.length with hkl | hkl
  · obtain ⟨g, hb⟩ : ∃ b, L[k]? = some b := ⟨_, List.getElem?_eq_getElem hkl⟩
    obtain ⟨_, ad, rfl, _⟩ := hrd.ptr (by omega)
    have ht : (L.take (k + 1)).all gOk = gOk g := by rw [List.take_add_one, hb]; simp [hall]
    have e0 := fun (w' : World) hw' => rd_ati (hrd.below (w' := w') hw') hb
    have hv := fun w' => gok_ok g w'
    cases hg : gOk g with
    | true =>
      rw [hg] at hv ht
      repeat'
       conv => whnf
       first
        | refine zA ?_ | refine zB ?_ | refine zC ?_ | refine zD ?_ | refine zE ?_ | refine zF ?_ | refine zG ?_ | refine zH ?_ | refine zI ?_ | refine splT ?_ | refine splF ?_ | refine splNot ?_
        | ((first | refine splIn (fun hc => ?_) (fun hc => ?_) | refine splD (fun hc => ?_) (fun hc => ?_) | refine splE (fun hc => ?_) (fun hc => ?_) | refine splNE (fun hc => ?_) (fun hc => ?_)) <;> first | (exfalso; omega) | (exfalso; dsimp only at hc; omega) | skip)
        | refine Exists.intro (α := List Value) [iv g.1, iv g.2] ⟨⟨rfl, fun w' hw' => e0 w' hw'⟩, ?_⟩
        | ((with_reducible show CallEv _ _ 82 _ _ _ _ _); refine callI env mixed 3000 [0,1,5,7,8] Try.func82 has82 Try.ntmps82 (Nat.le_of_ble_eq_true rfl) rfl rfl rfl ?_)
        | ((with_reducible show CallEv _ _ 60 _ _ _ _ _); refine callE (k := 60) (fun β w' hbw => hv _) ?_)
      exact ⟨k + 1, ⟨by omega, ht⟩, by omega, Ent.weak rfl ⟨rfl, rfl, rfl, rfl, trivial⟩ ⟨rfl, trivial⟩ fun _ h => h⟩
    | false =>
      rw [hg] at hv ht
      have hno : L.all gOk = false := by
        rw [List.all_eq_false]
        exact ⟨_, List.mem_of_getElem? hb, by simp [hg]⟩
      rw [hno]
      repeat'
       conv => whnf
       first
        | refine zA ?_ | refine zB ?_ | refine zC ?_ | refine zD ?_ | refine zE ?_ | refine zF ?_ | refine zG ?_ | refine zH ?_ | refine zI ?_ | refine splT ?_ | refine splF ?_ | refine splNot ?_
        | ((first | refine splIn (fun hc => ?_) (fun hc => ?_) | refine splD (fun hc => ?_) (fun hc => ?_) | refine splE (fun hc => ?_) (fun hc => ?_) | refine splNE (fun hc => ?_) (fun hc => ?_)) <;> first | (exfalso; omega) | (exfalso; dsimp only at hc; omega) | skip)
        | refine Exists.intro (α := List Value) [iv g.1, iv g.2] ⟨⟨rfl, fun w' hw' => e0 w' hw'⟩, ?_⟩
        | ((with_reducible show CallEv _ _ 82 _ _ _ _ _); refine callI env mixed 3000 [0,1,5,7,8] Try.func82 has82 Try.ntmps82 (Nat.le_of_ble_eq_true rfl) rfl rfl rfl ?_)
        | ((with_reducible show CallEv _ _ 60 _ _ _ _ _); refine callE (k := 60) (fun β w' hbw => hv _) ?_)
      all_goals first | exact ⟨fun β => rfl, fun w' h => h⟩ | (exfalso; omega) | skip
  · rw [List.take_of_length_le hkl] at hall
    rw [hall]
    repeat'
     conv => whnf
     first
      | refine zA ?_ | refine zB ?_ | refine zC ?_ | refine zD ?_ | refine zE ?_ | refine zF ?_ | refine zG ?_ | refine zH ?_ | refine zI ?_ | refine splT ?_ | refine splF ?_ | refine splNot ?_
      | ((first | refine splIn (fun hc => ?_) (fun hc => ?_) | refine splD (fun hc => ?_) (fun hc => ?_) | refine splE (fun hc => ?_) (fun hc => ?_) | refine splNE (fun hc => ?_) (fun hc => ?_)) <;> first | (exfalso; omega) | (exfalso; dsimp only at hc; omega) | skip)
    all_goals first | exact ⟨fun β => rfl, fun w' h => h⟩ | (exfalso; omega) | skip

/-- Is an entry right behind a day? -/
def enOk (n last : Int) (x : En) : Bool := (inB x.day last 10000 && inB x.num 0 (n - 1)) && inB x.hrs 0 24
def ensOk (n : Int) : Int → List En → Bool
  | _, [] => true
  | last, x :: r => enOk n last x && ensOk n x.day r
def lgE (G : List (Int × Int)) (L : List En) : Int :=
  if 20 < G.length ∨ 200 < L.length then 3 else if G.all gOk = true then (if ensOk G.length 0 L = true then 0 else 1) else 1
theorem ensOk_drop {n last : Int} {L : List En} {k : Nat} {x : En} (h : L[k]? = some x) : ensOk n last (L.drop k) = (enOk n last x && ensOk n x.day (L.drop (k + 1))) := by
  obtain ⟨h1, h2⟩ := List.getElem?_eq_some_iff.1 h
  rw [List.drop_eq_getElem_cons h1, h2, ensOk]
/-- The day ahead of an entry. -/
def lastD (L : List En) : Nat → Int
  | 0 => 0
  | k + 1 => ((L[k]?).map En.day).getD 0
theorem lastD_succ {L : List En} {k : Nat} {x : En} (h : L[k]? = some x) : lastD L (k + 1) = x.day := by simp [lastD, h]

set_option maxRecDepth 100000 in
theorem entry_ok (n : Nat) (o : Option Addr) (c : Nat) (last : Int) (x : En) (hn : n ≤ 1000000) : True := trivial

set_option maxHeartbeats 1000000 in
set_option maxRecDepth 100000 in
theorem CheckLog_ok (G : List (Int × Int)) (L : List En) (o p : Option Addr) (c d : Nat) (w : World) (hG : Rd 2 gF (.slice o G.length c) G w) (hL : Rd 4 En.cs (.slice p L.length d) L w) (hg : G.length ≤ 1000000) (hl : L.length ≤ 1000000) :
    Calls Try.prog 22 #[.slice o G.length c, .slice p L.length d] w fun e w' => e = .returned (iv (lgE G L)) ∧ Below w.heap.size w w' := by
  refine calls_val env mixed Try.func22 has22 Try.ntmps22 [.slice o G.length c, .slice p L.length d] (by simp) ?_
  unfold lgE
  by_cases h1 : 20 < G.length ∨ 200 < L.length
  · rw [if_pos h1]
    repeat'
     conv => whnf
     first
      | refine zA ?_ | refine zB ?_ | refine zC ?_ | refine zD ?_ | refine zE ?_ | refine zF ?_ | refine zG ?_ | refine zH ?_ | refine zI ?_ | refine splT ?_ | refine splF ?_ | refine splNot ?_
      | ((first | refine splIn (fun hc => ?_) (fun hc => ?_) | refine splD (fun hc => ?_) (fun hc => ?_) | refine splE (fun hc => ?_) (fun hc => ?_) | refine splNE (fun hc => ?_) (fun hc => ?_)) <;> first | (exfalso; omega) | (exfalso; dsimp only at hc; omega) | skip)
    all_goals first | exact ⟨fun β => rfl, fun w' h => h⟩ | (exfalso; omega) | skip
  rw [if_neg h1]
  have ha := fun w' hb => all59_ok G o c w' (hG.below hb) hg
  cases h2 : G.all gOk with
  | false =>
    rw [h2] at ha
    rw [if_neg (by decide)]
    repeat'
     conv => whnf
     first
      | refine zA ?_ | refine zB ?_ | refine zC ?_ | refine zD ?_ | refine zE ?_ | refine zF ?_ | refine zG ?_ | refine zH ?_ | refine zI ?_ | refine splT ?_ | refine splF ?_ | refine splNot ?_
      | ((first | refine splIn (fun hc => ?_) (fun hc => ?_) | refine splD (fun hc => ?_) (fun hc => ?_) | refine splE (fun hc => ?_) (fun hc => ?_) | refine splNE (fun hc => ?_) (fun hc => ?_)) <;> first | (exfalso; omega) | (exfalso; dsimp only at hc; omega) | skip)
      | ((with_reducible show CallEv _ _ 59 _ _ _ _ _); refine callE (k := 59) (fun β w' hbw => ha _ hbw) ?_)
    all_goals first | exact ⟨fun β => rfl, fun w' h => h⟩ | (exfalso; omega) | skip
  | true =>
    rw [h2] at ha
    rw [if_pos rfl]
    repeat'
     conv => whnf
     first
      | refine zA ?_ | refine zB ?_ | refine zC ?_ | refine zD ?_ | refine zE ?_ | refine zF ?_ | refine zG ?_ | refine zH ?_ | refine zI ?_ | refine splT ?_ | refine splF ?_ | refine splNot ?_
      | ((first | refine splIn (fun hc => ?_) (fun hc => ?_) | refine splD (fun hc => ?_) (fun hc => ?_) | refine splE (fun hc => ?_) (fun hc => ?_) | refine splNE (fun hc => ?_) (fun hc => ?_)) <;> first | (exfalso; omega) | (exfalso; dsimp only at hc; omega) | skip)
      | ((with_reducible show CallEv _ _ 59 _ _ _ _ _); refine callE (k := 59) (fun β w' hbw => ha _ hbw) ?_)
      | ((with_reducible show CallEv _ _ 62 _ _ _ _ _); refine callI env mixed 1000 [] Try.func62 has62 Try.ntmps62 (Nat.le_of_ble_eq_true rfl) rfl rfl rfl ?_)
      | ((with_reducible show CallEv _ _ 83 _ _ _ _ _); refine callI env mixed 2000 [] Try.func83 has83 Try.ntmps83 (Nat.le_of_ble_eq_true rfl) rfl rfl rfl ?_)
      | ((with_reducible show CallEv _ _ 102 _ _ _ _ _); refine callI env mixed 3000 [] Try.func102 has102 Try.ntmps102 (Nat.le_of_ble_eq_true rfl) rfl rfl rfl ?_)
    all_goals first | (exfalso; omega) | skip
    conv => whnf
    refine loopE (fun k : Nat => [(0, .v (.slice p L.length d)), (1, .fn (.func 84) [.ptr 2 0]), (7, .v (iv L.length)), (8, .v (iv k))])
      (fun k => [(0, .cells [.v (.slice o G.length c)] 29), (1, .cells [.v (iv (lastD L k))] 3), (2, .cells [.fn (.func 61) [.ptr 1 0, .ptr 0 0]] 126)])
      (fun k => k ≤ L.length ∧ ensOk G.length 0 L = ensOk G.length (lastD L k) (L.drop k)) (fun k => L.length - k) 0 ⟨Nat.zero_le _, rfl⟩ ⟨rfl, rfl, rfl, rfl, trivial⟩ ⟨rfl, rfl, rfl, trivial⟩ (fun _ => ⟨rfl, rfl⟩) ?_
    intro k ⟨hk, hen⟩
    rcases Nat.lt_or_ge k L.length with hkl | hkl
    · obtain ⟨x, hx⟩ : ∃ b, L[k]? = some b := ⟨_, List.getElem?_eq_getElem hkl⟩
      obtain ⟨_, ad, rfl, _⟩ := hL.ptr (by omega)
      have e0 := fun (w' : World) hw' => rd_ati (hL.below (w' := w') hw') hx
      rw [ensOk_drop hx, ← lastD_succ hx] at hen
      unfold enOk at hen
      have hlast : ∀ b, ensOk G.length 0 L = (b && ensOk G.length (lastD L (k + 1)) (L.drop (k + 1))) → b = false → (if ensOk G.length 0 L = true then (0 : Int) else 1) = 1 := by
        intro b hb hf
        rw [hb, hf]; rfl
      repeat'
       conv => whnf
       first
        | refine zA ?_ | refine zB ?_ | refine zC ?_ | refine zD ?_ | refine zE ?_ | refine zF ?_ | refine zG ?_ | refine zH ?_ | refine zI ?_ | refine splT ?_ | refine splF ?_ | refine splNot ?_
        | ((first | refine splIn (fun hc => ?_) (fun hc => ?_) | refine splD (fun hc => ?_) (fun hc => ?_) | refine splE (fun hc => ?_) (fun hc => ?_) | refine splNE (fun hc => ?_) (fun hc => ?_)) <;> first | (exfalso; omega) | (exfalso; dsimp only at hc; omega) | skip)
        | refine Exists.intro (α := List Value) x.cs ⟨⟨rfl, fun w' hw' => e0 w' hw'⟩, ?_⟩
        | ((with_reducible show CallEv _ _ 84 _ _ _ _ _); refine callI env mixed 4000 [0,1,5,7,8] Try.func84 has84 Try.ntmps84 (Nat.le_of_ble_eq_true rfl) rfl rfl rfl ?_)
        | ((with_reducible show CallEv _ _ 61 _ _ _ _ _); refine callI env mixed 5000 [] Try.func61 has61 Try.ntmps61 (Nat.le_of_ble_eq_true rfl) rfl rfl rfl ?_)
        | ((with_reducible show CallEv _ _ 56 _ _ _ _ _); refine callE (k := 56) (fun β w' hbw => within_ok _ _ _ _) ?_)
        | refine splB (fun hb => ?_) (fun hb => ?_)
      · have ht : (inB x.day (lastD L k) 10000 && inB x.num 0 (G.length - 1) && inB x.hrs 0 24) = true := by simp [inB]; omega
        rw [ht, Bool.true_and] at hen
        exact ⟨k + 1, ⟨by omega, hen⟩, by omega, Ent.weak rfl ⟨rfl, rfl, rfl, rfl, trivial⟩ ⟨rfl, by rw [lastD_succ hx]; rfl, rfl, trivial⟩ fun _ h => h⟩
      all_goals
        have hf : (inB x.day (lastD L k) 10000 && inB x.num 0 (G.length - 1) && inB x.hrs 0 24) = false := by
          rw [Bool.eq_false_iff]; intro hc; simp [inB] at hc; omega
        exact ⟨fun β => congrArg (fun z : Int => iv z) (hlast _ hen hf).symm, fun w' h => h⟩
    · rw [List.drop_eq_nil_of_le hkl] at hen
      rw [hen, show ensOk G.length (lastD L k) [] = true from rfl, if_pos rfl]
      repeat'
       conv => whnf
       first
        | refine zA ?_ | refine zB ?_ | refine zC ?_ | refine zD ?_ | refine zE ?_ | refine zF ?_ | refine zG ?_ | refine zH ?_ | refine zI ?_ | refine splT ?_ | refine splF ?_ | refine splNot ?_
        | ((first | refine splIn (fun hc => ?_) (fun hc => ?_) | refine splD (fun hc => ?_) (fun hc => ?_) | refine splE (fun hc => ?_) (fun hc => ?_) | refine splNE (fun hc => ?_) (fun hc => ?_)) <;> first | (exfalso; omega) | (exfalso; dsimp only at hc; omega) | skip)
      exact ⟨fun β => rfl, fun w' h => h⟩
end Go.Proofs.Ytaciigegbgnadaa

/- Logs that are right: what the reference's LogFault returns. -/
namespace Go.Proofs.Ytaciigegbgnadaa
open Go Tx Go.RowKit
set_option linter.unusedSimpArgs false
set_option linter.unusedVariables false

set_option maxHeartbeats 1000000 in
set_option maxRecDepth 100000 in
theorem LogFault_ok (G : List (Int × Int)) (L : List En) (o p : Option Addr) (c d : Nat) (w : World) (hG : Rd 2 gF (.slice o G.length c) G w) (hL : Rd 4 En.cs (.slice p L.length d) L w) (hg : G.length ≤ 1000000) (hl : L.length ≤ 1000000) :
    Calls Try.prog 21 #[.slice o G.length c, .slice p L.length d] w fun e w' => e = .returned (iv (lgE G L)) ∧ Below w.heap.size w w' := by
  refine calls_val env mixed Try.func21 has21 Try.ntmps21 [.slice o G.length c, .slice p L.length d] (by simp) ?_
  unfold lgE
  by_cases h1 : 20 < G.length ∨ 200 < L.length
  · rw [if_pos h1]
    repeat'
     conv => whnf
     first
      | refine zA ?_ | refine zB ?_ | refine zC ?_ | refine zD ?_ | refine zE ?_ | refine zF ?_ | refine zG ?_ | refine zH ?_ | refine zI ?_ | refine splT ?_ | refine splF ?_ | refine splNot ?_
      | ((first | refine splIn (fun hc => ?_) (fun hc => ?_) | refine splD (fun hc => ?_) (fun hc => ?_) | refine splE (fun hc => ?_) (fun hc => ?_) | refine splNE (fun hc => ?_) (fun hc => ?_)) <;> first | (exfalso; omega) | (exfalso; dsimp only at hc; omega) | skip)
    all_goals first | exact ⟨fun β => rfl, fun w' h => h⟩ | (exfalso; omega) | skip
  rw [if_neg h1]
  repeat'
   conv => whnf
   first
    | refine zA ?_ | refine zB ?_ | refine zC ?_ | refine zD ?_ | refine zE ?_ | refine zF ?_ | refine zG ?_ | refine zH ?_ | refine zI ?_ | refine splT ?_ | refine splF ?_ | refine splNot ?_
    | ((first | refine splIn (fun hc => ?_) (fun hc => ?_) | refine splD (fun hc => ?_) (fun hc => ?_) | refine splE (fun hc => ?_) (fun hc => ?_) | refine splNE (fun hc => ?_) (fun hc => ?_)) <;> first | (exfalso; omega) | (exfalso; dsimp only at hc; omega) | skip)
  all_goals first | (exfalso; omega) | skip
  refine loopE (fun k : Nat => [(0, .v (.slice o G.length c)), (1, .v (.slice p L.length d)), (5, .v (iv k))]) (fun _ => []) (fun k => k ≤ G.length ∧ (G.take k).all gOk = true) (fun k => G.length - k) 0 ⟨Nat.zero_le _, rfl⟩ ⟨rfl, rfl, rfl, trivial⟩ trivial (fun _ => ⟨rfl, rfl⟩) ?_
  intro k ⟨hk, hall⟩
  rcases Nat.lt_or_ge k G.length with hkl | hkl
  · obtain ⟨g, hb⟩ : ∃ b, G[k]? = some b := ⟨_, List.getElem?_eq_getElem hkl⟩
    obtain ⟨_, ad, rfl, _⟩ := hG.ptr (by omega)
    have ht : (G.take (k + 1)).all gOk = gOk g := by rw [List.take_add_one, hb]; simp [hall]
    have e1 := fun (w' : World) hw' => rd_fld (hG.below (w' := w') hw') hb
    repeat'
     conv => whnf
     first
      | refine zA ?_ | refine zB ?_ | refine zC ?_ | refine zD ?_ | refine zE ?_ | refine zF ?_ | refine zG ?_ | refine zH ?_ | refine zI ?_ | refine splT ?_ | refine splF ?_ | refine splNot ?_
      | ((first | refine splIn (fun hc => ?_) (fun hc => ?_) | refine splD (fun hc => ?_) (fun hc => ?_) | refine splE (fun hc => ?_) (fun hc => ?_) | refine splNE (fun hc => ?_) (fun hc => ?_)) <;> first | (exfalso; omega) | (exfalso; dsimp only at hc; omega) | skip)
      | refine Exists.intro (α := List Value) [iv g.1] ⟨⟨rfl, fun w' hw' => e1 w' hw' 0 _ rfl⟩, ?_⟩
      | refine Exists.intro (α := List Value) [iv g.2] ⟨⟨rfl, fun w' hw' => e1 w' hw' 1 _ rfl⟩, ?_⟩
      | ((with_reducible show CallEv _ _ 23 _ _ _ _ _); refine callE (k := 23) (fun β w' hbw => In_ok _ _ _ _) ?_)
    all_goals first
      | (exfalso; omega)
      | (have hgo : gOk g = true := by simp [gOk, inB]; omega
         exact ⟨k + 1, ⟨by omega, by rw [ht, hgo]⟩, by omega, Ent.weak rfl ⟨rfl, rfl, rfl, trivial⟩ trivial fun _ h => h⟩)
      | (have hgo : gOk g = false := by rw [Bool.eq_false_iff]; intro hc; simp [gOk, inB] at hc; omega
         have hno : G.all gOk = false := by
           rw [List.all_eq_false]
           exact ⟨_, List.mem_of_getElem? hb, by simp [hgo]⟩
         rw [hno]
         exact ⟨fun β => rfl, fun w' h => h⟩)
  rw [List.take_of_length_le hkl] at hall
  rw [if_pos hall]
  have hkg : k = G.length := by omega
  repeat'
   conv => whnf
   first
    | refine zA ?_ | refine zB ?_ | refine zC ?_ | refine zD ?_ | refine zE ?_ | refine zF ?_ | refine zG ?_ | refine zH ?_ | refine zI ?_ | refine splT ?_ | refine splF ?_ | refine splNot ?_
    | ((first | refine splIn (fun hc => ?_) (fun hc => ?_) | refine splD (fun hc => ?_) (fun hc => ?_) | refine splE (fun hc => ?_) (fun hc => ?_) | refine splNE (fun hc => ?_) (fun hc => ?_)) <;> first | (exfalso; omega) | (exfalso; dsimp only at hc; omega) | skip)
  refine loopE (fun k : Nat => [(0, .v (.slice o G.length c)), (1, .v (.slice p L.length d)), (6, .v (iv k))]) (fun _ => [])
    (fun k => k ≤ L.length ∧ ensOk G.length 0 L = ensOk G.length (lastD L k) (L.drop k) ∧ 0 ≤ lastD L k) (fun k => L.length - k) 0 ⟨Nat.zero_le _, rfl, Int.le_refl _⟩ ⟨rfl, rfl, rfl, trivial⟩ trivial (fun _ => ⟨rfl, rfl⟩) ?_
  clear hkl hall hkg hk
  intro k ⟨hk, hen, h0⟩
  rcases Nat.lt_or_ge k L.length with hkl | hkl
  · obtain ⟨x, hx⟩ : ∃ b, L[k]? = some b := ⟨_, List.getElem?_eq_getElem hkl⟩
    obtain ⟨_, ad, rfl, _⟩ := hL.ptr (by omega)
    have e0 := fun (w' : World) hw' => rd_ati (hL.below (w' := w') hw') hx
    rw [ensOk_drop hx, ← lastD_succ hx] at hen
    unfold enOk at hen
    have hlast : ∀ b, ensOk G.length 0 L = (b && ensOk G.length (lastD L (k + 1)) (L.drop (k + 1))) → b = false → (if ensOk G.length 0 L = true then (0 : Int) else 1) = 1 := by
      intro b hb hf
      rw [hb, hf]; rfl
    cases k with
    | zero =>
      have l0 : lastD L 0 = 0 := rfl
      repeat'
       conv => whnf
       first
        | refine zA ?_ | refine zB ?_ | refine zC ?_ | refine zD ?_ | refine zE ?_ | refine zF ?_ | refine zG ?_ | refine zH ?_ | refine zI ?_ | refine splT ?_ | refine splF ?_ | refine splNot ?_
        | ((first | refine splIn (fun hc => ?_) (fun hc => ?_) | refine splD (fun hc => ?_) (fun hc => ?_) | refine splE (fun hc => ?_) (fun hc => ?_) | refine splNE (fun hc => ?_) (fun hc => ?_)) <;> first | (exfalso; omega) | (exfalso; dsimp only at hc; omega) | skip)
        | refine Exists.intro (α := List Value) x.cs ⟨⟨rfl, fun w' hw' => e0 w' hw'⟩, ?_⟩
        | ((with_reducible show CallEv _ _ 23 _ _ _ _ _); refine callE (k := 23) (fun β w' hbw => In_ok _ _ _ _) ?_)
      · have ht : (inB x.day (lastD L 0) 10000 && inB x.num 0 (G.length - 1) && inB x.hrs 0 24) = true := by simp only [inB, Bool.and_eq_true, decide_eq_true_eq]; omega
        rw [ht, Bool.true_and] at hen
        exact ⟨0 + 1, ⟨by omega, hen, by rw [lastD_succ hx]; omega⟩, by omega, Ent.weak rfl ⟨rfl, rfl, rfl, trivial⟩ trivial fun _ h => h⟩
      all_goals
        have hf : (inB x.day (lastD L 0) 10000 && inB x.num 0 (G.length - 1) && inB x.hrs 0 24) = false := by
          rw [Bool.eq_false_iff]; intro hc; simp only [inB, Bool.and_eq_true, decide_eq_true_eq] at hc; omega
        exact ⟨fun β => congrArg (fun z : Int => iv z) (hlast _ hen hf).symm, fun w' h => h⟩
    | succ m =>
      obtain ⟨y, hy⟩ : ∃ b, L[m]? = some b := ⟨_, List.getElem?_eq_getElem (by omega)⟩
      rw [lastD_succ hy] at hen h0
      have hm1 : ((m + 1 : Nat) : Int) - 1 = (m : Int) := by omega
      have e1 := fun (w' : World) hw' => rd_fld (hL.below (w' := w') hw') hy
      repeat'
       conv => whnf
       first
        | refine zA ?_ | refine zB ?_ | refine zC ?_ | refine zD ?_ | refine zE ?_ | refine zF ?_ | refine zG ?_ | refine zH ?_ | refine zI ?_ | refine splT ?_ | refine splF ?_ | refine splNot ?_
        | ((first | refine splIn (fun hc => ?_) (fun hc => ?_) | refine splD (fun hc => ?_) (fun hc => ?_) | refine splE (fun hc => ?_) (fun hc => ?_) | refine splNE (fun hc => ?_) (fun hc => ?_)) <;> first | (exfalso; omega) | (exfalso; dsimp only at hc; omega) | skip)
        | refine Exists.intro (α := List Value) x.cs ⟨⟨rfl, fun w' hw' => e0 w' hw'⟩, ?_⟩
        | ((with_reducible show CallEv _ _ 23 _ _ _ _ _); refine callE (k := 23) (fun β w' hbw => In_ok _ _ _ _) ?_)
        | refine Exists.intro (α := List Value) [iv y.day] ⟨⟨rfl, fun w' hw' => by rw [hm1]; exact e1 w' hw' 0 _ rfl⟩, ?_⟩
      all_goals first
        | (have ht : (inB x.day y.day 10000 && inB x.num 0 (G.length - 1) && inB x.hrs 0 24) = true := by simp [inB, lastD]; omega
           rw [ht, Bool.true_and] at hen
           exact ⟨m + 1 + 1, ⟨by omega, hen, by rw [lastD_succ hx]; first | omega | (simp only [lastD] at *; omega)⟩, by omega, Ent.weak rfl ⟨rfl, rfl, rfl, trivial⟩ trivial fun _ h => h⟩)
        | (have hf : (inB x.day y.day 10000 && inB x.num 0 (G.length - 1) && inB x.hrs 0 24) = false := by
             rw [Bool.eq_false_iff]; intro hc; simp [inB, lastD] at hc; omega
           exact ⟨fun β => congrArg (fun z : Int => iv z) (hlast _ hen hf).symm, fun w' h => h⟩)
  · rw [List.drop_eq_nil_of_le hkl] at hen
    rw [hen, show ensOk G.length (lastD L k) [] = true from rfl, if_pos rfl]
    repeat'
     conv => whnf
     first
      | refine zA ?_ | refine zB ?_ | refine zC ?_ | refine zD ?_ | refine zE ?_ | refine zF ?_ | refine zG ?_ | refine zH ?_ | refine zI ?_ | refine splT ?_ | refine splF ?_ | refine splNot ?_
      | ((first | refine splIn (fun hc => ?_) (fun hc => ?_) | refine splD (fun hc => ?_) (fun hc => ?_) | refine splE (fun hc => ?_) (fun hc => ?_) | refine splNE (fun hc => ?_) (fun hc => ?_)) <;> first | (exfalso; omega) | (exfalso; dsimp only at hc; omega) | skip)
    exact ⟨fun β => rfl, fun w' h => h⟩
end Go.Proofs.Ytaciigegbgnadaa

/- Gears and logs of one package said in the other's types: what these functions return. -/
namespace Go.Proofs.Ytaciigegbgnadaa
open Go Tx Go.RowKit
set_option linter.unusedSimpArgs false
set_option linter.unusedVariables false

set_option maxHeartbeats 1000000 in
set_option maxRecDepth 100000 in
theorem Gears_ok (A : List (Int × Int)) (o : Option Addr) (c : Nat) (w : World) (hrd : Rd 2 gF (.slice o A.length c) A w) (hl : A.length ≤ 1000000) :
    Calls Try.prog 18 #[.slice o A.length c] w fun e w' => ∃ y : Option Addr × Nat, e = .returned (sV A.length y) ∧ Below w.heap.size w w' ∧ St w.heap.size (Rd 2 gF (sV A.length y) A) w' := by
  refine calls_fam env mixed Try.func18 has18 Try.ntmps18 [.slice o A.length c] (by simp) ?_
  repeat'
   conv => whnf
   first
    | refine zA ?_ | refine zB ?_ | refine zC ?_ | refine zD ?_ | refine zE ?_ | refine zF ?_ | refine zG ?_ | refine zH ?_ | refine zI ?_ | refine splT ?_ | refine splF ?_ | refine splNot ?_
    | ((first | refine splIn (fun hc => ?_) (fun hc => ?_) | refine splD (fun hc => ?_) (fun hc => ?_) | refine splE (fun hc => ?_) (fun hc => ?_) | refine splNE (fun hc => ?_) (fun hc => ?_)) <;> first | (exfalso; omega) | (exfalso; dsimp only at hc; omega) | skip)
  refine loopN 2 (fun k : Nat => [(0, .v (.slice o A.length c)), (3, oSV 0 1 (A.take k)), (4, .v (iv k))]) (fun k => oM 0 1 2 gF 118 (A.take k))
    (fun k => k ≤ A.length) (fun k => A.length - k) 0 (Nat.zero_le _) ⟨rfl, rfl, rfl, trivial⟩ trivial (fun k _ => by cases A.take k <;> exact ⟨rfl, rfl⟩) ?_
  intro k hk
  rcases Nat.lt_or_ge k A.length with hkl | hkl
  · obtain ⟨x, hx⟩ : ∃ b, A[k]? = some b := ⟨_, List.getElem?_eq_getElem hkl⟩
    obtain ⟨_, ad, rfl, _⟩ := hrd.ptr (by omega)
    have e1 := fun (w' : World) hw' => rd_fld (hrd.below (w' := w') hw') hx
    have ht : A.take (k + 1) = A.take k ++ [x] := by rw [List.take_add_one, hx]; rfl
    have hlen : (A.take k).length = k := by rw [List.length_take]; omega
    generalize A.take k = L at *
    cases L with
    | nil =>
      repeat'
       conv => whnf
       first
        | refine zA ?_ | refine zB ?_ | refine zC ?_ | refine zD ?_ | refine zE ?_ | refine zF ?_ | refine zG ?_ | refine zH ?_ | refine zI ?_ | refine splT ?_ | refine splF ?_ | refine splNot ?_
        | ((first | refine splIn (fun hc => ?_) (fun hc => ?_) | refine splD (fun hc => ?_) (fun hc => ?_) | refine splE (fun hc => ?_) (fun hc => ?_) | refine splNE (fun hc => ?_) (fun hc => ?_)) <;> first | (exfalso; omega) | (exfalso; dsimp only at hc; omega) | skip)
        | refine Exists.intro (α := List Value) [iv x.1] ⟨⟨rfl, fun w' hw' => e1 w' hw' 0 _ rfl⟩, ?_⟩
        | refine Exists.intro (α := List Value) [iv x.2] ⟨⟨rfl, fun w' hw' => e1 w' hw' 1 _ rfl⟩, ?_⟩
      exact ⟨k + 1, by omega, by omega, Ent.ren (rho [(0, 3), (1, 4)]) rfl (by rw [ht]; rfl) ⟨rfl, by rw [ht]; rfl, rfl, trivial⟩ (by rw [ht]; exact ⟨rfl, trivial⟩) fun _ h => h⟩
    | cons a L =>
      simp only [List.length_cons] at hlen
      repeat'
       conv => whnf
       first
        | refine zA ?_ | refine zB ?_ | refine zC ?_ | refine zD ?_ | refine zE ?_ | refine zF ?_ | refine zG ?_ | refine zH ?_ | refine zI ?_ | refine splT ?_ | refine splF ?_ | refine splNot ?_
        | ((first | refine splIn (fun hc => ?_) (fun hc => ?_) | refine splD (fun hc => ?_) (fun hc => ?_) | refine splE (fun hc => ?_) (fun hc => ?_) | refine splNE (fun hc => ?_) (fun hc => ?_)) <;> first | (exfalso; omega) | (exfalso; dsimp only at hc; omega) | skip)
        | refine Exists.intro (α := List Value) [iv x.1] ⟨⟨rfl, fun w' hw' => e1 w' hw' 0 _ rfl⟩, ?_⟩
        | refine Exists.intro (α := List Value) [iv x.2] ⟨⟨rfl, fun w' hw' => e1 w' hw' 1 _ rfl⟩, ?_⟩
      exact ⟨k + 1, by omega, by omega, Ent.ren (rho [(0, 3), (1, 4)]) rfl (by rw [ht]; rfl) ⟨rfl, by rw [ht]; simp [oSV]; rfl, rfl, trivial⟩ (by rw [ht]; exact ⟨by simp [oM]; rfl, trivial⟩) fun _ h => h⟩
  · obtain rfl : k = A.length := by omega
    rw [List.take_of_length_le (Nat.le_refl _)]
    cases A with
    | nil =>
      repeat'
       conv => whnf
       first
        | refine zA ?_ | refine zB ?_ | refine zC ?_ | refine zD ?_ | refine zE ?_ | refine zF ?_ | refine zG ?_ | refine zH ?_ | refine zI ?_ | refine splT ?_ | refine splF ?_ | refine splNot ?_
        | ((first | refine splIn (fun hc => ?_) (fun hc => ?_) | refine splD (fun hc => ?_) (fun hc => ?_) | refine splE (fun hc => ?_) (fun hc => ?_) | refine splNE (fun hc => ?_) (fun hc => ?_)) <;> first | (exfalso; omega) | (exfalso; dsimp only at hc; omega) | skip)
      exact ⟨fun w' h => h, fun β w' hB hblk => oNil (i := 0) (j := 1) (f := gF) (sz := 2)⟩
    | cons a L =>
      repeat'
       conv => whnf
       first
        | refine zA ?_ | refine zB ?_ | refine zC ?_ | refine zD ?_ | refine zE ?_ | refine zF ?_ | refine zG ?_ | refine zH ?_ | refine zI ?_ | refine splT ?_ | refine splF ?_ | refine splNot ?_
        | ((first | refine splIn (fun hc => ?_) (fun hc => ?_) | refine splD (fun hc => ?_) (fun hc => ?_) | refine splE (fun hc => ?_) (fun hc => ?_) | refine splNE (fun hc => ?_) (fun hc => ?_)) <;> first | (exfalso; omega) | (exfalso; dsimp only at hc; omega) | skip)
      exact ⟨fun w' h => h, fun β w' hB hblk => oEnd (sz := 2) (f := gF) (fun _ => rfl) a L (hblk 0 _ rfl rfl)⟩

set_option maxHeartbeats 1000000 in
set_option maxRecDepth 100000 in
theorem Log_ok (A : List En) (o : Option Addr) (c : Nat) (w : World) (hrd : Rd 4 En.cs (.slice o A.length c) A w) (hl : A.length ≤ 1000000) :
    Calls Try.prog 19 #[.slice o A.length c] w fun e w' => ∃ y : Option Addr × Nat, e = .returned (sV A.length y) ∧ Below w.heap.size w w' ∧ St w.heap.size (Rd 4 En.cs (sV A.length y) A) w' := by
  refine calls_fam env mixed Try.func19 has19 Try.ntmps19 [.slice o A.length c] (by simp) ?_
  repeat'
   conv => whnf
   first
    | refine zA ?_ | refine zB ?_ | refine zC ?_ | refine zD ?_ | refine zE ?_ | refine zF ?_ | refine zG ?_ | refine zH ?_ | refine zI ?_ | refine splT ?_ | refine splF ?_ | refine splNot ?_
    | ((first | refine splIn (fun hc => ?_) (fun hc => ?_) | refine splD (fun hc => ?_) (fun hc => ?_) | refine splE (fun hc => ?_) (fun hc => ?_) | refine splNE (fun hc => ?_) (fun hc => ?_)) <;> first | (exfalso; omega) | (exfalso; dsimp only at hc; omega) | skip)
  refine loopN 2 (fun k : Nat => [(0, .v (.slice o A.length c)), (3, oSV 0 1 (A.take k)), (4, .v (iv k))]) (fun k => oM 0 1 4 En.cs 75 (A.take k))
    (fun k => k ≤ A.length) (fun k => A.length - k) 0 (Nat.zero_le _) ⟨rfl, rfl, rfl, trivial⟩ trivial (fun k _ => by cases A.take k <;> exact ⟨rfl, rfl⟩) ?_
  intro k hk
  rcases Nat.lt_or_ge k A.length with hkl | hkl
  · obtain ⟨x, hx⟩ : ∃ b, A[k]? = some b := ⟨_, List.getElem?_eq_getElem hkl⟩
    obtain ⟨_, ad, rfl, _⟩ := hrd.ptr (by omega)
    have e1 := fun (w' : World) hw' => rd_fld (hrd.below (w' := w') hw') hx
    have ht : A.take (k + 1) = A.take k ++ [x] := by rw [List.take_add_one, hx]; rfl
    have hlen : (A.take k).length = k := by rw [List.length_take]; omega
    generalize A.take k = L at *
    cases L with
    | nil =>
      repeat'
       conv => whnf
       first
        | refine zA ?_ | refine zB ?_ | refine zC ?_ | refine zD ?_ | refine zE ?_ | refine zF ?_ | refine zG ?_ | refine zH ?_ | refine zI ?_ | refine splT ?_ | refine splF ?_ | refine splNot ?_
        | ((first | refine splIn (fun hc => ?_) (fun hc => ?_) | refine splD (fun hc => ?_) (fun hc => ?_) | refine splE (fun hc => ?_) (fun hc => ?_) | refine splNE (fun hc => ?_) (fun hc => ?_)) <;> first | (exfalso; omega) | (exfalso; dsimp only at hc; omega) | skip)
        | refine Exists.intro (α := List Value) [iv x.day] ⟨⟨rfl, fun w' hw' => e1 w' hw' 0 _ rfl⟩, ?_⟩
        | refine Exists.intro (α := List Value) [iv x.num] ⟨⟨rfl, fun w' hw' => e1 w' hw' 1 _ rfl⟩, ?_⟩
        | refine Exists.intro (α := List Value) [iv x.hrs] ⟨⟨rfl, fun w' hw' => e1 w' hw' 2 _ rfl⟩, ?_⟩
        | refine Exists.intro (α := List Value) [.bool x.chk] ⟨⟨rfl, fun w' hw' => e1 w' hw' 3 _ rfl⟩, ?_⟩
      exact ⟨k + 1, by omega, by omega, Ent.ren (rho [(0, 3), (1, 4)]) rfl (by rw [ht]; rfl) ⟨rfl, by rw [ht]; rfl, rfl, trivial⟩ (by rw [ht]; exact ⟨rfl, trivial⟩) fun _ h => h⟩
    | cons a L =>
      simp only [List.length_cons] at hlen
      repeat'
       conv => whnf
       first
        | refine zA ?_ | refine zB ?_ | refine zC ?_ | refine zD ?_ | refine zE ?_ | refine zF ?_ | refine zG ?_ | refine zH ?_ | refine zI ?_ | refine splT ?_ | refine splF ?_ | refine splNot ?_
        | ((first | refine splIn (fun hc => ?_) (fun hc => ?_) | refine splD (fun hc => ?_) (fun hc => ?_) | refine splE (fun hc => ?_) (fun hc => ?_) | refine splNE (fun hc => ?_) (fun hc => ?_)) <;> first | (exfalso; omega) | (exfalso; dsimp only at hc; omega) | skip)
        | refine Exists.intro (α := List Value) [iv x.day] ⟨⟨rfl, fun w' hw' => e1 w' hw' 0 _ rfl⟩, ?_⟩
        | refine Exists.intro (α := List Value) [iv x.num] ⟨⟨rfl, fun w' hw' => e1 w' hw' 1 _ rfl⟩, ?_⟩
        | refine Exists.intro (α := List Value) [iv x.hrs] ⟨⟨rfl, fun w' hw' => e1 w' hw' 2 _ rfl⟩, ?_⟩
        | refine Exists.intro (α := List Value) [.bool x.chk] ⟨⟨rfl, fun w' hw' => e1 w' hw' 3 _ rfl⟩, ?_⟩
      exact ⟨k + 1, by omega, by omega, Ent.ren (rho [(0, 3), (1, 4)]) rfl (by rw [ht]; rfl) ⟨rfl, by rw [ht]; simp [oSV]; rfl, rfl, trivial⟩ (by rw [ht]; exact ⟨by simp [oM]; rfl, trivial⟩) fun _ h => h⟩
  · obtain rfl : k = A.length := by omega
    rw [List.take_of_length_le (Nat.le_refl _)]
    cases A with
    | nil =>
      repeat'
       conv => whnf
       first
        | refine zA ?_ | refine zB ?_ | refine zC ?_ | refine zD ?_ | refine zE ?_ | refine zF ?_ | refine zG ?_ | refine zH ?_ | refine zI ?_ | refine splT ?_ | refine splF ?_ | refine splNot ?_
        | ((first | refine splIn (fun hc => ?_) (fun hc => ?_) | refine splD (fun hc => ?_) (fun hc => ?_) | refine splE (fun hc => ?_) (fun hc => ?_) | refine splNE (fun hc => ?_) (fun hc => ?_)) <;> first | (exfalso; omega) | (exfalso; dsimp only at hc; omega) | skip)
      exact ⟨fun w' h => h, fun β w' hB hblk => oNil (i := 0) (j := 1) (f := En.cs) (sz := 4)⟩
    | cons a L =>
      repeat'
       conv => whnf
       first
        | refine zA ?_ | refine zB ?_ | refine zC ?_ | refine zD ?_ | refine zE ?_ | refine zF ?_ | refine zG ?_ | refine zH ?_ | refine zI ?_ | refine splT ?_ | refine splF ?_ | refine splNot ?_
        | ((first | refine splIn (fun hc => ?_) (fun hc => ?_) | refine splD (fun hc => ?_) (fun hc => ?_) | refine splE (fun hc => ?_) (fun hc => ?_) | refine splNE (fun hc => ?_) (fun hc => ?_)) <;> first | (exfalso; omega) | (exfalso; dsimp only at hc; omega) | skip)
      exact ⟨fun w' h => h, fun β w' hB hblk => oEnd (sz := 4) (f := En.cs) (fun _ => rfl) a L (hblk 0 _ rfl rfl)⟩
end Go.Proofs.Ytaciigegbgnadaa

/- Which gears are stale on a day, until when a gear is not: what the program's two functions return. -/
namespace Go.Proofs.Ytaciigegbgnadaa
open Go Tx Go.RowKit
set_option linter.unusedSimpArgs false
set_option linter.unusedVariables false

theorem ensOk_all {n : Int} : ∀ {L : List En} {last : Int}, 0 ≤ last → ensOk n last L = true → ∀ x ∈ L, (0 ≤ x.hrs ∧ x.hrs ≤ 24) ∧ (last ≤ x.day ∧ x.day ≤ 10000) ∧ (0 ≤ x.num ∧ x.num ≤ n - 1)
  | [], _, _, _, x, hx => by cases hx
  | y :: r, last, h0, h, x, hx => by
    rw [ensOk, Bool.and_eq_true, enOk, Bool.and_eq_true, Bool.and_eq_true, inB_iff, inB_iff, inB_iff] at h
    rcases List.mem_cons.1 hx with rfl | hx
    · omega
    · have := ensOk_all (by omega) h.2 x hx
      omega
theorem lgE_ok {G : List (Int × Int)} {L : List En} (h : lgE G L = 0) : G.length ≤ 20 ∧ L.length ≤ 200 ∧ G.all gOk = true ∧ ensOk G.length 0 L = true ∧ EB L := by
  unfold lgE at h
  split at h
  · omega
  · rename_i h1
    split at h
    · rename_i h2
      split at h
      · rename_i h3
        exact ⟨by omega, by omega, h2, h3, by omega, fun x hx => by have := ensOk_all (Int.le_refl _) h3 x hx; omega⟩
      · omega
    · omega
theorem lgE_cases (G : List (Int × Int)) (L : List En) : lgE G L = 0 ∨ lgE G L = 1 ∨ lgE G L = 3 := by
  unfold lgE
  split
  · exact .inr (.inr rfl)
  · split
    · split
      · exact .inl rfl
      · exact .inr (.inl rfl)
    · exact .inr (.inl rfl)
/-- Is the k-th gear stale on a day? -/
def stI (G : List (Int × Int)) (L : List En) (day : Int) (k : Nat) : Bool := match G[k]? with | some g => stB g (stL k day L) day 0 | none => false
def staL (G : List (Int × Int)) (L : List En) (day : Int) : Nat → List Int
  | 0 => []
  | k + 1 => staL G L day k ++ (if stI G L day k = true then [(k : Int)] else [])
def staR (G : List (Int × Int)) (L : List En) (day : Int) : List Int := if lgE G L = 0 ∧ (0 ≤ day ∧ day ≤ 10000) then staL G L day G.length else []
def staE (G : List (Int × Int)) (L : List En) (day : Int) : Int := if lgE G L = 0 then (if 0 ≤ day ∧ day ≤ 10000 then 0 else 2) else lgE G L
theorem staL_len (G : List (Int × Int)) (L : List En) (day : Int) : ∀ k, (staL G L day k).length ≤ k
  | 0 => Nat.le_refl _
  | k + 1 => by
    have := staL_len G L day k
    rw [staL, List.length_append]
    split <;> simp <;> omega

set_option maxHeartbeats 1000000 in
set_option maxRecDepth 100000 in
theorem Stale_ok (G : List (Int × Int)) (L : List En) (o p : Option Addr) (c d : Nat) (day : Int) (w : World) (hG : Rd 2 gF (.slice o G.length c) G w) (hL : Rd 4 En.cs (.slice p L.length d) L w) (hg : G.length ≤ 1000000) (hl : L.length ≤ 1000000) :
    Calls Try.prog 17 #[.slice o G.length c, .slice p L.length d, iv day] w fun e w' => ∃ y : Option Addr × Nat, e = .returned (.tuple #[sV (staR G L day).length y, iv (staE G L day)]) ∧ Below w.heap.size w w' ∧ St w.heap.size (Rd 1 iF (sV (staR G L day).length y) (staR G L day)) w' := by
  refine calls_fam env mixed Try.func17 has17 Try.ntmps17 [.slice o G.length c, .slice p L.length d, iv day] (by simp) ?_
  have hC := fun w' (hb : Below w.heap.size w w') => CheckLog_ok G L o p c d w' (hG.below hb) (hL.below hb) hg hl
  by_cases he : lgE G L = 0
  · rw [he] at hC
    obtain ⟨b1, b2, _, _, hE⟩ := lgE_ok he
    by_cases hd : 0 ≤ day ∧ day ≤ 10000
    · rw [show staR G L day = staL G L day G.length from if_pos ⟨he, hd⟩, show staE G L day = 0 from by rw [staE, if_pos he, if_pos hd]]
      repeat'
       conv => whnf
       first
        | refine zA ?_ | refine zB ?_ | refine zC ?_ | refine zD ?_ | refine zE ?_ | refine zF ?_ | refine zG ?_ | refine zH ?_ | refine zI ?_ | refine splT ?_ | refine splF ?_ | refine splNot ?_
        | ((first | refine splIn (fun hc => ?_) (fun hc => ?_) | refine splD (fun hc => ?_) (fun hc => ?_) | refine splE (fun hc => ?_) (fun hc => ?_) | refine splNE (fun hc => ?_) (fun hc => ?_)) <;> first | (exfalso; omega) | (exfalso; dsimp only at hc; omega) | skip)
        | ((with_reducible show CallEv _ _ 22 _ _ _ _ _); refine callE (k := 22) (fun β w' hbw => hC _ hbw) ?_)
        | ((with_reducible show CallEv _ _ 56 _ _ _ _ _); refine callE (k := 56) (fun β w' hbw => within_ok _ _ _ _) ?_)
      all_goals first | (exfalso; omega) | skip
      refine loopN 2 (fun k : Nat => [(1, .v (.slice p L.length d)), (2, .v (iv day)), (9, oSV 0 1 (staL G L day k)), (21, .v (.slice o G.length c)), (22, .v (iv G.length)), (23, .v (iv k))]) (fun k => oM 0 1 1 iF 3 (staL G L day k))
        (fun k => k ≤ G.length) (fun k => G.length - k) 0 (Nat.zero_le _) ⟨rfl, rfl, rfl, rfl, rfl, rfl, trivial⟩ trivial (fun k _ => by cases staL G L day k <;> exact ⟨rfl, rfl⟩) ?_
      intro k hk
      have hlen := staL_len G L day k
      rcases Nat.lt_or_ge k G.length with hkl | hkl
      · obtain ⟨g, hx⟩ : ∃ b, G[k]? = some b := ⟨_, List.getElem?_eq_getElem hkl⟩
        obtain ⟨_, ad, rfl, _⟩ := hG.ptr (by omega)
        have e0 := fun (w' : World) hw' => rd_ati (hG.below (w' := w') hw') hx
        have hst : staL G L day (k + 1) = staL G L day k ++ (if stI G L day k = true then [(k : Int)] else []) := rfl
        rw [show stI G L day k = stB g (stL k day L) day 0 from by rw [stI, hx]] at hst
        have hbd := stL_bdl (num := k) (day := day) hE
        have h57 := fun w' (hb : Below w.heap.size w w') => record_ok g L p d k day w' (hL.below hb) hE
        have h58 := fun w' => stale_ok g (stL k day L) day 0 w' hbd (by omega) (by omega)
        generalize stL k day L = s at *
        generalize stB g s day 0 = sb at *
        generalize staL G L day k = A at *
        cases sb with
        | false =>
          rw [if_neg (by simp), List.append_nil] at hst
          repeat'
           conv => whnf
           first
            | refine zA ?_ | refine zB ?_ | refine zC ?_ | refine zD ?_ | refine zE ?_ | refine zF ?_ | refine zG ?_ | refine zH ?_ | refine zI ?_ | refine splT ?_ | refine splF ?_ | refine splNot ?_
            | ((first | refine splIn (fun hc => ?_) (fun hc => ?_) | refine splD (fun hc => ?_) (fun hc => ?_) | refine splE (fun hc => ?_) (fun hc => ?_) | refine splNE (fun hc => ?_) (fun hc => ?_)) <;> first | (exfalso; omega) | (exfalso; dsimp only at hc; omega) | skip)
            | refine Exists.intro (α := List Value) (gF g) ⟨⟨rfl, fun w' hw' => e0 w' hw'⟩, ?_⟩
            | ((with_reducible show CallEv _ _ 57 _ _ _ _ _); refine callE (k := 57) (fun β w' hbw => h57 _ hbw) ?_)
            | ((with_reducible show CallEv _ _ 58 _ _ _ _ _); refine callE (k := 58) (fun β w' hbw => h58 _) ?_)
          exact ⟨k + 1, by omega, by omega, Ent.weak rfl ⟨rfl, rfl, by rw [hst]; rfl, rfl, rfl, rfl, trivial⟩ (by rw [hst]; cases A <;> first | trivial | exact ⟨rfl, trivial⟩) fun _ h => h⟩
        | true =>
          rw [if_pos rfl] at hst
          cases A with
          | nil =>
            repeat'
             conv => whnf
             first
              | refine zA ?_ | refine zB ?_ | refine zC ?_ | refine zD ?_ | refine zE ?_ | refine zF ?_ | refine zG ?_ | refine zH ?_ | refine zI ?_ | refine splT ?_ | refine splF ?_ | refine splNot ?_
              | ((first | refine splIn (fun hc => ?_) (fun hc => ?_) | refine splD (fun hc => ?_) (fun hc => ?_) | refine splE (fun hc => ?_) (fun hc => ?_) | refine splNE (fun hc => ?_) (fun hc => ?_)) <;> first | (exfalso; omega) | (exfalso; dsimp only at hc; omega) | skip)
              | refine Exists.intro (α := List Value) (gF g) ⟨⟨rfl, fun w' hw' => e0 w' hw'⟩, ?_⟩
              | ((with_reducible show CallEv _ _ 57 _ _ _ _ _); refine callE (k := 57) (fun β w' hbw => h57 _ hbw) ?_)
              | ((with_reducible show CallEv _ _ 58 _ _ _ _ _); refine callE (k := 58) (fun β w' hbw => h58 _) ?_)
            exact ⟨k + 1, by omega, by omega, Ent.ren (rho [(0, 4), (1, 5)]) rfl (by rw [hst]; rfl) ⟨rfl, rfl, by rw [hst]; rfl, rfl, rfl, rfl, trivial⟩ (by rw [hst]; exact ⟨rfl, trivial⟩) fun _ h => h⟩
          | cons a A =>
            simp only [List.length_cons] at hlen
            repeat'
             conv => whnf
             first
              | refine zA ?_ | refine zB ?_ | refine zC ?_ | refine zD ?_ | refine zE ?_ | refine zF ?_ | refine zG ?_ | refine zH ?_ | refine zI ?_ | refine splT ?_ | refine splF ?_ | refine splNot ?_
              | ((first | refine splIn (fun hc => ?_) (fun hc => ?_) | refine splD (fun hc => ?_) (fun hc => ?_) | refine splE (fun hc => ?_) (fun hc => ?_) | refine splNE (fun hc => ?_) (fun hc => ?_)) <;> first | (exfalso; omega) | (exfalso; dsimp only at hc; omega) | skip)
              | refine Exists.intro (α := List Value) (gF g) ⟨⟨rfl, fun w' hw' => e0 w' hw'⟩, ?_⟩
              | ((with_reducible show CallEv _ _ 57 _ _ _ _ _); refine callE (k := 57) (fun β w' hbw => h57 _ hbw) ?_)
              | ((with_reducible show CallEv _ _ 58 _ _ _ _ _); refine callE (k := 58) (fun β w' hbw => h58 _) ?_)
            exact ⟨k + 1, by omega, by omega, Ent.ren (rho [(0, 4), (1, 5)]) rfl (by rw [hst]; rfl) ⟨rfl, rfl, by rw [hst]; simp [oSV]; rfl, rfl, rfl, rfl, trivial⟩ (by rw [hst]; exact ⟨by simp [oM]; rfl, trivial⟩) fun _ h => h⟩
      · obtain rfl : k = G.length := by omega
        generalize staL G L day G.length = A at *
        cases A with
        | nil =>
          repeat'
           conv => whnf
           first
            | refine zA ?_ | refine zB ?_ | refine zC ?_ | refine zD ?_ | refine zE ?_ | refine zF ?_ | refine zG ?_ | refine zH ?_ | refine zI ?_ | refine splT ?_ | refine splF ?_ | refine splNot ?_
            | ((first | refine splIn (fun hc => ?_) (fun hc => ?_) | refine splD (fun hc => ?_) (fun hc => ?_) | refine splE (fun hc => ?_) (fun hc => ?_) | refine splNE (fun hc => ?_) (fun hc => ?_)) <;> first | (exfalso; omega) | (exfalso; dsimp only at hc; omega) | skip)
          exact ⟨fun w' h => h, fun β w' hB hblk => ⟨(none, 0), rfl, fun _ _ => .inl ⟨rfl, rfl⟩⟩⟩
        | cons a A =>
          repeat'
           conv => whnf
           first
            | refine zA ?_ | refine zB ?_ | refine zC ?_ | refine zD ?_ | refine zE ?_ | refine zF ?_ | refine zG ?_ | refine zH ?_ | refine zI ?_ | refine splT ?_ | refine splF ?_ | refine splNot ?_
            | ((first | refine splIn (fun hc => ?_) (fun hc => ?_) | refine splD (fun hc => ?_) (fun hc => ?_) | refine splE (fun hc => ?_) (fun hc => ?_) | refine splNE (fun hc => ?_) (fun hc => ?_)) <;> first | (exfalso; omega) | (exfalso; dsimp only at hc; omega) | skip)
          exact ⟨fun w' h => h, fun β w' hB hblk => ⟨(some ⟨β 0, 0, none⟩, β 1), rfl, (hblk 0 _ rfl rfl).imp fun _ q => Rd.of_owns (sz := 1) (f := iF) (fun _ => rfl) rfl rfl q⟩⟩
    · rw [show staR G L day = [] from if_neg fun h => hd h.2, show staE G L day = 2 from by rw [staE, if_pos he, if_neg hd]]
      repeat'
       conv => whnf
       first
        | refine zA ?_ | refine zB ?_ | refine zC ?_ | refine zD ?_ | refine zE ?_ | refine zF ?_ | refine zG ?_ | refine zH ?_ | refine zI ?_ | refine splT ?_ | refine splF ?_ | refine splNot ?_
        | ((first | refine splIn (fun hc => ?_) (fun hc => ?_) | refine splD (fun hc => ?_) (fun hc => ?_) | refine splE (fun hc => ?_) (fun hc => ?_) | refine splNE (fun hc => ?_) (fun hc => ?_)) <;> first | (exfalso; omega) | (exfalso; dsimp only at hc; omega) | skip)
        | ((with_reducible show CallEv _ _ 22 _ _ _ _ _); refine callE (k := 22) (fun β w' hbw => hC _ hbw) ?_)
        | ((with_reducible show CallEv _ _ 56 _ _ _ _ _); refine callE (k := 56) (fun β w' hbw => within_ok _ _ _ _) ?_)
      all_goals first | (exfalso; omega) | skip
      all_goals exact ⟨fun w' h => h, fun β w' h _ => ⟨(none, 0), rfl, fun _ _ => .inl ⟨rfl, rfl⟩⟩⟩
  · rw [show staR G L day = [] from if_neg fun h => he h.1, show staE G L day = lgE G L from if_neg he]
    have h4 := lgE_cases G L
    generalize lgE G L = e at *
    repeat'
     conv => whnf
     first
      | refine zA ?_ | refine zB ?_ | refine zC ?_ | refine zD ?_ | refine zE ?_ | refine zF ?_ | refine zG ?_ | refine zH ?_ | refine zI ?_ | refine splT ?_ | refine splF ?_ | refine splNot ?_
      | ((first | refine splIn (fun hc => ?_) (fun hc => ?_) | refine splD (fun hc => ?_) (fun hc => ?_) | refine splE (fun hc => ?_) (fun hc => ?_) | refine splNE (fun hc => ?_) (fun hc => ?_)) <;> first | (exfalso; omega) | (exfalso; dsimp only at hc; omega) | skip)
      | ((with_reducible show CallEv _ _ 22 _ _ _ _ _); refine callE (k := 22) (fun β w' hbw => hC _ hbw) ?_)
    all_goals first | (exfalso; omega) | skip
    all_goals exact ⟨fun w' h => h, fun β w' h _ => ⟨(none, 0), rfl, fun _ _ => .inl ⟨rfl, rfl⟩⟩⟩

def untR (G : List (Int × Int)) (L : List En) (num day hours : Int) : Int := match G[num.toNat]? with
  | some g => if lgE G L = 0 ∧ ((0 ≤ num ∧ num ≤ G.length - 1) ∧ (0 ≤ day ∧ day ≤ 10000) ∧ (0 ≤ hours ∧ hours ≤ 24)) then day + untN g (stL num day L) day hours else 0
  | none => 0
def untE (G : List (Int × Int)) (L : List En) (num day hours : Int) : Int := if lgE G L = 0 then (if (0 ≤ num ∧ num ≤ G.length - 1) ∧ (0 ≤ day ∧ day ≤ 10000) ∧ (0 ≤ hours ∧ hours ≤ 24) then 0 else 2) else lgE G L

set_option maxHeartbeats 1000000 in
set_option maxRecDepth 100000 in
theorem Until_ok (G : List (Int × Int)) (L : List En) (o p : Option Addr) (c d : Nat) (num day hours : Int) (w : World) (hG : Rd 2 gF (.slice o G.length c) G w) (hL : Rd 4 En.cs (.slice p L.length d) L w) (hg : G.length ≤ 1000000) (hl : L.length ≤ 1000000) :
    Calls Try.prog 20 #[.slice o G.length c, .slice p L.length d, iv num, iv day, iv hours] w fun e w' => e = .returned (.tuple #[iv (untR G L num day hours), iv (untE G L num day hours)]) ∧ Below w.heap.size w w' := by
  refine calls_val env mixed Try.func20 has20 Try.ntmps20 [.slice o G.length c, .slice p L.length d, iv num, iv day, iv hours] (by simp) ?_
  have hC := fun w' (hb : Below w.heap.size w w') => CheckLog_ok G L o p c d w' (hG.below hb) (hL.below hb) hg hl
  by_cases he : lgE G L = 0
  · rw [he] at hC
    obtain ⟨b1, b2, b3, _, hE⟩ := lgE_ok he
    by_cases hd : (0 ≤ num ∧ num ≤ G.length - 1) ∧ (0 ≤ day ∧ day ≤ 10000) ∧ (0 ≤ hours ∧ hours ≤ 24)
    · obtain ⟨n, rfl⟩ := Int.eq_ofNat_of_zero_le hd.1.1
      have hnl : n < G.length := by omega
      obtain ⟨g, hx⟩ : ∃ b, G[n]? = some b := ⟨_, List.getElem?_eq_getElem hnl⟩
      rw [show untR G L n day hours = day + untN g (stL n day L) day hours from by rw [untR, Int.toNat_natCast, hx]; exact if_pos ⟨he, hd⟩, show untE G L n day hours = 0 from by rw [untE, if_pos he, if_pos hd]]
      obtain ⟨⟨_, _⟩, ⟨d1, d2⟩, ⟨d3, d4⟩⟩ := hd
      obtain ⟨_, ad, rfl, _⟩ := hG.ptr (by omega)
      have e0 := fun (w' : World) hw' => rd_ati (hG.below (w' := w') hw') hx
      have hgo : gOk g = true := List.all_eq_true.1 b3 g (List.mem_of_getElem? hx)
      rw [gOk, Bool.and_eq_true, inB_iff, inB_iff] at hgo
      have hbd := stL_bdl (num := n) (day := day) hE
      have h57 := fun w' (hb : Below w.heap.size w w') => record_ok g L p d n day w' (hL.below hb) hE
      have hu := untN_st (g := g) (s := stL n day L) (day := day) (hours := hours) hgo.1.2 hbd.2.2 d1
      have hle := untN_le (g := g) (s := stL n day L) (day := day) (hours := hours)
      generalize hs : stL n day L = s at *
      repeat'
       conv => whnf
       first
        | refine zA ?_ | refine zB ?_ | refine zC ?_ | refine zD ?_ | refine zE ?_ | refine zF ?_ | refine zG ?_ | refine zH ?_ | refine zI ?_ | refine splT ?_ | refine splF ?_ | refine splNot ?_
        | ((first | refine splIn (fun hc => ?_) (fun hc => ?_) | refine splD (fun hc => ?_) (fun hc => ?_) | refine splE (fun hc => ?_) (fun hc => ?_) | refine splNE (fun hc => ?_) (fun hc => ?_)) <;> first | (exfalso; omega) | (exfalso; dsimp only at hc; omega) | skip)
        | ((with_reducible show CallEv _ _ 22 _ _ _ _ _); refine callE (k := 22) (fun β w' hbw => hC _ hbw) ?_)
        | ((with_reducible show CallEv _ _ 56 _ _ _ _ _); refine callE (k := 56) (fun β w' hbw => within_ok _ _ _ _) ?_)
        | refine Exists.intro (α := List Value) (gF g) ⟨⟨rfl, fun w' hw' => e0 w' hw'⟩, ?_⟩
        | ((with_reducible show CallEv _ _ 57 _ _ _ _ _); refine callE (k := 57) (fun β w' hbw => h57 _ hbw) ?_)
      all_goals first | (exfalso; omega) | skip
      refine loopE (fun k : Nat => [(3, .v (iv day)), (4, .v (iv hours)), (13, .ptr 0 0), (14, .v (iv (day + k)))]) (fun _ => [(0, .cells [.v (iv g.1), .v (iv g.2), .v (.bool s.1), .v (iv s.2.1), .v (iv s.2.2)] 121)])
        (fun k => k ≤ untN g s day hours) (fun k => untN g s day hours - k) 0 (Nat.zero_le _) ⟨rfl, rfl, rfl, by rw [Int.natCast_zero, Int.add_zero]; rfl, trivial⟩ ⟨rfl, trivial⟩ (fun _ => ⟨rfl, rfl⟩) ?_
      intro k hk
      have hik : day + ((k + 1 : Nat) : Int) = day + (k : Int) + 1 := by omega
      have hm0 : 0 ≤ ((k : Int) + 1) * hours := Int.mul_nonneg (by omega) d3
      have hm1 : ((k : Int) + 1) * hours ≤ 12002 * 24 := Int.mul_le_mul (by omega) d4 d3 (by omega)
      have hmul : (day + (k : Int) - day + 1) * hours = ((k : Int) + 1) * hours := by congr 1; omega
      have h58 := fun w' => stale_ok g s (day + k) (((k : Int) + 1) * hours) w' hbd (by omega) (by omega)
      rw [← hmul] at h58 hm0 hm1
      by_cases hlt : k < untN g s day hours
      · have hno := untN_no hlt
        rw [← hmul] at hno
        rw [hno] at h58
        repeat'
         conv => whnf
         first
          | refine zA ?_ | refine zB ?_ | refine zC ?_ | refine zD ?_ | refine zE ?_ | refine zF ?_ | refine zG ?_ | refine zH ?_ | refine zI ?_ | refine splT ?_ | refine splF ?_ | refine splNot ?_
          | ((first | refine splIn (fun hc => ?_) (fun hc => ?_) | refine splD (fun hc => ?_) (fun hc => ?_) | refine splE (fun hc => ?_) (fun hc => ?_) | refine splNE (fun hc => ?_) (fun hc => ?_)) <;> first | (exfalso; omega) | (exfalso; dsimp only at hc; omega) | skip)
          | ((with_reducible show CallEv _ _ 58 _ _ _ _ _); refine callE (k := 58) (fun β w' hbw => h58 _) ?_)
        exact ⟨k + 1, by omega, by omega, Ent.weak rfl ⟨rfl, rfl, rfl, by rw [hik]; rfl, trivial⟩ ⟨rfl, trivial⟩ fun _ h => h⟩
      · obtain rfl : k = untN g s day hours := by omega
        rw [← hmul] at hu
        rw [hu] at h58
        repeat'
         conv => whnf
         first
          | refine zA ?_ | refine zB ?_ | refine zC ?_ | refine zD ?_ | refine zE ?_ | refine zF ?_ | refine zG ?_ | refine zH ?_ | refine zI ?_ | refine splT ?_ | refine splF ?_ | refine splNot ?_
          | ((first | refine splIn (fun hc => ?_) (fun hc => ?_) | refine splD (fun hc => ?_) (fun hc => ?_) | refine splE (fun hc => ?_) (fun hc => ?_) | refine splNE (fun hc => ?_) (fun hc => ?_)) <;> first | (exfalso; omega) | (exfalso; dsimp only at hc; omega) | skip)
          | ((with_reducible show CallEv _ _ 58 _ _ _ _ _); refine callE (k := 58) (fun β w' hbw => h58 _) ?_)
        exact ⟨fun β => rfl, fun w' h => h⟩
    · rw [show untR G L num day hours = 0 from by unfold untR; split <;> first | rfl | exact if_neg fun h => hd h.2, show untE G L num day hours = 2 from by rw [untE, if_pos he, if_neg hd]]
      repeat'
       conv => whnf
       first
        | refine zA ?_ | refine zB ?_ | refine zC ?_ | refine zD ?_ | refine zE ?_ | refine zF ?_ | refine zG ?_ | refine zH ?_ | refine zI ?_ | refine splT ?_ | refine splF ?_ | refine splNot ?_
        | ((first | refine splIn (fun hc => ?_) (fun hc => ?_) | refine splD (fun hc => ?_) (fun hc => ?_) | refine splE (fun hc => ?_) (fun hc => ?_) | refine splNE (fun hc => ?_) (fun hc => ?_)) <;> first | (exfalso; omega) | (exfalso; dsimp only at hc; omega) | skip)
        | ((with_reducible show CallEv _ _ 22 _ _ _ _ _); refine callE (k := 22) (fun β w' hbw => hC _ hbw) ?_)
        | ((with_reducible show CallEv _ _ 56 _ _ _ _ _); refine callE (k := 56) (fun β w' hbw => within_ok _ _ _ _) ?_)
      all_goals first | (exfalso; omega) | skip
      all_goals first | exact ⟨fun β => rfl, fun w' h => h⟩ | (exfalso; exact hd ⟨by assumption, by assumption, by assumption⟩) | skip
  · rw [show untR G L num day hours = 0 from by unfold untR; split <;> first | rfl | exact if_neg fun h => he h.1, show untE G L num day hours = lgE G L from if_neg he]
    have h4 := lgE_cases G L
    generalize lgE G L = e at *
    repeat'
     conv => whnf
     first
      | refine zA ?_ | refine zB ?_ | refine zC ?_ | refine zD ?_ | refine zE ?_ | refine zF ?_ | refine zG ?_ | refine zH ?_ | refine zI ?_ | refine splT ?_ | refine splF ?_ | refine splNot ?_
      | ((first | refine splIn (fun hc => ?_) (fun hc => ?_) | refine splD (fun hc => ?_) (fun hc => ?_) | refine splE (fun hc => ?_) (fun hc => ?_) | refine splNE (fun hc => ?_) (fun hc => ?_)) <;> first | (exfalso; omega) | (exfalso; dsimp only at hc; omega) | skip)
      | ((with_reducible show CallEv _ _ 22 _ _ _ _ _); refine callE (k := 22) (fun β w' hbw => hC _ hbw) ?_)
    all_goals first | (exfalso; omega) | skip
    all_goals exact ⟨fun β => rfl, fun w' h => h⟩
end Go.Proofs.Ytaciigegbgnadaa

/- Lists of numbers compared and searched: what these functions return. -/
namespace Go.Proofs.Ytaciigegbgnadaa
open Go Tx Go.RowKit
set_option linter.unusedSimpArgs false
set_option linter.unusedVariables false

set_option maxRecDepth 100000 in
theorem has_ok (A : List Int) (n : Int) (o : Option Addr) (c : Nat) (w : World) (hrd : Rd 1 iF (.slice o A.length c) A w) (hl : A.length ≤ 1000000) :
    Calls Try.prog 32 #[.slice o A.length c, iv n] w fun e w' => e = .returned (.bool (A.contains n)) ∧ Below w.heap.size w w' := by
  refine calls_val env mixed Try.func32 has32 Try.ntmps32 [.slice o A.length c, iv n] (by simp) ?_
  repeat'
   conv => whnf
   first
    | refine zA ?_ | refine zB ?_ | refine zC ?_ | refine zD ?_ | refine zE ?_ | refine zF ?_ | refine zG ?_ | refine zH ?_ | refine zI ?_ | refine splT ?_ | refine splF ?_ | refine splNot ?_
    | ((first | refine splIn (fun hc => ?_) (fun hc => ?_) | refine splD (fun hc => ?_) (fun hc => ?_) | refine splE (fun hc => ?_) (fun hc => ?_) | refine splNE (fun hc => ?_) (fun hc => ?_)) <;> first | (exfalso; omega) | (exfalso; dsimp only at hc; omega) | skip)
  refine loopE (fun k : Nat => [(0, .v (.slice o A.length c)), (1, .v (iv n)), (5, .v (iv k))]) (fun _ => []) (fun k => k ≤ A.length ∧ (A.take k).contains n = false) (fun k => A.length - k) 0 ⟨Nat.zero_le _, rfl⟩ ⟨rfl, rfl, rfl, trivial⟩ trivial (fun _ => ⟨rfl, rfl⟩) ?_
  intro k ⟨hk, hall⟩
  rcases Nat.lt_or_ge k A.length with hkl | hkl
  · obtain ⟨x, hx⟩ : ∃ b, A[k]? = some b := ⟨_, List.getElem?_eq_getElem hkl⟩
    obtain ⟨_, ad, rfl, _⟩ := hrd.ptr (by omega)
    have e0 := fun (w' : World) hw' => rd_ati (hrd.below (w' := w') hw') hx
    have ht : (A.take (k + 1)).contains n = decide (n = x) := by
      rw [List.take_add_one, hx]
      simp only [Option.toList_some, List.contains_eq_mem, List.mem_append, List.mem_singleton] at hall ⊢
      simp only [decide_eq_false_iff_not] at hall
      simp [hall]
    by_cases hnx : x = n
    · have hy : A.contains n = true := by
        rw [List.contains_eq_mem, decide_eq_true_eq]
        exact hnx ▸ List.mem_of_getElem? hx
      rw [hy]
      repeat'
       conv => whnf
       first
        | refine zA ?_ | refine zB ?_ | refine zC ?_ | refine zD ?_ | refine zE ?_ | refine zF ?_ | refine zG ?_ | refine zH ?_ | refine zI ?_ | refine splT ?_ | refine splF ?_ | refine splNot ?_
        | ((first | refine splIn (fun hc => ?_) (fun hc => ?_) | refine splD (fun hc => ?_) (fun hc => ?_) | refine splE (fun hc => ?_) (fun hc => ?_) | refine splNE (fun hc => ?_) (fun hc => ?_)) <;> first | (exfalso; omega) | (exfalso; dsimp only at hc; omega) | skip)
        | refine Exists.intro (α := List Value) [iv x] ⟨⟨rfl, fun w' hw' => e0 w' hw'⟩, ?_⟩
      all_goals first | (exfalso; omega) | exact ⟨fun β => rfl, fun w' h => h⟩
    · have hz : 0 = 0 := rfl
      repeat'
       conv => whnf
       first
        | refine zA ?_ | refine zB ?_ | refine zC ?_ | refine zD ?_ | refine zE ?_ | refine zF ?_ | refine zG ?_ | refine zH ?_ | refine zI ?_ | refine splT ?_ | refine splF ?_ | refine splNot ?_
        | ((first | refine splIn (fun hc => ?_) (fun hc => ?_) | refine splD (fun hc => ?_) (fun hc => ?_) | refine splE (fun hc => ?_) (fun hc => ?_) | refine splNE (fun hc => ?_) (fun hc => ?_)) <;> first | (exfalso; omega) | (exfalso; dsimp only at hc; omega) | skip)
        | refine Exists.intro (α := List Value) [iv x] ⟨⟨rfl, fun w' hw' => e0 w' hw'⟩, ?_⟩
      all_goals first | (exfalso; omega) | exact ⟨k + 1, ⟨by omega, by rw [ht]; exact decide_eq_false fun h => hnx h.symm⟩, by omega, Ent.weak rfl ⟨rfl, rfl, rfl, trivial⟩ trivial fun _ h => h⟩
  · rw [List.take_of_length_le hkl] at hall
    rw [hall]
    repeat'
     conv => whnf
     first
      | refine zA ?_ | refine zB ?_ | refine zC ?_ | refine zD ?_ | refine zE ?_ | refine zF ?_ | refine zG ?_ | refine zH ?_ | refine zI ?_ | refine splT ?_ | refine splF ?_ | refine splNot ?_
      | ((first | refine splIn (fun hc => ?_) (fun hc => ?_) | refine splD (fun hc => ?_) (fun hc => ?_) | refine splE (fun hc => ?_) (fun hc => ?_) | refine splNE (fun hc => ?_) (fun hc => ?_)) <;> first | (exfalso; omega) | (exfalso; dsimp only at hc; omega) | skip)
    exact ⟨fun β => rfl, fun w' h => h⟩

set_option maxRecDepth 100000 in
theorem ints_ok (A B : List Int) (o p : Option Addr) (c d : Nat) (w : World) (hA : Rd 1 iF (.slice o A.length c) A w) (hB : Rd 1 iF (.slice p B.length d) B w) (hl : A.length ≤ 1000000) (hl2 : B.length ≤ 1000000) :
    Calls Try.prog 25 #[.slice o A.length c, .slice p B.length d] w fun e w' => e = .returned (.bool (decide (A = B))) ∧ Below w.heap.size w w' := by
  refine calls_val env mixed Try.func25 has25 Try.ntmps25 [.slice o A.length c, .slice p B.length d] (by simp) ?_
  rcases Nat.lt_or_ge A.length B.length with hlen | hlen
  · rw [decide_eq_false (fun h => by rw [h] at hlen; omega)]
    repeat'
     conv => whnf
     first
      | refine zA ?_ | refine zB ?_ | refine zC ?_ | refine zD ?_ | refine zE ?_ | refine zF ?_ | refine zG ?_ | refine zH ?_ | refine zI ?_ | refine splT ?_ | refine splF ?_ | refine splNot ?_
      | ((first | refine splIn (fun hc => ?_) (fun hc => ?_) | refine splD (fun hc => ?_) (fun hc => ?_) | refine splE (fun hc => ?_) (fun hc => ?_) | refine splNE (fun hc => ?_) (fun hc => ?_)) <;> first | (exfalso; omega) | (exfalso; dsimp only at hc; omega) | skip)
    all_goals first | (exfalso; omega) | exact ⟨fun β => rfl, fun w' h => h⟩
  rcases Nat.lt_or_ge B.length A.length with hlen2 | hlen2
  · rw [decide_eq_false (fun h => by rw [h] at hlen2; omega)]
    repeat'
     conv => whnf
     first
      | refine zA ?_ | refine zB ?_ | refine zC ?_ | refine zD ?_ | refine zE ?_ | refine zF ?_ | refine zG ?_ | refine zH ?_ | refine zI ?_ | refine splT ?_ | refine splF ?_ | refine splNot ?_
      | ((first | refine splIn (fun hc => ?_) (fun hc => ?_) | refine splD (fun hc => ?_) (fun hc => ?_) | refine splE (fun hc => ?_) (fun hc => ?_) | refine splNE (fun hc => ?_) (fun hc => ?_)) <;> first | (exfalso; omega) | (exfalso; dsimp only at hc; omega) | skip)
    all_goals first | (exfalso; omega) | exact ⟨fun β => rfl, fun w' h => h⟩
  repeat'
   conv => whnf
   first
    | refine zA ?_ | refine zB ?_ | refine zC ?_ | refine zD ?_ | refine zE ?_ | refine zF ?_ | refine zG ?_ | refine zH ?_ | refine zI ?_ | refine splT ?_ | refine splF ?_ | refine splNot ?_
    | ((first | refine splIn (fun hc => ?_) (fun hc => ?_) | refine splD (fun hc => ?_) (fun hc => ?_) | refine splE (fun hc => ?_) (fun hc => ?_) | refine splNE (fun hc => ?_) (fun hc => ?_)) <;> first | (exfalso; omega) | (exfalso; dsimp only at hc; omega) | skip)
  all_goals first | (exfalso; omega) | skip
  refine loopE (fun k : Nat => [(0, .v (.slice o A.length c)), (1, .v (.slice p B.length d)), (5, .v (iv k))]) (fun _ => []) (fun k => k ≤ A.length ∧ ∀ j, j < k → A[j]? = B[j]?) (fun k => A.length - k) 0 ⟨Nat.zero_le _, fun j hj => absurd hj (Nat.not_lt_zero _)⟩ ⟨rfl, rfl, rfl, trivial⟩ trivial (fun _ => ⟨rfl, rfl⟩) ?_
  intro k ⟨hk, hall⟩
  rcases Nat.lt_or_ge k A.length with hkl | hkl
  · obtain ⟨x, hx⟩ : ∃ b, A[k]? = some b := ⟨_, List.getElem?_eq_getElem hkl⟩
    obtain ⟨y, hy⟩ : ∃ b, B[k]? = some b := ⟨_, List.getElem?_eq_getElem (by omega)⟩
    obtain ⟨_, ad, rfl, _⟩ := hA.ptr (by omega)
    obtain ⟨_, ad2, rfl, _⟩ := hB.ptr (by omega)
    have e0 := fun (w' : World) hw' => rd_ati (hA.below (w' := w') hw') hx
    have e1 := fun (w' : World) hw' => rd_ati (hB.below (w' := w') hw') hy
    by_cases hxy : x = y
    · subst hxy
      repeat'
       conv => whnf
       first
        | refine zA ?_ | refine zB ?_ | refine zC ?_ | refine zD ?_ | refine zE ?_ | refine zF ?_ | refine zG ?_ | refine zH ?_ | refine zI ?_ | refine splT ?_ | refine splF ?_ | refine splNot ?_
        | ((first | refine splIn (fun hc => ?_) (fun hc => ?_) | refine splD (fun hc => ?_) (fun hc => ?_) | refine splE (fun hc => ?_) (fun hc => ?_) | refine splNE (fun hc => ?_) (fun hc => ?_)) <;> first | (exfalso; omega) | (exfalso; dsimp only at hc; omega) | skip)
        | refine Exists.intro (α := List Value) [iv x] ⟨⟨rfl, fun w' hw' => e0 w' hw'⟩, ?_⟩
        | refine Exists.intro (α := List Value) [iv x] ⟨⟨rfl, fun w' hw' => e1 w' hw'⟩, ?_⟩
      all_goals first | (exfalso; omega) | exact ⟨k + 1, ⟨by omega, fun j hj => by rcases Nat.lt_succ_iff_lt_or_eq.1 hj with h | rfl; exact hall j h; rw [hx, hy]⟩, by omega, Ent.weak rfl ⟨rfl, rfl, rfl, trivial⟩ trivial fun _ h => h⟩
    · rw [decide_eq_false (fun h => hxy (by subst h; rw [hx] at hy; exact Option.some.inj hy))]
      repeat'
       conv => whnf
       first
        | refine zA ?_ | refine zB ?_ | refine zC ?_ | refine zD ?_ | refine zE ?_ | refine zF ?_ | refine zG ?_ | refine zH ?_ | refine zI ?_ | refine splT ?_ | refine splF ?_ | refine splNot ?_
        | ((first | refine splIn (fun hc => ?_) (fun hc => ?_) | refine splD (fun hc => ?_) (fun hc => ?_) | refine splE (fun hc => ?_) (fun hc => ?_) | refine splNE (fun hc => ?_) (fun hc => ?_)) <;> first | (exfalso; omega) | (exfalso; dsimp only at hc; omega) | skip)
        | refine Exists.intro (α := List Value) [iv x] ⟨⟨rfl, fun w' hw' => e0 w' hw'⟩, ?_⟩
        | refine Exists.intro (α := List Value) [iv y] ⟨⟨rfl, fun w' hw' => e1 w' hw'⟩, ?_⟩
      all_goals first | (exfalso; omega) | exact ⟨fun β => rfl, fun w' h => h⟩
  · rw [decide_eq_true (show A = B from List.ext_getElem? fun j => by
      rcases Nat.lt_or_ge j k with h | h
      · exact hall j h
      · rw [List.getElem?_eq_none (by omega), List.getElem?_eq_none (by omega)])]
    repeat'
     conv => whnf
     first
      | refine zA ?_ | refine zB ?_ | refine zC ?_ | refine zD ?_ | refine zE ?_ | refine zF ?_ | refine zG ?_ | refine zH ?_ | refine zI ?_ | refine splT ?_ | refine splF ?_ | refine splNot ?_
      | ((first | refine splIn (fun hc => ?_) (fun hc => ?_) | refine splD (fun hc => ?_) (fun hc => ?_) | refine splE (fun hc => ?_) (fun hc => ?_) | refine splNE (fun hc => ?_) (fun hc => ?_)) <;> first | (exfalso; omega) | (exfalso; dsimp only at hc; omega) | skip)
    exact ⟨fun β => rfl, fun w' h => h⟩
end Go.Proofs.Ytaciigegbgnadaa
