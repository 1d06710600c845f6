/- Tents: guys and heads, whether they are few and right: what Few, Right and CheckTent return. -/
import Derived.Test.YtfbokllafdnglaaPA
namespace Go.Proofs.Ytfbokllafdnglaa
open Go Tx Go.RowKit
set_option linter.unusedSimpArgs false
set_option linter.unusedVariables false

structure Gy where
  x : Int
  y : Int
  dn : Int
  so : Int
  dp : Int
abbrev Gy.cs (g : Gy) : List Value := [iv g.x, iv g.y, iv g.dn, iv g.so, iv g.dp]
/-- The head of a pole, and where its guys lie. -/
structure Hd where
  ar : Int
  be : Int
  go : Option Addr
  gc : Nat
  G : List Gy
abbrev Hd.cs (h : Hd) : List Value := [iv h.ar, iv h.be, .slice h.go h.G.length h.gc]
def gyOk (g : Gy) : Bool := inB g.x (-5000) 5000 && (inB g.y (-5000) 5000 && (!(g.x == 0 && g.y == 0) && (inB g.dn 0 5000 && (inB g.so 0 9 && inB g.dp 1 3000))))
def hdOk (h : Hd) : Bool := inB h.ar 0 1000 && (inB h.be 0 10000000 && (decide (h.G.length ≤ 8) && h.G.all gyOk))
def ttOk (T : List Hd) : Bool := T.all hdOk && (decide (1 ≤ T.length) && decide (T.length ≤ 12))
def fwB (T : List Hd) : Bool := T.all (fun h => decide (h.G.length ≤ 10)) && decide (T.length ≤ 15)
/-- A tent lies there. -/
structure TtIn (o : Option Addr) (c : Nat) (T : List Hd) (w : World) : Prop where
  t : Rd 3 Hd.cs (.slice o T.length c) T w
  g : ∀ h ∈ T, Rd 5 Gy.cs (.slice h.go h.G.length h.gc) h.G w
  tl : T.length ≤ 9223372036854775807
  gl : ∀ h ∈ T, h.G.length ≤ 9223372036854775807
theorem TtIn.below {o : Option Addr} {c : Nat} {T : List Hd} {w w' : World} (h : TtIn o c T w) (hb : Below w.heap.size w w') : TtIn o c T w' :=
  ⟨h.t.below hb, fun x hx => (h.g x hx).below hb, h.tl, h.gl⟩
theorem all_take {α : Type} {p : α → Bool} {L : List α} {k : Nat} {x : α} (h : L[k]? = some x) : (L.take (k + 1)).all p = ((L.take k).all p && p x) := by
  rw [List.take_add_one, h]; simp
theorem all_no {α : Type} {p : α → Bool} {L : List α} {k : Nat} {x : α} (h : L[k]? = some x) (hx : p x = false) : L.all p = false := by
  rw [List.all_eq_false]
  exact ⟨x, List.mem_of_getElem? h, by simp [hx]⟩
theorem Ic_ok (n lo hi : Int) (w : World) : Calls Try.prog 24 #[iv n, iv lo, iv hi] w fun e w' => e = .returned (.bool (inB n lo hi)) ∧ Below w.heap.size w w' := by
  refine calls_val env mixed Try.func24 has24 Try.ntmps24 [iv n, iv lo, iv hi] (by simp) ?_
  repeat'
   conv => whnf
   first
    | refine zA ?_ | refine zB ?_ | refine zC ?_ | refine zD ?_ | refine zE ?_ | refine zF ?_ | refine zG ?_ | refine zH ?_ | refine zJ ?_ | refine zI ?_ | refine splT ?_ | refine splF ?_ | refine splNot ?_
    | ((first | refine splIn (fun hc => ?_) (fun hc => ?_) | refine splD (fun hc => ?_) (fun hc => ?_) | refine splE (fun hc => ?_) (fun hc => ?_) | refine splNE (fun hc => ?_) (fun hc => ?_)) <;> first | (exfalso; omega) | (exfalso; dsimp only at hc; omega) | skip)
  all_goals exact ⟨fun β => congrArg Value.bool (by simp [inB, *]), fun w' h => h⟩
theorem wc_ok (n lo hi : Int) (w : World) : Calls Try.prog 55 #[iv n, iv lo, iv hi] w fun e w' => e = .returned (.bool (inB n lo hi)) ∧ Below w.heap.size w w' := by
  refine calls_val env mixed Try.func55 has55 Try.ntmps55 [iv n, iv lo, iv hi] (by simp) ?_
  repeat'
   conv => whnf
   first
    | refine zA ?_ | refine zB ?_ | refine zC ?_ | refine zD ?_ | refine zE ?_ | refine zF ?_ | refine zG ?_ | refine zH ?_ | refine zJ ?_ | refine zI ?_ | refine splT ?_ | refine splF ?_ | refine splNot ?_
    | ((first | refine splIn (fun hc => ?_) (fun hc => ?_) | refine splD (fun hc => ?_) (fun hc => ?_) | refine splE (fun hc => ?_) (fun hc => ?_) | refine splNE (fun hc => ?_) (fun hc => ?_)) <;> first | (exfalso; omega) | (exfalso; dsimp only at hc; omega) | skip)
  all_goals exact ⟨fun β => congrArg Value.bool (by simp [inB, *]), fun w' h => h⟩

set_option maxHeartbeats 2000000 in
set_option maxRecDepth 100000 in
theorem Few_ok (T : List Hd) (o : Option Addr) (c : Nat) (w : World) (h : TtIn o c T w) : Calls Try.prog 6 #[.slice none 0 0, .slice o T.length c] w fun e w' => e = .returned (.bool (fwB T)) ∧ Below w.heap.size w w' := by
  obtain ⟨hT, hg, htl, hgl⟩ := h
  unfold fwB
  refine calls_val env mixed Try.func6 has6 Try.ntmps6 [.slice none 0 0, .slice o T.length c] (by simp) ?_
  repeat'
   conv => whnf
   first
    | refine zA ?_ | refine zB ?_ | refine zC ?_ | refine zD ?_ | refine zE ?_ | refine zF ?_ | refine zG ?_ | refine zH ?_ | refine zJ ?_ | refine zI ?_ | refine splT ?_ | refine splF ?_ | refine splNot ?_
    | ((first | refine splIn (fun hc => ?_) (fun hc => ?_) | refine splD (fun hc => ?_) (fun hc => ?_) | refine splE (fun hc => ?_) (fun hc => ?_) | refine splNE (fun hc => ?_) (fun hc => ?_)) <;> first | (exfalso; omega) | (exfalso; dsimp only at hc; omega) | skip)
  refine loopE (fun i : Nat => [(0, .v (.slice none 0 0)), (1, .v (.slice o T.length c)), (5, .v (iv i))]) (fun _ => []) (fun i => i ≤ T.length ∧ (T.take i).all (fun h => decide (h.G.length ≤ 10)) = true) (fun i => T.length - i) 0 ⟨Nat.zero_le _, rfl⟩ ⟨rfl, rfl, rfl, trivial⟩ trivial (fun _ => ⟨rfl, rfl⟩) ?_
  intro i ⟨hi, hall⟩
  rcases Nat.lt_or_ge i T.length with hil | hil
  · obtain ⟨⟨ar, be, go, gc, G⟩, ht⟩ : ∃ t, T[i]? = some t := ⟨_, List.getElem?_eq_getElem hil⟩
    obtain ⟨_, ad, rfl, _⟩ := hT.ptr (by omega)
    have e0 := fun (w' : World) hw' => rd_fldz (hT.below (w' := w') hw') ht _ rfl 2 (.slice go G.length gc) rfl
    have hGl := hgl _ (List.mem_of_getElem? ht)
    have hat := all_take (p := fun h : Hd => decide (h.G.length ≤ 10)) ht
    rw [hall, Bool.true_and] at hat
    have hno := all_no (p := fun h : Hd => decide (h.G.length ≤ 10)) ht
    dsimp only at hat hno hGl
    by_cases hok : G.length ≤ 10
    · rw [decide_eq_true hok] at hat
      repeat'
       conv => whnf
       first
        | refine zA ?_ | refine zB ?_ | refine zC ?_ | refine zD ?_ | refine zE ?_ | refine zF ?_ | refine zG ?_ | refine zH ?_ | refine zJ ?_ | refine zI ?_ | refine splT ?_ | refine splF ?_ | refine splNot ?_
        | ((first | refine splIn (fun hc => ?_) (fun hc => ?_) | refine splD (fun hc => ?_) (fun hc => ?_) | refine splE (fun hc => ?_) (fun hc => ?_) | refine splNE (fun hc => ?_) (fun hc => ?_)) <;> first | (exfalso; omega) | (exfalso; dsimp only at hc; omega) | skip)
        | refine Exists.intro (α := List Value) [.slice go G.length gc] ⟨⟨rfl, fun w' hw' => e0 w' hw'⟩, ?_⟩
      all_goals first | (exfalso; omega) | exact ⟨i + 1, ⟨by omega, hat⟩, by omega, Ent.weak rfl ⟨rfl, rfl, rfl, trivial⟩ trivial fun _ h => h⟩
    · rw [hno (decide_eq_false hok), Bool.false_and]
      repeat'
       conv => whnf
       first
        | refine zA ?_ | refine zB ?_ | refine zC ?_ | refine zD ?_ | refine zE ?_ | refine zF ?_ | refine zG ?_ | refine zH ?_ | refine zJ ?_ | refine zI ?_ | refine splT ?_ | refine splF ?_ | refine splNot ?_
        | ((first | refine splIn (fun hc => ?_) (fun hc => ?_) | refine splD (fun hc => ?_) (fun hc => ?_) | refine splE (fun hc => ?_) (fun hc => ?_) | refine splNE (fun hc => ?_) (fun hc => ?_)) <;> first | (exfalso; omega) | (exfalso; dsimp only at hc; omega) | skip)
        | refine Exists.intro (α := List Value) [.slice go G.length gc] ⟨⟨rfl, fun w' hw' => e0 w' hw'⟩, ?_⟩
      all_goals first | (exfalso; omega) | exact ⟨fun β => rfl, fun w' h => h⟩
  · rw [List.take_of_length_le hil] at hall
    rw [hall, Bool.true_and]
    repeat'
     conv => whnf
     first
      | refine zA ?_ | refine zB ?_ | refine zC ?_ | refine zD ?_ | refine zE ?_ | refine zF ?_ | refine zG ?_ | refine zH ?_ | refine zJ ?_ | refine zI ?_ | refine splT ?_ | refine splF ?_ | refine splNot ?_
      | ((first | refine splIn (fun hc => ?_) (fun hc => ?_) | refine splD (fun hc => ?_) (fun hc => ?_) | refine splE (fun hc => ?_) (fun hc => ?_) | refine splNE (fun hc => ?_) (fun hc => ?_)) <;> first | (exfalso; omega) | (exfalso; dsimp only at hc; omega) | skip)
    all_goals first | (exfalso; omega) | exact ⟨fun β => congrArg Value.bool (by simp [*]; try omega), fun w' h => h⟩
set_option maxHeartbeats 2000000 in
set_option maxRecDepth 100000 in
theorem RightGuy_ok (g : Gy) (w : World) : Calls Try.prog 25 #[.agg g.cs.toArray] w fun e w' => e = .returned (.bool (gyOk g)) ∧ Below w.heap.size w w' := by
  obtain ⟨x, y, dn, so, dp⟩ := g
  refine calls_val env mixed Try.func25 has25 Try.ntmps25 [.agg #[iv x, iv y, iv dn, iv so, iv dp]] (by simp) ?_
  unfold gyOk
  dsimp only
  cases q1 : inB x (-5000) 5000 <;> cases q2 : inB y (-5000) 5000 <;> cases q4 : inB dn 0 5000 <;> cases q5 : inB so 0 9 <;> cases q6 : inB dp 1 3000
  all_goals have c1 := fun w' => Ic_ok x (-5000) 5000 w'
  all_goals have c2 := fun w' => Ic_ok y (-5000) 5000 w'
  all_goals have c4 := fun w' => Ic_ok dn 0 5000 w'
  all_goals have c5 := fun w' => Ic_ok so 0 9 w'
  all_goals have c6 := fun w' => Ic_ok dp 1 3000 w'
  all_goals rw [q1] at c1
  all_goals rw [q2] at c2
  all_goals rw [q4] at c4
  all_goals rw [q5] at c5
  all_goals rw [q6] at c6
  all_goals skip
  repeat'
   conv => whnf
   first
    | refine zA ?_ | refine zB ?_ | refine zC ?_ | refine zD ?_ | refine zE ?_ | refine zF ?_ | refine zG ?_ | refine zH ?_ | refine zJ ?_ | refine zI ?_ | refine splT ?_ | refine splF ?_ | refine splNot ?_
    | ((first | refine splIn (fun hc => ?_) (fun hc => ?_) | refine splD (fun hc => ?_) (fun hc => ?_) | refine splE (fun hc => ?_) (fun hc => ?_) | refine splNE (fun hc => ?_) (fun hc => ?_)) <;> first | (exfalso; omega) | (exfalso; dsimp only at hc; omega) | skip)
    | ((with_reducible show CallEv _ _ 24 [.v (iv x), .v (iv (-5000)), .v (iv 5000)] _ _ _ _); refine callE (k := 24) (fun β w' hbw => c1 _) ?_)
    | ((with_reducible show CallEv _ _ 24 [.v (iv y), .v (iv (-5000)), .v (iv 5000)] _ _ _ _); refine callE (k := 24) (fun β w' hbw => c2 _) ?_)
    | ((with_reducible show CallEv _ _ 24 [.v (iv dn), .v (iv 0), .v (iv 5000)] _ _ _ _); refine callE (k := 24) (fun β w' hbw => c4 _) ?_)
    | ((with_reducible show CallEv _ _ 24 [.v (iv so), .v (iv 0), .v (iv 9)] _ _ _ _); refine callE (k := 24) (fun β w' hbw => c5 _) ?_)
    | ((with_reducible show CallEv _ _ 24 [.v (iv dp), .v (iv 1), .v (iv 3000)] _ _ _ _); refine callE (k := 24) (fun β w' hbw => c6 _) ?_)
  all_goals first | (exfalso; omega) | exact ⟨fun β => congrArg Value.bool (by simp [*]), fun w' h => h⟩ | (exact ⟨fun β => congrArg Value.bool (by simp_all), fun w' h => h⟩)
end Go.Proofs.Ytfbokllafdnglaa
