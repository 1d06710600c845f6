/- Flights of the reference: what Right returns. -/
import Derived.Test.YtfbokllafdnglaaQB
import Derived.Test.YtfbokllafdnglaaPB
namespace Go.Proofs.Ytfbokllafdnglaa
open Go Tx Go.RowKit
set_option linter.unusedSimpArgs false
set_option linter.unusedVariables false

/-- A flight: flyer (where, how fast, mass), catcher (cycle, reach, soft, bears), least and most ticks. -/
structure Ft where
  p : Bx
  s : Bx
  m : Int
  co : Option Addr
  cc : Nat
  C : List Bx
  re : Int
  so : Int
  be : Int
  le : Int
  mo : Int
abbrev Ft.v (f : Ft) : Value := .agg #[iv f.p.a, iv f.p.b, iv f.p.c, iv f.p.d, iv f.s.a, iv f.s.b, iv f.s.c, iv f.s.d, iv f.m, .slice f.co f.C.length f.cc, iv f.re, iv f.so, iv f.be, iv f.le, iv f.mo]
def ftB (f : Ft) : Bool := f.C.all (fun x => bxB x 10000000) && (flB f.p f.s f.m && (decide (1 ≤ f.C.length) && (decide (f.C.length ≤ 600) && (inB f.re 0 10000000 && (inB f.so 1 100 && (inB f.be 0 100000000 && (inB f.le 0 300 && inB f.mo f.le 300)))))))
set_option maxHeartbeats 4000000 in
set_option maxRecDepth 100000 in
theorem RightF_ok (f : Ft) (w : World) (hC : Rd 4 Bx.cs (.slice f.co f.C.length f.cc) f.C w) (hl : f.C.length ≤ 1000000) : Calls Try.prog 13 #[f.v] w fun e w' => e = .returned (.bool (ftB f)) ∧ Below w.heap.size w w' := by
  obtain ⟨⟨p1, p2, p3, p4⟩, ⟨s1, s2, s3, s4⟩, m, co, cc, C, re, so, be, le, mo⟩ := f
  dsimp only at hC hl
  refine calls_val env mixed Try.func13 has13 Try.ntmps13 [.agg #[iv p1, iv p2, iv p3, iv p4, iv s1, iv s2, iv s3, iv s4, iv m, .slice co C.length cc, iv re, iv so, iv be, iv le, iv mo]] (by simp) ?_
  unfold ftB
  dsimp only
  have c37 := fun w' => RightFlyer_ok ⟨p1, p2, p3, p4⟩ ⟨s1, s2, s3, s4⟩ m w'
  dsimp only at c37
  generalize flB ⟨p1, p2, p3, p4⟩ ⟨s1, s2, s3, s4⟩ m = qf at *
  repeat'
   conv => whnf
   first
    | refine zA ?_ | refine zB ?_ | refine zC ?_ | refine zD ?_ | refine zE ?_ | refine zF ?_ | refine zG ?_ | refine zH ?_ | refine zJ ?_ | refine zI ?_ | refine splT ?_ | refine splF ?_ | refine splNot ?_
    | ((first | refine splIn (fun hc => ?_) (fun hc => ?_) | refine splD (fun hc => ?_) (fun hc => ?_) | refine splE (fun hc => ?_) (fun hc => ?_) | refine splNE (fun hc => ?_) (fun hc => ?_)) <;> first | (exfalso; omega) | (exfalso; dsimp only at hc; omega) | skip)
  refine loopE (fun i : Nat => [(1, .ptr 0 0), (3, .ptr 1 0), (4, .v (iv i))]) (fun _ => [(0, .cells [.v (iv p1), .v (iv p2), .v (iv p3), .v (iv p4), .v (iv s1), .v (iv s2), .v (iv s3), .v (iv s4), .v (iv m), .v (.slice co C.length cc), .v (iv re), .v (iv so), .v (iv be), .v (iv le), .v (iv mo)] 66), (1, .cells [.v (.slice co C.length cc), .v (iv re), .v (iv so), .v (iv be)] 64)]) (fun i => i ≤ C.length ∧ (C.take i).all (fun x => bxB x 10000000) = true) (fun i => C.length - i) 0 ⟨Nat.zero_le _, rfl⟩ ⟨rfl, rfl, rfl, trivial⟩ ⟨rfl, rfl, trivial⟩ (fun _ => ⟨rfl, rfl⟩) ?_
  intro i ⟨hi, hall⟩
  rcases Nat.lt_or_ge i C.length with hil | hil
  · obtain ⟨⟨a, b, c, d⟩, ht⟩ : ∃ t, C[i]? = some t := ⟨_, List.getElem?_eq_getElem hil⟩
    obtain ⟨_, ad, rfl, _⟩ := hC.ptr (by omega)
    have e0 := fun (w' : World) hw' => rd_ati (hC.below (w' := w') hw') ht
    have hat := all_take (p := fun x => bxB x 10000000) ht
    rw [hall, Bool.true_and] at hat
    have hno := all_no (p := fun x => bxB x 10000000) ht
    have c36 := fun w' => Boxed_ok a b c d 10000000 w' (by omega)
    unfold bxB at hat hno
    dsimp only at hat hno
    generalize (btB a b 10000000 && btB c d 10000000) = qb at *
    cases qb with
    | true =>
      repeat'
       conv => whnf
       first
        | refine zA ?_ | refine zB ?_ | refine zC ?_ | refine zD ?_ | refine zE ?_ | refine zF ?_ | refine zG ?_ | refine zH ?_ | refine zJ ?_ | refine zI ?_ | refine splT ?_ | refine splF ?_ | refine splNot ?_
        | ((first | refine splIn (fun hc => ?_) (fun hc => ?_) | refine splD (fun hc => ?_) (fun hc => ?_) | refine splE (fun hc => ?_) (fun hc => ?_) | refine splNE (fun hc => ?_) (fun hc => ?_)) <;> first | (exfalso; omega) | (exfalso; dsimp only at hc; omega) | skip)
        | refine Exists.intro (α := List Value) [iv a, iv b, iv c, iv d] ⟨⟨rfl, fun w' hw' => e0 w' hw'⟩, ?_⟩
        | ((with_reducible show CallEv _ _ 36 _ _ _ _ _); refine callE (k := 36) (fun β w' hbw => c36 _) ?_)
      all_goals first | (exfalso; omega) | exact ⟨i + 1, ⟨by omega, hat⟩, by omega, Ent.weak rfl ⟨rfl, rfl, rfl, trivial⟩ ⟨rfl, rfl, trivial⟩ fun _ h => h⟩
    | false =>
      have hno := hno rfl
      unfold bxB
      rw [hno, Bool.false_and]
      repeat'
       conv => whnf
       first
        | refine zA ?_ | refine zB ?_ | refine zC ?_ | refine zD ?_ | refine zE ?_ | refine zF ?_ | refine zG ?_ | refine zH ?_ | refine zJ ?_ | refine zI ?_ | refine splT ?_ | refine splF ?_ | refine splNot ?_
        | ((first | refine splIn (fun hc => ?_) (fun hc => ?_) | refine splD (fun hc => ?_) (fun hc => ?_) | refine splE (fun hc => ?_) (fun hc => ?_) | refine splNE (fun hc => ?_) (fun hc => ?_)) <;> first | (exfalso; omega) | (exfalso; dsimp only at hc; omega) | skip)
        | refine Exists.intro (α := List Value) [iv a, iv b, iv c, iv d] ⟨⟨rfl, fun w' hw' => e0 w' hw'⟩, ?_⟩
        | ((with_reducible show CallEv _ _ 36 _ _ _ _ _); refine callE (k := 36) (fun β w' hbw => c36 _) ?_)
      all_goals first | (exfalso; omega) | exact ⟨fun β => rfl, fun w' h => h⟩
  · rw [List.take_of_length_le hil] at hall
    rw [hall, Bool.true_and]
    repeat'
     conv => whnf
     first
      | refine zA ?_ | refine zB ?_ | refine zC ?_ | refine zD ?_ | refine zE ?_ | refine zF ?_ | refine zG ?_ | refine zH ?_ | refine zJ ?_ | refine zI ?_ | refine splT ?_ | refine splF ?_ | refine splNot ?_
      | ((first | refine splIn (fun hc => ?_) (fun hc => ?_) | refine splD (fun hc => ?_) (fun hc => ?_) | refine splE (fun hc => ?_) (fun hc => ?_) | refine splNE (fun hc => ?_) (fun hc => ?_)) <;> first | (exfalso; omega) | (exfalso; dsimp only at hc; omega) | skip)
      | ((with_reducible show CallEv _ _ 37 _ _ _ _ _); refine callE (k := 37) (fun β w' hbw => c37 _) ?_)
      | ((with_reducible show CallEv _ _ 38 _ _ _ _ _); refine callE (k := 38) (fun β w' hbw => If_ok _ _ _ _) ?_)
      | refine splB (fun hc => ?_) (fun hc => ?_)
    all_goals first | (exfalso; omega) | exact ⟨fun β => congrArg Value.bool (by rw [decide_eq_true (by omega : 1 ≤ C.length), decide_eq_true (by omega : C.length ≤ 600)]; simp [inB, *]), fun w' h => h⟩ | exact ⟨fun β => congrArg Value.bool (by simp [inB, *]; try omega), fun w' h => h⟩
end Go.Proofs.Ytfbokllafdnglaa
