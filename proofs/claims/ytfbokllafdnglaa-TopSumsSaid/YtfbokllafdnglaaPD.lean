/- The program's valid guys and heads: what valid, all and CheckTent return. -/
import Derived.Test.YtfbokllafdnglaaPB
namespace Go.Proofs.Ytfbokllafdnglaa
open Go Tx Go.RowKit
set_option linter.unusedSimpArgs false
set_option linter.unusedVariables false

theorem names188 : namesB Try.prog 188 = true := by kernel_rfl
theorem guard188 : Try.prog.eqGuardType Try.prog.depth 188 = false := by kernel_rfl
theorem neqE188 {a b c e : Int} {q : Bool} {x y : Operand} {K : Value → Prop} (hq : (!(a == c && b == e)) = q) (h : K (.bool q)) : ∃ v, (∀ _ : Nat → Nat, RunIs Try.prog (do eqGuard .neq 188 x y (.agg #[iv a, iv b]) (.agg #[iv c, iv e]); binOp .neq 188 (.agg #[iv a, iv b]) (.agg #[iv c, iv e])) v) ∧ K v :=
  ⟨_, fun _ => runIs_neq guard188 fun w => eqInS (o1 := 0) (o2 := 0) tok188 rfl names188 9998 _ _ _ _ w, by rw [hq]; exact h⟩
set_option maxHeartbeats 2000000 in
set_option maxRecDepth 100000 in
theorem guyV_ok (g : Gy) (w : World) : Calls Try.prog 90 #[.agg g.cs.toArray] w fun e w' => e = .returned (.bool (gyOk g)) ∧ Below w.heap.size w w' := by
  obtain ⟨x, y, dn, so, dp⟩ := g
  refine calls_val env mixed Try.func90 has90 Try.ntmps90 [.agg #[iv x, iv y, iv dn, iv so, iv dp]] (by simp) ?_
  unfold gyOk
  dsimp only
  obtain ⟨q3, hq3⟩ : ∃ q, (!(x == 0 && y == 0)) = q := ⟨_, rfl⟩
  cases q1 : inB x (-5000) 5000 <;> cases q2 : inB y (-5000) 5000 <;> cases q3 <;> cases q4 : inB dn 0 5000 <;> cases q5 : inB so 0 9 <;> cases q6 : inB dp 1 3000
  all_goals have c1 := fun w' => wc_ok x (-5000) 5000 w'
  all_goals have c2 := fun w' => wc_ok y (-5000) 5000 w'
  all_goals have c4 := fun w' => wc_ok dn 0 5000 w'
  all_goals have c5 := fun w' => wc_ok so 0 9 w'
  all_goals have c6 := fun w' => wc_ok dp 1 3000 w'
  all_goals rw [q1] at c1
  all_goals rw [q2] at c2
  all_goals rw [q4] at c4
  all_goals rw [q5] at c5
  all_goals rw [q6] at c6
  all_goals rw [hq3]
  all_goals skip
  repeat'
   conv => whnf
   first
    | refine zA ?_ | refine zB ?_ | refine zC ?_ | refine zD ?_ | refine zE ?_ | refine zF ?_ | refine zG ?_ | refine zH ?_ | refine zJ ?_ | refine zI ?_ | refine splT ?_ | refine splF ?_ | refine splNot ?_
    | ((first | refine splIn (fun hc => ?_) (fun hc => ?_) | refine splD (fun hc => ?_) (fun hc => ?_) | refine splE (fun hc => ?_) (fun hc => ?_) | refine splNE (fun hc => ?_) (fun hc => ?_)) <;> first | (exfalso; omega) | (exfalso; dsimp only at hc; omega) | skip)
    | ((with_reducible show CallEv _ _ 55 [.v (iv x), .v (iv (-5000)), .v (iv 5000)] _ _ _ _); refine callE (k := 55) (fun β w' hbw => c1 _) ?_)
    | ((with_reducible show CallEv _ _ 55 [.v (iv y), .v (iv (-5000)), .v (iv 5000)] _ _ _ _); refine callE (k := 55) (fun β w' hbw => c2 _) ?_)
    | ((with_reducible show CallEv _ _ 55 [.v (iv dn), .v (iv 0), .v (iv 5000)] _ _ _ _); refine callE (k := 55) (fun β w' hbw => c4 _) ?_)
    | ((with_reducible show CallEv _ _ 55 [.v (iv so), .v (iv 0), .v (iv 9)] _ _ _ _); refine callE (k := 55) (fun β w' hbw => c5 _) ?_)
    | ((with_reducible show CallEv _ _ 55 [.v (iv dp), .v (iv 1), .v (iv 3000)] _ _ _ _); refine callE (k := 55) (fun β w' hbw => c6 _) ?_)
    | refine neqE188 hq3 ?_
  all_goals first | (exfalso; omega) | exact ⟨fun β => rfl, fun w' h => h⟩

set_option maxRecDepth 100000 in
theorem all90_ok (L : List Gy) (o : Option Addr) (c : Nat) (w : World) (hrd : Rd 5 Gy.cs (.slice o L.length c) L w) (hl : L.length ≤ 1000000) :
    Calls Try.prog 89 #[.slice o L.length c, .func (.func 90) #[] #[]] w fun e w' => e = .returned (.bool (L.all gyOk)) ∧ Below w.heap.size w w' := by
  refine calls_val env mixed Try.func89 has89 Try.ntmps89 [.slice o L.length c, .func (.func 90) #[] #[]] (by simp) ?_
  repeat'
   conv => whnf
   first
    | refine zA ?_ | refine zB ?_ | refine zC ?_ | refine zD ?_ | refine zE ?_ | refine zF ?_ | refine zG ?_ | refine zH ?_ | refine zJ ?_ | refine zI ?_ | refine splT ?_ | refine splF ?_ | refine splNot ?_
    | ((first | refine splIn (fun hc => ?_) (fun hc => ?_) | refine splD (fun hc => ?_) (fun hc => ?_) | refine splE (fun hc => ?_) (fun hc => ?_) | refine splNE (fun hc => ?_) (fun hc => ?_)) <;> first | (exfalso; omega) | (exfalso; dsimp only at hc; omega) | skip)
    | ((with_reducible show CallEv _ _ 103 _ _ _ _ _); refine callI env mixed 1000 [] Try.func103 has103 Try.ntmps103 (Nat.le_of_ble_eq_true rfl) rfl rfl rfl ?_)
    | ((with_reducible show CallEv _ _ 109 _ _ _ _ _); refine callI env mixed 2000 [] Try.func109 has109 Try.ntmps109 (Nat.le_of_ble_eq_true rfl) rfl rfl rfl ?_)
  refine loopE (fun k : Nat => [(0, .v (.slice o L.length c)), (1, .fn (.func 104) [.ptr 0 0]), (7, .v (iv L.length)), (8, .v (iv k))]) (fun _ => [(0, .cells [.v (.func (.func 90) #[] #[])] 180)]) (fun k => k ≤ L.length ∧ (L.take k).all gyOk = true) (fun k => L.length - k) 0 ⟨Nat.zero_le _, rfl⟩ ⟨rfl, rfl, rfl, rfl, trivial⟩ ⟨rfl, trivial⟩ (fun _ => ⟨rfl, rfl⟩) ?_
  intro k ⟨hk, hall⟩
  rcases Nat.lt_or_ge k L.length with hkl | hkl
  · obtain ⟨⟨x, y, dn, so, dp⟩, hb⟩ : ∃ b, L[k]? = some b := ⟨_, List.getElem?_eq_getElem hkl⟩
    obtain ⟨_, ad, rfl, _⟩ := hrd.ptr (by omega)
    have ht := all_take (p := gyOk) hb
    rw [hall, Bool.true_and] at ht
    have hno := all_no (p := gyOk) hb
    have e0 := fun (w' : World) hw' => rd_ati (hrd.below (w' := w') hw') hb
    have hv := fun w' => guyV_ok ⟨x, y, dn, so, dp⟩ w'
    cases hg : gyOk ⟨x, y, dn, so, dp⟩ with
    | true =>
      rw [hg] at hv ht
      repeat'
       conv => whnf
       first
        | refine zA ?_ | refine zB ?_ | refine zC ?_ | refine zD ?_ | refine zE ?_ | refine zF ?_ | refine zG ?_ | refine zH ?_ | refine zJ ?_ | refine zI ?_ | refine splT ?_ | refine splF ?_ | refine splNot ?_
        | ((first | refine splIn (fun hc => ?_) (fun hc => ?_) | refine splD (fun hc => ?_) (fun hc => ?_) | refine splE (fun hc => ?_) (fun hc => ?_) | refine splNE (fun hc => ?_) (fun hc => ?_)) <;> first | (exfalso; omega) | (exfalso; dsimp only at hc; omega) | skip)
        | refine Exists.intro (α := List Value) [iv x, iv y, iv dn, iv so, iv dp] ⟨⟨rfl, fun w' hw' => e0 w' hw'⟩, ?_⟩
        | ((with_reducible show CallEv _ _ 104 _ _ _ _ _); refine callI env mixed 3000 [0,1,5,7,8] Try.func104 has104 Try.ntmps104 (Nat.le_of_ble_eq_true rfl) rfl rfl rfl ?_)
        | ((with_reducible show CallEv _ _ 90 _ _ _ _ _); refine callE (k := 90) (fun β w' hbw => hv _) ?_)
      exact ⟨k + 1, ⟨by omega, ht⟩, by omega, Ent.weak rfl ⟨rfl, rfl, rfl, rfl, trivial⟩ ⟨rfl, trivial⟩ fun _ h => h⟩
    | false =>
      rw [hg] at hv ht
      rw [hno hg]
      repeat'
       conv => whnf
       first
        | refine zA ?_ | refine zB ?_ | refine zC ?_ | refine zD ?_ | refine zE ?_ | refine zF ?_ | refine zG ?_ | refine zH ?_ | refine zJ ?_ | refine zI ?_ | refine splT ?_ | refine splF ?_ | refine splNot ?_
        | ((first | refine splIn (fun hc => ?_) (fun hc => ?_) | refine splD (fun hc => ?_) (fun hc => ?_) | refine splE (fun hc => ?_) (fun hc => ?_) | refine splNE (fun hc => ?_) (fun hc => ?_)) <;> first | (exfalso; omega) | (exfalso; dsimp only at hc; omega) | skip)
        | refine Exists.intro (α := List Value) [iv x, iv y, iv dn, iv so, iv dp] ⟨⟨rfl, fun w' hw' => e0 w' hw'⟩, ?_⟩
        | ((with_reducible show CallEv _ _ 104 _ _ _ _ _); refine callI env mixed 3000 [0,1,5,7,8] Try.func104 has104 Try.ntmps104 (Nat.le_of_ble_eq_true rfl) rfl rfl rfl ?_)
        | ((with_reducible show CallEv _ _ 90 _ _ _ _ _); refine callE (k := 90) (fun β w' hbw => hv _) ?_)
      all_goals first | exact ⟨fun β => rfl, fun w' h => h⟩ | (exfalso; omega) | skip
  · rw [List.take_of_length_le hkl] at hall
    rw [hall]
    repeat'
     conv => whnf
     first
      | refine zA ?_ | refine zB ?_ | refine zC ?_ | refine zD ?_ | refine zE ?_ | refine zF ?_ | refine zG ?_ | refine zH ?_ | refine zJ ?_ | refine zI ?_ | refine splT ?_ | refine splF ?_ | refine splNot ?_
      | ((first | refine splIn (fun hc => ?_) (fun hc => ?_) | refine splD (fun hc => ?_) (fun hc => ?_) | refine splE (fun hc => ?_) (fun hc => ?_) | refine splNE (fun hc => ?_) (fun hc => ?_)) <;> first | (exfalso; omega) | (exfalso; dsimp only at hc; omega) | skip)
    all_goals first | exact ⟨fun β => rfl, fun w' h => h⟩ | (exfalso; omega) | skip
set_option maxHeartbeats 2000000 in
set_option maxRecDepth 100000 in
theorem headV_ok (h : Hd) (w : World) (hG : Rd 5 Gy.cs (.slice h.go h.G.length h.gc) h.G w) (hl : h.G.length ≤ 1000000) : Calls Try.prog 57 #[.agg h.cs.toArray] w fun e w' => e = .returned (.bool (hdOk h)) ∧ Below w.heap.size w w' := by
  obtain ⟨ar, be, go, gc, G⟩ := h
  dsimp only at hG hl
  refine calls_val env mixed Try.func57 has57 Try.ntmps57 [.agg #[iv ar, iv be, .slice go G.length gc]] (by simp) ?_
  unfold hdOk
  dsimp only
  have c3 := fun (w' : World) (hw' : Below w.heap.size w w') => all90_ok G go gc w' (hG.below hw') hl
  cases q1 : inB ar 0 1000 <;> cases q2 : inB be 0 10000000 <;> cases q4 : G.all gyOk
  all_goals have c1 := fun w' => wc_ok ar 0 1000 w'
  all_goals have c2 := fun w' => wc_ok be 0 10000000 w'
  all_goals rw [q1] at c1
  all_goals rw [q2] at c2
  all_goals rw [q4] at c3
  all_goals skip
  repeat'
   conv => whnf
   first
    | refine zA ?_ | refine zB ?_ | refine zC ?_ | refine zD ?_ | refine zE ?_ | refine zF ?_ | refine zG ?_ | refine zH ?_ | refine zJ ?_ | refine zI ?_ | refine splT ?_ | refine splF ?_ | refine splNot ?_
    | ((first | refine splIn (fun hc => ?_) (fun hc => ?_) | refine splD (fun hc => ?_) (fun hc => ?_) | refine splE (fun hc => ?_) (fun hc => ?_) | refine splNE (fun hc => ?_) (fun hc => ?_)) <;> first | (exfalso; omega) | (exfalso; dsimp only at hc; omega) | skip)
    | ((with_reducible show CallEv _ _ 55 [.v (iv ar), .v (iv 0), .v (iv 1000)] _ _ _ _); refine callE (k := 55) (fun β w' hbw => c1 _) ?_)
    | ((with_reducible show CallEv _ _ 55 [.v (iv be), .v (iv 0), .v (iv 10000000)] _ _ _ _); refine callE (k := 55) (fun β w' hbw => c2 _) ?_)
    | ((with_reducible show CallEv _ _ 89 _ _ _ _ _); refine callE (k := 89) (fun β w' hbw => c3 _ hbw) ?_)
  all_goals first | (exfalso; omega) | exact ⟨fun β => congrArg Value.bool (by simp [*]; try omega), fun w' h => h⟩
end Go.Proofs.Ytfbokllafdnglaa
