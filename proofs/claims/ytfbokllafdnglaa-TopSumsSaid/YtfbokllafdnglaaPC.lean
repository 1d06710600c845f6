/- Tents that are right: what Right, and the program's valid and CheckTent, return. -/
import Derived.Test.YtfbokllafdnglaaPB
namespace Go.Proofs.Ytfbokllafdnglaa
open Go Tx Go.RowKit
set_option linter.unusedSimpArgs false
set_option linter.unusedVariables false

set_option maxHeartbeats 4000000 in
set_option maxRecDepth 100000 in
theorem RightT_ok (T : List Hd) (o : Option Addr) (c : Nat) (w : World) (h : TtIn o c T w) : Calls Try.prog 7 #[.slice o T.length c] w fun e w' => e = .returned (.bool (ttOk T)) ∧ Below w.heap.size w w' := by
  obtain ⟨hT, hg, htl, hgl⟩ := h
  unfold ttOk
  refine calls_val env mixed Try.func7 has7 Try.ntmps7 [.slice o T.length c] (by simp) ?_
  repeat'
   conv => whnf
   first
    | refine zA ?_ | refine zB ?_ | refine zC ?_ | refine zD ?_ | refine zE ?_ | refine zF ?_ | refine zG ?_ | refine zH ?_ | refine zJ ?_ | refine zI ?_ | refine splT ?_ | refine splF ?_ | refine splNot ?_
    | ((first | refine splIn (fun hc => ?_) (fun hc => ?_) | refine splD (fun hc => ?_) (fun hc => ?_) | refine splE (fun hc => ?_) (fun hc => ?_) | refine splNE (fun hc => ?_) (fun hc => ?_)) <;> first | (exfalso; omega) | (exfalso; dsimp only at hc; omega) | skip)
  refine loopE (fun i : Nat => [(0, .v (.slice o T.length c)), (3, .v (iv i))]) (fun _ => []) (fun i => i ≤ T.length ∧ (T.take i).all hdOk = true) (fun i => T.length - i) 0 ⟨Nat.zero_le _, rfl⟩ ⟨rfl, rfl, trivial⟩ trivial (fun _ => ⟨rfl, rfl⟩) ?_
  intro i ⟨hi, hall⟩
  rcases Nat.lt_or_ge i T.length with hil | hil
  · obtain ⟨⟨ar, be, go, gc, G⟩, ht⟩ : ∃ t, T[i]? = some t := ⟨_, List.getElem?_eq_getElem hil⟩
    obtain ⟨_, ad, rfl, _⟩ := hT.ptr (by omega)
    have e0 := fun (w' : World) hw' => rd_fldz (hT.below (w' := w') hw') ht _ rfl 0 (iv ar) rfl
    have e1 := fun (w' : World) hw' => rd_fldz (hT.below (w' := w') hw') ht _ rfl 1 (iv be) rfl
    have e2 := fun (w' : World) hw' => rd_fldz (hT.below (w' := w') hw') ht _ rfl 2 (.slice go G.length gc) rfl
    have hGl := hgl _ (List.mem_of_getElem? ht)
    have hG := hg _ (List.mem_of_getElem? ht)
    have hat := all_take (p := hdOk) ht
    rw [hall, Bool.true_and] at hat
    have hno := all_no (p := hdOk) ht
    dsimp only [hdOk] at hat hno hGl hG
    have c1 := fun w' => Ic_ok ar 0 1000 w'
    have c2 := fun w' => Ic_ok be 0 10000000 w'
    by_cases hok : inB ar 0 1000 = true ∧ inB be 0 10000000 = true ∧ G.length ≤ 8
    · obtain ⟨q1, q2, q3⟩ := hok
      rw [q1, q2, decide_eq_true q3, Bool.true_and, Bool.true_and, Bool.true_and] at hat hno
      rw [q1] at c1
      rw [q2] at c2
      repeat'
       conv => whnf
       first
        | refine zA ?_ | refine zB ?_ | refine zC ?_ | refine zD ?_ | refine zE ?_ | refine zF ?_ | refine zG ?_ | refine zH ?_ | refine zJ ?_ | refine zI ?_ | refine splT ?_ | refine splF ?_ | refine splNot ?_
        | ((first | refine splIn (fun hc => ?_) (fun hc => ?_) | refine splD (fun hc => ?_) (fun hc => ?_) | refine splE (fun hc => ?_) (fun hc => ?_) | refine splNE (fun hc => ?_) (fun hc => ?_)) <;> first | (exfalso; omega) | (exfalso; dsimp only at hc; omega) | skip)
        | refine Exists.intro (α := List Value) [iv ar] ⟨⟨rfl, fun w' hw' => e0 w' hw'⟩, ?_⟩
        | refine Exists.intro (α := List Value) [iv be] ⟨⟨rfl, fun w' hw' => e1 w' hw'⟩, ?_⟩
        | refine Exists.intro (α := List Value) [.slice go G.length gc] ⟨⟨rfl, fun w' hw' => e2 w' hw'⟩, ?_⟩
        | ((with_reducible show CallEv _ _ 24 [.v (iv ar), .v (iv 0), .v (iv 1000)] _ _ _ _); refine callE (k := 24) (fun β w' hbw => c1 _) ?_)
        | ((with_reducible show CallEv _ _ 24 [.v (iv be), .v (iv 0), .v (iv 10000000)] _ _ _ _); refine callE (k := 24) (fun β w' hbw => c2 _) ?_)
      all_goals first | (exfalso; omega) | skip
      refine loopE (fun j : Nat => [(0, .v (.slice (some ad) T.length c)), (3, .v (iv i)), (4, .v (iv j))]) (fun _ => []) (fun j => j ≤ G.length ∧ (G.take j).all gyOk = true) (fun j => G.length - j) 0 ⟨Nat.zero_le _, rfl⟩ ⟨rfl, rfl, rfl, trivial⟩ trivial (fun _ => ⟨rfl, rfl⟩) ?_
      intro j ⟨hj, hallj⟩
      rcases Nat.lt_or_ge j G.length with hjl | hjl
      · obtain ⟨⟨x, y, dn, so, dp⟩, hgj⟩ : ∃ t, G[j]? = some t := ⟨_, List.getElem?_eq_getElem hjl⟩
        obtain ⟨_, ag, rfl, _⟩ := hG.ptr (by omega)
        have f0 := fun (w' : World) hw' => rd_ati (hG.below (w' := w') hw') hgj
        have hgt := all_take (p := gyOk) hgj
        rw [hallj, Bool.true_and] at hgt
        have hgn := all_no (p := gyOk) hgj
        have cg := fun w' => RightGuy_ok ⟨x, y, dn, so, dp⟩ w'
        cases hq : gyOk ⟨x, y, dn, so, dp⟩
        all_goals rw [hq] at cg
        · rw [hno (hgn hq), Bool.false_and]
          repeat'
           conv => whnf
           first
            | refine zA ?_ | refine zB ?_ | refine zC ?_ | refine zD ?_ | refine zE ?_ | refine zF ?_ | refine zG ?_ | refine zH ?_ | refine zJ ?_ | refine zI ?_ | refine splT ?_ | refine splF ?_ | refine splNot ?_
            | ((first | refine splIn (fun hc => ?_) (fun hc => ?_) | refine splD (fun hc => ?_) (fun hc => ?_) | refine splE (fun hc => ?_) (fun hc => ?_) | refine splNE (fun hc => ?_) (fun hc => ?_)) <;> first | (exfalso; omega) | (exfalso; dsimp only at hc; omega) | skip)
            | refine Exists.intro (α := List Value) [.slice (some ag) G.length gc] ⟨⟨rfl, fun w' hw' => e2 w' hw'⟩, ?_⟩
            | refine Exists.intro (α := List Value) [iv x, iv y, iv dn, iv so, iv dp] ⟨⟨rfl, fun w' hw' => f0 w' hw'⟩, ?_⟩
            | ((with_reducible show CallEv _ _ 25 _ _ _ _ _); refine callE (k := 25) (fun β w' hbw => cg _) ?_)
          all_goals first | (exfalso; omega) | exact ⟨fun β => rfl, fun w' h => h⟩
        · rw [hq] at hgt
          repeat'
           conv => whnf
           first
            | refine zA ?_ | refine zB ?_ | refine zC ?_ | refine zD ?_ | refine zE ?_ | refine zF ?_ | refine zG ?_ | refine zH ?_ | refine zJ ?_ | refine zI ?_ | refine splT ?_ | refine splF ?_ | refine splNot ?_
            | ((first | refine splIn (fun hc => ?_) (fun hc => ?_) | refine splD (fun hc => ?_) (fun hc => ?_) | refine splE (fun hc => ?_) (fun hc => ?_) | refine splNE (fun hc => ?_) (fun hc => ?_)) <;> first | (exfalso; omega) | (exfalso; dsimp only at hc; omega) | skip)
            | refine Exists.intro (α := List Value) [.slice (some ag) G.length gc] ⟨⟨rfl, fun w' hw' => e2 w' hw'⟩, ?_⟩
            | refine Exists.intro (α := List Value) [iv x, iv y, iv dn, iv so, iv dp] ⟨⟨rfl, fun w' hw' => f0 w' hw'⟩, ?_⟩
            | ((with_reducible show CallEv _ _ 25 _ _ _ _ _); refine callE (k := 25) (fun β w' hbw => cg _) ?_)
          all_goals first | (exfalso; omega) | exact ⟨j + 1, ⟨by omega, hgt⟩, by omega, Ent.weak rfl ⟨rfl, rfl, rfl, trivial⟩ trivial fun _ h => h⟩
      · rw [List.take_of_length_le hjl] at hallj
        rw [hallj] at hat
        repeat'
         conv => whnf
         first
          | refine zA ?_ | refine zB ?_ | refine zC ?_ | refine zD ?_ | refine zE ?_ | refine zF ?_ | refine zG ?_ | refine zH ?_ | refine zJ ?_ | refine zI ?_ | refine splT ?_ | refine splF ?_ | refine splNot ?_
          | ((first | refine splIn (fun hc => ?_) (fun hc => ?_) | refine splD (fun hc => ?_) (fun hc => ?_) | refine splE (fun hc => ?_) (fun hc => ?_) | refine splNE (fun hc => ?_) (fun hc => ?_)) <;> first | (exfalso; omega) | (exfalso; dsimp only at hc; omega) | skip)
          | refine Exists.intro (α := List Value) [.slice go G.length gc] ⟨⟨rfl, fun w' hw' => e2 w' hw'⟩, ?_⟩
        all_goals first | (exfalso; omega) | exact ⟨i + 1, ⟨by omega, hat⟩, by omega, Ent.weak rfl ⟨rfl, rfl, trivial⟩ trivial fun _ h => h⟩
    · have hb : (inB ar 0 1000 && (inB be 0 10000000 && (decide (G.length ≤ 8) && G.all gyOk))) = false := by
        cases q1 : inB ar 0 1000 <;> cases q2 : inB be 0 10000000 <;> simp_all
        intro h8
        omega
      rw [hno hb, Bool.false_and]
      cases q1 : inB ar 0 1000 <;> cases q2 : inB be 0 10000000
      all_goals rw [q1] at c1
      all_goals rw [q2] at c2
      all_goals have hk8 : inB ar 0 1000 = true → inB be 0 10000000 = true → ¬ G.length ≤ 8 := fun h1 h2 h3 => hok ⟨h1, h2, h3⟩
      all_goals rw [q1, q2] at hk8
      all_goals skip
      repeat'
       conv => whnf
       first
        | refine zA ?_ | refine zB ?_ | refine zC ?_ | refine zD ?_ | refine zE ?_ | refine zF ?_ | refine zG ?_ | refine zH ?_ | refine zJ ?_ | refine zI ?_ | refine splT ?_ | refine splF ?_ | refine splNot ?_
        | ((first | refine splIn (fun hc => ?_) (fun hc => ?_) | refine splD (fun hc => ?_) (fun hc => ?_) | refine splE (fun hc => ?_) (fun hc => ?_) | refine splNE (fun hc => ?_) (fun hc => ?_)) <;> first | (exfalso; omega) | (exfalso; dsimp only at hc; omega) | skip)
        | refine Exists.intro (α := List Value) [iv ar] ⟨⟨rfl, fun w' hw' => e0 w' hw'⟩, ?_⟩
        | refine Exists.intro (α := List Value) [iv be] ⟨⟨rfl, fun w' hw' => e1 w' hw'⟩, ?_⟩
        | refine Exists.intro (α := List Value) [.slice go G.length gc] ⟨⟨rfl, fun w' hw' => e2 w' hw'⟩, ?_⟩
        | ((with_reducible show CallEv _ _ 24 [.v (iv ar), .v (iv 0), .v (iv 1000)] _ _ _ _); refine callE (k := 24) (fun β w' hbw => c1 _) ?_)
        | ((with_reducible show CallEv _ _ 24 [.v (iv be), .v (iv 0), .v (iv 10000000)] _ _ _ _); refine callE (k := 24) (fun β w' hbw => c2 _) ?_)
      all_goals first | (exfalso; omega) | exact ⟨fun β => rfl, fun w' h => h⟩ | (exfalso; have := hk8 rfl rfl; omega)
  · rw [List.take_of_length_le hil] at hall
    rw [hall, Bool.true_and]
    have hl1 : (T.length : Int) ≥ 1 ∨ ¬ (T.length : Int) ≥ 1 := Decidable.em _
    rcases hl1 with hl1 | hl1
    · rw [decide_eq_true (show 1 ≤ T.length by omega), Bool.true_and]
      repeat'
       conv => whnf
       first
        | refine zA ?_ | refine zB ?_ | refine zC ?_ | refine zD ?_ | refine zE ?_ | refine zF ?_ | refine zG ?_ | refine zH ?_ | refine zJ ?_ | refine zI ?_ | refine splT ?_ | refine splF ?_ | refine splNot ?_
        | ((first | refine splIn (fun hc => ?_) (fun hc => ?_) | refine splD (fun hc => ?_) (fun hc => ?_) | refine splE (fun hc => ?_) (fun hc => ?_) | refine splNE (fun hc => ?_) (fun hc => ?_)) <;> first | (exfalso; omega) | (exfalso; dsimp only at hc; omega) | skip)
      all_goals first | (exfalso; omega) | exact ⟨fun β => congrArg Value.bool (by simp [*]; try omega), fun w' h => h⟩
    · rw [decide_eq_false (show ¬ 1 ≤ T.length by omega), Bool.false_and]
      repeat'
       conv => whnf
       first
        | refine zA ?_ | refine zB ?_ | refine zC ?_ | refine zD ?_ | refine zE ?_ | refine zF ?_ | refine zG ?_ | refine zH ?_ | refine zJ ?_ | refine zI ?_ | refine splT ?_ | refine splF ?_ | refine splNot ?_
        | ((first | refine splIn (fun hc => ?_) (fun hc => ?_) | refine splD (fun hc => ?_) (fun hc => ?_) | refine splE (fun hc => ?_) (fun hc => ?_) | refine splNE (fun hc => ?_) (fun hc => ?_)) <;> first | (exfalso; omega) | (exfalso; dsimp only at hc; omega) | skip)
      all_goals first | (exfalso; omega) | exact ⟨fun β => rfl, fun w' h => h⟩
end Go.Proofs.Ytfbokllafdnglaa
