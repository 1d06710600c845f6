/- The reference's towns: what ends, empty and town return. -/
import Derived.Test.YthfabodamhdhaaaTC
namespace Go.Proofs.Ythfabodamhdhaaa
open Go Tx Go.RowKit
set_option linter.unusedSimpArgs false
set_option linter.unusedVariables false
theorem ends_ok (r1 r2 lo hi : Int) (w : World) : Calls Try.prog 102 #[.agg #[iv r1, iv r2], iv lo, iv hi] w fun e w' => e = .returned (.bool (rgB lo hi (r1, r2))) ∧ Below w.heap.size w w' := by
 refine calls_val env mixed Try.func102 has102 Try.ntmps102 [.agg #[iv r1, iv r2], iv lo, iv hi] (by simp) ?_
 repeat'
  conv => whnf
  first
   | refine zA ?_ | refine zB ?_ | refine zC ?_ | refine zD ?_ | refine zE ?_ | refine zF ?_ | refine zG ?_ | refine zH ?_ | refine zJ ?_ | refine zI ?_ | refine splT ?_ | refine splF ?_ | refine splNot ?_
   | ((first | refine splIn ?_ ?_ | refine splD ?_ ?_ | refine splE ?_ ?_ | refine splNE ?_ ?_) <;> intro hc <;> first | (exfalso; omega) | (exfalso; dsimp only at hc; omega) | skip)
 all_goals exact ⟨fun β => congrArg Value.bool (by simp [rgB, *]), fun w' h => h⟩
theorem names67 : namesB Try.prog 67 = true := by kernel_rfl
theorem guard67 : Try.prog.eqGuardType Try.prog.depth 67 = false := by kernel_rfl
theorem eqIn67 (a b c e : Int) (w : World) : (Op.equalIn 10000 67 (.agg #[iv a, iv b]) (.agg #[iv c, iv e])).run Try.prog w = .ok (a == c && b == e) w :=
 equalIn_two tok67 rfl (by decide) names67 (part3 _ 0 _ w rfl) (part3 _ 1 _ w rfl) (part3 _ 0 _ w rfl) (part3 _ 1 _ w rfl) (eqIn3 9998 _ _ w) (eqIn3 9998 _ _ w)
theorem names127 : namesB Try.prog 127 = true := by kernel_rfl
theorem guard127 : Try.prog.eqGuardType Try.prog.depth 127 = false := by kernel_rfl
theorem eqIn127 (a b c e : Int) (w : World) : (Op.equalIn 10000 127 (.agg #[iv a, iv b]) (.agg #[iv c, iv e])).run Try.prog w = .ok (a == c && b == e) w :=
 equalIn_two tok127 rfl (by decide) names127 (part3 _ 0 _ w rfl) (part3 _ 1 _ w rfl) (part3 _ 0 _ w rfl) (part3 _ 1 _ w rfl) (eqIn3 9998 _ _ w) (eqIn3 9998 _ _ w)
theorem eqlE67 {a b c e : Int} {q : Bool} {x y : Operand} {K : Value → Prop} (hq : (a == c && b == e) = q) (h : K (.bool q)) : ∃ v, (∀ _ : Nat → Nat, RunIs Try.prog (do eqGuard .eql 67 x y (.agg #[iv a, iv b]) (.agg #[iv c, iv e]); binOp .eql 67 (.agg #[iv a, iv b]) (.agg #[iv c, iv e])) v) ∧ K v :=
 ⟨_, fun _ => runIs_eql guard67 fun w => eqIn67 _ _ _ _ w, by rw [hq]; exact h⟩
theorem neqE127 {a b c e : Int} {q : Bool} {x y : Operand} {K : Value → Prop} (hq : (!(a == c && b == e)) = q) (h : K (.bool q)) : ∃ v, (∀ _ : Nat → Nat, RunIs Try.prog (do eqGuard .neq 127 x y (.agg #[iv a, iv b]) (.agg #[iv c, iv e]); binOp .neq 127 (.agg #[iv a, iv b]) (.agg #[iv c, iv e])) v) ∧ K v :=
 ⟨_, fun _ => runIs_neq guard127 fun w => eqIn127 _ _ _ _ w, by rw [hq]; exact h⟩
theorem empty_ok (t : Tn) (w : World) : Calls Try.prog 61 #[.agg t.cs.toArray] w fun e w' => e = .returned (.bool (quB t.d)) ∧ Below w.heap.size w w' := by
 obtain ⟨oo, oc, ro, rc, O, s1, s2, pay, lot, rent, R, cold, cut⟩ := t
 refine calls_val env mixed Try.func61 has61 Try.ntmps61 [.agg #[.slice oo O.length oc, iv s1, iv s2, iv pay, iv lot, iv rent, .slice ro R.length rc, iv cold, iv cut]] (by simp) ?_
 have hq : quB ⟨O, s1, s2, pay, lot, rent, R, cold, cut⟩ = (decide ((O.length : Int) = 0) && ((s1 == 0 && s2 == 0) && (decide (pay = 0) && (decide (lot = 0) && (decide (rent = 0) && (decide ((R.length : Int) = 0) && (decide (cold = 0) && decide (cut = 0)))))))) := by
  rw [Bool.eq_iff_iff]
  simp only [quB, Bool.and_eq_true, decide_eq_true_eq, beq_iff_eq]
  omega
 dsimp only
 rw [hq]
 obtain ⟨b, hb⟩ : ∃ b, (s1 == 0 && s2 == 0) = b := ⟨_, rfl⟩
 rw [hb]
 cases b
 all_goals skip
 repeat'
  conv => whnf
  first
   | refine zA ?_ | refine zB ?_ | refine zC ?_ | refine zD ?_ | refine zE ?_ | refine zF ?_ | refine zG ?_ | refine zH ?_ | refine zJ ?_ | refine zI ?_ | refine splT ?_ | refine splF ?_ | refine splNot ?_
   | ((first | refine splIn ?_ ?_ | refine splD ?_ ?_ | refine splE ?_ ?_ | refine splNE ?_ ?_) <;> intro hc <;> first | (exfalso; omega) | (exfalso; dsimp only at hc; omega) | skip)
   | refine eqlE67 hb ?_
 all_goals first | (exfalso; omega) | exact ⟨fun β => congrArg Value.bool (by first | (simp [*]; done) | (simp [*]; rfl) | (simp [*]; intros; first | assumption | omega) | simp_all), fun w' h => h⟩
structure TnI0 (t : Tn) (w : World) : Prop where
 o : Rd 2 prF (.slice t.oo t.d.O.length t.oc) t.d.O w
 r : Rd 2 prF (.slice t.ro t.d.R.length t.rc) t.d.R w
 ol : t.d.O.length ≤ 9223372036854775807
 rl : t.d.R.length ≤ 9223372036854775807
structure TrI0 (x : Tr) (w : World) : Prop where
 t : Rd 9 Tn.cs (.slice x.to x.T.length x.tc) x.T w
 ti : ∀ t ∈ x.T, TnI0 t w
 l : Rd 1 Lr.cs (.slice x.lo x.L.length x.lc) x.L w
 li : ∀ r ∈ x.L, Rd 2 prF (.slice r.o r.L.length r.c) r.L w
 tl : x.T.length ≤ 9223372036854775807
 ll : x.L.length ≤ 9223372036854775807
 lr : ∀ r ∈ x.L, r.L.length ≤ 9223372036854775807
 tcap : x.T.length ≤ x.tc
theorem TnI0.below {t : Tn} {w w' : World} (h : TnI0 t w) (hb : Below w.heap.size w w') : TnI0 t w' := ⟨h.o.below hb, h.r.below hb, h.ol, h.rl⟩
theorem TrI0.below {x : Tr} {w w' : World} (h : TrI0 x w) (hb : Below w.heap.size w w') : TrI0 x w' := ⟨h.t.below hb, fun t ht => (h.ti t ht).below hb, h.l.below hb, fun r hr => (h.li r hr).below hb, h.tl, h.ll, h.lr, h.tcap⟩
def lst (O : List (Int × Int)) : Nat → Int
 | 0 => -1
 | k + 1 => ((O[k]?).getD (0, 0)).2
theorem apB_step {days : Int} {O : List (Int × Int)} {i : Nat} {r : Int × Int} (h : O[i]? = some r) : apB days (lst O i) (O.drop i) = ((decide (lst O i + 1 ≤ r.1) && (decide (r.1 ≤ r.2) && decide (r.2 ≤ days - 1))) && apB days (lst O (i + 1)) (O.drop (i + 1))) := by
 obtain ⟨hi, rfl⟩ := List.getElem?_eq_some_iff.1 h
 rw [List.drop_eq_getElem_cons hi]
 show ((_ && (_ && _)) && apB days (O[i]).2 (O.drop (i + 1))) = _
 rw [show lst O (i + 1) = (O[i]).2 from by simp [lst, h]]
set_option maxHeartbeats 4000000 in
set_option maxRecDepth 100000 in
theorem rtown_ok (t : Tn) (days : Int) (w : World) (h : TnI0 t w) (hd : 1 ≤ days ∧ days ≤ 60) : Calls Try.prog 62 #[.agg t.cs.toArray, iv days] w fun e w' => e = .returned (.bool (twB days t.d)) ∧ Below w.heap.size w w' := by
 obtain ⟨oo, oc, ro, rc, O, s1, s2, pay, lot, rent, R, cold, cut⟩ := t
 have h00 : lst O 0 = -1 := rfl
 obtain ⟨hO, hR, hol, hrl⟩ := h
 dsimp only at h00 hO hR hol hrl ⊢
 refine calls_val env mixed Try.func62 has62 Try.ntmps62 [.agg #[.slice oo O.length oc, iv s1, iv s2, iv pay, iv lot, iv rent, .slice ro R.length rc, iv cold, iv cut], iv days] (by simp) ?_
 have htw : twB days ⟨O, s1, s2, pay, lot, rent, R, cold, cut⟩ = (apB days (-1) O && ((R.all fun r => rgB (-60) 60 r) && (inB O.length 1 3 && (rgB 1 10 (s1, s2) && (inB pay 0 1000000 && (inB lot 0 100000 && (inB rent 0 1000000 && (decide (R.length ≤ 3) && (inB cold 0 60 && inB cut 0 1000))))))))) := by
  simp only [twB, rgB]
  cases apB days (-1) O <;> cases (R.all fun r => decide (-60 ≤ r.1) && (decide (r.1 ≤ r.2) && decide (r.2 ≤ 60))) <;> simp
 rw [htw]
 clear htw
 repeat'
  conv => whnf
  first
   | refine zA ?_ | refine zB ?_ | refine zC ?_ | refine zD ?_ | refine zE ?_ | refine zF ?_ | refine zG ?_ | refine zH ?_ | refine zJ ?_ | refine zI ?_ | refine splT ?_ | refine splF ?_ | refine splNot ?_
   | ((first | refine splIn ?_ ?_ | refine splD ?_ ?_ | refine splE ?_ ?_ | refine splNE ?_ ?_) <;> intro hc <;> first | (exfalso; omega) | (exfalso; dsimp only at hc; omega) | skip)
 refine loopE (fun i : Nat => [(1, .v (iv days)), (2, .ptr 0 0), (5, .v (iv i))]) (fun _ => [(0, .cells [.v (.slice oo O.length oc), .v (iv s1), .v (iv s2), .v (iv pay), .v (iv lot), .v (iv rent), .v (.slice ro R.length rc), .v (iv cold), .v (iv cut)] 69)])
  (fun i => i ≤ O.length ∧ 0 ≤ lst O i + 1 ∧ apB days (-1) O = apB days (lst O i) (O.drop i)) (fun i => O.length - i) 0 ⟨Nat.zero_le _, by (show (0 : Int) ≤ -1 + 1); decide, rfl⟩ ⟨rfl, rfl, rfl, trivial⟩ ⟨rfl, trivial⟩ (fun _ => ⟨rfl, rfl⟩) ?_
 intro i ⟨hi, hlst, hap⟩
 rcases Nat.lt_or_ge i O.length with hil | hil
 · obtain ⟨⟨r1, r2⟩, hr⟩ : ∃ r, O[i]? = some r := ⟨_, List.getElem?_eq_getElem hil⟩
   have hst := apB_step (days := days) hr
   dsimp only at hst
   obtain ⟨_, ad, rfl, _⟩ := hO.ptr (by omega)
   have e0 := fun (w' : World) hw' => rd_ati (hO.below (w' := w') hw') hr
   have e1 := fun (w' : World) hw' => rd_fldz (hO.below (w' := w') hw') hr _ rfl 0 (iv r1) rfl
   have hls1 : lst O (i + 1) = r2 := by simp [lst, hr]
   rw [hap, hst, hls1]
   by_cases he : 0 ≤ r1 ∧ r1 ≤ r2 ∧ r2 ≤ days - 1
   · have h102 : ∀ w' : World, Calls Try.prog 102 #[.agg #[iv r1, iv r2], iv 0, iv (days - 1)] w' fun e w2 => e = .returned (.bool true) ∧ Below w'.heap.size w' w2 := fun w' => by
      have := ends_ok r1 r2 0 (days - 1) w'
      rwa [show rgB 0 (days - 1) (r1, r2) = true from by simp [rgB]; omega] at this
     cases i with
     | zero =>
      rw [show (decide (lst O 0 + 1 ≤ r1) && (decide (r1 ≤ r2) && decide (r2 ≤ days - 1))) = true from by (rw [h00]; simp; omega), Bool.true_and]
      rw [hst, hls1, show (decide (lst O 0 + 1 ≤ r1) && (decide (r1 ≤ r2) && decide (r2 ≤ days - 1))) = true from by (rw [h00]; simp; omega), Bool.true_and] at hap
      repeat'
       conv => whnf
       first
        | refine zA ?_ | refine zB ?_ | refine zC ?_ | refine zD ?_ | refine zE ?_ | refine zF ?_ | refine zG ?_ | refine zH ?_ | refine zJ ?_ | refine zI ?_ | refine splT ?_ | refine splF ?_ | refine splNot ?_
        | ((first | refine splIn ?_ ?_ | refine splD ?_ ?_ | refine splE ?_ ?_ | refine splNE ?_ ?_) <;> intro hc <;> first | (exfalso; omega) | (exfalso; dsimp only at hc; omega) | skip)
        | refine Exists.intro (α := List Value) [iv r1, iv r2] ⟨⟨rfl, fun w' hw' => e0 w' hw'⟩, ?_⟩
        | ((with_reducible show CallEv _ _ 102 _ _ _ _ _); refine callE (k := 102) (fun β w' hbw => h102 w') ?_)
      all_goals first | (exfalso; omega) | exact ⟨0 + 1, ⟨by omega, by rw [hls1]; omega, by rw [hls1]⟩, by omega, Ent.weak rfl ⟨rfl, rfl, rfl, trivial⟩ ⟨rfl, trivial⟩ fun _ h => h⟩
     | succ k =>
      obtain ⟨⟨p1, p2⟩, hp⟩ : ∃ r, O[k]? = some r := ⟨_, List.getElem?_eq_getElem (by omega)⟩
      have e2 := fun (w' : World) hw' => rd_fldz (hO.below (w' := w') hw') hp (((k + 1 : Nat) : Int) - 1) (by omega) 1 (iv p2) rfl
      have hlp : lst O (k + 1) = p2 := by simp [lst, hp]
      rw [hlp] at hst hap ⊢
      by_cases hlt : r1 ≤ p2
      · rw [show (decide (p2 + 1 ≤ r1) && (decide (r1 ≤ r2) && decide (r2 ≤ days - 1))) = false from by rw [decide_eq_false (by omega), Bool.false_and], Bool.false_and, Bool.false_and]
        repeat'
         conv => whnf
         first
          | refine zA ?_ | refine zB ?_ | refine zC ?_ | refine zD ?_ | refine zE ?_ | refine zF ?_ | refine zG ?_ | refine zH ?_ | refine zJ ?_ | refine zI ?_ | refine splT ?_ | refine splF ?_ | refine splNot ?_
          | ((first | refine splIn ?_ ?_ | refine splD ?_ ?_ | refine splE ?_ ?_ | refine splNE ?_ ?_) <;> intro hc <;> first | (exfalso; omega) | (exfalso; dsimp only at hc; omega) | skip)
          | refine Exists.intro (α := List Value) [iv r1, iv r2] ⟨⟨rfl, fun w' hw' => e0 w' hw'⟩, ?_⟩
          | ((with_reducible show CallEv _ _ 102 _ _ _ _ _); refine callE (k := 102) (fun β w' hbw => h102 w') ?_)
          | refine Exists.intro (α := List Value) [iv r1] ⟨⟨rfl, fun w' hw' => e1 w' hw'⟩, ?_⟩
          | refine Exists.intro (α := List Value) [iv p2] ⟨⟨rfl, fun w' hw' => e2 w' hw'⟩, ?_⟩
        all_goals first | (exfalso; omega) | exact ⟨fun β => rfl, fun w' h => h⟩
      · rw [show (decide (p2 + 1 ≤ r1) && (decide (r1 ≤ r2) && decide (r2 ≤ days - 1))) = true from by simp; omega, Bool.true_and]
        rw [hst, hls1, show (decide (p2 + 1 ≤ r1) && (decide (r1 ≤ r2) && decide (r2 ≤ days - 1))) = true from by simp; omega, Bool.true_and] at hap
        repeat'
         conv => whnf
         first
          | refine zA ?_ | refine zB ?_ | refine zC ?_ | refine zD ?_ | refine zE ?_ | refine zF ?_ | refine zG ?_ | refine zH ?_ | refine zJ ?_ | refine zI ?_ | refine splT ?_ | refine splF ?_ | refine splNot ?_
          | ((first | refine splIn ?_ ?_ | refine splD ?_ ?_ | refine splE ?_ ?_ | refine splNE ?_ ?_) <;> intro hc <;> first | (exfalso; omega) | (exfalso; dsimp only at hc; omega) | skip)
          | refine Exists.intro (α := List Value) [iv r1, iv r2] ⟨⟨rfl, fun w' hw' => e0 w' hw'⟩, ?_⟩
          | ((with_reducible show CallEv _ _ 102 _ _ _ _ _); refine callE (k := 102) (fun β w' hbw => h102 w') ?_)
          | refine Exists.intro (α := List Value) [iv r1] ⟨⟨rfl, fun w' hw' => e1 w' hw'⟩, ?_⟩
          | refine Exists.intro (α := List Value) [iv p2] ⟨⟨rfl, fun w' hw' => e2 w' hw'⟩, ?_⟩
        all_goals first | (exfalso; omega) | exact ⟨k + 1 + 1, ⟨by omega, by rw [hls1]; omega, by rw [hls1]⟩, by omega, Ent.weak rfl ⟨rfl, rfl, rfl, trivial⟩ ⟨rfl, trivial⟩ fun _ h => h⟩
   · have h102 : ∀ w' : World, Calls Try.prog 102 #[.agg #[iv r1, iv r2], iv 0, iv (days - 1)] w' fun e w2 => e = .returned (.bool false) ∧ Below w'.heap.size w' w2 := fun w' => by
      have := ends_ok r1 r2 0 (days - 1) w'
      rwa [show rgB 0 (days - 1) (r1, r2) = false from by (cases hb : rgB 0 (days - 1) (r1, r2) with | false => rfl | true => (simp [rgB] at hb; omega))] at this
     rw [show (decide (lst O i + 1 ≤ r1) && (decide (r1 ≤ r2) && decide (r2 ≤ days - 1))) = false from by (cases hb : (decide (lst O i + 1 ≤ r1) && (decide (r1 ≤ r2) && decide (r2 ≤ days - 1))) with | false => rfl | true => (simp at hb; omega)), Bool.false_and, Bool.false_and]
     repeat'
      conv => whnf
      first
       | refine zA ?_ | refine zB ?_ | refine zC ?_ | refine zD ?_ | refine zE ?_ | refine zF ?_ | refine zG ?_ | refine zH ?_ | refine zJ ?_ | refine zI ?_ | refine splT ?_ | refine splF ?_ | refine splNot ?_
       | ((first | refine splIn ?_ ?_ | refine splD ?_ ?_ | refine splE ?_ ?_ | refine splNE ?_ ?_) <;> intro hc <;> first | (exfalso; omega) | (exfalso; dsimp only at hc; omega) | skip)
       | refine Exists.intro (α := List Value) [iv r1, iv r2] ⟨⟨rfl, fun w' hw' => e0 w' hw'⟩, ?_⟩
       | ((with_reducible show CallEv _ _ 102 _ _ _ _ _); refine callE (k := 102) (fun β w' hbw => h102 w') ?_)
     all_goals first | (exfalso; omega) | exact ⟨fun β => rfl, fun w' h => h⟩
 · rw [List.drop_eq_nil_of_le hil] at hap
   rw [hap]
   show vc _ _ _ _
   rw [show (apB days (lst O i) [] && ((R.all fun r => rgB (-60) 60 r) && (inB O.length 1 3 && (rgB 1 10 (s1, s2) && (inB pay 0 1000000 && (inB lot 0 100000 && (inB rent 0 1000000 && (decide (R.length ≤ 3) && (inB cold 0 60 && inB cut 0 1000))))))))) = ((R.all fun r => rgB (-60) 60 r) && (inB O.length 1 3 && (rgB 1 10 (s1, s2) && (inB pay 0 1000000 && (inB lot 0 100000 && (inB rent 0 1000000 && (decide (R.length ≤ 3) && (inB cold 0 60 && inB cut 0 1000)))))))) from Bool.true_and _]
   repeat'
    conv => whnf
    first
     | refine zA ?_ | refine zB ?_ | refine zC ?_ | refine zD ?_ | refine zE ?_ | refine zF ?_ | refine zG ?_ | refine zH ?_ | refine zJ ?_ | refine zI ?_ | refine splT ?_ | refine splF ?_ | refine splNot ?_
     | ((first | refine splIn ?_ ?_ | refine splD ?_ ?_ | refine splE ?_ ?_ | refine splNE ?_ ?_) <;> intro hc <;> first | (exfalso; omega) | (exfalso; dsimp only at hc; omega) | skip)
   all_goals first | (exfalso; omega) | skip
   refine loopE (fun j : Nat => [(2, .ptr 0 0), (6, .v (iv j))]) (fun _ => [(0, .cells [.v (.slice oo O.length oc), .v (iv s1), .v (iv s2), .v (iv pay), .v (iv lot), .v (iv rent), .v (.slice ro R.length rc), .v (iv cold), .v (iv cut)] 69)])
    (fun j => j ≤ R.length ∧ (R.take j).all (fun r => rgB (-60) 60 r) = true) (fun j => R.length - j) 0 ⟨Nat.zero_le _, rfl⟩ ⟨rfl, rfl, trivial⟩ ⟨rfl, trivial⟩ (fun _ => ⟨rfl, rfl⟩) ?_
   intro j ⟨hj, hall⟩
   rcases Nat.lt_or_ge j R.length with hjl | hjl
   · obtain ⟨⟨r1, r2⟩, hr⟩ : ∃ r, R[j]? = some r := ⟨_, List.getElem?_eq_getElem hjl⟩
     obtain ⟨_, ad, rfl, _⟩ := hR.ptr (by omega)
     have e0 := fun (w' : World) hw' => rd_ati (hR.below (w' := w') hw') hr
     have h102 := fun w' : World => ends_ok r1 r2 (-60) 60 w'
     have hat := all_take (p := fun r => rgB (-60) 60 r) hr
     rw [hall, Bool.true_and] at hat
     obtain ⟨v, hv⟩ : ∃ v, rgB (-60) 60 (r1, r2) = v := ⟨_, rfl⟩
     have hno := all_no (p := fun r => rgB (-60) 60 r) hr
     rw [hv] at h102 hat hno
     cases v with
     | true =>
      repeat'
       conv => whnf
       first
        | refine zA ?_ | refine zB ?_ | refine zC ?_ | refine zD ?_ | refine zE ?_ | refine zF ?_ | refine zG ?_ | refine zH ?_ | refine zJ ?_ | refine zI ?_ | refine splT ?_ | refine splF ?_ | refine splNot ?_
        | ((first | refine splIn ?_ ?_ | refine splD ?_ ?_ | refine splE ?_ ?_ | refine splNE ?_ ?_) <;> intro hc <;> first | (exfalso; omega) | (exfalso; dsimp only at hc; omega) | skip)
        | refine Exists.intro (α := List Value) [iv r1, iv r2] ⟨⟨rfl, fun w' hw' => e0 w' hw'⟩, ?_⟩
        | ((with_reducible show CallEv _ _ 102 _ _ _ _ _); refine callE (k := 102) (fun β w' hbw => h102 w') ?_)
      all_goals first | (exfalso; omega) | exact ⟨j + 1, ⟨by omega, hat⟩, by omega, Ent.weak rfl ⟨rfl, rfl, trivial⟩ ⟨rfl, trivial⟩ fun _ h => h⟩
     | false =>
      rw [hno rfl, Bool.false_and]
      repeat'
       conv => whnf
       first
        | refine zA ?_ | refine zB ?_ | refine zC ?_ | refine zD ?_ | refine zE ?_ | refine zF ?_ | refine zG ?_ | refine zH ?_ | refine zJ ?_ | refine zI ?_ | refine splT ?_ | refine splF ?_ | refine splNot ?_
        | ((first | refine splIn ?_ ?_ | refine splD ?_ ?_ | refine splE ?_ ?_ | refine splNE ?_ ?_) <;> intro hc <;> first | (exfalso; omega) | (exfalso; dsimp only at hc; omega) | skip)
        | refine Exists.intro (α := List Value) [iv r1, iv r2] ⟨⟨rfl, fun w' hw' => e0 w' hw'⟩, ?_⟩
        | ((with_reducible show CallEv _ _ 102 _ _ _ _ _); refine callE (k := 102) (fun β w' hbw => h102 w') ?_)
      all_goals first | (exfalso; omega) | exact ⟨fun β => rfl, fun w' h => h⟩
   · rw [List.take_of_length_le hjl] at hall
     rw [hall, Bool.true_and]
     have hI := fun n lo hi (w' : World) => In_ok n lo hi w'
     have hE := fun (w' : World) => ends_ok s1 s2 1 10 w'
     clear hall hap
     generalize inB = f at *
     generalize rgB 1 10 (s1, s2) = g at *
     repeat'
      conv => whnf
      first
       | refine zA ?_ | refine zB ?_ | refine zC ?_ | refine zD ?_ | refine zE ?_ | refine zF ?_ | refine zG ?_ | refine zH ?_ | refine zJ ?_ | refine zI ?_ | refine splT ?_ | refine splF ?_ | refine splNot ?_
       | ((first | refine splIn ?_ ?_ | refine splD ?_ ?_ | refine splE ?_ ?_ | refine splNE ?_ ?_) <;> intro hc <;> first | (exfalso; omega) | (exfalso; dsimp only at hc; omega) | skip)
       | ((with_reducible show CallEv _ _ 37 _ _ _ _ _); refine callE (k := 37) (fun β w' hbw => hI _ _ _ w') ?_)
       | ((with_reducible show CallEv _ _ 102 _ _ _ _ _); refine callE (k := 102) (fun β w' hbw => hE w') ?_)
       | refine And.intro (a := (_ : Bool) = true → _) (fun hc => ?_) (fun hc => ?_)
     all_goals first | (exfalso; omega) | exact ⟨fun β => congrArg Value.bool (by first | (simp [*]; done) | (simp [*]; rfl) | (simp [*]; intros; first | assumption | omega) | simp_all), fun w' h => h⟩
end Go.Proofs.Ythfabodamhdhaaa
