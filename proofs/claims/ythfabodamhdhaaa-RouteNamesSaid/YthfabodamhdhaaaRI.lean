/- A town that is right, a town that has nothing: what these functions return. -/
import Derived.Test.YthfabodamhdhaaaRH
namespace Go.Proofs.Ythfabodamhdhaaa
open Go Tx Go.RowKit
set_option linter.unusedSimpArgs false
set_option linter.unusedVariables false
def lsR (O : List (Int × Int)) : Nat → Int
 | 0 => -1
 | k + 1 => ((O[k]?).getD (0, 0)).2
theorem lsR_succ {O : List (Int × Int)} {k : Nat} {a b : Int} (h : O[k]? = some (a, b)) : lsR O (k + 1) = b := by simp [lsR, h]
theorem apB_drop {days : Int} {O : List (Int × Int)} {k : Nat} {a b : Int} (h : O[k]? = some (a, b)) : apB days (lsR O k) (O.drop k) = (rgB (lsR O k + 1) (days - 1) (a, b) && apB days (lsR O (k + 1)) (O.drop (k + 1))) := by
 obtain ⟨hk, e⟩ := List.getElem?_eq_some_iff.1 h
 rw [List.drop_eq_getElem_cons hk, e, lsR_succ h]
 rfl
set_option maxHeartbeats 2000000 in
set_option maxRecDepth 100000 in
theorem town_ok (t : Tn) (days : Int) (w : World) (h : TnIn t w) (hd : 1 ≤ days ∧ days ≤ 60) : Calls Try.prog 94 #[.agg t.cs.toArray, iv days] w fun e w' => e = .returned (.bool (twB days t.d)) ∧ Below w.heap.size w w' := by
 obtain ⟨oo, oc, ro, rc, O, s1, s2, pay, lot, rent, R, cold, cut⟩ := t
 obtain ⟨hO, hR, hol, hrl⟩ := h
 dsimp only at hO hR hol hrl ⊢
 refine calls_val env mixed Try.func94 has94 Try.ntmps94 [.agg #[.slice oo O.length oc, iv s1, iv s2, iv pay, iv lot, iv rent, .slice ro R.length rc, iv cold, iv cut], iv days] (by simp) ?_
 have hall := fun w' hb => all139_ok R ro rc w' (hR.below hb) hrl
 have h137 := fun w' => in_ok s1 s2 1 10 w'
 obtain ⟨vr, hvr⟩ : ∃ v, rgB 1 10 (s1, s2) = v := ⟨_, rfl⟩
 obtain ⟨va, hva⟩ : ∃ v, R.all (rgB (-60) 60) = v := ⟨_, rfl⟩
 rw [hvr] at h137
 rw [hva] at hall
 have hT : twB days ⟨O, s1, s2, pay, lot, rent, R, cold, cut⟩ = (inB O.length 1 3 && (apB days (-1) O && (vr && (inB pay 0 1000000 && (inB lot 0 100000 && (inB rent 0 1000000 &&
  (decide (R.length ≤ 3) && (va && (inB cold 0 60 && inB cut 0 1000))))))))) := by rw [← hvr, ← hva]; rfl
 rw [hT]
 clear hT
 obtain ⟨vo, hvo⟩ : ∃ v, inB (O.length : Int) 1 3 = v := ⟨_, rfl⟩
 have h70o := fun w' => within_ok O.length 1 3 w'
 rw [hvo] at h70o ⊢
 cases vo with
 | false =>
  repeat'
   conv => whnf
   first
    | refine zA ?_ | refine zB ?_ | refine zC ?_ | refine zD ?_ | refine zE ?_ | refine zF ?_ | refine zG ?_ | refine zH ?_ | refine zJ ?_ | refine zI ?_ | refine splT ?_ | refine splF ?_ | refine splNot ?_
    | ((first | refine splIn ?_ ?_ | refine splD ?_ ?_ | refine splE ?_ ?_ | refine splNE ?_ ?_) <;> intro hc <;> first | (exfalso; omega) | (exfalso; dsimp only at hc; omega) | skip)
    | ((with_reducible show CallEv _ _ 70 _ _ _ _ _); refine callE (k := 70) (fun β w' hbw => h70o _) ?_)
  all_goals exact ⟨fun β => rfl, fun w' h => h⟩
 | true =>
  generalize hW : Value.bool _ = W
  have hW' : W = Value.bool (apB days (lsR O 0) (O.drop 0) && (vr && (inB pay 0 1000000 && (inB lot 0 100000 && (inB rent 0 1000000 && (decide (R.length ≤ 3) && (va && (inB cold 0 60 && inB cut 0 1000)))))))) := by rw [← hW]; rfl
  clear hW
  repeat'
   conv => whnf
   first
    | refine zA ?_ | refine zB ?_ | refine zC ?_ | refine zD ?_ | refine zE ?_ | refine zF ?_ | refine zG ?_ | refine zH ?_ | refine zJ ?_ | refine zI ?_ | refine splT ?_ | refine splF ?_ | refine splNot ?_
    | ((first | refine splIn ?_ ?_ | refine splD ?_ ?_ | refine splE ?_ ?_ | refine splNE ?_ ?_) <;> intro hc <;> first | (exfalso; omega) | (exfalso; dsimp only at hc; omega) | skip)
    | ((with_reducible show CallEv _ _ 70 _ _ _ _ _); refine callE (k := 70) (fun β w' hbw => h70o _) ?_)
    | ((with_reducible show CallEv _ _ 138 _ _ _ _ _); refine callI env mixed 1000 [2, 12] Try.func138 has138 Try.ntmps138 (Nat.le_of_ble_eq_true rfl) rfl rfl rfl ?_)
    | ((with_reducible show CallEv _ _ 106 _ _ _ _ _); refine callI env mixed 2000 [] Try.func106 has106 Try.ntmps106 (Nat.le_of_ble_eq_true rfl) rfl rfl rfl ?_)
    | ((with_reducible show CallEv _ _ 143 _ _ _ _ _); refine callI env mixed 3000 [] Try.func143 has143 Try.ntmps143 (Nat.le_of_ble_eq_true rfl) rfl rfl rfl ?_)
  refine loopE (fun k : Nat => [(0, .v (.slice oo O.length oc)), (1, .fn (.func 164) [.ptr 3 0]), (7, .v (iv O.length)), (8, .v (iv k))]) (fun k => [(3, .cells [.fn (.func 136) [.ptr 2 0, .ptr 1 0]] 176), (2, .cells [.v (iv (lsR O k))] 3), (1, .cells [.v (iv days)] 3), (0, .cells [.v (.slice oo O.length oc), .v (iv s1), .v (iv s2), .v (iv pay), .v (iv lot), .v (iv rent), .v (.slice ro R.length rc), .v (iv cold), .v (iv cut)] 57)])
   (fun k => (k ≤ O.length ∧ -1 ≤ lsR O k ∧ lsR O k ≤ 60) ∧ W = Value.bool (apB days (lsR O k) (O.drop k) && (vr && (inB pay 0 1000000 && (inB lot 0 100000 && (inB rent 0 1000000 && (decide (R.length ≤ 3) && (va && (inB cold 0 60 && inB cut 0 1000))))))))) (fun k => O.length - k) 0 ⟨⟨Nat.zero_le _, by show (-1 : Int) ≤ -1; decide, by show (-1 : Int) ≤ 60; decide⟩, hW'⟩ ⟨rfl, rfl, rfl, rfl, trivial⟩ ⟨rfl, rfl, rfl, rfl, trivial⟩ (fun _ => ⟨rfl, rfl⟩) ?_
  clear hW'
  intro k ⟨⟨hk, hk1, hk2⟩, hW⟩
  rcases Nat.lt_or_ge k O.length with hkl | hkl
  · obtain ⟨⟨r1, r2⟩, hx⟩ : ∃ b, O[k]? = some b := ⟨_, List.getElem?_eq_getElem hkl⟩
    obtain ⟨_, ad, rfl, _⟩ := hO.ptr (by omega)
    have e0 := fun (w' : World) hw' => rd_ati (hO.below (w' := w') hw') hx
    rw [apB_drop hx] at hW
    have hls := lsR_succ hx
    have hv := fun w' => in_ok r1 r2 (lsR O k + 1) (days - 1) w'
    cases hg : rgB (lsR O k + 1) (days - 1) (r1, r2) with
    | true =>
     rw [hg] at hv hW
     rw [Bool.true_and] at hW
     have hgb := hg
     simp only [rgB, Bool.and_eq_true, decide_eq_true_eq] at hgb
     generalize hlk : lsR O k = lk at *
     repeat'
      conv => whnf
      first
       | refine zA ?_ | refine zB ?_ | refine zC ?_ | refine zD ?_ | refine zE ?_ | refine zF ?_ | refine zG ?_ | refine zH ?_ | refine zJ ?_ | refine zI ?_ | refine splT ?_ | refine splF ?_ | refine splNot ?_
       | ((first | refine splIn ?_ ?_ | refine splD ?_ ?_ | refine splE ?_ ?_ | refine splNE ?_ ?_) <;> intro hc <;> first | (exfalso; omega) | (exfalso; dsimp only at hc; omega) | skip)
       | refine Exists.intro (α := List Value) [iv r1, iv r2] ⟨⟨rfl, fun w' hw' => e0 w' hw'⟩, ?_⟩
       | ((with_reducible show CallEv _ _ 164 _ _ _ _ _); refine callI env mixed 4000 [0,1,5,7,8] Try.func164 has164 Try.ntmps164 (Nat.le_of_ble_eq_true rfl) rfl rfl rfl ?_)
       | ((with_reducible show CallEv _ _ 136 _ _ _ _ _); refine callI env mixed 5000 [] Try.func136 has136 Try.ntmps136 (Nat.le_of_ble_eq_true rfl) rfl rfl rfl ?_)
       | ((with_reducible show CallEv _ _ 137 _ _ _ _ _); refine callE (k := 137) (fun β w' hbw => hv _) ?_)
     all_goals first | (exfalso; omega) | exact ⟨k + 1, ⟨⟨by omega, by omega, by omega⟩, hW⟩, by omega, Ent.weak rfl ⟨rfl, rfl, rfl, rfl, trivial⟩ ⟨rfl, by rw [hls]; rfl, rfl, rfl, trivial⟩ fun _ h => h⟩
    | false =>
     rw [hg] at hv hW
     rw [Bool.false_and, Bool.false_and] at hW
     subst hW
     generalize hlk : lsR O k = lk at *
     repeat'
      conv => whnf
      first
       | refine zA ?_ | refine zB ?_ | refine zC ?_ | refine zD ?_ | refine zE ?_ | refine zF ?_ | refine zG ?_ | refine zH ?_ | refine zJ ?_ | refine zI ?_ | refine splT ?_ | refine splF ?_ | refine splNot ?_
       | ((first | refine splIn ?_ ?_ | refine splD ?_ ?_ | refine splE ?_ ?_ | refine splNE ?_ ?_) <;> intro hc <;> first | (exfalso; omega) | (exfalso; dsimp only at hc; omega) | skip)
       | refine Exists.intro (α := List Value) [iv r1, iv r2] ⟨⟨rfl, fun w' hw' => e0 w' hw'⟩, ?_⟩
       | ((with_reducible show CallEv _ _ 164 _ _ _ _ _); refine callI env mixed 4000 [0,1,5,7,8] Try.func164 has164 Try.ntmps164 (Nat.le_of_ble_eq_true rfl) rfl rfl rfl ?_)
       | ((with_reducible show CallEv _ _ 136 _ _ _ _ _); refine callI env mixed 5000 [] Try.func136 has136 Try.ntmps136 (Nat.le_of_ble_eq_true rfl) rfl rfl rfl ?_)
       | ((with_reducible show CallEv _ _ 137 _ _ _ _ _); refine callE (k := 137) (fun β w' hbw => hv _) ?_)
     all_goals first | (exfalso; omega) | exact ⟨fun β => rfl, fun w' h => h⟩
  · rw [List.drop_of_length_le hkl, show apB days (lsR O k) [] = true from rfl, Bool.true_and] at hW
    subst hW
    cases vr with
    | false =>
     repeat'
      conv => whnf
      first
       | refine zA ?_ | refine zB ?_ | refine zC ?_ | refine zD ?_ | refine zE ?_ | refine zF ?_ | refine zG ?_ | refine zH ?_ | refine zJ ?_ | refine zI ?_ | refine splT ?_ | refine splF ?_ | refine splNot ?_
       | ((first | refine splIn ?_ ?_ | refine splD ?_ ?_ | refine splE ?_ ?_ | refine splNE ?_ ?_) <;> intro hc <;> first | (exfalso; omega) | (exfalso; dsimp only at hc; omega) | skip)
       | ((with_reducible show CallEv _ _ 137 _ _ _ _ _); refine callE (k := 137) (fun β w' hbw => h137 _) ?_)
     all_goals first | (exfalso; omega) | exact ⟨fun β => congrArg Value.bool (by first | (simp [inB, *]; done) | (simp [inB, *]; omega)), fun w' h => h⟩
    | true =>
     cases va with
     | false =>
      repeat'
       conv => whnf
       first
        | refine zA ?_ | refine zB ?_ | refine zC ?_ | refine zD ?_ | refine zE ?_ | refine zF ?_ | refine zG ?_ | refine zH ?_ | refine zJ ?_ | refine zI ?_ | refine splT ?_ | refine splF ?_ | refine splNot ?_
        | ((first | refine splIn ?_ ?_ | refine splD ?_ ?_ | refine splE ?_ ?_ | refine splNE ?_ ?_) <;> intro hc <;> first | (exfalso; omega) | (exfalso; dsimp only at hc; omega) | skip)
        | ((with_reducible show CallEv _ _ 137 _ _ _ _ _); refine callE (k := 137) (fun β w' hbw => h137 _) ?_)
        | ((with_reducible show CallEv _ _ 138 _ _ _ _ _); refine callE (k := 138) (fun β w' hbw => hall _ hbw) ?_)
        | ((with_reducible show CallEv _ _ 70 _ _ _ _ _); refine callE (k := 70) (fun β w' hbw => within_ok _ _ _ _) ?_)
      all_goals first | (exfalso; omega) | exact ⟨fun β => congrArg Value.bool (by first | (simp [inB, *]; done) | (simp [inB, *]; omega)), fun w' h => h⟩
     | true =>
      repeat'
       conv => whnf
       first
        | refine zA ?_ | refine zB ?_ | refine zC ?_ | refine zD ?_ | refine zE ?_ | refine zF ?_ | refine zG ?_ | refine zH ?_ | refine zJ ?_ | refine zI ?_ | refine splT ?_ | refine splF ?_ | refine splNot ?_
        | ((first | refine splIn ?_ ?_ | refine splD ?_ ?_ | refine splE ?_ ?_ | refine splNE ?_ ?_) <;> intro hc <;> first | (exfalso; omega) | (exfalso; dsimp only at hc; omega) | skip)
        | ((with_reducible show CallEv _ _ 137 _ _ _ _ _); refine callE (k := 137) (fun β w' hbw => h137 _) ?_)
        | ((with_reducible show CallEv _ _ 138 _ _ _ _ _); refine callE (k := 138) (fun β w' hbw => hall _ hbw) ?_)
        | ((with_reducible show CallEv _ _ 70 _ _ _ _ _); refine callE (k := 70) (fun β w' hbw => within_ok _ _ _ _) ?_)
      all_goals first | (exfalso; omega) | exact ⟨fun β => congrArg Value.bool (by first | (simp [inB, *]; done) | (simp [inB, *]; omega)), fun w' h => h⟩
theorem quB_eq (x : Tw) : quB x = (decide (x.O.length + x.R.length = 0) && (decide (x.s1 = 0) && (decide (x.s2 = 0) && [x.pay, x.lot, x.rent, x.cold, x.cut].all fun n => decide (n = 0)))) := by
 simp [quB, Bool.and_assoc]
set_option maxHeartbeats 2000000 in
set_option maxRecDepth 100000 in
theorem quarters_ok (t : Tn) (w : World) (h : TnIn t w) : Calls Try.prog 91 #[.agg t.cs.toArray] w fun e w' => e = .returned (.bool (quB t.d)) ∧ Below w.heap.size w w' := by
 obtain ⟨oo, oc, ro, rc, O, s1, s2, pay, lot, rent, R, cold, cut⟩ := t
 obtain ⟨hO, hR, hol, hrl⟩ := h
 dsimp only at hO hR hol hrl ⊢
 refine calls_val env mixed Try.func91 has91 Try.ntmps91 [.agg #[.slice oo O.length oc, iv s1, iv s2, iv pay, iv lot, iv rent, .slice ro R.length rc, iv cold, iv cut]] (by simp) ?_
 rw [quB_eq]
 dsimp only
 obtain ⟨va, hva⟩ : ∃ v, [pay, lot, rent, cold, cut].all (fun n : Int => decide (n = 0)) = v := ⟨_, rfl⟩
 rw [hva]
 have h79 := fun w' b c (h : w'.heap[b]? = some (.cells [iv pay, iv lot, iv rent, iv cold, iv cut].toArray 3 (0, 0))) => all133_ok [pay, lot, rent, cold, cut] (some ⟨b, 0, none⟩) c w' (Rd.of_cells (f := iF) (bs := [pay, lot, rent, cold, cut]) (fun _ => rfl) rfl h) (by show (5 : Nat) ≤ 1000000; decide)
 rw [hva] at h79
 obtain ⟨q, hq⟩ : ∃ q, (s1 == 0 && s2 == 0) = q := ⟨_, rfl⟩
 have hqq : (decide (s1 = 0) && (decide (s2 = 0) && va)) = (q && va) := by rw [← hq, Bool.and_assoc]; simp [beq_iff_eq, BEq.beq]
 rw [hqq]
 cases q <;> cases va
 all_goals skip
 repeat'
  conv => whnf
  first
   | refine zA ?_ | refine zB ?_ | refine zC ?_ | refine zD ?_ | refine zE ?_ | refine zF ?_ | refine zG ?_ | refine zH ?_ | refine zJ ?_ | refine zI ?_ | refine splT ?_ | refine splF ?_ | refine splNot ?_
   | ((first | refine splIn ?_ ?_ | refine splD ?_ ?_ | refine splE ?_ ?_ | refine splNE ?_ ?_) <;> intro hc <;> first | (exfalso; omega) | (exfalso; dsimp only at hc; omega) | skip)
   | refine eqlE55 hq ?_
   | ((with_reducible show CallEv _ _ 79 _ _ _ _ _); refine callM [1] (fun β w' hbk hbw => h79 w' (β 1) 5 (hbk 1 (by simp) _ rfl)) ?_)
 all_goals first | (exfalso; omega) | exact ⟨fun β => congrArg Value.bool (by first | (rw [decide_eq_true (by omega)]; rfl) | (rw [decide_eq_false (by omega)]; rfl) | (generalize decide _ = z; cases z <;> rfl)), fun w' h => h⟩
end Go.Proofs.Ythfabodamhdhaaa
