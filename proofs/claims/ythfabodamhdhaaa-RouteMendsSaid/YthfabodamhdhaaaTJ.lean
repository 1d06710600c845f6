/- The faults of a season and its profit, by the reference: what Near, Alone, fault, Faults, Gain, Profit return. -/
import Derived.Test.YthfabodamhdhaaaTL
namespace Go.Proofs.Ythfabodamhdhaaa
open Go Tx Go.RowKit
set_option linter.unusedSimpArgs false
set_option linter.unusedVariables false
def neB (S : List (Int × Int × Int)) : Bool := S.all fun s => inB s.2.1 (-1000000000) 1000000000 && inB s.2.2 (-1000000000) 1000000000
theorem neB_n {S : List (Int × Int × Int)} (h : neB S = true) : ∀ s ∈ S, (-1000000000 ≤ s.2.1 ∧ s.2.1 ≤ 1000000000) ∧ -1000000000 ≤ s.2.2 ∧ s.2.2 ≤ 1000000000 := fun s hs => by
 have := List.all_eq_true.1 h s hs
 simpa only [inB, Bool.and_eq_true, decide_eq_true_eq] using this
set_option maxHeartbeats 2000000 in
set_option maxRecDepth 100000 in
theorem near_ok (S : List (Int × Int × Int)) (o : Option Addr) (c : Nat) (w : World) (hr : Rd 3 spF (.slice o S.length c) S w) (hl : S.length ≤ 1000000) :
 Calls Try.prog 24 #[.slice o S.length c] w fun e w' => e = .returned (.bool (neB S)) ∧ Below w.heap.size w w' := by
 refine calls_val env mixed Try.func24 has24 Try.ntmps24 [.slice o S.length c] (by simp) ?_
 repeat'
  conv => whnf
  first
   | refine zA ?_ | refine zB ?_ | refine zC ?_ | refine zD ?_ | refine zE ?_ | refine zF ?_ | refine zG ?_ | refine zH ?_ | refine zJ ?_ | refine zI ?_ | refine splT ?_ | refine splF ?_ | refine splNot ?_
   | ((first | refine splIn ?_ ?_ | refine splD ?_ ?_ | refine splE ?_ ?_ | refine splNE ?_ ?_) <;> intro hc <;> first | (exfalso; omega) | (exfalso; dsimp only at hc; omega) | skip)
 refine loopE (fun k : Nat => [(0, .v (.slice o S.length c)), (3, .v (iv k))]) (fun _ => []) (fun k => k ≤ S.length ∧ neB (S.take k) = true) (fun k => S.length - k) 0 ⟨Nat.zero_le _, rfl⟩ ⟨rfl, rfl, trivial⟩ trivial (fun _ => ⟨rfl, rfl⟩) ?_
 intro k ⟨hk, hall⟩
 rcases Nat.lt_or_ge k S.length with hkl | hkl
 · obtain ⟨⟨a, f, l⟩, hs⟩ : ∃ s, S[k]? = some s := ⟨_, List.getElem?_eq_getElem hkl⟩
   obtain ⟨_, ad, rfl, _⟩ := hr.ptr (by omega)
   have e1 := fun (w' : World) hw' => rd_fldz (hr.below (w' := w') hw') hs _ rfl 1 (iv f) rfl
   have e2 := fun (w' : World) hw' => rd_fldz (hr.below (w' := w') hw') hs _ rfl 2 (iv l) rfl
   have hat := all_take (p := fun s : Int × Int × Int => inB s.2.1 (-1000000000) 1000000000 && inB s.2.2 (-1000000000) 1000000000) hs
   have hno := all_no (p := fun s : Int × Int × Int => inB s.2.1 (-1000000000) 1000000000 && inB s.2.2 (-1000000000) 1000000000) hs
   unfold neB at hall ⊢
   rw [hall, Bool.true_and] at hat
   by_cases hok : (-1000000000 ≤ f ∧ f ≤ 1000000000) ∧ (-1000000000 ≤ l ∧ l ≤ 1000000000)
   · rw [show (inB f (-1000000000) 1000000000 && inB l (-1000000000) 1000000000) = true from by simp only [inB, Bool.and_eq_true, decide_eq_true_eq]; exact hok] at hat
     repeat'
      conv => whnf
      first
       | refine zA ?_ | refine zB ?_ | refine zC ?_ | refine zD ?_ | refine zE ?_ | refine zF ?_ | refine zG ?_ | refine zH ?_ | refine zJ ?_ | refine zI ?_ | refine splT ?_ | refine splF ?_ | refine splNot ?_
       | ((first | refine splIn ?_ ?_ | refine splD ?_ ?_ | refine splE ?_ ?_ | refine splNE ?_ ?_) <;> intro hc <;> first | (exfalso; omega) | (exfalso; dsimp only at hc; omega) | skip)
       | refine Exists.intro (α := List Value) [iv f] ⟨⟨rfl, fun w' hw' => e1 w' hw'⟩, ?_⟩
       | refine Exists.intro (α := List Value) [iv l] ⟨⟨rfl, fun w' hw' => e2 w' hw'⟩, ?_⟩
       | ((with_reducible show CallEv _ _ 37 _ _ _ _ _); refine callE (k := 37) (fun β w' hbw => In_ok _ _ _ w') ?_)
     all_goals first | (exfalso; omega) | exact ⟨k + 1, ⟨by omega, hat⟩, by omega, Ent.weak rfl ⟨rfl, rfl, trivial⟩ trivial fun _ h => h⟩
   · rw [hno (by (cases hb : (inB f (-1000000000) 1000000000 && inB l (-1000000000) 1000000000) with | false => rfl | true => (simp only [inB, Bool.and_eq_true, decide_eq_true_eq] at hb; exact absurd hb hok)))]
     repeat'
      conv => whnf
      first
       | refine zA ?_ | refine zB ?_ | refine zC ?_ | refine zD ?_ | refine zE ?_ | refine zF ?_ | refine zG ?_ | refine zH ?_ | refine zJ ?_ | refine zI ?_ | refine splT ?_ | refine splF ?_ | refine splNot ?_
       | ((first | refine splIn ?_ ?_ | refine splD ?_ ?_ | refine splE ?_ ?_ | refine splNE ?_ ?_) <;> intro hc <;> first | (exfalso; omega) | (exfalso; dsimp only at hc; omega) | skip)
       | refine Exists.intro (α := List Value) [iv f] ⟨⟨rfl, fun w' hw' => e1 w' hw'⟩, ?_⟩
       | refine Exists.intro (α := List Value) [iv l] ⟨⟨rfl, fun w' hw' => e2 w' hw'⟩, ?_⟩
       | ((with_reducible show CallEv _ _ 37 _ _ _ _ _); refine callE (k := 37) (fun β w' hbw => In_ok _ _ _ w') ?_)
     all_goals first | (exfalso; omega) | exact ⟨fun β => rfl, fun w' h => h⟩
 · rw [List.take_of_length_le hkl] at hall
   rw [hall]
   repeat'
    conv => whnf
    first
     | refine zA ?_ | refine zB ?_ | refine zC ?_ | refine zD ?_ | refine zE ?_ | refine zF ?_ | refine zG ?_ | refine zH ?_ | refine zJ ?_ | refine zI ?_ | refine splT ?_ | refine splF ?_ | refine splNot ?_
     | ((first | refine splIn ?_ ?_ | refine splD ?_ ?_ | refine splE ?_ ?_ | refine splNE ?_ ?_) <;> intro hc <;> first | (exfalso; omega) | (exfalso; dsimp only at hc; omega) | skip)
   all_goals first | (exfalso; omega) | exact ⟨fun β => rfl, fun w' h => h⟩
def alO (x : To) (k f l : Int) : Nat := fstT [ts1 x k, ts2 x k, ts3 x k f l, ts4 x k f l] 0
theorem alO_le (x : To) (k f l : Int) : alO x k f l ≤ 4 := by
 simp only [alO, fstT]
 repeat' split
 all_goals omega
set_option maxHeartbeats 4000000 in
set_option maxRecDepth 100000 in
theorem ralone_ok (x : Tr) (k f l : Int) (w : World) (h : TrIn x w) (hn : ToN x.d) (hb : (-1000000000 ≤ f ∧ f ≤ 1000000000) ∧ -1000000000 ≤ l ∧ l ≤ 1000000000) :
 Calls Try.prog 103 #[x.v, .agg #[iv k, iv f, iv l]] w fun e w' => e = .returned (.int .u8 (alO x.d k f l)) ∧ Below w.heap.size w w' := by
 have hlen : x.d.T.length = x.T.length := List.length_map ..
 have htl := h.tl
 have hnT := hn.n
 rw [hlen] at hnT
 by_cases h1 : 1 ≤ k ∧ k ≤ (x.T.length : Int) - 1
 · have t1 : ts1 x.d k = false := by simp only [ts1, hlen, Bool.not_eq_false', inB, Bool.and_eq_true, decide_eq_true_eq]; exact h1
   obtain ⟨kn, rfl⟩ : ∃ kn : Nat, k = kn := ⟨k.toNat, by omega⟩
   obtain ⟨t, ht⟩ : ∃ t, x.T[kn]? = some t := ⟨_, List.getElem?_eq_getElem (by omega)⟩
   have htw : twO x.d (kn : Int) = t.d := twO_eq (k := ((kn : Nat) : Int)) ht
   have hTN := twN_of hn (a := kn) (by omega) (by rw [hlen]; omega)
   have hti := h.ti t (List.mem_of_getElem? ht)
   rw [htw] at hTN
   obtain ⟨hO, -, hol, -⟩ := hti
   have hT := h.t
   have t2 : ts2 x.d kn = decide (t.d.lot < x.size) := by unfold ts2; rw [htw]
   have t3 : ts3 x.d kn f l = !(fitB t.d.s1 t.d.s2 f l) := by unfold ts3; rw [htw]
   have t4 : ts4 x.d kn f l = !(licB t.d.O f l) := by unfold ts4; rw [htw]
   have hV : alO x.d kn f l = fstT [false, decide (t.d.lot < x.size), !(fitB t.d.s1 t.d.s2 f l), !(licB t.d.O f l)] 0 := by unfold alO; rw [t1, t2, t3, t4]
   rw [hV]
   clear hV t1 t2 t3 t4 htw h hlen
   obtain ⟨days, shift, size, to, tc, T, lo, lc, L⟩ := x
   obtain ⟨oo, oc, ro, rc, O, s1, s2, pay, lot, rent, R, cold, cut⟩ := t
   dsimp only at hT ht htl hO hol hnT h1
   have hs := hTN.s
   dsimp only at hs ⊢
   obtain ⟨_, ta, rfl, _⟩ := hT.ptr (by omega)
   have e9 := fun (w' : World) hw' => rd_ati (hT.below (w' := w') hw') ht
   refine calls_val env mixed Try.func103 has103 Try.ntmps103 [.agg #[iv days, iv shift, iv size, .slice (some ta) T.length tc, .slice lo L.length lc], .agg #[iv kn, iv f, iv l]] (by simp) ?_
   by_cases h2 : lot < size
   · rw [show fstT [false, decide (lot < size), !(fitB s1 s2 f l), !(licB O f l)] 0 = 2 from by simp [fstT, h2]]
     repeat'
      conv => whnf
      first
       | refine zA ?_ | refine zB ?_ | refine zC ?_ | refine zD ?_ | refine zE ?_ | refine zF ?_ | refine zG ?_ | refine zH ?_ | refine zJ ?_ | refine zI ?_ | refine splT ?_ | refine splF ?_ | refine splNot ?_
       | ((first | refine splIn ?_ ?_ | refine splD ?_ ?_ | refine splE ?_ ?_ | refine splNE ?_ ?_) <;> intro hc <;> first | (exfalso; omega) | (exfalso; dsimp only at hc; omega) | skip)
       | ((with_reducible show CallEv _ _ 37 _ _ _ _ _); refine callE (k := 37) (fun β w' hbw => In_ok _ _ _ w') ?_)
       | refine Exists.intro (α := List Value) [.slice oo O.length oc, iv s1, iv s2, iv pay, iv lot, iv rent, .slice ro R.length rc, iv cold, iv cut] ⟨⟨rfl, fun w' hw' => e9 w' hw'⟩, ?_⟩
     all_goals first | (exfalso; omega) | exact ⟨fun β => rfl, fun w' h => h⟩
   · by_cases h3 : s1 ≤ l - f + 1 ∧ l - f + 1 ≤ s2
     · have hfit : fitB s1 s2 f l = true := by simp only [fitB, inB, Bool.and_eq_true, decide_eq_true_eq]; omega
       rw [hfit]
       repeat'
        conv => whnf
        first
         | refine zA ?_ | refine zB ?_ | refine zC ?_ | refine zD ?_ | refine zE ?_ | refine zF ?_ | refine zG ?_ | refine zH ?_ | refine zJ ?_ | refine zI ?_ | refine splT ?_ | refine splF ?_ | refine splNot ?_
         | ((first | refine splIn ?_ ?_ | refine splD ?_ ?_ | refine splE ?_ ?_ | refine splNE ?_ ?_) <;> intro hc <;> first | (exfalso; omega) | (exfalso; dsimp only at hc; omega) | skip)
         | ((with_reducible show CallEv _ _ 37 _ _ _ _ _); refine callE (k := 37) (fun β w' hbw => In_ok _ _ _ w') ?_)
         | refine Exists.intro (α := List Value) [.slice oo O.length oc, iv s1, iv s2, iv pay, iv lot, iv rent, .slice ro R.length rc, iv cold, iv cut] ⟨⟨rfl, fun w' hw' => e9 w' hw'⟩, ?_⟩
       all_goals first | (exfalso; omega) | skip
       refine loopE (fun j : Nat => [(3, .ptr 1 0), (5, .ptr 2 0), (6, .v (iv j))]) (fun _ => [(1, .cells [.v (iv kn), .v (iv f), .v (iv l)] 89), (2, .cells [.v (.slice oo O.length oc), .v (iv s1), .v (iv s2), .v (iv pay), .v (iv lot), .v (iv rent), .v (.slice ro R.length rc), .v (iv cold), .v (iv cut)] 69)])
        (fun j => j ≤ O.length ∧ licB (O.take j) f l = false) (fun j => O.length - j) 0 ⟨Nat.zero_le _, rfl⟩ ⟨rfl, rfl, rfl, trivial⟩ ⟨rfl, rfl, trivial⟩ (fun _ => ⟨rfl, rfl⟩) ?_
       intro j ⟨hj, hall⟩
       rcases Nat.lt_or_ge j O.length with hjl | hjl
       · obtain ⟨⟨r1, r2⟩, hx⟩ : ∃ b, O[j]? = some b := ⟨_, List.getElem?_eq_getElem hjl⟩
         obtain ⟨_, ad, rfl, _⟩ := hO.ptr (by omega)
         have e0 := fun (w' : World) hw' => rd_fldz (hO.below (w' := w') hw') hx _ rfl 0 (iv r1) rfl
         have e1 := fun (w' : World) hw' => rd_fldz (hO.below (w' := w') hw') hx _ rfl 1 (iv r2) rfl
         have hta := any_take (p := fun r : Int × Int => inB f r.1 r.2 && inB l r.1 r.2) hx
         have hyes := any_yes (p := fun r : Int × Int => inB f r.1 r.2 && inB l r.1 r.2) hx
         unfold licB at hall ⊢
         rw [hall, Bool.false_or] at hta
         by_cases hok : r1 ≤ f ∧ l ≤ r2
         · rw [hyes (by simp only [inB, Bool.and_eq_true, decide_eq_true_eq]; omega), show fstT [false, decide (lot < size), !true, !true] 0 = 0 from by simp [fstT, h2]]
           repeat'
            conv => whnf
            first
             | refine zA ?_ | refine zB ?_ | refine zC ?_ | refine zD ?_ | refine zE ?_ | refine zF ?_ | refine zG ?_ | refine zH ?_ | refine zJ ?_ | refine zI ?_ | refine splT ?_ | refine splF ?_ | refine splNot ?_
             | ((first | refine splIn ?_ ?_ | refine splD ?_ ?_ | refine splE ?_ ?_ | refine splNE ?_ ?_) <;> intro hc <;> first | (exfalso; omega) | (exfalso; dsimp only at hc; omega) | skip)
             | refine Exists.intro (α := List Value) [iv r1] ⟨⟨rfl, fun w' hw' => e0 w' hw'⟩, ?_⟩
             | refine Exists.intro (α := List Value) [iv r2] ⟨⟨rfl, fun w' hw' => e1 w' hw'⟩, ?_⟩
           all_goals first | (exfalso; omega) | exact ⟨fun β => rfl, fun w' h => h⟩
         · rw [show (inB f r1 r2 && inB l r1 r2) = false from by (cases hbb : (inB f r1 r2 && inB l r1 r2) with | false => rfl | true => (simp only [inB, Bool.and_eq_true, decide_eq_true_eq] at hbb; omega))] at hta
           repeat'
            conv => whnf
            first
             | refine zA ?_ | refine zB ?_ | refine zC ?_ | refine zD ?_ | refine zE ?_ | refine zF ?_ | refine zG ?_ | refine zH ?_ | refine zJ ?_ | refine zI ?_ | refine splT ?_ | refine splF ?_ | refine splNot ?_
             | ((first | refine splIn ?_ ?_ | refine splD ?_ ?_ | refine splE ?_ ?_ | refine splNE ?_ ?_) <;> intro hc <;> first | (exfalso; omega) | (exfalso; dsimp only at hc; omega) | skip)
             | refine Exists.intro (α := List Value) [iv r1] ⟨⟨rfl, fun w' hw' => e0 w' hw'⟩, ?_⟩
             | refine Exists.intro (α := List Value) [iv r2] ⟨⟨rfl, fun w' hw' => e1 w' hw'⟩, ?_⟩
           all_goals first | (exfalso; omega) | exact ⟨j + 1, ⟨by omega, hta⟩, by omega, Ent.weak rfl ⟨rfl, rfl, rfl, trivial⟩ ⟨rfl, rfl, trivial⟩ fun _ h => h⟩
       · rw [List.take_of_length_le hjl] at hall
         rw [hall, show fstT [false, decide (lot < size), !true, !false] 0 = 4 from by simp [fstT, h2]]
         repeat'
          conv => whnf
          first
           | refine zA ?_ | refine zB ?_ | refine zC ?_ | refine zD ?_ | refine zE ?_ | refine zF ?_ | refine zG ?_ | refine zH ?_ | refine zJ ?_ | refine zI ?_ | refine splT ?_ | refine splF ?_ | refine splNot ?_
           | ((first | refine splIn ?_ ?_ | refine splD ?_ ?_ | refine splE ?_ ?_ | refine splNE ?_ ?_) <;> intro hc <;> first | (exfalso; omega) | (exfalso; dsimp only at hc; omega) | skip)
         all_goals first | (exfalso; omega) | exact ⟨fun β => rfl, fun w' h => h⟩
     · have hfit : fitB s1 s2 f l = false := by
        cases hbb : fitB s1 s2 f l with
        | false => rfl
        | true => simp only [fitB, inB, Bool.and_eq_true, decide_eq_true_eq] at hbb; omega
       rw [hfit, show fstT [false, decide (lot < size), !false, !(licB O f l)] 0 = 3 from by simp [fstT, h2]]
       repeat'
        conv => whnf
        first
         | refine zA ?_ | refine zB ?_ | refine zC ?_ | refine zD ?_ | refine zE ?_ | refine zF ?_ | refine zG ?_ | refine zH ?_ | refine zJ ?_ | refine zI ?_ | refine splT ?_ | refine splF ?_ | refine splNot ?_
         | ((first | refine splIn ?_ ?_ | refine splD ?_ ?_ | refine splE ?_ ?_ | refine splNE ?_ ?_) <;> intro hc <;> first | (exfalso; omega) | (exfalso; dsimp only at hc; omega) | skip)
         | ((with_reducible show CallEv _ _ 37 _ _ _ _ _); refine callE (k := 37) (fun β w' hbw => In_ok _ _ _ w') ?_)
         | refine Exists.intro (α := List Value) [.slice oo O.length oc, iv s1, iv s2, iv pay, iv lot, iv rent, .slice ro R.length rc, iv cold, iv cut] ⟨⟨rfl, fun w' hw' => e9 w' hw'⟩, ?_⟩
       all_goals first | (exfalso; omega) | exact ⟨fun β => rfl, fun w' h => h⟩
 · have t1 : ts1 x.d k = true := by
    cases hbb : ts1 x.d k with
    | true => rfl
    | false => simp only [ts1, hlen, Bool.not_eq_false', inB, Bool.and_eq_true, decide_eq_true_eq] at hbb; exact absurd hbb h1
   rw [show alO x.d k f l = 1 from by simp [alO, fstT, t1]]
   clear h hn t1 hlen
   obtain ⟨days, shift, size, to, tc, T, lo, lc, L⟩ := x
   dsimp only at htl hnT h1
   refine calls_val env mixed Try.func103 has103 Try.ntmps103 [.agg #[iv days, iv shift, iv size, .slice to T.length tc, .slice lo L.length lc], .agg #[iv k, iv f, iv l]] (by simp) ?_
   repeat'
    conv => whnf
    first
     | refine zA ?_ | refine zB ?_ | refine zC ?_ | refine zD ?_ | refine zE ?_ | refine zF ?_ | refine zG ?_ | refine zH ?_ | refine zJ ?_ | refine zI ?_ | refine splT ?_ | refine splF ?_ | refine splNot ?_
     | ((first | refine splIn ?_ ?_ | refine splD ?_ ?_ | refine splE ?_ ?_ | refine splNE ?_ ?_) <;> intro hc <;> first | (exfalso; omega) | (exfalso; dsimp only at hc; omega) | skip)
     | ((with_reducible show CallEv _ _ 37 _ _ _ _ _); refine callE (k := 37) (fun β w' hbw => In_ok _ _ _ w') ?_)
   all_goals first | (exfalso; omega) | exact ⟨fun β => rfl, fun w' h => h⟩
theorem early_ok (a b c : Int) (w : World) (hb : (-2000000000 ≤ a ∧ a ≤ 2000000000) ∧ (-2000000000 ≤ b ∧ b ≤ 2000000000)) : Calls Try.prog 104 #[iv a, iv b, iv c] w fun e w' => e = .returned (.bool (decide (c < a + 1 + b))) ∧ Below w.heap.size w w' := by
 refine calls_val env mixed Try.func104 has104 Try.ntmps104 [iv a, iv b, iv c] (by simp) ?_
 repeat'
  conv => whnf
  first
   | refine zA ?_ | refine zB ?_ | refine zC ?_ | refine zD ?_ | refine zE ?_ | refine zF ?_ | refine zG ?_ | refine zH ?_ | refine zJ ?_ | refine zI ?_ | refine splT ?_ | refine splF ?_ | refine splNot ?_
   | ((first | refine splIn ?_ ?_ | refine splD ?_ ?_ | refine splE ?_ ?_ | refine splNE ?_ ?_) <;> intro hc <;> first | (exfalso; omega) | (exfalso; dsimp only at hc; omega) | skip)
 all_goals first | (exfalso; omega) | exact ⟨fun β => rfl, fun w' h => h⟩
set_option maxHeartbeats 4000000 in
set_option maxRecDepth 100000 in
theorem rgain_ok (x : Tr) (k f l : Nat) (w : World) (h : TrIn x w) (hn : ToN x.d) (hk1 : 1 ≤ k) (hk : k < x.T.length) (hf : f ≤ l + 1 ∧ l < f + 10 ∧ l ≤ 100) :
 Calls Try.prog 64 #[x.v, .agg #[iv k, iv f, iv l]] w fun e w' => e = .returned (iv (gnO x.d k f l)) ∧ Below w.heap.size w w' := by
 obtain ⟨t, ht⟩ : ∃ t, x.T[k]? = some t := ⟨_, List.getElem?_eq_getElem hk⟩
 have htd : x.d.T[k]? = some t.d := by simp only [Tr.d, List.getElem?_map, ht, Option.map_some]
 have htn := TwN.of (hn.t k hk1 _ htd)
 have h39 := fun d hd w' hb => rday_ok x k d t w' (h.below hb) ht htn hd
 have hgo : gnO x.d k f l = gnS t.d f ((l : Int) + 1 - f).toNat := by unfold gnO; rw [htd]
 rw [hgo]
 have h1 := h.t
 have htl := h.tl
 have hgb := htn.gn f
 have hdb := htn.day
 have hrb := htn.t
 have hpb := htn.p
 clear h hn
 obtain ⟨days, shift, size, to, tc, T, lo, lc, L⟩ := x
 dsimp only at h1 ht htl hk ⊢
 obtain ⟨_, ta, rfl, _⟩ := h1.ptr (by omega)
 have e0 := fun (w' : World) hw' => rd_fldz (h1.below (w' := w') hw') ht _ rfl 5 (iv t.d.rent) rfl
 obtain ⟨m, hm⟩ : ∃ m, ((l : Int) + 1 - f).toNat = m := ⟨_, rfl⟩
 rw [hm]
 refine calls_val env mixed Try.func64 has64 Try.ntmps64 [.agg #[iv days, iv shift, iv size, .slice (some ta) T.length tc, .slice lo L.length lc], .agg #[iv k, iv f, iv l]] (by simp) ?_
 repeat'
  conv => whnf
  first
   | refine zA ?_ | refine zB ?_ | refine zC ?_ | refine zD ?_ | refine zE ?_ | refine zF ?_ | refine zG ?_ | refine zH ?_ | refine zJ ?_ | refine zI ?_ | refine splT ?_ | refine splF ?_ | refine splNot ?_
   | ((first | refine splIn ?_ ?_ | refine splD ?_ ?_ | refine splE ?_ ?_ | refine splNE ?_ ?_) <;> intro hc <;> first | (exfalso; omega) | (exfalso; dsimp only at hc; omega) | skip)
 refine loopE (fun i : Nat => [(2, .ptr 0 0), (3, .ptr 1 0), (5, .v (iv (gnS t.d f i))), (6, .v (iv ((f : Int) + i)))]) (fun _ => [(0, .cells [.v (iv days), .v (iv shift), .v (iv size), .v (.slice (some ta) T.length tc), .v (.slice lo L.length lc)] 25), (1, .cells [.v (iv k), .v (iv f), .v (iv l)] 89)]) (fun i => i ≤ m) (fun i => m - i) 0 (Nat.zero_le _) ⟨rfl, rfl, rfl, by simp; rfl, trivial⟩ ⟨rfl, rfl, trivial⟩ (fun _ => ⟨rfl, rfl⟩) ?_
 intro i hi
 have hgi := hgb i
 rcases Nat.lt_or_ge i m with hil | hil
 · have hs : gnS t.d f (i + 1) = gnS t.d f i + (dyO t.d ((f : Int) + i) - t.d.rent) := rfl
   have hdi := hdb ((f : Int) + i)
   have hcl := h39 ((f : Int) + i) (by omega)
   generalize gnS t.d f i = A at *
   generalize dyO t.d ((f : Int) + i) = B at *
   generalize t.d.rent = rr at *
   repeat'
    conv => whnf
    first
     | refine zA ?_ | refine zB ?_ | refine zC ?_ | refine zD ?_ | refine zE ?_ | refine zF ?_ | refine zG ?_ | refine zH ?_ | refine zJ ?_ | refine zI ?_ | refine splT ?_ | refine splF ?_ | refine splNot ?_
     | ((first | refine splIn ?_ ?_ | refine splD ?_ ?_ | refine splE ?_ ?_ | refine splNE ?_ ?_) <;> intro hc <;> first | (exfalso; omega) | (exfalso; dsimp only at hc; omega) | skip)
     | ((with_reducible show CallEv _ _ 39 _ _ _ _ _); refine callE (k := 39) (fun β w' hbw => hcl w' hbw) ?_)
     | refine Exists.intro (α := List Value) [iv rr] ⟨⟨rfl, fun w' hw' => e0 w' hw'⟩, ?_⟩
   all_goals first | (exfalso; omega) | exact ⟨i + 1, by omega, by omega, Ent.weak rfl ⟨rfl, rfl, by rw [hs]; rfl, by rw [Int.natCast_add, ← Int.add_assoc]; rfl, trivial⟩ ⟨rfl, rfl, trivial⟩ fun _ h => h⟩
 · obtain rfl : i = m := by omega
   repeat'
    conv => whnf
    first
     | refine zA ?_ | refine zB ?_ | refine zC ?_ | refine zD ?_ | refine zE ?_ | refine zF ?_ | refine zG ?_ | refine zH ?_ | refine zJ ?_ | refine zI ?_ | refine splT ?_ | refine splF ?_ | refine splNot ?_
     | ((first | refine splIn ?_ ?_ | refine splD ?_ ?_ | refine splE ?_ ?_ | refine splNE ?_ ?_) <;> intro hc <;> first | (exfalso; omega) | (exfalso; dsimp only at hc; omega) | skip)
   all_goals first | (exfalso; omega) | exact ⟨fun β => rfl, fun w' h => h⟩
end Go.Proofs.Ythfabodamhdhaaa
