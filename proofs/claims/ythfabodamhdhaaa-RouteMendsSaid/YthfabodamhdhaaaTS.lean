/- The fault of a stop, by the reference: what fault returns. -/
import Derived.Test.YthfabodamhdhaaaTJ
namespace Go.Proofs.Ythfabodamhdhaaa
open Go Tx Go.RowKit
set_option linter.unusedSimpArgs false
set_option linter.unusedVariables false
set_option maxHeartbeats 8000000 in
set_option maxRecDepth 100000 in
theorem rfault_ok (x : Tr) (o : Option Addr) (c : Nat) (S : List (Int × Int × Int)) (i : Nat) (k f l : Int) (w : World) (h : TrIn x w) (hn : ToN x.d) (hS : SpIn o c S w) (hN : neB S = true) (hi : S[i]? = some (k, f, l)) :
 Calls Try.prog 63 #[x.v, .slice o S.length c, iv i] w fun e w' => e = .returned (.int .u8 (fltO x.d S i k f l 7)) ∧ Below w.heap.size w w' := by
 have hlen : x.d.T.length = x.T.length := List.length_map ..
 have hil := (List.getElem?_eq_some_iff.1 hi).1
 have hsl := hS.l
 have hN2 := neB_n hN
 have hbS := hN2 _ (List.mem_of_getElem? hi)
 dsimp only at hbS
 have hr := hS.r
 obtain ⟨_, ad, rfl, _⟩ := hr.ptr (by omega)
 have e0 := fun (w' : World) hw' => rd_ati (hr.below (w' := w') hw') hi
 have ek := fun (w' : World) hw' => rd_fldz (hr.below (w' := w') hw') hi _ rfl 0 (iv k) rfl
 have ef := fun (w' : World) hw' => rd_fldz (hr.below (w' := w') hw') hi _ rfl 1 (iv f) rfl
 have el := fun (w' : World) hw' => rd_fldz (hr.below (w' := w') hw') hi _ rfl 2 (iv l) rfl
 have h103 := fun w' (hb : Below w.heap.size w w') => ralone_ok x k f l w' (h.below hb) hn hbS
 have hV : fltO x.d S i k f l 7 = if alO x.d k f l = 0 then fstT [ts5 S i k, ts6 x.d S i k f, ts7 x.d S i k l] 4 else alO x.d k f l := by
  show fstT [ts1 x.d k, ts2 x.d k, ts3 x.d k f l, ts4 x.d k f l, ts5 S i k, ts6 x.d S i k f, ts7 x.d S i k l] 0 = if fstT [ts1 x.d k, ts2 x.d k, ts3 x.d k f l, ts4 x.d k f l] 0 = 0 then _ else fstT [ts1 x.d k, ts2 x.d k, ts3 x.d k f l, ts4 x.d k f l] 0
  generalize ts1 x.d k = a1
  generalize ts2 x.d k = a2
  generalize ts3 x.d k f l = a3
  generalize ts4 x.d k f l = a4
  cases a1 <;> cases a2 <;> cases a3 <;> cases a4 <;> simp [fstT]
 have hal := alO_le x.d k f l
 rw [hV]
 clear hV
 by_cases hA : alO x.d k f l = 0
 · rw [if_pos hA]
   rw [hA] at h103
   have t1 : ts1 x.d k = false := by
    cases hbb : ts1 x.d k with
    | false => rfl
    | true => simp [alO, fstT, hbb] at hA
   simp only [ts1, hlen, Bool.not_eq_false', inB, Bool.and_eq_true, decide_eq_true_eq] at t1
   obtain ⟨kn, rfl⟩ : ∃ kn : Nat, k = kn := ⟨k.toNat, by omega⟩
   have hnT := hn.n
   rw [hlen] at hnT
   have hday := hn.d
   have h38 := fun (a b : Nat) (ha : a < x.T.length) (hb : b < x.T.length) w' (hbw : Below w.heap.size w w') => rlost_ok x a b w' (h.below hbw) hn ha hb
   have hls := hn.lost
   have t7 : ts7 x.d S i kn l = (decide (i + 1 = S.length) && decide (l + lsO x.d kn 0 > x.days - 1)) := by unfold ts7; rw [Int.toNat_natCast]
   have hsn := hN2
   have htl := h.tl
   have t60 : ∀ f : Int, ts6 x.d S 0 kn f = decide (-1 > f - 1 - lsO x.d 0 kn) := fun f => by unfold ts6; rw [Int.toNat_natCast]
   have t6s : ∀ (j : Nat) (p : Int × Int × Int), S[j]? = some p → ts6 x.d S (j + 1) kn f = (inB p.1 1 ((x.T.length : Int) - 1) && decide (p.2.2 > f - 1 - lsO x.d p.1.toNat kn)) := fun j p hp => by
    simp only [ts6, hp, hlen, Int.toNat_natCast]
   have hdx : x.d.days = x.days := rfl
   rw [hdx] at hday
   have h38k := h38 kn 0 (by omega) (by omega)
   have hlsk := hls kn 0
   generalize lsO x.d kn 0 = gk at *
   obtain ⟨days, shift, size, to, tc, T, lo, lc, L⟩ := x
   dsimp only at hnT t1 h38 h38k htl hday t7 t6s
   have hTr := h.t
   clear h hn hS hA
   refine calls_val env mixed Try.func63 has63 Try.ntmps63 [.agg #[iv days, iv shift, iv size, .slice to T.length tc, .slice lo L.length lc], .slice (some ad) S.length c, iv i] (by simp) ?_
   repeat'
    conv => whnf
    first
     | refine zA ?_ | refine zB ?_ | refine zC ?_ | refine zD ?_ | refine zE ?_ | refine zF ?_ | refine zG ?_ | refine zH ?_ | refine zJ ?_ | refine zI ?_ | refine splT ?_ | refine splF ?_ | refine splNot ?_
     | ((first | refine splIn ?_ ?_ | refine splD ?_ ?_ | refine splE ?_ ?_ | refine splNE ?_ ?_) <;> intro hc <;> first | (exfalso; omega) | (exfalso; dsimp only at hc; omega) | skip)
     | refine Exists.intro (α := List Value) [iv kn, iv f, iv l] ⟨⟨rfl, fun w' hw' => e0 w' hw'⟩, ?_⟩
     | ((with_reducible show CallEv _ _ 103 _ _ _ _ _); refine callE (k := 103) (fun β w' hbw => h103 w' hbw) ?_)
   all_goals first | (exfalso; omega) | skip
   refine loopE (fun j : Nat => [(1, .v (.slice (some ad) S.length c)), (2, .v (iv i)), (3, .ptr 0 0), (8, .v (iv j))]) (fun _ => [(0, .cells [.v (iv days), .v (iv shift), .v (iv size), .v (.slice to T.length tc), .v (.slice lo L.length lc)] 25)])
    (fun j => j ≤ i ∧ ((S.take j).any fun s => s.1 == (kn : Int)) = false) (fun j => i - j) 0 ⟨Nat.zero_le _, rfl⟩ ⟨rfl, rfl, rfl, rfl, trivial⟩ ⟨rfl, trivial⟩ (fun _ => ⟨rfl, rfl⟩) ?_
   intro j ⟨hj, hall⟩
   rcases Nat.lt_or_ge j i with hjl | hjl
   · obtain ⟨⟨a, b, d⟩, hx⟩ : ∃ s, S[j]? = some s := ⟨_, List.getElem?_eq_getElem (by omega)⟩
     have ea := fun (w' : World) hw' => rd_fldz (hr.below (w' := w') hw') hx _ rfl 0 (iv a) rfl
     have hta := any_take (p := fun s : Int × Int × Int => s.1 == (kn : Int)) hx
     rw [hall, Bool.false_or] at hta
     by_cases hak : a = kn
     · have h5 : ts5 S i kn = true := List.any_eq_true.2 ⟨(a, b, d), List.mem_of_getElem? (i := j) (by rw [List.getElem?_take, if_pos hjl]; exact hx), by simpa using hak⟩
       rw [h5, show ∀ u v, fstT [true, u, v] 4 = 5 from fun _ _ => rfl]
       repeat'
        conv => whnf
        first
         | refine zA ?_ | refine zB ?_ | refine zC ?_ | refine zD ?_ | refine zE ?_ | refine zF ?_ | refine zG ?_ | refine zH ?_ | refine zJ ?_ | refine zI ?_ | refine splT ?_ | refine splF ?_ | refine splNot ?_
         | ((first | refine splIn ?_ ?_ | refine splD ?_ ?_ | refine splE ?_ ?_ | refine splNE ?_ ?_) <;> intro hc <;> first | (exfalso; omega) | (exfalso; dsimp only at hc; omega) | skip)
         | refine Exists.intro (α := List Value) [iv a] ⟨⟨rfl, fun w' hw' => ea w' hw'⟩, ?_⟩
         | refine Exists.intro (α := List Value) [iv kn] ⟨⟨rfl, fun w' hw' => ek w' hw'⟩, ?_⟩
       all_goals first | (exfalso; omega) | exact ⟨fun β => rfl, fun w' h => h⟩
     · rw [show (a == (kn : Int)) = false from by simpa using hak] at hta
       repeat'
        conv => whnf
        first
         | refine zA ?_ | refine zB ?_ | refine zC ?_ | refine zD ?_ | refine zE ?_ | refine zF ?_ | refine zG ?_ | refine zH ?_ | refine zJ ?_ | refine zI ?_ | refine splT ?_ | refine splF ?_ | refine splNot ?_
         | ((first | refine splIn ?_ ?_ | refine splD ?_ ?_ | refine splE ?_ ?_ | refine splNE ?_ ?_) <;> intro hc <;> first | (exfalso; omega) | (exfalso; dsimp only at hc; omega) | skip)
         | refine Exists.intro (α := List Value) [iv a] ⟨⟨rfl, fun w' hw' => ea w' hw'⟩, ?_⟩
         | refine Exists.intro (α := List Value) [iv kn] ⟨⟨rfl, fun w' hw' => ek w' hw'⟩, ?_⟩
       all_goals first | (exfalso; omega) | exact ⟨j + 1, ⟨by omega, hta⟩, by omega, Ent.weak rfl ⟨rfl, rfl, rfl, rfl, trivial⟩ ⟨rfl, trivial⟩ fun _ h => h⟩
   · have hji : j = i := by omega
     have h5 : ts5 S i kn = false := by rw [← hji]; exact hall
     rw [h5, t7]
     cases i with
     | zero =>
      rw [t60]
      have h380 := h38 0 kn (by omega) (by omega)
      have hls0 := hls 0 kn
      generalize lsO (Tr.d ⟨days, shift, size, to, tc, T, lo, lc, L⟩) 0 kn = g0 at *
      by_cases h6 : -1 > f - 1 - g0
      · rw [decide_eq_true h6, show ∀ v, fstT [false, true, v] 4 = 6 from fun _ => rfl]
        repeat'
         conv => whnf
         first
          | refine zA ?_ | refine zB ?_ | refine zC ?_ | refine zD ?_ | refine zE ?_ | refine zF ?_ | refine zG ?_ | refine zH ?_ | refine zJ ?_ | refine zI ?_ | refine splT ?_ | refine splF ?_ | refine splNot ?_
          | ((first | refine splIn ?_ ?_ | refine splD ?_ ?_ | refine splE ?_ ?_ | refine splNE ?_ ?_) <;> intro hc <;> first | (exfalso; omega) | (exfalso; dsimp only at hc; omega) | skip)
          | refine Exists.intro (α := List Value) [iv kn] ⟨⟨rfl, fun w' hw' => ek w' hw'⟩, ?_⟩
          | refine Exists.intro (α := List Value) [iv l] ⟨⟨rfl, fun w' hw' => el w' hw'⟩, ?_⟩
          | refine Exists.intro (α := List Value) [iv f] ⟨⟨rfl, fun w' hw' => ef w' hw'⟩, ?_⟩
          | ((with_reducible show CallEv _ _ 38 _ _ _ _ _); refine callE (k := 38) (fun β w' hbw => h380 w' hbw) ?_)
        all_goals first | (exfalso; omega) | exact ⟨fun β => rfl, fun w' h => h⟩
      · rw [decide_eq_false h6]
        by_cases h7 : 0 + 1 = S.length ∧ l + gk > days - 1
        · rw [show (decide (0 + 1 = S.length) && decide (l + gk > days - 1)) = true from by simp only [Bool.and_eq_true, decide_eq_true_eq]; exact h7]
          rw [show fstT [false, false, true] 4 = 7 from rfl]
          repeat'
           conv => whnf
           first
            | refine zA ?_ | refine zB ?_ | refine zC ?_ | refine zD ?_ | refine zE ?_ | refine zF ?_ | refine zG ?_ | refine zH ?_ | refine zJ ?_ | refine zI ?_ | refine splT ?_ | refine splF ?_ | refine splNot ?_
            | ((first | refine splIn ?_ ?_ | refine splD ?_ ?_ | refine splE ?_ ?_ | refine splNE ?_ ?_) <;> intro hc <;> first | (exfalso; omega) | (exfalso; dsimp only at hc; omega) | skip)
            | ((with_reducible show CallEv _ _ 38 [_, .v (iv 0), .v (iv kn)] _ _ _ _); refine callE (k := 38) (fun β w' hbw => h380 w' hbw) ?_)
            | refine Exists.intro (α := List Value) [iv kn] ⟨⟨rfl, fun w' hw' => ek w' hw'⟩, ?_⟩
            | refine Exists.intro (α := List Value) [iv l] ⟨⟨rfl, fun w' hw' => el w' hw'⟩, ?_⟩
            | refine Exists.intro (α := List Value) [iv f] ⟨⟨rfl, fun w' hw' => ef w' hw'⟩, ?_⟩
            | ((with_reducible show CallEv _ _ 38 _ _ _ _ _); refine callE (k := 38) (fun β w' hbw => h38k w' hbw) ?_)
          all_goals first | (exfalso; omega) | exact ⟨fun β => rfl, fun w' h => h⟩
        · rw [show (decide (0 + 1 = S.length) && decide (l + gk > days - 1)) = false from by (cases hbb : (decide (0 + 1 = S.length) && decide (l + gk > days - 1)) with | false => rfl | true => (simp only [Bool.and_eq_true, decide_eq_true_eq] at hbb; exact absurd hbb h7))]
          rw [show fstT [false, false, false] 4 = 0 from rfl]
          repeat'
           conv => whnf
           first
            | refine zA ?_ | refine zB ?_ | refine zC ?_ | refine zD ?_ | refine zE ?_ | refine zF ?_ | refine zG ?_ | refine zH ?_ | refine zJ ?_ | refine zI ?_ | refine splT ?_ | refine splF ?_ | refine splNot ?_
            | ((first | refine splIn ?_ ?_ | refine splD ?_ ?_ | refine splE ?_ ?_ | refine splNE ?_ ?_) <;> intro hc <;> first | (exfalso; omega) | (exfalso; dsimp only at hc; omega) | skip)
            | ((with_reducible show CallEv _ _ 38 [_, .v (iv 0), .v (iv kn)] _ _ _ _); refine callE (k := 38) (fun β w' hbw => h380 w' hbw) ?_)
            | refine Exists.intro (α := List Value) [iv kn] ⟨⟨rfl, fun w' hw' => ek w' hw'⟩, ?_⟩
            | refine Exists.intro (α := List Value) [iv l] ⟨⟨rfl, fun w' hw' => el w' hw'⟩, ?_⟩
            | refine Exists.intro (α := List Value) [iv f] ⟨⟨rfl, fun w' hw' => ef w' hw'⟩, ?_⟩
            | ((with_reducible show CallEv _ _ 38 _ _ _ _ _); refine callE (k := 38) (fun β w' hbw => h38k w' hbw) ?_)
          all_goals first | (exfalso; omega) | exact ⟨fun β => rfl, fun w' h => h⟩
     | succ i0 =>
      obtain ⟨⟨p1, p2, p3⟩, hp⟩ : ∃ s, S[i0]? = some s := ⟨_, List.getElem?_eq_getElem (by omega)⟩
      rw [t6s i0 _ hp]
      have hpb := hsn _ (List.mem_of_getElem? hp)
      dsimp only at hpb
      have ep1 := fun (w' : World) hw' => rd_fldz (hr.below (w' := w') hw') hp (((i0 + 1 : Nat) : Int) - 1) (by omega) 0 (iv p1) rfl
      have ep3 := fun (w' : World) hw' => rd_fldz (hr.below (w' := w') hw') hp (((i0 + 1 : Nat) : Int) - 1) (by omega) 2 (iv p3) rfl
      dsimp only
      by_cases hpp : 1 ≤ p1 ∧ p1 ≤ (T.length : Int) - 1
      · obtain ⟨pn, rfl⟩ : ∃ pn : Nat, p1 = pn := ⟨p1.toNat, by omega⟩
        rw [show inB (pn : Int) 1 ((T.length : Int) - 1) = true from by simp only [inB, Bool.and_eq_true, decide_eq_true_eq]; exact hpp, Bool.true_and, Int.toNat_natCast]
        have h38p := h38 pn kn (by omega) (by omega)
        have hlsp := hls pn kn
        generalize lsO (Tr.d ⟨days, shift, size, to, tc, T, lo, lc, L⟩) pn kn = gp at *
        have h104 := fun w' : World => early_ok p3 gp f w' ⟨by omega, by omega⟩
        by_cases h6 : p3 > f - 1 - gp
        · rw [decide_eq_true (show f < p3 + 1 + gp by omega)] at h104
          rw [decide_eq_true h6, show ∀ v, fstT [false, true, v] 4 = 6 from fun _ => rfl]
          repeat'
           conv => whnf
           first
            | refine zA ?_ | refine zB ?_ | refine zC ?_ | refine zD ?_ | refine zE ?_ | refine zF ?_ | refine zG ?_ | refine zH ?_ | refine zJ ?_ | refine zI ?_ | refine splT ?_ | refine splF ?_ | refine splNot ?_
            | ((first | refine splIn ?_ ?_ | refine splD ?_ ?_ | refine splE ?_ ?_ | refine splNE ?_ ?_) <;> intro hc <;> first | (exfalso; omega) | (exfalso; dsimp only at hc; omega) | skip)
            | refine Exists.intro (α := List Value) [iv kn] ⟨⟨rfl, fun w' hw' => ek w' hw'⟩, ?_⟩
            | refine Exists.intro (α := List Value) [iv l] ⟨⟨rfl, fun w' hw' => el w' hw'⟩, ?_⟩
            | refine Exists.intro (α := List Value) [iv f] ⟨⟨rfl, fun w' hw' => ef w' hw'⟩, ?_⟩
            | refine Exists.intro (α := List Value) [iv pn] ⟨⟨rfl, fun w' hw' => ep1 w' hw'⟩, ?_⟩
            | refine Exists.intro (α := List Value) [iv p3] ⟨⟨rfl, fun w' hw' => ep3 w' hw'⟩, ?_⟩
            | ((with_reducible show CallEv _ _ 37 _ _ _ _ _); refine callE (k := 37) (fun β w' hbw => In_ok _ _ _ w') ?_)
            | ((with_reducible show CallEv _ _ 38 _ _ _ _ _); refine callE (k := 38) (fun β w' hbw => h38p w' hbw) ?_)
            | ((with_reducible show CallEv _ _ 104 _ _ _ _ _); refine callE (k := 104) (fun β w' hbw => h104 w') ?_)
          all_goals first | (exfalso; omega) | exact ⟨fun β => rfl, fun w' h => h⟩
        · rw [decide_eq_false (show ¬ f < p3 + 1 + gp by omega)] at h104
          rw [decide_eq_false h6]
          by_cases h7 : i0 + 1 + 1 = S.length ∧ l + gk > days - 1
          · rw [show (decide (i0 + 1 + 1 = S.length) && decide (l + gk > days - 1)) = true from by simp only [Bool.and_eq_true, decide_eq_true_eq]; exact h7]
            rw [show fstT [false, false, true] 4 = 7 from rfl]
            repeat'
             conv => whnf
             first
              | refine zA ?_ | refine zB ?_ | refine zC ?_ | refine zD ?_ | refine zE ?_ | refine zF ?_ | refine zG ?_ | refine zH ?_ | refine zJ ?_ | refine zI ?_ | refine splT ?_ | refine splF ?_ | refine splNot ?_
              | ((first | refine splIn ?_ ?_ | refine splD ?_ ?_ | refine splE ?_ ?_ | refine splNE ?_ ?_) <;> intro hc <;> first | (exfalso; omega) | (exfalso; dsimp only at hc; omega) | skip)
              | ((with_reducible show CallEv _ _ 38 [_, .v (iv pn), .v (iv kn)] _ _ _ _); refine callE (k := 38) (fun β w' hbw => h38p w' hbw) ?_)
              | refine Exists.intro (α := List Value) [iv pn] ⟨⟨rfl, fun w' hw' => ep1 w' hw'⟩, ?_⟩
              | refine Exists.intro (α := List Value) [iv p3] ⟨⟨rfl, fun w' hw' => ep3 w' hw'⟩, ?_⟩
              | ((with_reducible show CallEv _ _ 37 _ _ _ _ _); refine callE (k := 37) (fun β w' hbw => In_ok _ _ _ w') ?_)
              | ((with_reducible show CallEv _ _ 104 _ _ _ _ _); refine callE (k := 104) (fun β w' hbw => h104 w') ?_)
              | refine Exists.intro (α := List Value) [iv kn] ⟨⟨rfl, fun w' hw' => ek w' hw'⟩, ?_⟩
              | refine Exists.intro (α := List Value) [iv l] ⟨⟨rfl, fun w' hw' => el w' hw'⟩, ?_⟩
              | refine Exists.intro (α := List Value) [iv f] ⟨⟨rfl, fun w' hw' => ef w' hw'⟩, ?_⟩
              | ((with_reducible show CallEv _ _ 38 _ _ _ _ _); refine callE (k := 38) (fun β w' hbw => h38k w' hbw) ?_)
            all_goals first | (exfalso; omega) | exact ⟨fun β => rfl, fun w' h => h⟩
          · rw [show (decide (i0 + 1 + 1 = S.length) && decide (l + gk > days - 1)) = false from by (cases hbb : (decide (i0 + 1 + 1 = S.length) && decide (l + gk > days - 1)) with | false => rfl | true => (simp only [Bool.and_eq_true, decide_eq_true_eq] at hbb; exact absurd hbb h7))]
            rw [show fstT [false, false, false] 4 = 0 from rfl]
            repeat'
             conv => whnf
             first
              | refine zA ?_ | refine zB ?_ | refine zC ?_ | refine zD ?_ | refine zE ?_ | refine zF ?_ | refine zG ?_ | refine zH ?_ | refine zJ ?_ | refine zI ?_ | refine splT ?_ | refine splF ?_ | refine splNot ?_
              | ((first | refine splIn ?_ ?_ | refine splD ?_ ?_ | refine splE ?_ ?_ | refine splNE ?_ ?_) <;> intro hc <;> first | (exfalso; omega) | (exfalso; dsimp only at hc; omega) | skip)
              | ((with_reducible show CallEv _ _ 38 [_, .v (iv pn), .v (iv kn)] _ _ _ _); refine callE (k := 38) (fun β w' hbw => h38p w' hbw) ?_)
              | refine Exists.intro (α := List Value) [iv pn] ⟨⟨rfl, fun w' hw' => ep1 w' hw'⟩, ?_⟩
              | refine Exists.intro (α := List Value) [iv p3] ⟨⟨rfl, fun w' hw' => ep3 w' hw'⟩, ?_⟩
              | ((with_reducible show CallEv _ _ 37 _ _ _ _ _); refine callE (k := 37) (fun β w' hbw => In_ok _ _ _ w') ?_)
              | ((with_reducible show CallEv _ _ 104 _ _ _ _ _); refine callE (k := 104) (fun β w' hbw => h104 w') ?_)
              | refine Exists.intro (α := List Value) [iv kn] ⟨⟨rfl, fun w' hw' => ek w' hw'⟩, ?_⟩
              | refine Exists.intro (α := List Value) [iv l] ⟨⟨rfl, fun w' hw' => el w' hw'⟩, ?_⟩
              | refine Exists.intro (α := List Value) [iv f] ⟨⟨rfl, fun w' hw' => ef w' hw'⟩, ?_⟩
              | ((with_reducible show CallEv _ _ 38 _ _ _ _ _); refine callE (k := 38) (fun β w' hbw => h38k w' hbw) ?_)
            all_goals first | (exfalso; omega) | exact ⟨fun β => rfl, fun w' h => h⟩
      · rw [show inB p1 1 ((T.length : Int) - 1) = false from by (cases hbb : inB p1 1 ((T.length : Int) - 1) with | false => rfl | true => (simp only [inB, Bool.and_eq_true, decide_eq_true_eq] at hbb; exact absurd hbb hpp)), Bool.false_and]
        by_cases h7 : i0 + 1 + 1 = S.length ∧ l + gk > days - 1
        · rw [show (decide (i0 + 1 + 1 = S.length) && decide (l + gk > days - 1)) = true from by simp only [Bool.and_eq_true, decide_eq_true_eq]; exact h7]
          rw [show fstT [false, false, true] 4 = 7 from rfl]
          repeat'
           conv => whnf
           first
            | refine zA ?_ | refine zB ?_ | refine zC ?_ | refine zD ?_ | refine zE ?_ | refine zF ?_ | refine zG ?_ | refine zH ?_ | refine zJ ?_ | refine zI ?_ | refine splT ?_ | refine splF ?_ | refine splNot ?_
            | ((first | refine splIn ?_ ?_ | refine splD ?_ ?_ | refine splE ?_ ?_ | refine splNE ?_ ?_) <;> intro hc <;> first | (exfalso; omega) | (exfalso; dsimp only at hc; omega) | skip)
            | refine Exists.intro (α := List Value) [iv p1] ⟨⟨rfl, fun w' hw' => ep1 w' hw'⟩, ?_⟩
            | ((with_reducible show CallEv _ _ 37 _ _ _ _ _); refine callE (k := 37) (fun β w' hbw => In_ok _ _ _ w') ?_)
            | refine Exists.intro (α := List Value) [iv kn] ⟨⟨rfl, fun w' hw' => ek w' hw'⟩, ?_⟩
            | refine Exists.intro (α := List Value) [iv l] ⟨⟨rfl, fun w' hw' => el w' hw'⟩, ?_⟩
            | refine Exists.intro (α := List Value) [iv f] ⟨⟨rfl, fun w' hw' => ef w' hw'⟩, ?_⟩
            | ((with_reducible show CallEv _ _ 38 _ _ _ _ _); refine callE (k := 38) (fun β w' hbw => h38k w' hbw) ?_)
          all_goals first | (exfalso; omega) | exact ⟨fun β => rfl, fun w' h => h⟩
        · rw [show (decide (i0 + 1 + 1 = S.length) && decide (l + gk > days - 1)) = false from by (cases hbb : (decide (i0 + 1 + 1 = S.length) && decide (l + gk > days - 1)) with | false => rfl | true => (simp only [Bool.and_eq_true, decide_eq_true_eq] at hbb; exact absurd hbb h7))]
          rw [show fstT [false, false, false] 4 = 0 from rfl]
          repeat'
           conv => whnf
           first
            | refine zA ?_ | refine zB ?_ | refine zC ?_ | refine zD ?_ | refine zE ?_ | refine zF ?_ | refine zG ?_ | refine zH ?_ | refine zJ ?_ | refine zI ?_ | refine splT ?_ | refine splF ?_ | refine splNot ?_
            | ((first | refine splIn ?_ ?_ | refine splD ?_ ?_ | refine splE ?_ ?_ | refine splNE ?_ ?_) <;> intro hc <;> first | (exfalso; omega) | (exfalso; dsimp only at hc; omega) | skip)
            | refine Exists.intro (α := List Value) [iv p1] ⟨⟨rfl, fun w' hw' => ep1 w' hw'⟩, ?_⟩
            | ((with_reducible show CallEv _ _ 37 _ _ _ _ _); refine callE (k := 37) (fun β w' hbw => In_ok _ _ _ w') ?_)
            | refine Exists.intro (α := List Value) [iv kn] ⟨⟨rfl, fun w' hw' => ek w' hw'⟩, ?_⟩
            | refine Exists.intro (α := List Value) [iv l] ⟨⟨rfl, fun w' hw' => el w' hw'⟩, ?_⟩
            | refine Exists.intro (α := List Value) [iv f] ⟨⟨rfl, fun w' hw' => ef w' hw'⟩, ?_⟩
            | ((with_reducible show CallEv _ _ 38 _ _ _ _ _); refine callE (k := 38) (fun β w' hbw => h38k w' hbw) ?_)
          all_goals first | (exfalso; omega) | exact ⟨fun β => rfl, fun w' h => h⟩
 · rw [if_neg hA]
   clear h hn hS
   generalize alO x.d k f l = A at *
   obtain ⟨days, shift, size, to, tc, T, lo, lc, L⟩ := x
   refine calls_val env mixed Try.func63 has63 Try.ntmps63 [.agg #[iv days, iv shift, iv size, .slice to T.length tc, .slice lo L.length lc], .slice (some ad) S.length c, iv i] (by simp) ?_
   repeat'
    conv => whnf
    first
     | refine zA ?_ | refine zB ?_ | refine zC ?_ | refine zD ?_ | refine zE ?_ | refine zF ?_ | refine zG ?_ | refine zH ?_ | refine zJ ?_ | refine zI ?_ | refine splT ?_ | refine splF ?_ | refine splNot ?_
     | ((first | refine splIn ?_ ?_ | refine splD ?_ ?_ | refine splE ?_ ?_ | refine splNE ?_ ?_) <;> intro hc <;> first | (exfalso; omega) | (exfalso; dsimp only at hc; omega) | skip)
     | refine Exists.intro (α := List Value) [iv k, iv f, iv l] ⟨⟨rfl, fun w' hw' => e0 w' hw'⟩, ?_⟩
     | ((with_reducible show CallEv _ _ 103 _ _ _ _ _); refine callE (k := 103) (fun β w' hbw => h103 w' hbw) ?_)
   all_goals first | (exfalso; omega) | exact ⟨fun β => rfl, fun w' h => h⟩
end Go.Proofs.Ythfabodamhdhaaa
