/- Part 4 of the proof: texts merged. -/
import Derived.Test.YtkbfcofifhngfaaGreatXMc
import Derived.Laws.OwnMore
import Derived.WalkSpells
import Derived.ChangeKeysEq
import Derived.Laws.CopyRow
import Derived.Laws.StructEq
namespace Go.Proofs.YtkbfcofifhngfaaGreat
open Go Tx Go.RowKit
set_option linter.unusedSimpArgs false
set_option linter.unusedVariables false
set_option maxHeartbeats 4000000 in
set_option maxRecDepth 100000 in
theorem RightS_ok (s : Sc) (w : World) (h : ScIn s w) (hB : ScB s) : Calls Tryz.prog 15 #[s.v] w fun e w' => e = .returned (.bool (scOk s.d)) ∧ Below w.heap.size w w' := by
 obtain ⟨sl, ro, su, go, gc, G, to, tc, T⟩ := s
 obtain ⟨hg, hr, ht, hh⟩ := h
 obtain ⟨b1, b2, b3, b4⟩ := hB
 unfold scOk Sc.d
 dsimp only at hg hr ht hh b1 b2 b3 b4 ⊢
 rw [List.length_map, List.length_map]
 refine calls_val env mixed Tryz.func15 has15 Tryz.ntmps15 [.agg #[iv sl, iv ro, iv su, .slice go G.length gc, .slice to T.length tc]] (by simp) ?_
 by_cases hp : (1 ≤ sl ∧ sl ≤ 40) ∧ (1 ≤ ro ∧ ro ≤ 6) ∧ (1 ≤ su ∧ su ≤ 6) ∧ G.length ≤ 8 ∧ T.length ≤ 8
 case neg =>
  have : (inB sl 1 40 && (inB ro 1 6 && (inB su 1 6 && (decide (G.length ≤ 8) && (decide (T.length ≤ 8) && ((G.map Rw.xs).all (grB su) && (T.map Tc.d).all (teB su))))))) = false := by
   rw [Bool.eq_false_iff]
   intro hc
   simp only [Bool.and_eq_true, inB_iff, decide_eq_true_eq] at hc
   exact hp ⟨hc.1, hc.2.1, hc.2.2.1, hc.2.2.2.1, hc.2.2.2.2.1⟩
  rw [this]
  repeat'
   conv => whnf
   first
    | refine zA ?_ | refine zB ?_ | refine zC ?_ | refine zD ?_ | refine zE ?_ | refine zF ?_ | refine zG ?_ | refine zH ?_ | refine zJ ?_ | refine zI ?_ | refine splT ?_ | refine splF ?_ | refine splNot ?_
    | ((first | refine splIn ?_ ?_ | refine splD ?_ ?_ | refine splE ?_ ?_ | refine splNE ?_ ?_) <;> intro hc <;> first | (exfalso; omega) | (exfalso; dsimp only at hc; omega) | skip)
    | ((with_reducible show CallEv _ _ 50 _ _ _ _ _); refine callE (k := 50) (fun β w' hbw => In_ok _ _ _ _) ?_)
  all_goals first | (exfalso; omega) | exact ⟨fun β => rfl, fun w' h => h⟩
 obtain ⟨p1, p2, p3, p4, p5⟩ := hp
 rw [inB_iff.2 p1, inB_iff.2 p2, inB_iff.2 p3, decide_eq_true p4, decide_eq_true p5]
 simp only [Bool.true_and]
 repeat'
  conv => whnf
  first
   | refine zA ?_ | refine zB ?_ | refine zC ?_ | refine zD ?_ | refine zE ?_ | refine zF ?_ | refine zG ?_ | refine zH ?_ | refine zJ ?_ | refine zI ?_ | refine splT ?_ | refine splF ?_ | refine splNot ?_
   | ((first | refine splIn ?_ ?_ | refine splD ?_ ?_ | refine splE ?_ ?_ | refine splNE ?_ ?_) <;> intro hc <;> first | (exfalso; omega) | (exfalso; dsimp only at hc; omega) | skip)
   | ((with_reducible show CallEv _ _ 50 _ _ _ _ _); refine callE (k := 50) (fun β w' hbw => In_ok _ _ _ _) ?_)
 all_goals first | (exfalso; omega) | skip
 refine loopE (fun k : Nat => [(1, .ptr 0 0), (3, .v (iv k))]) (fun _ => [(0, .cells [.v (iv sl), .v (iv ro), .v (iv su), .v (.slice go G.length gc), .v (.slice to T.length tc)] 25)]) (fun k => k ≤ G.length ∧ ((G.take k).map Rw.xs).all (grB su) = true) (fun k => G.length - k) 0 ⟨Nat.zero_le _, rfl⟩ ⟨rfl, rfl, trivial⟩ ⟨rfl, trivial⟩ (fun _ => ⟨rfl, rfl⟩) ?_
 intro k ⟨hk, hall⟩
 rcases Nat.lt_or_ge k G.length with hkl | hkl
 · obtain ⟨⟨ro', rc, xs⟩, hx⟩ : ∃ b, G[k]? = some b := ⟨_, List.getElem?_eq_getElem hkl⟩
   obtain ⟨_, ad, rfl, _⟩ := hg.ptr (by omega)
   have hrr := hr _ (List.mem_of_getElem? hx)
   have hrb := b2 _ (List.mem_of_getElem? hx)
   change Rd 1 iF (.slice ro' xs.length rc) xs w at hrr
   dsimp only at hrb
   have hat := all_mapT (f := Rw.xs) (p := grB su) hx
   rw [hall, Bool.true_and] at hat
   have hno := all_mapN (f := Rw.xs) (p := grB su) hx
   dsimp only at hat hno
   have e0 := fun (w' : World) hw' => rd_ati (hg.below (w' := w') hw') hx
   have c51 := fun (w' : World) (hw : Below w.heap.size w w') => everyR_ok xs ro' rc 0 20 w' (hrr.below hw) hrb
   by_cases hok : (xs.length : Int) = su ∧ evB xs 0 20 = true
   · have hgr : grB su xs = true := by unfold grB; rw [decide_eq_true hok.1, hok.2]; rfl
     rw [hgr] at hat
     rw [hok.2] at c51
     have hok1 := hok.1
     repeat'
      conv => whnf
      first
       | refine zA ?_ | refine zB ?_ | refine zC ?_ | refine zD ?_ | refine zE ?_ | refine zF ?_ | refine zG ?_ | refine zH ?_ | refine zJ ?_ | refine zI ?_ | refine splT ?_ | refine splF ?_ | refine splNot ?_
       | ((first | refine splIn ?_ ?_ | refine splD ?_ ?_ | refine splE ?_ ?_ | refine splNE ?_ ?_) <;> intro hc <;> first | (exfalso; omega) | (exfalso; dsimp only at hc; omega) | skip)
       | refine Exists.intro (α := List Value) [.slice ro' xs.length rc] ⟨⟨rfl, fun w' hw' => e0 w' hw'⟩, ?_⟩
       | ((with_reducible show CallEv _ _ 51 _ _ _ _ _); refine callE (k := 51) (fun β w' hbw => c51 _ hbw) ?_)
     all_goals first | (exfalso; omega) | exact ⟨k + 1, ⟨by omega, hat⟩, by omega, Ent.weak rfl ⟨rfl, rfl, trivial⟩ ⟨rfl, trivial⟩ fun _ h => h⟩
   · have hgr : grB su xs = false := by
      rw [Bool.eq_false_iff]; intro hc; unfold grB at hc; rw [Bool.and_eq_true, decide_eq_true_eq] at hc; exact hok hc
     rw [hno hgr, Bool.false_and]
     have hok' : evB xs 0 20 = true → (xs.length : Int) ≠ su := fun h1 h2 => hok ⟨h2, h1⟩
     clear hok
     cases hev : evB xs 0 20
     all_goals rw [hev] at c51 hok'
     all_goals first | (have hok' := hok' rfl) | skip
     all_goals skip
     repeat'
      conv => whnf
      first
       | refine zA ?_ | refine zB ?_ | refine zC ?_ | refine zD ?_ | refine zE ?_ | refine zF ?_ | refine zG ?_ | refine zH ?_ | refine zJ ?_ | refine zI ?_ | refine splT ?_ | refine splF ?_ | refine splNot ?_
       | ((first | refine splIn ?_ ?_ | refine splD ?_ ?_ | refine splE ?_ ?_ | refine splNE ?_ ?_) <;> intro hc <;> first | (exfalso; omega) | (exfalso; dsimp only at hc; omega) | skip)
       | refine Exists.intro (α := List Value) [.slice ro' xs.length rc] ⟨⟨rfl, fun w' hw' => e0 w' hw'⟩, ?_⟩
       | ((with_reducible show CallEv _ _ 51 _ _ _ _ _); refine callE (k := 51) (fun β w' hbw => c51 _ hbw) ?_)
     all_goals first | (exfalso; omega) | exact ⟨fun β => rfl, fun w' h => h⟩
 rw [List.take_of_length_le hkl] at hall
 rw [hall, Bool.true_and]
 clear hall
 repeat'
  conv => whnf
  first
   | refine zA ?_ | refine zB ?_ | refine zC ?_ | refine zD ?_ | refine zE ?_ | refine zF ?_ | refine zG ?_ | refine zH ?_ | refine zJ ?_ | refine zI ?_ | refine splT ?_ | refine splF ?_ | refine splNot ?_
   | ((first | refine splIn ?_ ?_ | refine splD ?_ ?_ | refine splE ?_ ?_ | refine splNE ?_ ?_) <;> intro hc <;> first | (exfalso; omega) | (exfalso; dsimp only at hc; omega) | skip)
 all_goals first | (exfalso; omega) | skip
 refine loopE (fun k : Nat => [(1, .ptr 0 0), (4, .v (iv k))]) (fun _ => [(0, .cells [.v (iv sl), .v (iv ro), .v (iv su), .v (.slice go G.length gc), .v (.slice to T.length tc)] 25)]) (fun k => k ≤ T.length ∧ ((T.take k).map Tc.d).all (teB su) = true) (fun k => T.length - k) 0 ⟨Nat.zero_le _, rfl⟩ ⟨rfl, rfl, trivial⟩ ⟨rfl, trivial⟩ (fun _ => ⟨rfl, rfl⟩) ?_
 clear hk hkl
 intro k ⟨hk, hall⟩
 rcases Nat.lt_or_ge k T.length with hkl | hkl
 · obtain ⟨⟨ro', rc, xs, hh'⟩, hx⟩ : ∃ b, T[k]? = some b := ⟨_, List.getElem?_eq_getElem hkl⟩
   obtain ⟨_, ad, rfl, _⟩ := ht.ptr (by omega)
   have hrr := hh _ (List.mem_of_getElem? hx)
   have hrb := b4 _ (List.mem_of_getElem? hx)
   dsimp only at hrr hrb
   have hat := all_mapT (f := Tc.d) (p := teB su) hx
   rw [hall, Bool.true_and] at hat
   have hno := all_mapN (f := Tc.d) (p := teB su) hx
   have e0 := fun (w' : World) hw' => rd_fld (ht.below (w' := w') hw') hx
   have c52 := fun (w' : World) (hw : Below w.heap.size w w') => rising_ok su xs ro' rc w' (hrr.below hw) hrb (by omega)
   have c50 := fun (w' : World) => In_ok hh' 0 40 w'
   have hte : teB su (Tc.d ⟨ro', rc, xs, hh'⟩) = (subB su xs && inB hh' 0 40) := rfl
   rw [hte] at hat hno
   cases q1 : subB su xs <;> cases q2 : inB hh' 0 40
   all_goals rw [q1] at c52
   all_goals rw [q2] at c50
   all_goals first | rw [hno (by rw [q1, q2]; rfl)] | rw [q1, q2] at hat
   all_goals skip
   repeat'
    conv => whnf
    first
     | refine zA ?_ | refine zB ?_ | refine zC ?_ | refine zD ?_ | refine zE ?_ | refine zF ?_ | refine zG ?_ | refine zH ?_ | refine zJ ?_ | refine zI ?_ | refine splT ?_ | refine splF ?_ | refine splNot ?_
     | ((first | refine splIn ?_ ?_ | refine splD ?_ ?_ | refine splE ?_ ?_ | refine splNE ?_ ?_) <;> intro hc <;> first | (exfalso; omega) | (exfalso; dsimp only at hc; omega) | skip)
     | refine Exists.intro (α := List Value) [.slice ro' xs.length rc] ⟨⟨rfl, fun w' hw' => e0 w' hw' 0 _ rfl⟩, ?_⟩
     | refine Exists.intro (α := List Value) [iv hh'] ⟨⟨rfl, fun w' hw' => e0 w' hw' 1 _ rfl⟩, ?_⟩
     | ((with_reducible show CallEv _ _ 52 _ _ _ _ _); refine callE (k := 52) (fun β w' hbw => c52 _ hbw) ?_)
     | ((with_reducible show CallEv _ _ 50 _ _ _ _ _); refine callE (k := 50) (fun β w' hbw => c50 _) ?_)
   all_goals first | (exfalso; omega) | exact ⟨fun β => rfl, fun w' h => h⟩ | exact ⟨k + 1, ⟨by omega, hat⟩, by omega, Ent.weak rfl ⟨rfl, rfl, trivial⟩ ⟨rfl, trivial⟩ fun _ h => h⟩
 rw [List.take_of_length_le hkl] at hall
 rw [hall]
 repeat'
  conv => whnf
  first
   | refine zA ?_ | refine zB ?_ | refine zC ?_ | refine zD ?_ | refine zE ?_ | refine zF ?_ | refine zG ?_ | refine zH ?_ | refine zJ ?_ | refine zI ?_ | refine splT ?_ | refine splF ?_ | refine splNot ?_
   | ((first | refine splIn ?_ ?_ | refine splD ?_ ?_ | refine splE ?_ ?_ | refine splNE ?_ ?_) <;> intro hc <;> first | (exfalso; omega) | (exfalso; dsimp only at hc; omega) | skip)
 all_goals first | (exfalso; omega) | exact ⟨fun β => rfl, fun w' h => h⟩
def thS (s : SD) : Bool := s.G.all (fun l => decide (l.length ≤ 10)) && (s.T.all (fun t => decide (t.1.length ≤ 10)) && (decide (s.G.length ≤ 12) && decide (s.T.length ≤ 12)))
structure ScX (s : Sc) : Prop where
 g : s.G.length ≤ 9223372036854775807
 r : ∀ r ∈ s.G, r.xs.length ≤ 9223372036854775807
 t : s.T.length ≤ 9223372036854775807
 h : ∀ t ∈ s.T, t.T.length ≤ 9223372036854775807
theorem ScX.b {s : Sc} (h : thS s.d = true) : ScB s := by
 unfold thS Sc.d at h
 simp only [Bool.and_eq_true, List.all_map, List.length_map, List.all_eq_true, decide_eq_true_eq, Function.comp] at h
 obtain ⟨h1, h2, h3, h4⟩ := h
 exact ⟨by omega, fun r hr => by have := h1 r hr; omega, by omega, fun t ht => by have := h2 t ht; unfold Tc.d at this; dsimp only at this; omega⟩
set_option maxHeartbeats 4000000 in
set_option maxRecDepth 100000 in
theorem Thin_ok (s : Sc) (w : World) (h : ScIn s w) (hB : ScX s) : Calls Tryz.prog 11 #[s.v] w fun e w' => e = .returned (.bool (thS s.d)) ∧ Below w.heap.size w w' := by
 obtain ⟨sl, ro, su, go, gc, G, to, tc, T⟩ := s
 obtain ⟨hg, hr, ht, hh⟩ := h
 obtain ⟨b1, b2, b3, b4⟩ := hB
 unfold thS Sc.d
 dsimp only at hg hr ht hh b1 b2 b3 b4 ⊢
 rw [List.length_map, List.length_map]
 refine calls_val env mixed Tryz.func11 has11 Tryz.ntmps11 [.agg #[iv sl, iv ro, iv su, .slice go G.length gc, .slice to T.length tc]] (by simp) ?_
 repeat'
  conv => whnf
  first
   | refine zA ?_ | refine zB ?_ | refine zC ?_ | refine zD ?_ | refine zE ?_ | refine zF ?_ | refine zG ?_ | refine zH ?_ | refine zJ ?_ | refine zI ?_ | refine splT ?_ | refine splF ?_ | refine splNot ?_
   | ((first | refine splIn ?_ ?_ | refine splD ?_ ?_ | refine splE ?_ ?_ | refine splNE ?_ ?_) <;> intro hc <;> first | (exfalso; omega) | (exfalso; dsimp only at hc; omega) | skip)
 refine loopE (fun k : Nat => [(1, .ptr 0 0), (3, .v (iv k))]) (fun _ => [(0, .cells [.v (iv sl), .v (iv ro), .v (iv su), .v (.slice go G.length gc), .v (.slice to T.length tc)] 25)]) (fun k => k ≤ G.length ∧ ((G.take k).map Rw.xs).all (fun l => decide (l.length ≤ 10)) = true) (fun k => G.length - k) 0 ⟨Nat.zero_le _, rfl⟩ ⟨rfl, rfl, trivial⟩ ⟨rfl, trivial⟩ (fun _ => ⟨rfl, rfl⟩) ?_
 intro k ⟨hk, hall⟩
 rcases Nat.lt_or_ge k G.length with hkl | hkl
 · obtain ⟨⟨ro', rc, xs⟩, hx⟩ : ∃ b, G[k]? = some b := ⟨_, List.getElem?_eq_getElem hkl⟩
   obtain ⟨_, ad, rfl, _⟩ := hg.ptr (by omega)
   have hrb := b2 _ (List.mem_of_getElem? hx)
   dsimp only at hrb
   have hat := all_mapT (f := Rw.xs) (p := fun l => decide (l.length ≤ 10)) hx
   rw [hall, Bool.true_and] at hat
   have hno := all_mapN (f := Rw.xs) (p := fun l => decide (l.length ≤ 10)) hx
   dsimp only at hat hno
   have e0 := fun (w' : World) hw' => rd_ati (hg.below (w' := w') hw') hx
   by_cases hok : xs.length ≤ 10
   · rw [decide_eq_true hok] at hat
     repeat'
      conv => whnf
      first
       | refine zA ?_ | refine zB ?_ | refine zC ?_ | refine zD ?_ | refine zE ?_ | refine zF ?_ | refine zG ?_ | refine zH ?_ | refine zJ ?_ | refine zI ?_ | refine splT ?_ | refine splF ?_ | refine splNot ?_
       | ((first | refine splIn ?_ ?_ | refine splD ?_ ?_ | refine splE ?_ ?_ | refine splNE ?_ ?_) <;> intro hc <;> first | (exfalso; omega) | (exfalso; dsimp only at hc; omega) | skip)
       | refine Exists.intro (α := List Value) [.slice ro' xs.length rc] ⟨⟨rfl, fun w' hw' => e0 w' hw'⟩, ?_⟩
     all_goals first | (exfalso; omega) | exact ⟨k + 1, ⟨by omega, hat⟩, by omega, Ent.weak rfl ⟨rfl, rfl, trivial⟩ ⟨rfl, trivial⟩ fun _ h => h⟩
   · rw [hno (decide_eq_false hok), Bool.false_and]
     repeat'
      conv => whnf
      first
       | refine zA ?_ | refine zB ?_ | refine zC ?_ | refine zD ?_ | refine zE ?_ | refine zF ?_ | refine zG ?_ | refine zH ?_ | refine zJ ?_ | refine zI ?_ | refine splT ?_ | refine splF ?_ | refine splNot ?_
       | ((first | refine splIn ?_ ?_ | refine splD ?_ ?_ | refine splE ?_ ?_ | refine splNE ?_ ?_) <;> intro hc <;> first | (exfalso; omega) | (exfalso; dsimp only at hc; omega) | skip)
       | refine Exists.intro (α := List Value) [.slice ro' xs.length rc] ⟨⟨rfl, fun w' hw' => e0 w' hw'⟩, ?_⟩
     all_goals first | (exfalso; omega) | exact ⟨fun β => rfl, fun w' h => h⟩
 rw [List.take_of_length_le hkl] at hall
 rw [hall, Bool.true_and]
 clear hall
 repeat'
  conv => whnf
  first
   | refine zA ?_ | refine zB ?_ | refine zC ?_ | refine zD ?_ | refine zE ?_ | refine zF ?_ | refine zG ?_ | refine zH ?_ | refine zJ ?_ | refine zI ?_ | refine splT ?_ | refine splF ?_ | refine splNot ?_
   | ((first | refine splIn ?_ ?_ | refine splD ?_ ?_ | refine splE ?_ ?_ | refine splNE ?_ ?_) <;> intro hc <;> first | (exfalso; omega) | (exfalso; dsimp only at hc; omega) | skip)
 all_goals first | (exfalso; omega) | skip
 refine loopE (fun k : Nat => [(1, .ptr 0 0), (4, .v (iv k))]) (fun _ => [(0, .cells [.v (iv sl), .v (iv ro), .v (iv su), .v (.slice go G.length gc), .v (.slice to T.length tc)] 25)]) (fun k => k ≤ T.length ∧ ((T.take k).map Tc.d).all (fun t => decide (t.1.length ≤ 10)) = true) (fun k => T.length - k) 0 ⟨Nat.zero_le _, rfl⟩ ⟨rfl, rfl, trivial⟩ ⟨rfl, trivial⟩ (fun _ => ⟨rfl, rfl⟩) ?_
 clear hk hkl
 intro k ⟨hk, hall⟩
 rcases Nat.lt_or_ge k T.length with hkl | hkl
 · obtain ⟨⟨ro', rc, xs, hh'⟩, hx⟩ : ∃ b, T[k]? = some b := ⟨_, List.getElem?_eq_getElem hkl⟩
   obtain ⟨_, ad, rfl, _⟩ := ht.ptr (by omega)
   have hrb := b4 _ (List.mem_of_getElem? hx)
   dsimp only at hrb
   have hat := all_mapT (f := Tc.d) (p := fun t => decide (t.1.length ≤ 10)) hx
   rw [hall, Bool.true_and] at hat
   have hno := all_mapN (f := Tc.d) (p := fun t => decide (t.1.length ≤ 10)) hx
   have e0 := fun (w' : World) hw' => rd_fld (ht.below (w' := w') hw') hx
   unfold Tc.d at hno hat
   dsimp only at hno hat
   by_cases hok : xs.length ≤ 10
   · rw [decide_eq_true hok] at hat
     repeat'
      conv => whnf
      first
       | refine zA ?_ | refine zB ?_ | refine zC ?_ | refine zD ?_ | refine zE ?_ | refine zF ?_ | refine zG ?_ | refine zH ?_ | refine zJ ?_ | refine zI ?_ | refine splT ?_ | refine splF ?_ | refine splNot ?_
       | ((first | refine splIn ?_ ?_ | refine splD ?_ ?_ | refine splE ?_ ?_ | refine splNE ?_ ?_) <;> intro hc <;> first | (exfalso; omega) | (exfalso; dsimp only at hc; omega) | skip)
       | refine Exists.intro (α := List Value) [.slice ro' xs.length rc] ⟨⟨rfl, fun w' hw' => e0 w' hw' 0 _ rfl⟩, ?_⟩
     all_goals first | (exfalso; omega) | exact ⟨k + 1, ⟨by omega, hat⟩, by omega, Ent.weak rfl ⟨rfl, rfl, trivial⟩ ⟨rfl, trivial⟩ fun _ h => h⟩
   · have hno2 : (T.map Tc.d).all (fun t => decide (t.1.length ≤ 10)) = false := hno (decide_eq_false hok)
     rw [hno2, Bool.false_and]
     repeat'
      conv => whnf
      first
       | refine zA ?_ | refine zB ?_ | refine zC ?_ | refine zD ?_ | refine zE ?_ | refine zF ?_ | refine zG ?_ | refine zH ?_ | refine zJ ?_ | refine zI ?_ | refine splT ?_ | refine splF ?_ | refine splNot ?_
       | ((first | refine splIn ?_ ?_ | refine splD ?_ ?_ | refine splE ?_ ?_ | refine splNE ?_ ?_) <;> intro hc <;> first | (exfalso; omega) | (exfalso; dsimp only at hc; omega) | skip)
       | refine Exists.intro (α := List Value) [.slice ro' xs.length rc] ⟨⟨rfl, fun w' hw' => e0 w' hw' 0 _ rfl⟩, ?_⟩
     all_goals first | (exfalso; omega) | exact ⟨fun β => rfl, fun w' h => h⟩
 rw [List.take_of_length_le hkl] at hall
 rw [hall, Bool.true_and]
 repeat'
  conv => whnf
  first
   | refine zA ?_ | refine zB ?_ | refine zC ?_ | refine zD ?_ | refine zE ?_ | refine zF ?_ | refine zG ?_ | refine zH ?_ | refine zJ ?_ | refine zI ?_ | refine splT ?_ | refine splF ?_ | refine splNot ?_
   | ((first | refine splIn ?_ ?_ | refine splD ?_ ?_ | refine splE ?_ ?_ | refine splNE ?_ ?_) <;> intro hc <;> first | (exfalso; omega) | (exfalso; dsimp only at hc; omega) | skip)
 all_goals first | (exfalso; omega) | exact ⟨fun β => congrArg Value.bool (by rw [decide_eq_true (by omega : G.length ≤ 12), Bool.true_and]; exact decide_eq_decide.2 (by omega)), fun w' h => h⟩ | exact ⟨fun β => congrArg Value.bool (by rw [decide_eq_false (by omega : ¬ G.length ≤ 12)]; rfl), fun w' h => h⟩
end Go.Proofs.YtkbfcofifhngfaaGreat
namespace Go.Proofs.YtkbfcofifhngfaaGreat.Tx
open Go Go.RowKit
set_option linter.unusedSimpArgs false
set_option linter.unusedVariables false
def GEqR (ρ : Nat → Nat) : List (Nat × SV) → Prop
 | [] => True
 | (_, s) :: r => (∀ β : Nat → Nat, s.c (fun i => β (ρ i)) = s.c β) ∧ GEqR ρ r
theorem GEqR.get {ρ : Nat → Nat} : ∀ {l : List (Nat × SV)}, GEqR ρ l → ∀ k s, lk l k = some s → ∀ β : Nat → Nat, s.c (fun i => β (ρ i)) = s.c β
 | (j, x) :: r, ha, k, s, h => by
  simp only [lk] at h
  cases hb : Nat.beq k j with
  | true => rw [hb, cond_true, Option.some.injEq] at h; subst h; exact ha.1
  | false => rw [hb, cond_false] at h; exact ha.2.get k s h
end Go.Proofs.YtkbfcofifhngfaaGreat.Tx
namespace Go.Proofs.YtkbfcofifhngfaaGreat.Tx
open Go Go.RowKit
set_option linter.unusedSimpArgs false
set_option linter.unusedVariables false
end Go.Proofs.YtkbfcofifhngfaaGreat.Tx
namespace Go.Proofs.YtkbfcofifhngfaaGreat
open Go Tx Go.RowKit
set_option linter.unusedVariables false
theorem own_heap {w : World} {b n c sz ty : Nat} {xs : List Value} (h : w.ownsRow 0 ty sz (.slice (some ⟨b, 0, none⟩) n c) n xs) : ∃ cur, w.heap[b]? = some (.cells cur ty (0, 0)) := by
 rcases h.2 with ⟨h', _⟩ | ⟨g, cap, cur, q0, q1, q2, _⟩
 · cases h'
 · simp only [Value.slice.injEq, Option.some.injEq, Addr.mk.injEq, and_true, true_and] at q0
   obtain ⟨rfl, rfl⟩ := q0
   exact ⟨cur, q2⟩
theorem own_keep {w w2 : World} {b n c sz ty : Nat} {xs : List Value} (h : w.ownsRow 0 ty sz (.slice (some ⟨b, 0, none⟩) n c) n xs) (e : w2.heap[b]? = w.heap[b]?) : w2.ownsRow 0 ty sz (.slice (some ⟨b, 0, none⟩) n c) n xs := by
 have := Blk.keep_at (β := fun _ => c) (b := b) (k := .own 0 n sz xs ty) e h
 exact this
end Go.Proofs.YtkbfcofifhngfaaGreat
namespace Go.Proofs.YtkbfcofifhngfaaGreat
open Go Tx Go.RowKit
set_option linter.unusedSimpArgs false
set_option linter.unusedVariables false
structure TbG where
 o : Nat
 c : Nat
 D : List (Nat × Nat)
abbrev TbG.v (y : TbG) : Value := .slice (some ⟨y.o, 0, none⟩) y.D.length y.c
structure TbIn (m N : Nat) (y : TbG) (C : List (List Int)) (w : World) : Prop where
 l : C.length = y.D.length
 n : ∀ r ∈ C, r.length = N
 h : w.ownsRow 0 36 1 (.slice (some ⟨y.o, 0, none⟩) y.D.length y.c) y.D.length (y.D.map fun p => .slice (some ⟨p.1, 0, none⟩) N p.2)
 r : ∀ (i : Nat) (p : Nat × Nat) (xs : List Int), y.D[i]? = some p → C[i]? = some xs → w.ownsRow 0 3 1 (.slice (some ⟨p.1, 0, none⟩) N p.2) N (xs.flatMap iF)
 d : (y.D.map Prod.fst).Nodup
 a : ∀ p ∈ y.D, m ≤ p.1 ∧ p.1 ≠ y.o
 m : m ≤ y.o
def TbG.rw (y : TbG) (C : List (List Int)) : List Rw := (y.D.zip C).map fun p => ⟨some ⟨p.1.1, 0, none⟩, p.1.2, p.2⟩
theorem TbG.rw_len {y : TbG} {C : List (List Int)} (h : C.length = y.D.length) : (y.rw C).length = y.D.length := by simp [TbG.rw, h]
theorem TbG.rw_mem {y : TbG} {C : List (List Int)} {r : Rw} (h : r ∈ y.rw C) : ∃ (i : Nat) (p : Nat × Nat) (xs : List Int), y.D[i]? = some p ∧ C[i]? = some xs ∧ r = ⟨some ⟨p.1, 0, none⟩, p.2, xs⟩ := by
 obtain ⟨i, hi⟩ := List.mem_iff_getElem?.1 h
 simp only [TbG.rw, List.getElem?_map] at hi
 cases hz : (y.D.zip C)[i]? with
 | none => rw [hz] at hi; cases hi
 | some q =>
  rw [hz, Option.map_some, Option.some.injEq] at hi
  obtain ⟨h1, h2⟩ := List.getElem?_zip_eq_some.1 hz
  exact ⟨i, q.1, q.2, h1, h2, hi.symm⟩
theorem TbIn.out {m N : Nat} {y : TbG} {C : List (List Int)} {w : World} (h : TbIn m N y C w) : Rd 1 Rw.cs (.slice (some ⟨y.o, 0, none⟩) y.D.length y.c) (y.rw C) w :=
 .inr ⟨⟨y.o, 0, none⟩, y.c, by rw [TbG.rw_len h.l], fun k b hk j v hv => by
  obtain ⟨i, p, xs, h1, h2, rfl⟩ : ∃ (i : Nat) (p : Nat × Nat) (xs : List Int), y.D[k]? = some p ∧ C[k]? = some xs ∧ b = ⟨some ⟨p.1, 0, none⟩, p.2, xs⟩ := by
   simp only [TbG.rw, List.getElem?_map] at hk
   cases hz : (y.D.zip C)[k]? with
   | none => rw [hz] at hk; cases hk
   | some q =>
    rw [hz, Option.map_some, Option.some.injEq] at hk
    obtain ⟨h1, h2⟩ := List.getElem?_zip_eq_some.1 hz
    exact ⟨k, q.1, q.2, h1, h2, hk.symm⟩
  match j, hv with
  | 0, hv =>
   have hN := h.n xs (List.mem_of_getElem? h2)
   have hv2 : (y.D.map fun p => Value.slice (some ⟨p.1, 0, none⟩) N p.2)[k]? = some v := by
    rw [List.getElem?_map, h1, Option.map_some, ← hN]; exact hv
   have := h.h.cells (g := y.o) rfl _ _ hv2
   rw [own_add, Nat.zero_add] at this
   rw [own_add, own_add, Nat.zero_add, Nat.mul_one]
   exact this⟩
theorem TbIn.row {m N : Nat} {y : TbG} {C : List (List Int)} {w : World} (h : TbIn m N y C w) : ∀ r ∈ y.rw C, Rd 1 iF (.slice r.o r.xs.length r.c) r.xs w := fun r hr => by
 obtain ⟨i, p, xs, h1, h2, rfl⟩ := TbG.rw_mem hr
 have hN := h.n xs (List.mem_of_getElem? h2)
 dsimp only
 have := h.r i p xs h1 h2
 rw [← hN] at this
 exact Rd.of_owns (sz := 1) (f := iF) (fun _ => rfl) rfl rfl this
theorem TbIn.keep {m N : Nat} {y : TbG} {C : List (List Int)} {w w2 : World} (h : TbIn m N y C w) (hs : ∀ c, m ≤ c → c < w.heap.size → w2.heap[c]? = w.heap[c]?) : TbIn m N y C w2 :=
 ⟨h.l, h.n, own_keep h.h (hs _ h.m (by obtain ⟨c, hc⟩ := own_heap h.h; exact (Array.getElem?_eq_some_iff.1 hc).1)), fun i p xs h1 h2 => own_keep (h.r i p xs h1 h2) (hs _ (h.a p (List.mem_of_getElem? h1)).1 (by obtain ⟨c, hc⟩ := own_heap (h.r i p xs h1 h2); exact (Array.getElem?_eq_some_iff.1 hc).1)), h.d, h.a, h.m⟩
theorem TbIn.st {m N : Nat} {y : TbG} {C : List (List Int)} {w : World} (h : TbIn m N y C w) : St m (TbIn m N y C) w := fun w2 k => h.keep fun c h1 h2 => k.same c h1 h2
theorem TbIn.set {m N : Nat} {y : TbG} {C : List (List Int)} {w : World} {i j : Nat} {p : Nat × Nat} {xs0 : List Int} {v : Int} (h : TbIn m N y C w) (hr : y.D[i]? = some p) (hx0 : C[i]? = some xs0) (hj : j < N) :
 TbIn m N y (C.set i (xs0.set j v)) (w.setCell ⟨p.1, j, none⟩ (iv v)) := by
 have hpa := h.a p (List.mem_of_getElem? hr)
 have hN := h.n xs0 (List.mem_of_getElem? hx0)
 refine ⟨by rw [List.length_set]; exact h.l, fun r hm => ?_, own_keep h.h (setCell_other fun e => hpa.2 e.symm), fun k q xs hq hx => ?_, h.d, h.a, h.m⟩
 · rcases List.mem_or_eq_of_mem_set hm with hm | rfl
   · exact h.n r hm
   · rw [List.length_set]; exact hN
 · by_cases hp : k = i
   · subst hp
     rw [hr, Option.some.injEq] at hq
     subst hq
     rw [List.getElem?_set, if_pos rfl, if_pos (List.getElem?_eq_some_iff.1 hx0).1, Option.some.injEq] at hx
     subst hx
     have := (World.ownsRow.stored (h.r k p xs0 hr hx0) j (iv v)).1
     have e : (xs0.flatMap iF).set j (iv v) = (xs0.set j v).flatMap iF := by
      rw [← setF (by omega), List.set_eq_take_append_cons_drop, if_pos (by rw [lenF]; omega)]; rfl
     rw [e] at this
     exact this
   · rw [List.getElem?_set, if_neg (fun e => hp e.symm)] at hx
     refine own_keep (h.r k q xs hq hx) (setCell_other fun e => ?_)
     have e1 : (y.D.map Prod.fst)[k]? = some q.1 := by rw [List.getElem?_map, hq]; rfl
     have e2 : (y.D.map Prod.fst)[i]? = some p.1 := by rw [List.getElem?_map, hr]; rfl
     have e : q.1 = p.1 := e
     rw [e] at e1
     exact hp ((List.getElem?_inj (List.getElem?_eq_some_iff.1 e1).1 h.d).1 (e1.trans e2.symm))
theorem TbIn.at {m N : Nat} {y : TbG} {C : List (List Int)} {w : World} {i j : Nat} {p : Nat × Nat} {xs0 : List Int} (h : TbIn m N y C w) (hr : y.D[i]? = some p) (hx0 : C[i]? = some xs0) (hj : j < N) :
 (∃ cs ty fr, w.heap[p.1]? = some (.cells cs ty fr) ∧ j < cs.size) ∧ w.frozen? ⟨p.1, j, none⟩ = false := by
 have q3 := h.r i p xs0 hr hx0
 have hN := h.n xs0 (List.mem_of_getElem? hx0)
 obtain ⟨e1, (⟨h1, _⟩ | ⟨g, cap, cur, h1, _, h2, h3, _, h4, h5⟩)⟩ := h.r i p xs0 hr hx0
 · cases h1
 · simp only [Value.slice.injEq, Option.some.injEq, Addr.mk.injEq] at h1
   obtain ⟨⟨rfl, _⟩, _⟩ := h1
   refine ⟨⟨cur, _, _, h2, ?_⟩, World.ownsRow.frozenAt q3 j⟩
   have h3 : N ≤ _ := h3
   omega
end Go.Proofs.YtkbfcofifhngfaaGreat
namespace Go.Proofs.YtkbfcofifhngfaaGreat
open Go Tx Go.RowKit
set_option linter.unusedSimpArgs false
set_option linter.unusedVariables false
structure Ln where
 g : Int
 j : Int
 t : Int
abbrev Ln.cs (x : Ln) : List Value := [iv x.g, iv x.j, iv x.t]
structure Lr where
 o : Option Addr
 c : Nat
 L : List Ln
abbrev Lr.cs (r : Lr) : List Value := [.slice r.o r.L.length r.c]
structure TbL (o : Option Addr) (c : Nat) (D : List Lr) (w : World) : Prop where
 t : Rd 1 Lr.cs (.slice o D.length c) D w
 r : ∀ r ∈ D, Rd 3 Ln.cs (.slice r.o r.L.length r.c) r.L w
theorem TbL.below {o : Option Addr} {c : Nat} {D : List Lr} {w w' : World} (h : TbL o c D w) (hb : Below w.heap.size w w') : TbL o c D w' := ⟨h.t.below hb, fun r hr => (h.r r hr).below hb⟩
structure TbF (X : List (List Ln)) where
 o : Option Addr
 c : Nat
 D : List Lr
 h : D.map Lr.L = X
 k : ∀ r ∈ D, r.L.length ≤ r.c ∧ (r.L = [] → r.o = none ∧ r.c = 0)
abbrev TbF.v {X : List (List Ln)} (y : TbF X) : Value := .slice y.o y.D.length y.c
end Go.Proofs.YtkbfcofifhngfaaGreat
namespace Go.Proofs.YtkbfcofifhngfaaGreat
open Go Tx Go.RowKit
set_option linter.unusedSimpArgs false
set_option linter.unusedVariables false
def fsN (f : Nat → Bool) : Nat → Nat → Nat
 | 0, k => k
 | n + 1, k => if f k then k else fsN f n (k + 1)
theorem fsN_spec {f : Nat → Bool} : ∀ (n k : Nat), k ≤ fsN f n k ∧ fsN f n k ≤ k + n ∧ (∀ i, k ≤ i → i < fsN f n k → f i = false) ∧ (fsN f n k < k + n → f (fsN f n k) = true)
 | 0, k => ⟨Nat.le_refl _, Nat.le_refl _, fun i h1 h2 => by simp only [fsN] at h2; omega, fun h => by simp only [fsN] at h; omega⟩
 | n + 1, k => by
  rw [fsN]
  split
  · rename_i hp
    exact ⟨Nat.le_refl _, by omega, fun i h1 h2 => by omega, fun _ => hp⟩
  · rename_i hp
    obtain ⟨h1, h2, h3, h4⟩ := fsN_spec (f := f) n (k + 1)
    refine ⟨by omega, by omega, fun i q1 q2 => ?_, fun h => h4 (by omega)⟩
    by_cases hi : i = k
    · subst hi; simpa using hp
    · exact h3 i (by omega) q2
theorem fsN_hit {f : Nat → Bool} {n k : Nat} (h : ∀ i, i < k → f i = false) (hk : f k = true) (hn : k < n) : fsN f n 0 = k := by
 obtain ⟨_, h2, h3, h4⟩ := fsN_spec (f := f) n 0
 rcases Nat.lt_trichotomy (fsN f n 0) k with c | c | c
 · have q1 := h4 (by omega)
   have q2 := h _ c
   rw [q1] at q2; cases q2
 · exact c
 · have := h3 k (by omega) c
   rw [hk] at this; cases this
theorem fsN_none {f : Nat → Bool} {n : Nat} (h : ∀ i, i < n → f i = false) : fsN f n 0 = n := by
 obtain ⟨_, h2, h3, h4⟩ := fsN_spec (f := f) n 0
 rcases Nat.lt_or_ge (fsN f n 0) n with c | c
 · have := h _ c
   rw [h4 (by omega)] at this; cases this
 · omega
def ixN (f : Nat → Bool) (n : Nat) : Int := if fsN f n 0 < n then (fsN f n 0 : Int) else -1
theorem ixN_hit {f : Nat → Bool} {n k : Nat} (h : ∀ i, i < k → f i = false) (hk : f k = true) (hn : k < n) : ixN f n = k := by unfold ixN; rw [fsN_hit h hk hn, if_pos hn]
theorem ixN_none {f : Nat → Bool} {n : Nat} (h : ∀ i, i < n → f i = false) : ixN f n = -1 := by unfold ixN; rw [fsN_none h, if_neg (by omega)]
theorem lt_succ_of {f : Nat → Bool} {k : Nat} (h : ∀ i, i < k → f i = false) (hk : f k = false) : ∀ i, i < k + 1 → f i = false := fun i hi => by
 by_cases e : i = k
 · subst e; exact hk
 · exact h i (by omega)
def eqL (l : List Int) (x : Int) (i : Nat) : Bool := l.getD i 0 == x
set_option maxHeartbeats 1000000 in
set_option maxRecDepth 100000 in
theorem Index_ok (l : List Int) (o : Option Addr) (c : Nat) (x : Int) (w : World) (hrd : Rd 1 iF (.slice o l.length c) l w) (hl : l.length ≤ 1000000) :
 Calls Tryz.prog 44 #[.slice o l.length c, iv x] w fun e w' => e = .returned (iv (ixN (eqL l x) l.length)) ∧ Below w.heap.size w w' := by
 refine calls_val env mixed Tryz.func44 has44 Tryz.ntmps44 [.slice o l.length c, iv x] (by simp) ?_
 repeat'
  conv => whnf
  first
   | refine zA ?_ | refine zB ?_ | refine zC ?_ | refine zD ?_ | refine zE ?_ | refine zF ?_ | refine zG ?_ | refine zH ?_ | refine zJ ?_ | refine zI ?_ | refine splT ?_ | refine splF ?_ | refine splNot ?_
   | ((first | refine splIn ?_ ?_ | refine splD ?_ ?_ | refine splE ?_ ?_ | refine splNE ?_ ?_) <;> intro hc <;> first | (exfalso; omega) | (exfalso; dsimp only at hc; omega) | skip)
 refine loopE (fun k : Nat => [(0, .v (.slice o l.length c)), (1, .v (iv x)), (7, .v (iv l.length)), (8, .v (iv k))]) (fun _ => []) (fun k => k ≤ l.length ∧ ∀ i, i < k → eqL l x i = false) (fun k => l.length - k) 0 ⟨Nat.zero_le _, fun i h => absurd h (by omega)⟩ ⟨rfl, rfl, rfl, rfl, trivial⟩ trivial (fun _ => ⟨rfl, rfl⟩) ?_
 intro k ⟨hk, hall⟩
 rcases Nat.lt_or_ge k l.length with hkl | hkl
 · obtain ⟨y, hy⟩ : ∃ b, l[k]? = some b := ⟨_, List.getElem?_eq_getElem hkl⟩
   obtain ⟨_, ad, rfl, _⟩ := hrd.ptr (by omega)
   have e0 := fun (w' : World) hw' => rd_ati (hrd.below (w' := w') hw') hy
   have he : eqL l x k = (y == x) := by unfold eqL; rw [getD_at hy]
   by_cases hyx : x = y
   · rw [ixN_hit hall (by rw [he, hyx]; simp) hkl]
     repeat'
      conv => whnf
      first
       | refine zA ?_ | refine zB ?_ | refine zC ?_ | refine zD ?_ | refine zE ?_ | refine zF ?_ | refine zG ?_ | refine zH ?_ | refine zJ ?_ | refine zI ?_ | refine splT ?_ | refine splF ?_ | refine splNot ?_
       | ((first | refine splIn ?_ ?_ | refine splD ?_ ?_ | refine splE ?_ ?_ | refine splNE ?_ ?_) <;> intro hc <;> first | (exfalso; omega) | (exfalso; dsimp only at hc; omega) | skip)
       | refine Exists.intro (α := List Value) [iv y] ⟨⟨rfl, fun w' hw' => e0 w' hw'⟩, ?_⟩
     all_goals first | (exfalso; omega) | exact ⟨fun β => rfl, fun w' h => h⟩
   · have hf : eqL l x k = false := by rw [he]; simp; omega
     repeat'
      conv => whnf
      first
       | refine zA ?_ | refine zB ?_ | refine zC ?_ | refine zD ?_ | refine zE ?_ | refine zF ?_ | refine zG ?_ | refine zH ?_ | refine zJ ?_ | refine zI ?_ | refine splT ?_ | refine splF ?_ | refine splNot ?_
       | ((first | refine splIn ?_ ?_ | refine splD ?_ ?_ | refine splE ?_ ?_ | refine splNE ?_ ?_) <;> intro hc <;> first | (exfalso; omega) | (exfalso; dsimp only at hc; omega) | skip)
       | refine Exists.intro (α := List Value) [iv y] ⟨⟨rfl, fun w' hw' => e0 w' hw'⟩, ?_⟩
     all_goals first | (exfalso; omega) | exact ⟨k + 1, ⟨by omega, lt_succ_of hall hf⟩, by omega, Ent.weak rfl ⟨rfl, rfl, rfl, rfl, trivial⟩ trivial fun _ h => h⟩
 · rw [ixN_none fun i hi => hall i (by omega)]
   repeat'
    conv => whnf
    first
     | refine zA ?_ | refine zB ?_ | refine zC ?_ | refine zD ?_ | refine zE ?_ | refine zF ?_ | refine zG ?_ | refine zH ?_ | refine zJ ?_ | refine zI ?_ | refine splT ?_ | refine splF ?_ | refine splNot ?_
     | ((first | refine splIn ?_ ?_ | refine splD ?_ ?_ | refine splE ?_ ?_ | refine splNE ?_ ?_) <;> intro hc <;> first | (exfalso; omega) | (exfalso; dsimp only at hc; omega) | skip)
   all_goals first | (exfalso; omega) | exact ⟨fun β => rfl, fun w' h => h⟩
theorem ixN_contains (l : List Int) (x : Int) : decide (ixN (eqL l x) l.length ≥ 0) = l.contains x := by
 rw [Bool.eq_iff_iff, decide_eq_true_eq, List.contains_iff_mem]
 constructor
 · intro h
   obtain ⟨_, h2, h3, h4⟩ := fsN_spec (f := eqL l x) l.length 0
   unfold ixN at h
   split at h
   · rename_i hlt
     have := h4 (by omega)
     generalize fsN (eqL l x) l.length 0 = I at *
     unfold eqL at this
     rw [List.getD_eq_getElem?_getD, List.getElem?_eq_getElem hlt] at this
     have he : l[I] = x := by simpa using this
     rw [← he]; exact List.getElem_mem _
   · omega
 · intro h
   obtain ⟨i, hi, rfl⟩ := List.getElem_of_mem h
   unfold ixN
   split
   · omega
   · rename_i hlt
     obtain ⟨_, h2, h3, h4⟩ := fsN_spec (f := eqL l l[i]) l.length 0
     have := h3 i (by omega) (by omega)
     unfold eqL at this
     rw [List.getD_eq_getElem?_getD, List.getElem?_eq_getElem hi] at this
     simp at this
theorem Contains_ok (l : List Int) (o : Option Addr) (c : Nat) (x : Int) (w : World) (hrd : Rd 1 iF (.slice o l.length c) l w) (hl : l.length ≤ 1000000) :
 Calls Tryz.prog 127 #[.slice o l.length c, iv x] w fun e w' => e = .returned (.bool (l.contains x)) ∧ Below w.heap.size w w' := by
 have c44 := fun (w' : World) (hb : Below w.heap.size w w') => Index_ok l o c x w' (hrd.below hb) hl
 rw [← ixN_contains]
 generalize ixN (eqL l x) l.length = z at *
 refine calls_val env mixed Tryz.func127 has127 Tryz.ntmps127 [.slice o l.length c, iv x] (by simp) ?_
 repeat'
  conv => whnf
  first
   | refine zA ?_ | refine zB ?_ | refine zC ?_ | refine zD ?_ | refine zE ?_ | refine zF ?_ | refine zG ?_ | refine zH ?_ | refine zJ ?_ | refine zI ?_ | refine splT ?_ | refine splF ?_ | refine splNot ?_
   | ((first | refine splIn ?_ ?_ | refine splD ?_ ?_ | refine splE ?_ ?_ | refine splNE ?_ ?_) <;> intro hc <;> first | (exfalso; omega) | (exfalso; dsimp only at hc; omega) | skip)
   | ((with_reducible show CallEv _ _ 44 _ _ _ _ _); refine callE (k := 44) (fun β w' hbw => c44 _ hbw) ?_)
 all_goals first | (exfalso; omega) | exact ⟨fun β => rfl, fun w' h => h⟩
end Go.Proofs.YtkbfcofifhngfaaGreat
namespace Go.Proofs.YtkbfcofifhngfaaGreat
open Go Tx Go.RowKit
set_option linter.unusedSimpArgs false
set_option linter.unusedVariables false
theorem sum_tk {α : Type} {f : α → Int} {X : List α} {k : Nat} {x : α} (h : X[k]? = some x) : ((X.take (k + 1)).map f).sum = ((X.take k).map f).sum + f x := by
 rw [List.take_add_one, h]; simp
theorem sum_b {α : Type} {f : α → Int} {M : Nat} : ∀ (X : List α), (∀ x ∈ X, 0 ≤ f x ∧ f x ≤ M) → 0 ≤ (X.map f).sum ∧ (X.map f).sum ≤ M * X.length
 | [], _ => by simp
 | x :: X, h => by
  have h1 := h x (by simp)
  have h2 := sum_b X fun y hy => h y (by simp [hy])
  simp only [List.map_cons, List.sum_cons, List.length_cons, Int.natCast_add, Int.mul_add]
  omega
theorem sum_bt {α : Type} {f : α → Int} {M : Nat} {X : List α} (h : ∀ x ∈ X, 0 ≤ f x ∧ f x ≤ M) (k : Nat) : 0 ≤ ((X.take k).map f).sum ∧ ((X.take k).map f).sum ≤ M * X.length := by
 have h1 := sum_b (X.take k) fun x hx => h x (List.mem_of_mem_take hx)
 have h2 : (X.take k).length ≤ X.length := List.length_take_le' _ _
 have h3 : (M : Int) * (X.take k).length ≤ M * X.length := Int.mul_le_mul_of_nonneg_left (by omega) (by omega)
 omega
set_option maxHeartbeats 1000000 in
set_option maxRecDepth 100000 in
theorem sum92_ok (L : List Int) (o : Option Addr) (c : Nat) (w : World) (hrd : Rd 1 iF (.slice o L.length c) L w) (hl : L.length ≤ 1000000) (hb : ∀ x ∈ L, 0 ≤ x ∧ x ≤ (1000 : Nat)) :
 Calls Tryz.prog 92 #[.slice o L.length c] w fun e w' => e = .returned (iv (L.map id).sum) ∧ Below w.heap.size w w' := by
 refine calls_val env mixed Tryz.func92 has92 Tryz.ntmps92 [.slice o L.length c] (by simp) ?_
 repeat'
  conv => whnf
  first
   | refine zA ?_ | refine zB ?_ | refine zC ?_ | refine zD ?_ | refine zE ?_ | refine zF ?_ | refine zG ?_ | refine zH ?_ | refine zJ ?_ | refine zI ?_ | refine splT ?_ | refine splF ?_ | refine splNot ?_
   | ((first | refine splIn ?_ ?_ | refine splD ?_ ?_ | refine splE ?_ ?_ | refine splNE ?_ ?_) <;> intro hc <;> first | (exfalso; omega) | (exfalso; dsimp only at hc; omega) | skip)
 refine loopE (fun k : Nat => [(2, .v (iv ((L.take k).map id).sum)), (5, .v (.slice o L.length c)), (6, .v (iv L.length)), (7, .v (iv k))]) (fun _ => []) (fun k => k ≤ L.length) (fun k => L.length - k) 0 (Nat.zero_le _) ⟨rfl, rfl, rfl, rfl, trivial⟩ trivial (fun _ => ⟨rfl, rfl⟩) ?_
 intro k hk
 rcases Nat.lt_or_ge k L.length with hkl | hkl
 · obtain ⟨y, hy⟩ : ∃ b, L[k]? = some b := ⟨_, List.getElem?_eq_getElem hkl⟩
   obtain ⟨_, ad, rfl, _⟩ := hrd.ptr (by omega)
   have e0 := fun (w' : World) hw' => rd_ati (hrd.below (w' := w') hw') hy
   have h1 := sum_bt (f := id) hb k
   have h2 := hb y (List.mem_of_getElem? hy)
   have h3 := sum_tk (f := id) hy
   simp only [id] at h3
   generalize ((L.take k).map id).sum = S at *
   repeat'
    conv => whnf
    first
     | refine zA ?_ | refine zB ?_ | refine zC ?_ | refine zD ?_ | refine zE ?_ | refine zF ?_ | refine zG ?_ | refine zH ?_ | refine zJ ?_ | refine zI ?_ | refine splT ?_ | refine splF ?_ | refine splNot ?_
     | ((first | refine splIn ?_ ?_ | refine splD ?_ ?_ | refine splE ?_ ?_ | refine splNE ?_ ?_) <;> intro hc <;> first | (exfalso; omega) | (exfalso; dsimp only at hc; omega) | skip)
     | refine Exists.intro (α := List Value) [iv y] ⟨⟨rfl, fun w' hw' => e0 w' hw'⟩, ?_⟩
   all_goals first | (exfalso; omega) | exact ⟨k + 1, by omega, by omega, Ent.weak rfl ⟨by rw [h3]; rfl, rfl, rfl, rfl, trivial⟩ trivial fun _ h => h⟩
 · obtain rfl : k = L.length := by omega
   rw [List.take_length]
   repeat'
    conv => whnf
    first
     | refine zA ?_ | refine zB ?_ | refine zC ?_ | refine zD ?_ | refine zE ?_ | refine zF ?_ | refine zG ?_ | refine zH ?_ | refine zJ ?_ | refine zI ?_ | refine splT ?_ | refine splF ?_ | refine splNot ?_
     | ((first | refine splIn ?_ ?_ | refine splD ?_ ?_ | refine splE ?_ ?_ | refine splNE ?_ ?_) <;> intro hc <;> first | (exfalso; omega) | (exfalso; dsimp only at hc; omega) | skip)
   all_goals first | (exfalso; omega) | exact ⟨fun β => rfl, fun w' h => h⟩
def rowH (l : List Int) (g : List Int) : Int := (l.map fun j => g.getD j.toNat 0).sum
def hoursP (s : SD) (l : List Int) : Int := (s.G.map (rowH l)).sum
def subIn (s : SD) (l : List Int) : Prop := l.length ≤ 10 ∧ ∀ j ∈ l, 0 ≤ j ∧ j ≤ s.su - 1
theorem grp_at {s : SD} (hv : scOk s = true) {g : List Int} (hg : g ∈ s.G) : (g.length : Int) = s.su ∧ ∀ x ∈ g, 0 ≤ x ∧ x ≤ (20 : Nat) := by
 obtain ⟨hv1, hv2, hv3, hv4, hv5, hv6, hv7⟩ := scOk_iff.1 hv
 have := List.all_eq_true.1 hv6 g hg
 unfold grB evB at this
 simp only [Bool.and_eq_true, decide_eq_true_eq, List.all_eq_true] at this
 exact ⟨this.1, fun x hx => inB_iff.1 (this.2 x hx)⟩
theorem rowH_bd {s : SD} (hv : scOk s = true) {g : List Int} (hg : g ∈ s.G) (l : List Int) (hl : l.length ≤ 10) : 0 ≤ rowH l g ∧ rowH l g ≤ (200 : Nat) := by
 have h := sum_b (f := fun j : Int => g.getD j.toNat 0) (M := 20) l fun j _ => by
  rw [List.getD_eq_getElem?_getD]
  cases hx : g[j.toNat]? with
  | none => simp
  | some x => exact (grp_at hv hg).2 x (List.mem_of_getElem? hx)
 unfold rowH
 omega
set_option maxHeartbeats 2000000 in
set_option maxRecDepth 100000 in
theorem hours_ok (s : Sc) (l : List Int) (o : Option Addr) (c : Nat) (w : World) (h : ScIn s w) (hv : scOk s.d = true) (hrd : Rd 1 iF (.slice o l.length c) l w) (hs : subIn s.d l) :
 Calls Tryz.prog 93 #[s.v, .slice o l.length c] w fun e w' => e = .returned (iv (hoursP s.d l)) ∧ Below w.heap.size w w' := by
 have hbd := fun (g : List Int) (hg : g ∈ s.d.G) => rowH_bd hv hg l hs.1
 have hgrp := fun (g : List Int) (hg : g ∈ s.d.G) => grp_at hv hg
 obtain ⟨hv1, hv2, hv3, hv4, hv5, hv6, hv7⟩ := scOk_iff.1 hv
 obtain ⟨hs1, hs2⟩ := hs
 obtain ⟨hg, hr, ht, hh⟩ := h
 obtain ⟨sl, ro, su, go, gc, G, to, tc, T⟩ := s
 unfold hoursP
 dsimp only [Sc.d] at hbd hgrp hs2 hv4 hv3 hg hr ⊢
 rw [List.length_map] at hv4
 refine calls_val env mixed Tryz.func93 has93 Tryz.ntmps93 [.agg #[iv sl, iv ro, iv su, .slice go G.length gc, .slice to T.length tc], .slice o l.length c] (by simp) ?_
 repeat'
  conv => whnf
  first
   | refine zA ?_ | refine zB ?_ | refine zC ?_ | refine zD ?_ | refine zE ?_ | refine zF ?_ | refine zG ?_ | refine zH ?_ | refine zJ ?_ | refine zI ?_ | refine splT ?_ | refine splF ?_ | refine splNot ?_
   | ((first | refine splIn ?_ ?_ | refine splD ?_ ?_ | refine splE ?_ ?_ | refine splNE ?_ ?_) <;> intro hc <;> first | (exfalso; omega) | (exfalso; dsimp only at hc; omega) | skip)
 refine loopN 1 (fun k : Nat => [(1, .v (.slice o l.length c)), (4, .v (iv (((G.map Rw.xs).take k).map (rowH l)).sum)), (10, .v (.slice go G.length gc)), (11, .v (iv G.length)), (12, .v (iv k))]) (fun _ => []) (fun k => k ≤ G.length) (fun k => G.length - k) 0 (Nat.zero_le _) ⟨rfl, rfl, rfl, rfl, rfl, trivial⟩ trivial (fun _ _ => ⟨rfl, rfl⟩) ?_
 intro k hk
 have h1 := sum_bt (f := rowH l) hbd k
 rw [List.length_map] at h1
 rcases Nat.lt_or_ge k G.length with hkl | hkl
 · obtain ⟨⟨ro', rc, xs⟩, hx⟩ : ∃ b, G[k]? = some b := ⟨_, List.getElem?_eq_getElem hkl⟩
   obtain ⟨_, ad, rfl, _⟩ := hg.ptr (by omega)
   have e0 := fun (w' : World) hw' => rd_ati (hg.below (w' := w') hw') hx
   have hrr := hr _ (List.mem_of_getElem? hx)
   change Rd 1 iF (.slice ro' xs.length rc) xs w at hrr
   have hmx : (G.map Rw.xs)[k]? = some xs := by rw [List.getElem?_map, hx]; rfl
   have h3 := sum_tk (f := rowH l) hmx
   have hxs := hgrp xs (List.mem_of_getElem? hmx)
   generalize (((G.map Rw.xs).take k).map (rowH l)).sum = S at *
   repeat'
    conv => whnf
    first
     | refine zA ?_ | refine zB ?_ | refine zC ?_ | refine zD ?_ | refine zE ?_ | refine zF ?_ | refine zG ?_ | refine zH ?_ | refine zJ ?_ | refine zI ?_ | refine splT ?_ | refine splF ?_ | refine splNot ?_
     | ((first | refine splIn ?_ ?_ | refine splD ?_ ?_ | refine splE ?_ ?_ | refine splNE ?_ ?_) <;> intro hc <;> first | (exfalso; omega) | (exfalso; dsimp only at hc; omega) | skip)
     | refine Exists.intro (α := List Value) [.slice ro' xs.length rc] ⟨⟨rfl, fun w' hw' => e0 w' hw'⟩, ?_⟩
   all_goals first | (exfalso; omega) | skip
   refine loopN 1 (fun i : Nat => [(1, .v (.slice o l.length c)), (4, .v (iv (S + ((l.take i).map fun j => xs.getD j.toNat 0).sum))), (6, .v (.slice ro' xs.length rc)), (10, .v (.slice (some ad) G.length gc)), (11, .v (iv G.length)), (12, .v (iv k)), (16, .v (.slice o l.length c)), (17, .v (iv l.length)), (18, .v (iv i))]) (fun _ => []) (fun i => i ≤ l.length) (fun i => l.length - i) 0 (Nat.zero_le _) ⟨rfl, by simp; rfl, rfl, rfl, rfl, rfl, rfl, rfl, rfl, trivial⟩ trivial (fun _ _ => ⟨rfl, rfl⟩) ?_
   intro i hi
   rcases Nat.lt_or_ge i l.length with hil | hil
   · obtain ⟨j, hj⟩ : ∃ b, l[i]? = some b := ⟨_, List.getElem?_eq_getElem hil⟩
     obtain ⟨_, ad2, rfl, _⟩ := hrd.ptr (by omega)
     have hjb := hs2 j (List.mem_of_getElem? hj)
     obtain ⟨jn, rfl⟩ := Int.eq_ofNat_of_zero_le hjb.1
     obtain ⟨v, hvx⟩ : ∃ v, xs[jn]? = some v := ⟨_, List.getElem?_eq_getElem (by omega)⟩
     obtain ⟨_, ad3, rfl, _⟩ := hrr.ptr (by omega)
     have e1 := fun (w' : World) hw' => rd_ati (hrd.below (w' := w') hw') hj
     have e2 := fun (w' : World) hw' => rd_ati (hrr.below (w' := w') hw') hvx
     have hvb := hxs.2 v (List.mem_of_getElem? hvx)
     have h4 := sum_tk (f := fun j : Int => xs.getD j.toNat 0) hj
     have hgv : xs.getD (jn : Int).toNat 0 = v := by rw [Int.toNat_natCast, List.getD_eq_getElem?_getD, hvx]; rfl
     rw [hgv] at h4
     have h5 := sum_bt (f := fun j : Int => xs.getD j.toNat 0) (M := 20) (X := l) (fun j _ => by
      rw [List.getD_eq_getElem?_getD]
      cases hx : xs[j.toNat]? with
      | none => simp
      | some x => exact hxs.2 x (List.mem_of_getElem? hx)) i
     generalize ((l.take i).map fun j : Int => xs.getD j.toNat 0).sum = R at *
     repeat'
      conv => whnf
      first
       | refine zA ?_ | refine zB ?_ | refine zC ?_ | refine zD ?_ | refine zE ?_ | refine zF ?_ | refine zG ?_ | refine zH ?_ | refine zJ ?_ | refine zI ?_ | refine splT ?_ | refine splF ?_ | refine splNot ?_
       | ((first | refine splIn ?_ ?_ | refine splD ?_ ?_ | refine splE ?_ ?_ | refine splNE ?_ ?_) <;> intro hc <;> first | (exfalso; omega) | (exfalso; dsimp only at hc; omega) | skip)
       | refine Exists.intro (α := List Value) [iv jn] ⟨⟨rfl, fun w' hw' => e1 w' hw'⟩, ?_⟩
       | refine Exists.intro (α := List Value) [iv v] ⟨⟨rfl, fun w' hw' => e2 w' hw'⟩, ?_⟩
     all_goals first | (exfalso; omega) | exact ⟨i + 1, by omega, by omega, Ent.weak rfl ⟨rfl, by rw [h4, ← Int.add_assoc]; rfl, rfl, rfl, rfl, rfl, rfl, rfl, rfl, trivial⟩ trivial fun _ h => h⟩
   · obtain rfl : i = l.length := by omega
     rw [List.take_length]
     have h5 := hbd xs (List.mem_of_getElem? hmx)
     have h6 : (l.map fun j : Int => xs.getD j.toNat 0).sum = rowH l xs := rfl
     rw [h6]
     generalize rowH l xs = R at *
     repeat'
      conv => whnf
      first
       | refine zA ?_ | refine zB ?_ | refine zC ?_ | refine zD ?_ | refine zE ?_ | refine zF ?_ | refine zG ?_ | refine zH ?_ | refine zJ ?_ | refine zI ?_ | refine splT ?_ | refine splF ?_ | refine splNot ?_
       | ((first | refine splIn ?_ ?_ | refine splD ?_ ?_ | refine splE ?_ ?_ | refine splNE ?_ ?_) <;> intro hc <;> first | (exfalso; omega) | (exfalso; dsimp only at hc; omega) | skip)
     all_goals first | (exfalso; omega) | exact ⟨k + 1, by omega, by omega, Ent.weak rfl ⟨rfl, by rw [h3]; rfl, rfl, rfl, rfl, trivial⟩ trivial fun _ h => h⟩
 · obtain rfl : k = G.length := by omega
   rw [show (G.map Rw.xs).take G.length = G.map Rw.xs from List.take_of_length_le (by simp)]
   repeat'
    conv => whnf
    first
     | refine zA ?_ | refine zB ?_ | refine zC ?_ | refine zD ?_ | refine zE ?_ | refine zF ?_ | refine zG ?_ | refine zH ?_ | refine zJ ?_ | refine zI ?_ | refine splT ?_ | refine splF ?_ | refine splNot ?_
     | ((first | refine splIn ?_ ?_ | refine splD ?_ ?_ | refine splE ?_ ?_ | refine splNE ?_ ?_) <;> intro hc <;> first | (exfalso; omega) | (exfalso; dsimp only at hc; omega) | skip)
   all_goals first | (exfalso; omega) | exact ⟨fun β => rfl, fun w' h => h⟩
end Go.Proofs.YtkbfcofifhngfaaGreat
namespace Go.Proofs.YtkbfcofifhngfaaGreat
open Go Tx Go.RowKit
set_option linter.unusedSimpArgs false
set_option linter.unusedVariables false
set_option maxRecDepth 100000
end Go.Proofs.YtkbfcofifhngfaaGreat
namespace Go.Proofs.YtkbfcofifhngfaaGreat.Tx
open Go Go.RowKit
set_option linter.unusedSimpArgs false
set_option linter.unusedVariables false
end Go.Proofs.YtkbfcofifhngfaaGreat.Tx
namespace Go.Proofs.YtkbfcofifhngfaaGreat
open Go Tx Go.RowKit
set_option linter.unusedSimpArgs false
set_option linter.unusedVariables false
def tbV (n : Nat) (f : Nat → Int) : List Value := (List.range n).map fun p => iv (f p)
theorem tbV_len (n : Nat) (f : Nat → Int) : (tbV n f).length = n := by simp [tbV]
theorem tbV_at {n : Nat} (f : Nat → Int) {p : Nat} (h : p < n) : (tbV n f)[p]? = some (iv (f p)) := by simp [tbV, h]
def updF (f : Nat → Int) (p : Nat) (v : Int) : Nat → Int := fun q => if q = p then v else f q
theorem tbV_set {n : Nat} (f : Nat → Int) {p : Nat} (v : Int) (h : p < n) : (tbV n f).take p ++ [iv v] ++ (tbV n f).drop (p + 1) = tbV n (updF f p v) := by
 have e : (tbV n f).take p ++ [iv v] ++ (tbV n f).drop (p + 1) = (tbV n f).set p (iv v) := by
  rw [List.set_eq_take_append_cons_drop, if_pos (by rw [tbV_len]; exact h), List.append_assoc, List.singleton_append]
 rw [e]
 apply List.ext_getElem?
 intro q
 rw [List.getElem?_set, tbV_len]
 by_cases hq : p = q
 · subst hq; rw [if_pos rfl, if_pos h, tbV_at _ h]; simp [updF]
 · rw [if_neg hq]
   by_cases hn : q < n
   · rw [tbV_at _ hn, tbV_at _ hn, updF, if_neg (fun h => hq h.symm)]
   · rw [List.getElem?_eq_none (by rw [tbV_len]; omega), List.getElem?_eq_none (by rw [tbV_len]; omega)]
theorem und3 : Tryz.prog.underlying 3 = some (.int .i64) := by kernel_rfl
end Go.Proofs.YtkbfcofifhngfaaGreat
namespace Go.Proofs.YtkbfcofifhngfaaGreat
open Go Tx Go.RowKit
set_option linter.unusedSimpArgs false
set_option linter.unusedVariables false
theorem any_take {α : Type} {p : α → Bool} {L : List α} {k : Nat} {x : α} (h : L[k]? = some x) : (L.take (k + 1)).any p = ((L.take k).any p || p x) := by
 rw [List.take_add_one, h]; simp
theorem any_yes {α : Type} {p : α → Bool} {L : List α} {k : Nat} {x : α} (h : L[k]? = some x) (hx : p x = true) : L.any p = true := List.any_eq_true.2 ⟨x, List.mem_of_getElem? h, hx⟩
set_option maxHeartbeats 1000000 in
set_option maxRecDepth 100000 in
theorem cl131_ok (b : Nat) (l : List Int) (o : Option Addr) (c : Nat) (j : Int) (w : World) (hb : w.heap[b]? = some (.cells #[.slice o l.length c] 36 (0, 0))) (hrd : Rd 1 iF (.slice o l.length c) l w) (hl : l.length ≤ 1000000) :
 Calls Tryz.prog 131 #[iv j, .pointer (some ⟨b, 0, none⟩)] w fun e w' => e = .returned (.bool (l.contains j)) ∧ Below w.heap.size w w' := by
 have c127 := fun (w' : World) (hw : Below w.heap.size w w') => Contains_ok l o c j w' (hrd.below hw) hl
 have e0 := fun (w' : World) (hw : Below w.heap.size w w') => cell_at (C := [.slice o l.length c]) (heap_below hb hw) (o := 0) (v := .slice o l.length c) rfl
 refine calls_val env mixed Tryz.func131 has131 Tryz.ntmps131 [iv j, .pointer (some ⟨b, 0, none⟩)] (by simp) ?_
 repeat'
  conv => whnf
  first
   | refine zA ?_ | refine zB ?_ | refine zC ?_ | refine zD ?_ | refine zE ?_ | refine zF ?_ | refine zG ?_ | refine zH ?_ | refine zJ ?_ | refine zI ?_ | refine splT ?_ | refine splF ?_ | refine splNot ?_
   | ((first | refine splIn ?_ ?_ | refine splD ?_ ?_ | refine splE ?_ ?_ | refine splNE ?_ ?_) <;> intro hc <;> first | (exfalso; omega) | (exfalso; dsimp only at hc; omega) | skip)
   | refine Exists.intro (α := List Value) [.slice o l.length c] ⟨⟨rfl, fun w' hw' => e0 w' hw'⟩, ?_⟩
   | ((with_reducible show CallEv _ _ 127 _ _ _ _ _); refine callE (k := 127) (fun β w' hbw => c127 _ hbw) ?_)
 all_goals first | exact ⟨fun β => rfl, fun w' h => h⟩ | (exfalso; omega)
set_option maxHeartbeats 1000000 in
set_option maxRecDepth 100000 in
theorem any106_ok (T : List Int) (o' : Option Addr) (c' : Nat) (b : Nat) (l : List Int) (o : Option Addr) (c : Nat) (w : World) (hT : Rd 1 iF (.slice o' T.length c') T w) (hTl : T.length ≤ 1000000) (hb : w.heap[b]? = some (.cells #[.slice o l.length c] 36 (0, 0))) (hrd : Rd 1 iF (.slice o l.length c) l w) (hl : l.length ≤ 1000000) :
 Calls Tryz.prog 106 #[.slice o' T.length c', .func (.func 131) #[] #[.pointer (some ⟨b, 0, none⟩)]] w fun e w' => e = .returned (.bool (T.any fun j => l.contains j)) ∧ Below w.heap.size w w' := by
 refine calls_val env mixed Tryz.func106 has106 Tryz.ntmps106 [.slice o' T.length c', .func (.func 131) #[] #[.pointer (some ⟨b, 0, none⟩)]] (by simp) ?_
 repeat'
  conv => whnf
  first
   | refine zA ?_ | refine zB ?_ | refine zC ?_ | refine zD ?_ | refine zE ?_ | refine zF ?_ | refine zG ?_ | refine zH ?_ | refine zJ ?_ | refine zI ?_ | refine splT ?_ | refine splF ?_ | refine splNot ?_
   | ((first | refine splIn ?_ ?_ | refine splD ?_ ?_ | refine splE ?_ ?_ | refine splNE ?_ ?_) <;> intro hc <;> first | (exfalso; omega) | (exfalso; dsimp only at hc; omega) | skip)
   | ((with_reducible show CallEv _ _ 140 _ _ _ _ _); refine callI env mixed 1000 [] Tryz.func140 has140 Tryz.ntmps140 (Nat.le_of_ble_eq_true rfl) rfl rfl rfl ?_)
 refine loopE (fun k : Nat => [(0, .v (.slice o' T.length c')), (1, .v (.func (.func 131) #[] #[.pointer (some ⟨b, 0, none⟩)])), (7, .v (iv T.length)), (8, .v (iv k))]) (fun _ => []) (fun k => k ≤ T.length ∧ ((T.take k).any fun j => l.contains j) = false) (fun k => T.length - k) 0 ⟨Nat.zero_le _, rfl⟩ ⟨rfl, rfl, rfl, rfl, trivial⟩ trivial (fun _ => ⟨rfl, rfl⟩) ?_
 intro k ⟨hk, hall⟩
 rcases Nat.lt_or_ge k T.length with hkl | hkl
 · obtain ⟨y, hy⟩ : ∃ b, T[k]? = some b := ⟨_, List.getElem?_eq_getElem hkl⟩
   obtain ⟨_, ad, rfl, _⟩ := hT.ptr (by omega)
   have e0 := fun (w' : World) hw' => rd_ati (hT.below (w' := w') hw') hy
   have c131 := fun (w' : World) (hw : Below w.heap.size w w') => cl131_ok b l o c y w' (heap_below hb hw) (hrd.below hw) hl
   have ht := any_take (p := fun j => l.contains j) hy
   rw [hall, Bool.false_or] at ht
   have hyes := any_yes (p := fun j => l.contains j) hy
   cases hc : l.contains y with
   | true =>
    rw [hc] at c131
    rw [hyes hc]
    repeat'
     conv => whnf
     first
      | refine zA ?_ | refine zB ?_ | refine zC ?_ | refine zD ?_ | refine zE ?_ | refine zF ?_ | refine zG ?_ | refine zH ?_ | refine zJ ?_ | refine zI ?_ | refine splT ?_ | refine splF ?_ | refine splNot ?_
      | ((first | refine splIn ?_ ?_ | refine splD ?_ ?_ | refine splE ?_ ?_ | refine splNE ?_ ?_) <;> intro hc <;> first | (exfalso; omega) | (exfalso; dsimp only at hc; omega) | skip)
      | refine Exists.intro (α := List Value) [iv y] ⟨⟨rfl, fun w' hw' => e0 w' hw'⟩, ?_⟩
      | ((with_reducible show CallEv _ _ 131 _ _ _ _ _); refine callE (k := 131) (fun β w' hbw => c131 _ hbw) ?_)
    all_goals first | (exfalso; omega) | exact ⟨fun β => rfl, fun w' h => h⟩
   | false =>
    rw [hc] at c131 ht
    repeat'
     conv => whnf
     first
      | refine zA ?_ | refine zB ?_ | refine zC ?_ | refine zD ?_ | refine zE ?_ | refine zF ?_ | refine zG ?_ | refine zH ?_ | refine zJ ?_ | refine zI ?_ | refine splT ?_ | refine splF ?_ | refine splNot ?_
      | ((first | refine splIn ?_ ?_ | refine splD ?_ ?_ | refine splE ?_ ?_ | refine splNE ?_ ?_) <;> intro hc <;> first | (exfalso; omega) | (exfalso; dsimp only at hc; omega) | skip)
      | refine Exists.intro (α := List Value) [iv y] ⟨⟨rfl, fun w' hw' => e0 w' hw'⟩, ?_⟩
      | ((with_reducible show CallEv _ _ 131 _ _ _ _ _); refine callE (k := 131) (fun β w' hbw => c131 _ hbw) ?_)
    all_goals first | (exfalso; omega) | exact ⟨k + 1, ⟨by omega, ht⟩, by omega, Ent.weak rfl ⟨rfl, rfl, rfl, rfl, trivial⟩ trivial fun _ h => h⟩
 · rw [List.take_of_length_le hkl] at hall
   rw [hall]
   repeat'
    conv => whnf
    first
     | refine zA ?_ | refine zB ?_ | refine zC ?_ | refine zD ?_ | refine zE ?_ | refine zF ?_ | refine zG ?_ | refine zH ?_ | refine zJ ?_ | refine zI ?_ | refine splT ?_ | refine splF ?_ | refine splNot ?_
     | ((first | refine splIn ?_ ?_ | refine splD ?_ ?_ | refine splE ?_ ?_ | refine splNE ?_ ?_) <;> intro hc <;> first | (exfalso; omega) | (exfalso; dsimp only at hc; omega) | skip)
   all_goals first | (exfalso; omega) | exact ⟨fun β => rfl, fun w' h => h⟩
def timeP (s : SD) (t : List Int × Int) : Int := min t.2 s.sl
def teP (s : SD) (l : List Int) (t : List Int × Int) : Int := bif t.1.any (fun j => l.contains j) then timeP s t else 0
def timesP (s : SD) (l : List Int) : Int := (s.T.map (teP s l)).sum
theorem tea_at {s : SD} (hv : scOk s = true) {t : List Int × Int} (ht : t ∈ s.T) : 0 ≤ timeP s t ∧ timeP s t ≤ (40 : Nat) ∧ 0 ≤ t.2 ∧ t.2 ≤ 40 := by
 obtain ⟨hv1, hv2, hv3, hv4, hv5, hv6, hv7⟩ := scOk_iff.1 hv
 have := List.all_eq_true.1 hv7 t ht
 unfold teB at this
 simp only [Bool.and_eq_true] at this
 have := inB_iff.1 this.2
 unfold timeP
 omega
theorem teP_bd {s : SD} (hv : scOk s = true) (l : List Int) {t : List Int × Int} (ht : t ∈ s.T) : 0 ≤ teP s l t ∧ teP s l t ≤ (40 : Nat) := by
 have := tea_at hv ht
 unfold teP
 cases t.1.any (fun j => l.contains j) with
 | true => exact ⟨this.1, this.2.1⟩
 | false => exact ⟨by simp, by simp⟩
set_option maxHeartbeats 2000000 in
set_option maxRecDepth 100000 in
theorem times_ok (s : Sc) (l : List Int) (o : Option Addr) (c : Nat) (w : World) (h : ScIn s w) (hB : ScB s) (hv : scOk s.d = true) (hrd : Rd 1 iF (.slice o l.length c) l w) (hl : l.length ≤ 1000000) :
 Calls Tryz.prog 94 #[s.v, .slice o l.length c] w fun e w' => e = .returned (iv (timesP s.d l)) ∧ Below w.heap.size w w' := by
 have hbd := fun (t : List Int × Int) (ht : t ∈ s.d.T) => teP_bd hv l ht
 have htea := fun (t : List Int × Int) (ht : t ∈ s.d.T) => tea_at hv ht
 obtain ⟨hv1, hv2, hv3, hv4, hv5, hv6, hv7⟩ := scOk_iff.1 hv
 have hb4 := hB.h
 obtain ⟨hg, hr, ht, hh⟩ := h
 obtain ⟨sl, ro, su, go, gc, G, to, tc, T⟩ := s
 unfold timesP
 unfold Sc.d at hbd htea ⊢
 dsimp only [Sc.d] at hbd htea hv1 hv5 hv3 ht hh hb4 ⊢
 rw [List.length_map] at hv5
 refine calls_val env mixed Tryz.func94 has94 Tryz.ntmps94 [.agg #[iv sl, iv ro, iv su, .slice go G.length gc, .slice to T.length tc], .slice o l.length c] (by simp) ?_
 repeat'
  conv => whnf
  first
   | refine zA ?_ | refine zB ?_ | refine zC ?_ | refine zD ?_ | refine zE ?_ | refine zF ?_ | refine zG ?_ | refine zH ?_ | refine zJ ?_ | refine zI ?_ | refine splT ?_ | refine splF ?_ | refine splNot ?_
   | ((first | refine splIn ?_ ?_ | refine splD ?_ ?_ | refine splE ?_ ?_ | refine splNE ?_ ?_) <;> intro hc <;> first | (exfalso; omega) | (exfalso; dsimp only at hc; omega) | skip)
 refine loopN 2 (fun k : Nat => [(2, .ptr 0 0), (3, .ptr 1 0), (4, .v (iv (((T.map Tc.d).take k).map (teP ⟨sl, ro, su, G.map Rw.xs, T.map Tc.d⟩ l)).sum)), (8, .v (.slice to T.length tc)), (9, .v (iv T.length)), (10, .v (iv k))]) (fun _ => [(0, .cells [.v (iv sl), .v (iv ro), .v (iv su), .v (.slice go G.length gc), .v (.slice to T.length tc)] 34), (1, .cells [.v (.slice o l.length c)] 36)]) (fun k => k ≤ T.length) (fun k => T.length - k) 0 (Nat.zero_le _) ⟨rfl, rfl, rfl, rfl, rfl, rfl, trivial⟩ ⟨rfl, rfl, trivial⟩ (fun _ _ => ⟨rfl, rfl⟩) ?_
 intro k hk
 have h1 := sum_bt (f := teP ⟨sl, ro, su, G.map Rw.xs, T.map Tc.d⟩ l) hbd k
 rw [List.length_map] at h1
 rcases Nat.lt_or_ge k T.length with hkl | hkl
 · obtain ⟨⟨ro', rc, xs, hh'⟩, hx⟩ : ∃ b, T[k]? = some b := ⟨_, List.getElem?_eq_getElem hkl⟩
   obtain ⟨_, ad, rfl, _⟩ := ht.ptr (by omega)
   have e0 := fun (w' : World) hw' => rd_ati (ht.below (w' := w') hw') hx
   have hrr := hh _ (List.mem_of_getElem? hx)
   have hrb := hb4 _ (List.mem_of_getElem? hx)
   change Rd 1 iF (.slice ro' xs.length rc) xs w at hrr
   change xs.length ≤ 1000000 at hrb
   have hmx : (T.map Tc.d)[k]? = some (xs, hh') := by rw [List.getElem?_map, hx]; rfl
   have h3 := sum_tk (f := teP ⟨sl, ro, su, G.map Rw.xs, T.map Tc.d⟩ l) hmx
   have h5 := htea _ (List.mem_of_getElem? hmx)
   have c106 := fun (b : Nat) (w' : World) (hw : Below w.heap.size w w') (hb : w'.heap[b]? = some (.cells #[.slice o l.length c] 36 (0, 0))) => any106_ok xs ro' rc b l o c w' (hrr.below hw) hrb hb (hrd.below hw) hl
   have hq : teP ⟨sl, ro, su, G.map Rw.xs, T.map Tc.d⟩ l (xs, hh') = bif xs.any (fun j => l.contains j) then min hh' sl else 0 := rfl
   rw [hq] at h3
   unfold timeP at h5
   dsimp only at h5
   generalize (((T.map Tc.d).take k).map (teP ⟨sl, ro, su, G.map Rw.xs, T.map Tc.d⟩ l)).sum = S at *
   have hmi := imin_eq hh' sl
   have hmb : 0 ≤ imin hh' sl ∧ imin hh' sl ≤ 40 := by rw [hmi]; omega
   rw [← hmi] at h3
   cases hc : xs.any (fun j => l.contains j) with
   | true =>
    rw [hc] at c106 h3
    rw [cond_true] at h3
    repeat'
     conv => whnf
     first
      | refine zA ?_ | refine zB ?_ | refine zC ?_ | refine zD ?_ | refine zE ?_ | refine zF ?_ | refine zG ?_ | refine zH ?_ | refine zJ ?_ | refine zI ?_ | refine splT ?_ | refine splF ?_ | refine splNot ?_
      | ((first | refine splIn ?_ ?_ | refine splD ?_ ?_ | refine splE ?_ ?_ | refine splNE ?_ ?_) <;> intro hc <;> first | (exfalso; omega) | (exfalso; dsimp only at hc; omega) | skip)
      | refine Exists.intro (α := List Value) [.slice ro' xs.length rc, iv hh'] ⟨⟨rfl, fun w' hw' => e0 w' hw'⟩, ?_⟩
      | ((with_reducible show CallEv _ _ 106 _ _ _ _ _); refine callM (k := 106) [1] (fun β w' hbk hbw => c106 _ _ (by repeat (first | exact hbw | replace hbw := hbw.1)) (hbk 1 (by simp) _ rfl)) ?_)
      | ((with_reducible show CallEv _ _ 128 _ _ _ _ _); refine callI env mixed 1000 [2, 3, 4, 8, 9, 10, 18] Tryz.func128 has128 Tryz.ntmps128 (Nat.le_of_ble_eq_true rfl) rfl rfl rfl ?_)
    all_goals first | (exfalso; omega) | exact ⟨k + 1, by omega, by omega, Ent.weak rfl ⟨rfl, rfl, by rw [h3]; rfl, rfl, rfl, rfl, trivial⟩ ⟨rfl, rfl, trivial⟩ fun _ h => h⟩
   | false =>
    rw [hc] at c106 h3
    rw [cond_false, Int.add_zero] at h3
    repeat'
     conv => whnf
     first
      | refine zA ?_ | refine zB ?_ | refine zC ?_ | refine zD ?_ | refine zE ?_ | refine zF ?_ | refine zG ?_ | refine zH ?_ | refine zJ ?_ | refine zI ?_ | refine splT ?_ | refine splF ?_ | refine splNot ?_
      | ((first | refine splIn ?_ ?_ | refine splD ?_ ?_ | refine splE ?_ ?_ | refine splNE ?_ ?_) <;> intro hc <;> first | (exfalso; omega) | (exfalso; dsimp only at hc; omega) | skip)
      | refine Exists.intro (α := List Value) [.slice ro' xs.length rc, iv hh'] ⟨⟨rfl, fun w' hw' => e0 w' hw'⟩, ?_⟩
      | ((with_reducible show CallEv _ _ 106 _ _ _ _ _); refine callM (k := 106) [1] (fun β w' hbk hbw => c106 _ _ (by repeat (first | exact hbw | replace hbw := hbw.1)) (hbk 1 (by simp) _ rfl)) ?_)
    all_goals first | (exfalso; omega) | exact ⟨k + 1, by omega, by omega, Ent.weak rfl ⟨rfl, rfl, by rw [h3]; rfl, rfl, rfl, rfl, trivial⟩ ⟨rfl, rfl, trivial⟩ fun _ h => h⟩
 · obtain rfl : k = T.length := by omega
   rw [show (T.map Tc.d).take T.length = T.map Tc.d from List.take_of_length_le (by simp)]
   repeat'
    conv => whnf
    first
     | refine zA ?_ | refine zB ?_ | refine zC ?_ | refine zD ?_ | refine zE ?_ | refine zF ?_ | refine zG ?_ | refine zH ?_ | refine zJ ?_ | refine zI ?_ | refine splT ?_ | refine splF ?_ | refine splNot ?_
     | ((first | refine splIn ?_ ?_ | refine splD ?_ ?_ | refine splE ?_ ?_ | refine splNE ?_ ?_) <;> intro hc <;> first | (exfalso; omega) | (exfalso; dsimp only at hc; omega) | skip)
   all_goals first | (exfalso; omega) | exact ⟨fun β => rfl, fun w' h => h⟩
end Go.Proofs.YtkbfcofifhngfaaGreat
namespace Go.Proofs.YtkbfcofifhngfaaGreat
open Go Tx Go.RowKit
set_option linter.unusedSimpArgs false
set_option linter.unusedVariables false
theorem fIv (A : List Int) : A.flatMap iF = A.map iv := by
 induction A with
 | nil => rfl
 | cons a l ih => rw [List.flatMap_cons, List.map_cons, ih]; rfl
theorem tbV_setE {n o p : Nat} (f : Nat → Int) (v : Int) (ho : o = p) (h : p < n) : tbV n (updF f p v) = (tbV n f).take o ++ [iv v] ++ (tbV n f).drop (o + 1) := by
 subst ho; exact (tbV_set f v h).symm
theorem mk0 (n : Nat) : (tbV n fun _ => 0) = (List.replicate n [iv 0]).flatten := by
 induction n with
 | zero => rfl
 | succ n ih =>
  rw [tbV, List.range_succ, List.map_append, List.replicate_succ', List.flatten_append, ← ih]; rfl
end Go.Proofs.YtkbfcofifhngfaaGreat
namespace Go.Proofs.YtkbfcofifhngfaaGreat
open Go Tx Go.RowKit
set_option linter.unusedSimpArgs false
set_option linter.unusedVariables false
structure Rn where
 k : Int
 g : Int
 o : Option Addr
 c : Nat
 L : List Int
 n : Int
 h : Int
abbrev Rn.cs (r : Rn) : List Value := [.int .u8 r.k, iv r.g, .slice r.o r.L.length r.c, iv r.n, iv r.h]
abbrev Rn.v (r : Rn) : Value := .agg #[.int .u8 r.k, iv r.g, .slice r.o r.L.length r.c, iv r.n, iv r.h]
structure RD where
 k : Int
 g : Int
 L : List Int
 n : Int
 h : Int
def Rn.d (r : Rn) : RD := ⟨r.k, r.g, r.L, r.n, r.h⟩
theorem holds_ok (r : Rn) (w : World) : Calls Tryz.prog 60 #[r.v] w fun e w' => e = .returned (.bool (decide (r.h < r.n))) ∧ Below w.heap.size w w' := by
 obtain ⟨k, g, o, c, L, n, h⟩ := r
 refine calls_val env mixed Tryz.func60 has60 Tryz.ntmps60 [.agg #[.int .u8 k, iv g, .slice o L.length c, iv n, iv h]] (by simp) ?_
 repeat'
  conv => whnf
  first
   | refine zA ?_ | refine zB ?_ | refine zC ?_ | refine zD ?_ | refine zE ?_ | refine zF ?_ | refine zG ?_ | refine zH ?_ | refine zJ ?_ | refine zI ?_ | refine splT ?_ | refine splF ?_ | refine splNot ?_
   | ((first | refine splIn ?_ ?_ | refine splD ?_ ?_ | refine splE ?_ ?_ | refine splNE ?_ ?_) <;> intro hc <;> first | (exfalso; omega) | (exfalso; dsimp only at hc; omega) | skip)
 all_goals first | exact ⟨fun β => rfl, fun w' h => h⟩ | (exfalso; omega)
set_option maxHeartbeats 1000000 in
set_option maxRecDepth 100000 in
theorem crowded_ok (s : Sc) (g : Nat) (xs : List Int) (w : World) (h : ScIn s w) (hv : scOk s.d = true) (hx : s.d.G[g]? = some xs) : Calls Tryz.prog 62 #[s.v, iv g] w fun e w' => e = .returned (Rn.v ⟨1, g, none, 0, [], (xs.map id).sum, s.sl⟩) ∧ Below w.heap.size w w' := by
 have hg1 := grp_at hv (List.mem_of_getElem? hx)
 obtain ⟨hv1, hv2, hv3, hv4, hv5, hv6, hv7⟩ := scOk_iff.1 hv
 obtain ⟨hg, hr, ht, hh⟩ := h
 obtain ⟨sl, ro, su, go, gc, G, to, tc, T⟩ := s
 dsimp only [Sc.d] at hx hg1 hv3 hg hr ⊢
 rw [List.getElem?_map] at hx
 cases hxr : G[g]? with
 | none => rw [hxr] at hx; cases hx
 | some r =>
  rw [hxr] at hx
  obtain ⟨ro', rc, ys⟩ := r
  simp only [Option.map_some, Option.some.injEq] at hx
  subst hx
  have hgl := (List.getElem?_eq_some_iff.1 hxr).1
  obtain ⟨_, ad, rfl, _⟩ := hg.ptr (by omega)
  have e0 := fun (w' : World) hw' => rd_ati (hg.below (w' := w') hw') hxr
  have hrr := hr _ (List.mem_of_getElem? hxr)
  change Rd 1 iF (.slice ro' ys.length rc) ys w at hrr
  have c92 := fun (w' : World) (hw : Below w.heap.size w w') => sum92_ok ys ro' rc w' (hrr.below hw) (by omega) (fun x hx => by have := hg1.2 x hx; omega)
  generalize (ys.map id).sum = S at *
  refine calls_val env mixed Tryz.func62 has62 Tryz.ntmps62 [.agg #[iv sl, iv ro, iv su, .slice (some ad) G.length gc, .slice to T.length tc], iv g] (by simp) ?_
  repeat'
   conv => whnf
   first
    | refine zA ?_ | refine zB ?_ | refine zC ?_ | refine zD ?_ | refine zE ?_ | refine zF ?_ | refine zG ?_ | refine zH ?_ | refine zJ ?_ | refine zI ?_ | refine splT ?_ | refine splF ?_ | refine splNot ?_
    | ((first | refine splIn ?_ ?_ | refine splD ?_ ?_ | refine splE ?_ ?_ | refine splNE ?_ ?_) <;> intro hc <;> first | (exfalso; omega) | (exfalso; dsimp only at hc; omega) | skip)
    | refine Exists.intro (α := List Value) [.slice ro' ys.length rc] ⟨⟨rfl, fun w' hw' => e0 w' hw'⟩, ?_⟩
    | ((with_reducible show CallEv _ _ 92 _ _ _ _ _); refine callE (k := 92) (fun β w' hbw => c92 _ hbw) ?_)
  all_goals first | exact ⟨fun β => rfl, fun w' h => h⟩ | (exfalso; omega)
set_option maxHeartbeats 1000000 in
set_option maxRecDepth 100000 in
theorem untaught_ok (s : Sc) (l : List Int) (o : Option Addr) (c : Nat) (w : World) (h : ScIn s w) (hB : ScB s) (hv : scOk s.d = true) (hrd : Rd 1 iF (.slice o l.length c) l w) (hs : subIn s.d l) : Calls Tryz.prog 64 #[s.v, .slice o l.length c] w fun e w' => e = .returned (Rn.v ⟨2, 0, o, c, l, hoursP s.d l, timesP s.d l⟩) ∧ Below w.heap.size w w' := by
 have c93 := fun (w' : World) (hw : Below w.heap.size w w') => hours_ok s l o c w' (h.below hw) hv (hrd.below hw) hs
 have c94 := fun (w' : World) (hw : Below w.heap.size w w') => times_ok s l o c w' (h.below hw) hB hv (hrd.below hw) (by have := hs.1; omega)
 generalize hoursP s.d l = H at *
 generalize timesP s.d l = M at *
 obtain ⟨sl, ro, su, go, gc, G, to, tc, T⟩ := s
 refine calls_val env mixed Tryz.func64 has64 Tryz.ntmps64 [.agg #[iv sl, iv ro, iv su, .slice go G.length gc, .slice to T.length tc], .slice o l.length c] (by simp) ?_
 repeat'
  conv => whnf
  first
   | refine zA ?_ | refine zB ?_ | refine zC ?_ | refine zD ?_ | refine zE ?_ | refine zF ?_ | refine zG ?_ | refine zH ?_ | refine zJ ?_ | refine zI ?_ | refine splT ?_ | refine splF ?_ | refine splNot ?_
   | ((first | refine splIn ?_ ?_ | refine splD ?_ ?_ | refine splE ?_ ?_ | refine splNE ?_ ?_) <;> intro hc <;> first | (exfalso; omega) | (exfalso; dsimp only at hc; omega) | skip)
   | ((with_reducible show CallEv _ _ 93 _ _ _ _ _); refine callE (k := 93) (fun β w' hbw => c93 _ hbw) ?_)
   | ((with_reducible show CallEv _ _ 94 _ _ _ _ _); refine callE (k := 94) (fun β w' hbw => c94 _ hbw) ?_)
 all_goals first | exact ⟨fun β => rfl, fun w' h => h⟩ | (exfalso; omega)
def numL (n : Nat) : List Int := (List.range n).map fun i : Nat => (i : Int)
theorem numL_v (n : Nat) : (numL n).flatMap iF = tbV n fun i => (i : Int) := by rw [fIv, numL, List.map_map]; rfl
set_option maxHeartbeats 1000000 in
set_option maxRecDepth 100000 in
theorem numbers_own (n : Nat) (hn : 1 ≤ n ∧ n ≤ 10) (w : World) : Calls Tryz.prog 95 #[iv n] w fun e w' => ∃ b d, e = .returned (.slice (some ⟨b, 0, none⟩) n d) ∧ w.heap.size ≤ b ∧ Below w.heap.size w w' ∧ w'.ownsRow 0 3 1 (.slice (some ⟨b, 0, none⟩) n d) n (tbV n fun i => (i : Int)) := by
 refine calls_fam2 env mixed Tryz.func95 has95 Tryz.ntmps95 [iv n] (by simp) ?_
 repeat'
  conv => whnf
  first
   | refine zA ?_ | refine zB ?_ | refine zC ?_ | refine zD ?_ | refine zE ?_ | refine zF ?_ | refine zG ?_ | refine zH ?_ | refine zJ ?_ | refine zI ?_ | refine splT ?_ | refine splF ?_ | refine splNot ?_
   | ((first | refine splIn ?_ ?_ | refine splD ?_ ?_ | refine splE ?_ ?_ | refine splNE ?_ ?_) <;> intro hc <;> first | (exfalso; omega) | (exfalso; dsimp only at hc; omega) | skip)
   | refine mkO env 0 n (tbV n fun _ => 0) rfl rfl rfl (by decide) rfl (by omega) (by decide) (mk0 _) rfl ?_
 refine loopN 2 (fun k : Nat => [(3, .os 0 1 n), (7, .os 0 1 n), (8, .v (iv n)), (9, .v (iv k))]) (fun k => [(0, .own 1 n 1 (tbV n fun i => if i < k then (i : Int) else 0) 3)]) (fun k => k ≤ n) (fun k => n - k) 0 (Nat.zero_le _) ⟨rfl, rfl, rfl, rfl, trivial⟩ ⟨by simp; rfl, trivial⟩ (fun _ _ => ⟨rfl, rfl⟩) ?_
 intro k hk
 rcases Nat.lt_or_ge k n with hkl | hkl
 · have hst : (fun i => if i < k + 1 then (i : Int) else 0) = updF (fun i => if i < k then (i : Int) else 0) k k := by
    funext i
    unfold updF
    by_cases h1 : i = k
    · subst h1; simp
    · rw [if_neg h1]
      dsimp only
      by_cases h2 : i < k
      · rw [if_pos h2, if_pos (by omega)]
      · rw [if_neg h2, if_neg (by omega)]
   generalize hf : (fun i => if i < k then (i : Int) else 0) = f at *
   repeat'
    conv => whnf
    first
     | refine zA ?_ | refine zB ?_ | refine zC ?_ | refine zD ?_ | refine zE ?_ | refine zF ?_ | refine zG ?_ | refine zH ?_ | refine zJ ?_ | refine zI ?_ | refine splT ?_ | refine splF ?_ | refine splNot ?_
     | ((first | refine splIn ?_ ?_ | refine splD ?_ ?_ | refine splE ?_ ?_ | refine splNE ?_ ?_) <;> intro hc <;> first | (exfalso; omega) | (exfalso; dsimp only at hc; omega) | skip)
     | refine And.intro (a := (_ : Nat) ≤ (tbV _ _).length) (by rw [tbV_len]; show k * 1 + 1 ≤ n; omega) ?_
   all_goals first | (exfalso; omega) | exact ⟨k + 1, by omega, by omega, Ent.weak rfl ⟨rfl, rfl, rfl, rfl, trivial⟩ ⟨by rw [hst, tbV_setE (o := k * 1) f k (by omega) hkl]; rfl, trivial⟩ fun _ h => h⟩
 · obtain rfl : k = n := by omega
   have hst : tbV k (fun i => if i < k then (i : Int) else 0) = tbV k fun i => (i : Int) := by
    unfold tbV
    refine List.map_congr_left fun i hi => ?_
    dsimp only
    rw [if_pos (List.mem_range.1 hi)]
   rw [hst]
   repeat'
    conv => whnf
    first
     | refine zA ?_ | refine zB ?_ | refine zC ?_ | refine zD ?_ | refine zE ?_ | refine zF ?_ | refine zG ?_ | refine zH ?_ | refine zJ ?_ | refine zI ?_ | refine splT ?_ | refine splF ?_ | refine splNot ?_
     | ((first | refine splIn ?_ ?_ | refine splD ?_ ?_ | refine splE ?_ ?_ | refine splNE ?_ ?_) <;> intro hc <;> first | (exfalso; omega) | (exfalso; dsimp only at hc; omega) | skip)
   exact ⟨fun w' h => h, fun β w' hB hB2 hblk => ⟨β 0, β 1, rfl, (hblk 0 _ rfl rfl).1, hB2, by have := (hblk 0 _ rfl rfl).2; simpa [Blk.ok] using this⟩⟩
set_option maxHeartbeats 1000000 in
set_option maxRecDepth 100000 in
theorem full_ok (s : Sc) (w : World) (h : ScIn s w) (hv : scOk s.d = true) : Calls Tryz.prog 65 #[s.v] w fun e w' => e = .returned (Rn.v ⟨3, 0, none, 0, [], hoursP s.d (numL s.su.toNat), s.ro * s.sl⟩) ∧ Below w.heap.size w w' := by
 obtain ⟨hv1, hv2, hv3, hv4, hv5, hv6, hv7⟩ := scOk_iff.1 hv
 change 1 ≤ s.su ∧ s.su ≤ 6 at hv3
 change 1 ≤ s.sl ∧ s.sl ≤ 40 at hv1
 change 1 ≤ s.ro ∧ s.ro ≤ 6 at hv2
 obtain ⟨n, hn⟩ := Int.eq_ofNat_of_zero_le (show 0 ≤ s.su by omega)
 have hnl : (numL n).length = n := by simp [numL]
 have hsub : subIn s.d (numL n) := ⟨by omega, fun j hj => by
  obtain ⟨i, hi, rfl⟩ := List.mem_map.1 hj
  have := List.mem_range.1 hi
  show 0 ≤ (i : Int) ∧ (i : Int) ≤ s.su - 1
  omega⟩
 have c93 := fun (o : Option Addr) (c : Nat) (w' : World) (hw : Below w.heap.size w w') (hr : Rd 1 iF (.slice o n c) (numL n) w') => hours_ok s (numL n) o c w' (h.below hw) hv (by rw [hnl]; exact hr) hsub
 rw [hnl] at c93
 have hm : -1000 ≤ s.ro * s.sl ∧ s.ro * s.sl ≤ 1000 := by
  have h1 : 0 ≤ s.ro * s.sl := Int.mul_nonneg (by omega) (by omega)
  have h2 : s.ro * s.sl ≤ 6 * 40 := Int.mul_le_mul hv2.2 hv1.2 (by omega) (by omega)
  omega
 rw [show s.su.toNat = n by omega]
 generalize hoursP s.d (numL n) = H at *
 have c95 := fun (w' : World) => numbers_own n ⟨by omega, by omega⟩ w'
 rw [← numL_v] at c95
 obtain ⟨sl, ro, su, go, gc, G, to, tc, T⟩ := s
 dsimp only at hn hm hv1 hv2 hv3 c93 ⊢
 subst hn
 refine calls_val env mixed Tryz.func65 has65 Tryz.ntmps65 [.agg #[iv sl, iv ro, iv n, .slice go G.length gc, .slice to T.length tc]] (by simp) ?_
 generalize hX : ro * sl = X at *
 repeat'
  conv => whnf
  first
   | refine zA ?_ | refine zB ?_ | refine zC ?_ | refine zD ?_ | refine zE ?_ | refine zF ?_ | refine zG ?_ | refine zH ?_ | refine zJ ?_ | refine zI ?_ | refine splT ?_ | refine splF ?_ | refine splNot ?_
   | ((first | refine splIn ?_ ?_ | refine splD ?_ ?_ | refine splE ?_ ?_ | refine splNE ?_ ?_) <;> intro hc <;> first | (exfalso; omega) | (exfalso; dsimp only at hc; omega) | skip)
   | ((with_reducible show CallEv _ _ 95 _ _ _ _ _); refine callO 2 [] (.os 2 3 n) n 1 ((numL n).flatMap iF) 3 rfl (fun β w' _ hbw => c95 w') ?_)
   | ((with_reducible show CallEv _ _ 93 _ _ _ _ _); refine callM [2] (fun β w' hbk hbw => c93 _ _ w' hbw (Rd.of_owns (sz := 1) (f := iF) (fun _ => rfl) rfl hnl.symm (hbk 2 (by simp) _ rfl))) ?_)
 all_goals first | exact ⟨fun β => by subst hX; rfl, fun w' h => h⟩ | (exfalso; omega)
end Go.Proofs.YtkbfcofifhngfaaGreat
namespace Go.Proofs.YtkbfcofifhngfaaGreat
open Go Tx Go.RowKit
set_option linter.unusedSimpArgs false
set_option linter.unusedVariables false
set_option maxHeartbeats 1000000 in
set_option maxRecDepth 100000 in
theorem has59_ok (L : List Int) (o : Option Addr) (c : Nat) (x : Int) (w : World) (hrd : Rd 1 iF (.slice o L.length c) L w) (hl : L.length ≤ 1000000) :
 Calls Tryz.prog 59 #[.slice o L.length c, iv x] w fun e w' => e = .returned (.bool (L.contains x)) ∧ Below w.heap.size w w' := by
 refine calls_val env mixed Tryz.func59 has59 Tryz.ntmps59 [.slice o L.length c, iv x] (by simp) ?_
 repeat'
  conv => whnf
  first
   | refine zA ?_ | refine zB ?_ | refine zC ?_ | refine zD ?_ | refine zE ?_ | refine zF ?_ | refine zG ?_ | refine zH ?_ | refine zJ ?_ | refine zI ?_ | refine splT ?_ | refine splF ?_ | refine splNot ?_
   | ((first | refine splIn ?_ ?_ | refine splD ?_ ?_ | refine splE ?_ ?_ | refine splNE ?_ ?_) <;> intro hc <;> first | (exfalso; omega) | (exfalso; dsimp only at hc; omega) | skip)
 refine loopE (fun k : Nat => [(0, .v (.slice o L.length c)), (1, .v (iv x)), (5, .v (iv k))]) (fun _ => []) (fun k => k ≤ L.length ∧ (L.take k).contains x = false) (fun k => L.length - k) 0 ⟨Nat.zero_le _, rfl⟩ ⟨rfl, rfl, rfl, trivial⟩ trivial (fun _ => ⟨rfl, rfl⟩) ?_
 intro k ⟨hk, hall⟩
 rcases Nat.lt_or_ge k L.length with hkl | hkl
 · obtain ⟨y, hy⟩ : ∃ b, L[k]? = some b := ⟨_, List.getElem?_eq_getElem hkl⟩
   obtain ⟨_, ad, rfl, _⟩ := hrd.ptr (by omega)
   have e0 := fun (w' : World) hw' => rd_ati (hrd.below (w' := w') hw') hy
   by_cases hxy : y = x
   · subst hxy
     have : L.contains y = true := List.contains_iff_mem.2 (List.mem_of_getElem? hy)
     rw [this]
     repeat'
      conv => whnf
      first
       | refine zA ?_ | refine zB ?_ | refine zC ?_ | refine zD ?_ | refine zE ?_ | refine zF ?_ | refine zG ?_ | refine zH ?_ | refine zJ ?_ | refine zI ?_ | refine splT ?_ | refine splF ?_ | refine splNot ?_
       | ((first | refine splIn ?_ ?_ | refine splD ?_ ?_ | refine splE ?_ ?_ | refine splNE ?_ ?_) <;> intro hc <;> first | (exfalso; omega) | (exfalso; dsimp only at hc; omega) | skip)
       | refine Exists.intro (α := List Value) [iv y] ⟨⟨rfl, fun w' hw' => e0 w' hw'⟩, ?_⟩
     all_goals first | (exfalso; omega) | exact ⟨fun β => rfl, fun w' h => h⟩
   · have hn : (L.take (k + 1)).contains x = false := by
      rw [List.take_add_one, hy]
      simp only [List.contains_eq_mem, Option.toList_some, List.mem_append, List.mem_singleton, decide_eq_false_iff_not] at hall ⊢
      rintro (h | h)
      · exact hall h
      · exact hxy h.symm
     repeat'
      conv => whnf
      first
       | refine zA ?_ | refine zB ?_ | refine zC ?_ | refine zD ?_ | refine zE ?_ | refine zF ?_ | refine zG ?_ | refine zH ?_ | refine zJ ?_ | refine zI ?_ | refine splT ?_ | refine splF ?_ | refine splNot ?_
       | ((first | refine splIn ?_ ?_ | refine splD ?_ ?_ | refine splE ?_ ?_ | refine splNE ?_ ?_) <;> intro hc <;> first | (exfalso; omega) | (exfalso; dsimp only at hc; omega) | skip)
       | refine Exists.intro (α := List Value) [iv y] ⟨⟨rfl, fun w' hw' => e0 w' hw'⟩, ?_⟩
     all_goals first | (exfalso; omega) | exact ⟨k + 1, ⟨by omega, hn⟩, by omega, Ent.weak rfl ⟨rfl, rfl, rfl, trivial⟩ trivial fun _ h => h⟩
 · rw [List.take_of_length_le hkl] at hall
   rw [hall]
   repeat'
    conv => whnf
    first
     | refine zA ?_ | refine zB ?_ | refine zC ?_ | refine zD ?_ | refine zE ?_ | refine zF ?_ | refine zG ?_ | refine zH ?_ | refine zJ ?_ | refine zI ?_ | refine splT ?_ | refine splF ?_ | refine splNot ?_
     | ((first | refine splIn ?_ ?_ | refine splD ?_ ?_ | refine splE ?_ ?_ | refine splNE ?_ ?_) <;> intro hc <;> first | (exfalso; omega) | (exfalso; dsimp only at hc; omega) | skip)
   all_goals first | (exfalso; omega) | exact ⟨fun β => rfl, fun w' h => h⟩
end Go.Proofs.YtkbfcofifhngfaaGreat
namespace Go.Proofs.YtkbfcofifhngfaaGreat
open Go Tx Go.RowKit
set_option linter.unusedSimpArgs false
set_option linter.unusedVariables false
set_option maxHeartbeats 1000000 in
set_option maxRecDepth 100000 in
theorem sum53_ok (L : List Int) (o : Option Addr) (c : Nat) (w : World) (hrd : Rd 1 iF (.slice o L.length c) L w) (hl : L.length ≤ 1000000) (hb : ∀ x ∈ L, 0 ≤ x ∧ x ≤ (1000 : Nat)) :
 Calls Tryz.prog 53 #[.slice o L.length c] w fun e w' => e = .returned (iv (L.map id).sum) ∧ Below w.heap.size w w' := by
 refine calls_val env mixed Tryz.func53 has53 Tryz.ntmps53 [.slice o L.length c] (by simp) ?_
 repeat'
  conv => whnf
  first
   | refine zA ?_ | refine zB ?_ | refine zC ?_ | refine zD ?_ | refine zE ?_ | refine zF ?_ | refine zG ?_ | refine zH ?_ | refine zJ ?_ | refine zI ?_ | refine splT ?_ | refine splF ?_ | refine splNot ?_
   | ((first | refine splIn ?_ ?_ | refine splD ?_ ?_ | refine splE ?_ ?_ | refine splNE ?_ ?_) <;> intro hc <;> first | (exfalso; omega) | (exfalso; dsimp only at hc; omega) | skip)
 refine loopE (fun k : Nat => [(0, .v (.slice o L.length c)), (3, .v (iv ((L.take k).map id).sum)), (4, .v (iv k))]) (fun _ => []) (fun k => k ≤ L.length) (fun k => L.length - k) 0 (Nat.zero_le _) ⟨rfl, rfl, rfl, trivial⟩ trivial (fun _ => ⟨rfl, rfl⟩) ?_
 intro k hk
 rcases Nat.lt_or_ge k L.length with hkl | hkl
 · obtain ⟨y, hy⟩ : ∃ b, L[k]? = some b := ⟨_, List.getElem?_eq_getElem hkl⟩
   obtain ⟨_, ad, rfl, _⟩ := hrd.ptr (by omega)
   have e0 := fun (w' : World) hw' => rd_ati (hrd.below (w' := w') hw') hy
   have h1 := sum_bt (f := id) hb k
   have h2 := hb y (List.mem_of_getElem? hy)
   have h3 := sum_tk (f := id) hy
   simp only [id] at h3
   generalize ((L.take k).map id).sum = S at *
   repeat'
    conv => whnf
    first
     | refine zA ?_ | refine zB ?_ | refine zC ?_ | refine zD ?_ | refine zE ?_ | refine zF ?_ | refine zG ?_ | refine zH ?_ | refine zJ ?_ | refine zI ?_ | refine splT ?_ | refine splF ?_ | refine splNot ?_
     | ((first | refine splIn ?_ ?_ | refine splD ?_ ?_ | refine splE ?_ ?_ | refine splNE ?_ ?_) <;> intro hc <;> first | (exfalso; omega) | (exfalso; dsimp only at hc; omega) | skip)
     | refine Exists.intro (α := List Value) [iv y] ⟨⟨rfl, fun w' hw' => e0 w' hw'⟩, ?_⟩
   all_goals first | (exfalso; omega) | exact ⟨k + 1, by omega, by omega, Ent.weak rfl ⟨rfl, by rw [h3]; rfl, rfl, trivial⟩ trivial fun _ h => h⟩
 · obtain rfl : k = L.length := by omega
   rw [List.take_length]
   repeat'
    conv => whnf
    first
     | refine zA ?_ | refine zB ?_ | refine zC ?_ | refine zD ?_ | refine zE ?_ | refine zF ?_ | refine zG ?_ | refine zH ?_ | refine zJ ?_ | refine zI ?_ | refine splT ?_ | refine splF ?_ | refine splNot ?_
     | ((first | refine splIn ?_ ?_ | refine splD ?_ ?_ | refine splE ?_ ?_ | refine splNE ?_ ?_) <;> intro hc <;> first | (exfalso; omega) | (exfalso; dsimp only at hc; omega) | skip)
   all_goals first | (exfalso; omega) | exact ⟨fun β => rfl, fun w' h => h⟩
set_option maxHeartbeats 2000000 in
set_option maxRecDepth 100000 in
theorem All_ok (s : Sc) (l : List Int) (o : Option Addr) (c : Nat) (w : World) (h : ScIn s w) (hv : scOk s.d = true) (hrd : Rd 1 iF (.slice o l.length c) l w) (hs : subIn s.d l) :
 Calls Tryz.prog 55 #[s.v, .slice o l.length c] w fun e w' => e = .returned (iv (hoursP s.d l)) ∧ Below w.heap.size w w' := by
 have hbd := fun (g : List Int) (hg : g ∈ s.d.G) => rowH_bd hv hg l hs.1
 have hgrp := fun (g : List Int) (hg : g ∈ s.d.G) => grp_at hv hg
 obtain ⟨hv1, hv2, hv3, hv4, hv5, hv6, hv7⟩ := scOk_iff.1 hv
 obtain ⟨hs1, hs2⟩ := hs
 obtain ⟨hg, hr, ht, hh⟩ := h
 obtain ⟨sl, ro, su, go, gc, G, to, tc, T⟩ := s
 unfold hoursP
 dsimp only [Sc.d] at hbd hgrp hs2 hv4 hv3 hg hr ⊢
 rw [List.length_map] at hv4
 refine calls_val env mixed Tryz.func55 has55 Tryz.ntmps55 [.agg #[iv sl, iv ro, iv su, .slice go G.length gc, .slice to T.length tc], .slice o l.length c] (by simp) ?_
 repeat'
  conv => whnf
  first
   | refine zA ?_ | refine zB ?_ | refine zC ?_ | refine zD ?_ | refine zE ?_ | refine zF ?_ | refine zG ?_ | refine zH ?_ | refine zJ ?_ | refine zI ?_ | refine splT ?_ | refine splF ?_ | refine splNot ?_
   | ((first | refine splIn ?_ ?_ | refine splD ?_ ?_ | refine splE ?_ ?_ | refine splNE ?_ ?_) <;> intro hc <;> first | (exfalso; omega) | (exfalso; dsimp only at hc; omega) | skip)
 refine loopN 1 (fun k : Nat => [(1, .v (.slice o l.length c)), (2, .ptr 0 0), (5, .v (iv (((G.map Rw.xs).take k).map (rowH l)).sum)), (6, .v (iv k))]) (fun _ => [(0, .cells [.v (iv sl), .v (iv ro), .v (iv su), .v (.slice go G.length gc), .v (.slice to T.length tc)] 25)]) (fun k => k ≤ G.length) (fun k => G.length - k) 0 (Nat.zero_le _) ⟨rfl, rfl, rfl, rfl, trivial⟩ ⟨rfl, trivial⟩ (fun _ _ => ⟨rfl, rfl⟩) ?_
 intro k hk
 have h1 := sum_bt (f := rowH l) hbd k
 rw [List.length_map] at h1
 rcases Nat.lt_or_ge k G.length with hkl | hkl
 · obtain ⟨⟨ro', rc, xs⟩, hx⟩ : ∃ b, G[k]? = some b := ⟨_, List.getElem?_eq_getElem hkl⟩
   obtain ⟨_, ad, rfl, _⟩ := hg.ptr (by omega)
   have e0 := fun (w' : World) hw' => rd_ati (hg.below (w' := w') hw') hx
   have hrr := hr _ (List.mem_of_getElem? hx)
   change Rd 1 iF (.slice ro' xs.length rc) xs w at hrr
   have hmx : (G.map Rw.xs)[k]? = some xs := by rw [List.getElem?_map, hx]; rfl
   have h3 := sum_tk (f := rowH l) hmx
   have hxs := hgrp xs (List.mem_of_getElem? hmx)
   generalize (((G.map Rw.xs).take k).map (rowH l)).sum = S at *
   repeat'
    conv => whnf
    first
     | refine zA ?_ | refine zB ?_ | refine zC ?_ | refine zD ?_ | refine zE ?_ | refine zF ?_ | refine zG ?_ | refine zH ?_ | refine zJ ?_ | refine zI ?_ | refine splT ?_ | refine splF ?_ | refine splNot ?_
     | ((first | refine splIn ?_ ?_ | refine splD ?_ ?_ | refine splE ?_ ?_ | refine splNE ?_ ?_) <;> intro hc <;> first | (exfalso; omega) | (exfalso; dsimp only at hc; omega) | skip)
   all_goals first | (exfalso; omega) | skip
   refine loopN 1 (fun i : Nat => [(1, .v (.slice o l.length c)), (2, .ptr 0 0), (5, .v (iv (S + ((l.take i).map fun j => xs.getD j.toNat 0).sum))), (6, .v (iv k)), (7, .v (iv i))]) (fun _ => [(0, .cells [.v (iv sl), .v (iv ro), .v (iv su), .v (.slice (some ad) G.length gc), .v (.slice to T.length tc)] 25)]) (fun i => i ≤ l.length) (fun i => l.length - i) 0 (Nat.zero_le _) ⟨rfl, rfl, by simp; rfl, rfl, rfl, trivial⟩ ⟨rfl, trivial⟩ (fun _ _ => ⟨rfl, rfl⟩) ?_
   intro i hi
   rcases Nat.lt_or_ge i l.length with hil | hil
   · obtain ⟨j, hj⟩ : ∃ b, l[i]? = some b := ⟨_, List.getElem?_eq_getElem hil⟩
     obtain ⟨_, ad2, rfl, _⟩ := hrd.ptr (by omega)
     have hjb := hs2 j (List.mem_of_getElem? hj)
     obtain ⟨jn, rfl⟩ := Int.eq_ofNat_of_zero_le hjb.1
     obtain ⟨v, hvx⟩ : ∃ v, xs[jn]? = some v := ⟨_, List.getElem?_eq_getElem (by omega)⟩
     obtain ⟨_, ad3, rfl, _⟩ := hrr.ptr (by omega)
     have e1 := fun (w' : World) hw' => rd_ati (hrd.below (w' := w') hw') hj
     have e2 := fun (w' : World) hw' => rd_ati (hrr.below (w' := w') hw') hvx
     have hvb := hxs.2 v (List.mem_of_getElem? hvx)
     have h4 := sum_tk (f := fun j : Int => xs.getD j.toNat 0) hj
     have hgv : xs.getD (jn : Int).toNat 0 = v := by rw [Int.toNat_natCast, List.getD_eq_getElem?_getD, hvx]; rfl
     rw [hgv] at h4
     have h5 := sum_bt (f := fun j : Int => xs.getD j.toNat 0) (M := 20) (X := l) (fun j _ => by
      rw [List.getD_eq_getElem?_getD]
      cases hx : xs[j.toNat]? with
      | none => simp
      | some x => exact hxs.2 x (List.mem_of_getElem? hx)) i
     generalize ((l.take i).map fun j : Int => xs.getD j.toNat 0).sum = R at *
     repeat'
      conv => whnf
      first
       | refine zA ?_ | refine zB ?_ | refine zC ?_ | refine zD ?_ | refine zE ?_ | refine zF ?_ | refine zG ?_ | refine zH ?_ | refine zJ ?_ | refine zI ?_ | refine splT ?_ | refine splF ?_ | refine splNot ?_
       | ((first | refine splIn ?_ ?_ | refine splD ?_ ?_ | refine splE ?_ ?_ | refine splNE ?_ ?_) <;> intro hc <;> first | (exfalso; omega) | (exfalso; dsimp only at hc; omega) | skip)
       | refine Exists.intro (α := List Value) [.slice (some ad3) xs.length rc] ⟨⟨rfl, fun w' hw' => e0 w' hw'⟩, ?_⟩
       | refine Exists.intro (α := List Value) [iv jn] ⟨⟨rfl, fun w' hw' => e1 w' hw'⟩, ?_⟩
       | refine Exists.intro (α := List Value) [iv v] ⟨⟨rfl, fun w' hw' => e2 w' hw'⟩, ?_⟩
     all_goals first | (exfalso; omega) | exact ⟨i + 1, by omega, by omega, Ent.weak rfl ⟨rfl, rfl, by rw [h4, ← Int.add_assoc]; rfl, rfl, rfl, trivial⟩ ⟨rfl, trivial⟩ fun _ h => h⟩
   · obtain rfl : i = l.length := by omega
     rw [List.take_length]
     have h5 := hbd xs (List.mem_of_getElem? hmx)
     have h6 : (l.map fun j : Int => xs.getD j.toNat 0).sum = rowH l xs := rfl
     rw [h6]
     generalize rowH l xs = R at *
     repeat'
      conv => whnf
      first
       | refine zA ?_ | refine zB ?_ | refine zC ?_ | refine zD ?_ | refine zE ?_ | refine zF ?_ | refine zG ?_ | refine zH ?_ | refine zJ ?_ | refine zI ?_ | refine splT ?_ | refine splF ?_ | refine splNot ?_
       | ((first | refine splIn ?_ ?_ | refine splD ?_ ?_ | refine splE ?_ ?_ | refine splNE ?_ ?_) <;> intro hc <;> first | (exfalso; omega) | (exfalso; dsimp only at hc; omega) | skip)
     all_goals first | (exfalso; omega) | exact ⟨k + 1, by omega, by omega, Ent.weak rfl ⟨rfl, rfl, by rw [h3]; rfl, rfl, trivial⟩ ⟨rfl, trivial⟩ fun _ h => h⟩
 · obtain rfl : k = G.length := by omega
   rw [show (G.map Rw.xs).take G.length = G.map Rw.xs from List.take_of_length_le (by simp)]
   repeat'
    conv => whnf
    first
     | refine zA ?_ | refine zB ?_ | refine zC ?_ | refine zD ?_ | refine zE ?_ | refine zF ?_ | refine zG ?_ | refine zH ?_ | refine zJ ?_ | refine zI ?_ | refine splT ?_ | refine splF ?_ | refine splNot ?_
     | ((first | refine splIn ?_ ?_ | refine splD ?_ ?_ | refine splE ?_ ?_ | refine splNE ?_ ?_) <;> intro hc <;> first | (exfalso; omega) | (exfalso; dsimp only at hc; omega) | skip)
   all_goals first | (exfalso; omega) | exact ⟨fun β => rfl, fun w' h => h⟩
theorem any_comm (a b : List Int) : (a.any fun j => b.contains j) = (b.any fun j => a.contains j) := by
 rw [Bool.eq_iff_iff]
 simp only [List.any_eq_true, List.contains_iff_mem]
 exact ⟨fun ⟨x, h1, h2⟩ => ⟨x, h2, h1⟩, fun ⟨x, h1, h2⟩ => ⟨x, h2, h1⟩⟩
set_option maxHeartbeats 2000000 in
set_option maxRecDepth 100000 in
theorem Times_ok (s : Sc) (l : List Int) (o : Option Addr) (c : Nat) (w : World) (h : ScIn s w) (hB : ScB s) (hv : scOk s.d = true) (hrd : Rd 1 iF (.slice o l.length c) l w) (hl : l.length ≤ 1000000) :
 Calls Tryz.prog 56 #[s.v, .slice o l.length c] w fun e w' => e = .returned (iv (timesP s.d l)) ∧ Below w.heap.size w w' := by
 have hbd := fun (t : List Int × Int) (ht : t ∈ s.d.T) => teP_bd hv l ht
 have htea := fun (t : List Int × Int) (ht : t ∈ s.d.T) => tea_at hv ht
 obtain ⟨hv1, hv2, hv3, hv4, hv5, hv6, hv7⟩ := scOk_iff.1 hv
 have hb4 := hB.h
 obtain ⟨hg, hr, ht, hh⟩ := h
 obtain ⟨sl, ro, su, go, gc, G, to, tc, T⟩ := s
 unfold timesP
 unfold Sc.d at hbd htea ⊢
 dsimp only [Sc.d] at hbd htea hv1 hv5 hv3 ht hh hb4 ⊢
 rw [List.length_map] at hv5
 refine calls_val env mixed Tryz.func56 has56 Tryz.ntmps56 [.agg #[iv sl, iv ro, iv su, .slice go G.length gc, .slice to T.length tc], .slice o l.length c] (by simp) ?_
 repeat'
  conv => whnf
  first
   | refine zA ?_ | refine zB ?_ | refine zC ?_ | refine zD ?_ | refine zE ?_ | refine zF ?_ | refine zG ?_ | refine zH ?_ | refine zJ ?_ | refine zI ?_ | refine splT ?_ | refine splF ?_ | refine splNot ?_
   | ((first | refine splIn ?_ ?_ | refine splD ?_ ?_ | refine splE ?_ ?_ | refine splNE ?_ ?_) <;> intro hc <;> first | (exfalso; omega) | (exfalso; dsimp only at hc; omega) | skip)
 refine loopN 1 (fun k : Nat => [(1, .v (.slice o l.length c)), (2, .ptr 0 0), (5, .v (iv (((T.map Tc.d).take k).map (teP ⟨sl, ro, su, G.map Rw.xs, T.map Tc.d⟩ l)).sum)), (6, .v (iv k))]) (fun _ => [(0, .cells [.v (iv sl), .v (iv ro), .v (iv su), .v (.slice go G.length gc), .v (.slice to T.length tc)] 25)]) (fun k => k ≤ T.length) (fun k => T.length - k) 0 (Nat.zero_le _) ⟨rfl, rfl, rfl, rfl, trivial⟩ ⟨rfl, trivial⟩ (fun _ _ => ⟨rfl, rfl⟩) ?_
 intro k hk
 have h1 := sum_bt (f := teP ⟨sl, ro, su, G.map Rw.xs, T.map Tc.d⟩ l) hbd k
 rw [List.length_map] at h1
 rcases Nat.lt_or_ge k T.length with hkl | hkl
 · obtain ⟨⟨ro', rc, xs, hh'⟩, hx⟩ : ∃ b, T[k]? = some b := ⟨_, List.getElem?_eq_getElem hkl⟩
   obtain ⟨_, ad, rfl, _⟩ := ht.ptr (by omega)
   have e0 := fun (w' : World) hw' => rd_fld (ht.below (w' := w') hw') hx
   have hrr := hh _ (List.mem_of_getElem? hx)
   have hrb := hb4 _ (List.mem_of_getElem? hx)
   change Rd 1 iF (.slice ro' xs.length rc) xs w at hrr
   change xs.length ≤ 1000000 at hrb
   have hmx : (T.map Tc.d)[k]? = some (xs, hh') := by rw [List.getElem?_map, hx]; rfl
   have h3 := sum_tk (f := teP ⟨sl, ro, su, G.map Rw.xs, T.map Tc.d⟩ l) hmx
   have h5 := htea _ (List.mem_of_getElem? hmx)
   have hq : teP ⟨sl, ro, su, G.map Rw.xs, T.map Tc.d⟩ l (xs, hh') = bif xs.any (fun j => l.contains j) then min hh' sl else 0 := rfl
   rw [hq, any_comm] at h3
   unfold timeP at h5
   dsimp only at h5
   generalize (((T.map Tc.d).take k).map (teP ⟨sl, ro, su, G.map Rw.xs, T.map Tc.d⟩ l)).sum = S at *
   have hmi := imin_eq sl hh'
   have hmm : min hh' sl = min sl hh' := by omega
   rw [hmm, ← hmi] at h3
   have hmb : 0 ≤ imin sl hh' ∧ imin sl hh' ≤ 40 := by rw [hmi]; omega
   repeat'
    conv => whnf
    first
     | refine zA ?_ | refine zB ?_ | refine zC ?_ | refine zD ?_ | refine zE ?_ | refine zF ?_ | refine zG ?_ | refine zH ?_ | refine zJ ?_ | refine zI ?_ | refine splT ?_ | refine splF ?_ | refine splNot ?_
     | ((first | refine splIn ?_ ?_ | refine splD ?_ ?_ | refine splE ?_ ?_ | refine splNE ?_ ?_) <;> intro hc <;> first | (exfalso; omega) | (exfalso; dsimp only at hc; omega) | skip)
   all_goals first | (exfalso; omega) | skip
   refine loopN 1 (fun i : Nat => [(1, .v (.slice o l.length c)), (2, .ptr 0 0), (5, .v (iv S)), (6, .v (iv k)), (7, .v (.bool ((l.take i).any fun j => xs.contains j))), (8, .v (iv i))]) (fun _ => [(0, .cells [.v (iv sl), .v (iv ro), .v (iv su), .v (.slice go G.length gc), .v (.slice (some ad) T.length tc)] 25)]) (fun i => i ≤ l.length) (fun i => l.length - i) 0 (Nat.zero_le _) ⟨rfl, rfl, rfl, rfl, rfl, rfl, trivial⟩ ⟨rfl, trivial⟩ (fun _ _ => ⟨rfl, rfl⟩) ?_
   intro i hi
   rcases Nat.lt_or_ge i l.length with hil | hil
   · obtain ⟨j, hj⟩ : ∃ b, l[i]? = some b := ⟨_, List.getElem?_eq_getElem hil⟩
     obtain ⟨_, ad2, rfl, _⟩ := hrd.ptr (by omega)
     have e1 := fun (w' : World) hw' => rd_ati (hrd.below (w' := w') hw') hj
     have c59 := fun (w' : World) (hw : Below w.heap.size w w') => has59_ok xs ro' rc j w' (hrr.below hw) hrb
     have hat := any_take (p := fun j => xs.contains j) hj
     generalize hQ : ((l.take i).any fun j => xs.contains j) = Q at *
     generalize xs.contains j = q at *
     cases Q with
     | true =>
      rw [Bool.true_or] at hat
      repeat'
       conv => whnf
       first
        | refine zA ?_ | refine zB ?_ | refine zC ?_ | refine zD ?_ | refine zE ?_ | refine zF ?_ | refine zG ?_ | refine zH ?_ | refine zJ ?_ | refine zI ?_ | refine splT ?_ | refine splF ?_ | refine splNot ?_
        | ((first | refine splIn ?_ ?_ | refine splD ?_ ?_ | refine splE ?_ ?_ | refine splNE ?_ ?_) <;> intro hc <;> first | (exfalso; omega) | (exfalso; dsimp only at hc; omega) | skip)
      all_goals first | (exfalso; omega) | exact ⟨i + 1, by omega, by omega, Ent.weak rfl ⟨rfl, rfl, rfl, rfl, by rw [hat]; rfl, rfl, trivial⟩ ⟨rfl, trivial⟩ fun _ h => h⟩
     | false =>
      rw [Bool.false_or] at hat
      repeat'
       conv => whnf
       first
        | refine zA ?_ | refine zB ?_ | refine zC ?_ | refine zD ?_ | refine zE ?_ | refine zF ?_ | refine zG ?_ | refine zH ?_ | refine zJ ?_ | refine zI ?_ | refine splT ?_ | refine splF ?_ | refine splNot ?_
        | ((first | refine splIn ?_ ?_ | refine splD ?_ ?_ | refine splE ?_ ?_ | refine splNE ?_ ?_) <;> intro hc <;> first | (exfalso; omega) | (exfalso; dsimp only at hc; omega) | skip)
        | refine Exists.intro (α := List Value) [.slice ro' xs.length rc] ⟨⟨rfl, fun w' hw' => e0 w' hw' 0 _ rfl⟩, ?_⟩
        | refine Exists.intro (α := List Value) [iv j] ⟨⟨rfl, fun w' hw' => e1 w' hw'⟩, ?_⟩
        | ((with_reducible show CallEv _ _ 59 _ _ _ _ _); refine callE (k := 59) (fun β w' hbw => c59 _ hbw) ?_)
      all_goals first | (exfalso; omega) | exact ⟨i + 1, by omega, by omega, Ent.weak rfl ⟨rfl, rfl, rfl, rfl, by rw [hat]; rfl, rfl, trivial⟩ ⟨rfl, trivial⟩ fun _ h => h⟩
   · obtain rfl : i = l.length := by omega
     rw [List.take_length]
     cases hc : (l.any fun j => xs.contains j) with
     | true =>
      rw [hc, cond_true] at h3
      repeat'
       conv => whnf
       first
        | refine zA ?_ | refine zB ?_ | refine zC ?_ | refine zD ?_ | refine zE ?_ | refine zF ?_ | refine zG ?_ | refine zH ?_ | refine zJ ?_ | refine zI ?_ | refine splT ?_ | refine splF ?_ | refine splNot ?_
        | ((first | refine splIn ?_ ?_ | refine splD ?_ ?_ | refine splE ?_ ?_ | refine splNE ?_ ?_) <;> intro hc <;> first | (exfalso; omega) | (exfalso; dsimp only at hc; omega) | skip)
        | refine Exists.intro (α := List Value) [iv hh'] ⟨⟨rfl, fun w' hw' => e0 w' hw' 1 _ rfl⟩, ?_⟩
      all_goals first | (exfalso; omega) | exact ⟨k + 1, by omega, by omega, Ent.weak rfl ⟨rfl, rfl, by rw [h3]; rfl, rfl, trivial⟩ ⟨rfl, trivial⟩ fun _ h => h⟩
     | false =>
      rw [hc, cond_false, Int.add_zero] at h3
      repeat'
       conv => whnf
       first
        | refine zA ?_ | refine zB ?_ | refine zC ?_ | refine zD ?_ | refine zE ?_ | refine zF ?_ | refine zG ?_ | refine zH ?_ | refine zJ ?_ | refine zI ?_ | refine splT ?_ | refine splF ?_ | refine splNot ?_
        | ((first | refine splIn ?_ ?_ | refine splD ?_ ?_ | refine splE ?_ ?_ | refine splNE ?_ ?_) <;> intro hc <;> first | (exfalso; omega) | (exfalso; dsimp only at hc; omega) | skip)
      all_goals first | (exfalso; omega) | exact ⟨k + 1, by omega, by omega, Ent.weak rfl ⟨rfl, rfl, by rw [h3]; rfl, rfl, trivial⟩ ⟨rfl, trivial⟩ fun _ h => h⟩
 · obtain rfl : k = T.length := by omega
   rw [show (T.map Tc.d).take T.length = T.map Tc.d from List.take_of_length_le (by simp)]
   repeat'
    conv => whnf
    first
     | refine zA ?_ | refine zB ?_ | refine zC ?_ | refine zD ?_ | refine zE ?_ | refine zF ?_ | refine zG ?_ | refine zH ?_ | refine zJ ?_ | refine zI ?_ | refine splT ?_ | refine splF ?_ | refine splNot ?_
     | ((first | refine splIn ?_ ?_ | refine splD ?_ ?_ | refine splE ?_ ?_ | refine splNE ?_ ?_) <;> intro hc <;> first | (exfalso; omega) | (exfalso; dsimp only at hc; omega) | skip)
   all_goals first | (exfalso; omega) | exact ⟨fun β => rfl, fun w' h => h⟩
end Go.Proofs.YtkbfcofifhngfaaGreat
namespace Go.Proofs.YtkbfcofifhngfaaGreat.Tx
open Go Go.RowKit
theorem shrE {P : Program} {dst : Option Tmp} {ty t yt : TypeId} {pos : String} {after : Array Edge} {gd : Option (Nat × Bool)} {gs : List Nat} {σ : Sg} {K : Ef → Prop} {x y : Operand} {a b : Int} {k k' : IntKind} (v : Int)
 (hx : gv σ x = some (.v (.int k a))) (hy : gv σ y = some (.v (.int k' b))) (hb : 0 ≤ b) (hv : a.fdiv (2 ^ min b.toNat k.bits) = v)
 (hK : K ⟨.v (.int k v), [], [], gs ++ (os x ++ os y), []⟩) : OpEv P ⟨dst, .binOp .shr t x y yt, ty, pos, after, gd⟩ gs σ K := by
 refine .mk ⟨.v (.int k v), [], [], gs ++ (os x ++ os y), []⟩ (by rfl) (fun k hk => by simp [hk]) rfl (runOK_pure fun β a' w hs => ?_) hK
 have e1 := gv_eval hs hx (fun k hk => by simp [hk])
 have e2 := gv_eval hs hy (fun k hk => by simp [hk])
 subst hv
 have hb' : ¬ b < 0 := by omega
 simp [execOp, e1, e2, SV.c, binOp, Op.shift, hb', eqGuard]
theorem shlE {P : Program} {dst : Option Tmp} {ty t yt : TypeId} {pos : String} {after : Array Edge} {gd : Option (Nat × Bool)} {gs : List Nat} {σ : Sg} {K : Ef → Prop} {x y : Operand} {a b : Int} {k k' : IntKind} (v : Int)
 (hx : gv σ x = some (.v (.int k a))) (hy : gv σ y = some (.v (.int k' b))) (hb : 0 ≤ b) (hv : k.wrap (a * 2 ^ min b.toNat k.bits) = v)
 (hK : K ⟨.v (.int k v), [], [], gs ++ (os x ++ os y), []⟩) : OpEv P ⟨dst, .binOp .shl t x y yt, ty, pos, after, gd⟩ gs σ K := by
 refine .mk ⟨.v (.int k v), [], [], gs ++ (os x ++ os y), []⟩ (by rfl) (fun k hk => by simp [hk]) rfl (runOK_pure fun β a' w hs => ?_) hK
 have e1 := gv_eval hs hx (fun k hk => by simp [hk])
 have e2 := gv_eval hs hy (fun k hk => by simp [hk])
 subst hv
 have hb' : ¬ b < 0 := by omega
 simp [execOp, e1, e2, SV.c, binOp, Op.shift, hb', eqGuard]
end Go.Proofs.YtkbfcofifhngfaaGreat.Tx
namespace Go.Proofs.YtkbfcofifhngfaaGreat
open Go Tx Go.RowKit
set_option linter.unusedSimpArgs false
set_option linter.unusedVariables false
def memL (set k : Nat) : List Int := ((List.range k).filter fun i => set.testBit i).map fun i : Nat => (i : Int)
theorem memL_step (set k : Nat) : memL set (k + 1) = memL set k ++ (bif set.testBit k then [(k : Int)] else []) := by
 unfold memL
 rw [List.range_succ, List.filter_append, List.map_append]
 congr 1
 cases h : set.testBit k <;> simp [h]
theorem w64i (n : Nat) (h : n < 2 ^ 63) : IntKind.i64.wrap (n : Int) = n := IR.wrap (k := .i64) ⟨by omega, by omega⟩
theorem bv64 (n : Nat) : BitVec.ofInt 64 (n : Int) = BitVec.ofNat 64 n := by simp
def btI (S t : Nat) : Int := if S.testBit t = true then 1 else 0
theorem sh_r {S t : Nat} (ht : t < 9) : ((S : Int).fdiv (2 ^ (min (t : Int).toNat IntKind.i64.bits))) = ((S >>> t : Nat) : Int) := by
 have e : min (t : Int).toNat IntKind.i64.bits = t := by show min (t : Int).toNat 64 = t; omega
 rw [e, show (2 : Int) ^ t = ((2 ^ t : Nat) : Int) from by simp, Nat.shiftRight_eq_div_pow]
 rw [Int.fdiv_eq_ediv_of_nonneg _ (Int.natCast_nonneg _)]
 exact (Int.natCast_ediv S (2 ^ t)).symm
theorem and_l {S t : Nat} (hS : S < 512) : IntKind.i64.wrap ((BitVec.ofInt IntKind.i64.bits ((S >>> t : Nat) : Int) &&& BitVec.ofInt IntKind.i64.bits 1).toNat : Int) = btI S t := by
 have h1 : S >>> t ≤ S := Nat.shiftRight_le _ _
 show IntKind.i64.wrap ((BitVec.ofInt 64 ((S >>> t : Nat) : Int) &&& BitVec.ofInt 64 ((1 : Nat) : Int)).toNat : Int) = _
 rw [bv64, bv64, BitVec.toNat_and, BitVec.toNat_ofNat, BitVec.toNat_ofNat, Nat.mod_eq_of_lt (by omega), Nat.mod_eq_of_lt (by omega), Nat.and_one_is_mod]
 have h2 : S.testBit t = decide ((S >>> t) % 2 = 1) := by
  rw [Nat.testBit, Nat.one_and_eq_mod_two]
  rcases Nat.mod_two_eq_zero_or_one (S >>> t) with h | h <;> simp [h]
 unfold btI
 rw [h2, w64i _ (by omega)]
 rcases Nat.mod_two_eq_zero_or_one (S >>> t) with h | h <;> simp [h]
theorem und106 : Tryz.prog.underlying 106 = some (.int .u64) := by kernel_rfl
theorem cvU (t : Nat) (h : t < 1000000) : RunIs Tryz.prog (convert 3 106 (.int .i64 t)) (.int .u64 t) := fun w => by
 have h3 : IntKind.u64.wrap (t : Int) = t := IR.wrap (k := .u64) ⟨by omega, by omega⟩
 simp [convert, Conv.intToInt, Go.run_underlying und106 w, Go.run_underlying und3 w, h3]
set_option maxHeartbeats 1000000 in
set_option maxRecDepth 100000 in
theorem Members_ok (set : Nat) (hs : set < 64) (w : World) :
 Calls Tryz.prog 54 #[iv set] w fun e w' => ∃ y : Option Addr × Nat, e = .returned (sV (memL set 6).length y) ∧ Below w.heap.size w w' ∧ St w.heap.size (Rd 1 iF (sV (memL set 6).length y) (memL set 6)) w' := by
 refine calls_fam env mixed Tryz.func54 has54 Tryz.ntmps54 [iv set] (by simp) ?_
 repeat'
  conv => whnf
  first
   | refine zA ?_ | refine zB ?_ | refine zC ?_ | refine zD ?_ | refine zE ?_ | refine zF ?_ | refine zG ?_ | refine zH ?_ | refine zJ ?_ | refine zI ?_ | refine splT ?_ | refine splF ?_ | refine splNot ?_
   | ((first | refine splIn ?_ ?_ | refine splD ?_ ?_ | refine splE ?_ ?_ | refine splNE ?_ ?_) <;> intro hc <;> first | (exfalso; omega) | (exfalso; dsimp only at hc; omega) | skip)
 refine loopN 2 (fun k : Nat => [(0, .v (iv set)), (3, oSV 0 1 (memL set k)), (4, .v (iv k))]) (fun k => oM 0 1 1 iF 3 (memL set k)) (fun k => k ≤ 6) (fun k => 6 - k) 0 (Nat.zero_le _) ⟨rfl, rfl, rfl, trivial⟩ trivial (fun k _ => by cases memL set k <;> exact ⟨rfl, rfl⟩) ?_
 intro k hk
 rcases Nat.lt_or_ge k 6 with hkl | hkl
 · have hst := memL_step set k
   have h1 := sh_r (S := set) (t := k) (by omega)
   have h2 := and_l (S := set) (t := k) (by omega)
   have hB : btI set k = if set.testBit k = true then 1 else 0 := rfl
   have hlen : (memL set k).length ≤ 6 := by
    unfold memL
    rw [List.length_map]
    have := List.length_filter_le (fun i => set.testBit i) (List.range k)
    rw [List.length_range] at this
    omega
   generalize hR : ((set >>> k : Nat) : Int) = R at *
   generalize btI set k = B at *
   cases hb : set.testBit k with
   | true =>
    rw [hb, cond_true] at hst
    rw [hb, if_pos rfl] at hB
    subst hB
    cases hD : memL set k with
    | nil =>
     rw [hD] at hst
     repeat'
      conv => whnf
      first
       | refine zA ?_ | refine zB ?_ | refine zC ?_ | refine zD ?_ | refine zE ?_ | refine zF ?_ | refine zG ?_ | refine zH ?_ | refine zJ ?_ | refine zI ?_ | refine splT ?_ | refine splF ?_ | refine splNot ?_
       | ((first | refine splIn ?_ ?_ | refine splD ?_ ?_ | refine splE ?_ ?_ | refine splNE ?_ ?_) <;> intro hc <;> first | (exfalso; omega) | (exfalso; dsimp only at hc; omega) | skip)
       | refine Exists.intro (α := Value) (.int .u64 k) ⟨cvU k (by omega), ?_⟩
       | refine shrE R rfl rfl (by omega) h1 ?_
       | refine Exists.intro (α := Int) 1 ⟨h2.symm, ?_⟩
     all_goals first | (exfalso; omega) | exact ⟨k + 1, by omega, by omega, Ent.ren (rho [(0, 3), (1, 4)]) rfl (by rw [hst]; rfl) ⟨rfl, by rw [hst]; rfl, rfl, trivial⟩ (by rw [hst]; exact ⟨rfl, trivial⟩) fun _ h => h⟩
    | cons a D =>
     rw [hD] at hst hlen
     simp only [List.length_cons] at hlen
     repeat'
      conv => whnf
      first
       | refine zA ?_ | refine zB ?_ | refine zC ?_ | refine zD ?_ | refine zE ?_ | refine zF ?_ | refine zG ?_ | refine zH ?_ | refine zJ ?_ | refine zI ?_ | refine splT ?_ | refine splF ?_ | refine splNot ?_
       | ((first | refine splIn ?_ ?_ | refine splD ?_ ?_ | refine splE ?_ ?_ | refine splNE ?_ ?_) <;> intro hc <;> first | (exfalso; omega) | (exfalso; dsimp only at hc; omega) | skip)
       | refine Exists.intro (α := Value) (.int .u64 k) ⟨cvU k (by omega), ?_⟩
       | refine shrE R rfl rfl (by omega) h1 ?_
       | refine Exists.intro (α := Int) 1 ⟨h2.symm, ?_⟩
     all_goals first | (exfalso; omega) | exact ⟨k + 1, by omega, by omega, Ent.ren (rho [(0, 3), (1, 4)]) rfl (by rw [hst]; rfl) ⟨rfl, by rw [hst]; simp [oSV]; rfl, rfl, trivial⟩ (by rw [hst]; exact ⟨by simp [oM]; rfl, trivial⟩) fun _ h => h⟩
   | false =>
    rw [hb, cond_false, List.append_nil] at hst
    rw [hb, if_neg (by decide)] at hB
    subst hB
    cases hD : memL set k with
    | nil =>
     rw [hD] at hst
     repeat'
      conv => whnf
      first
       | refine zA ?_ | refine zB ?_ | refine zC ?_ | refine zD ?_ | refine zE ?_ | refine zF ?_ | refine zG ?_ | refine zH ?_ | refine zJ ?_ | refine zI ?_ | refine splT ?_ | refine splF ?_ | refine splNot ?_
       | ((first | refine splIn ?_ ?_ | refine splD ?_ ?_ | refine splE ?_ ?_ | refine splNE ?_ ?_) <;> intro hc <;> first | (exfalso; omega) | (exfalso; dsimp only at hc; omega) | skip)
       | refine Exists.intro (α := Value) (.int .u64 k) ⟨cvU k (by omega), ?_⟩
       | refine shrE R rfl rfl (by omega) h1 ?_
       | refine Exists.intro (α := Int) 0 ⟨h2.symm, ?_⟩
     all_goals first | (exfalso; omega) | exact ⟨k + 1, by omega, by omega, Ent.weak rfl ⟨rfl, by rw [hst]; rfl, rfl, trivial⟩ (by rw [hst]; trivial) fun _ h => h⟩
    | cons a D =>
     rw [hD] at hst
     repeat'
      conv => whnf
      first
       | refine zA ?_ | refine zB ?_ | refine zC ?_ | refine zD ?_ | refine zE ?_ | refine zF ?_ | refine zG ?_ | refine zH ?_ | refine zJ ?_ | refine zI ?_ | refine splT ?_ | refine splF ?_ | refine splNot ?_
       | ((first | refine splIn ?_ ?_ | refine splD ?_ ?_ | refine splE ?_ ?_ | refine splNE ?_ ?_) <;> intro hc <;> first | (exfalso; omega) | (exfalso; dsimp only at hc; omega) | skip)
       | refine Exists.intro (α := Value) (.int .u64 k) ⟨cvU k (by omega), ?_⟩
       | refine shrE R rfl rfl (by omega) h1 ?_
       | refine Exists.intro (α := Int) 0 ⟨h2.symm, ?_⟩
     all_goals first | (exfalso; omega) | exact ⟨k + 1, by omega, by omega, Ent.weak rfl ⟨rfl, by rw [hst]; rfl, rfl, trivial⟩ (by rw [hst]; exact ⟨rfl, trivial⟩) fun _ h => h⟩
 · obtain rfl : k = 6 := by omega
   cases hD : memL set 6 with
   | nil =>
    repeat'
     conv => whnf
     first
      | refine zA ?_ | refine zB ?_ | refine zC ?_ | refine zD ?_ | refine zE ?_ | refine zF ?_ | refine zG ?_ | refine zH ?_ | refine zJ ?_ | refine zI ?_ | refine splT ?_ | refine splF ?_ | refine splNot ?_
      | ((first | refine splIn ?_ ?_ | refine splD ?_ ?_ | refine splE ?_ ?_ | refine splNE ?_ ?_) <;> intro hc <;> first | (exfalso; omega) | (exfalso; dsimp only at hc; omega) | skip)
    exact ⟨fun w' h => h, fun β w' hB hblk => oNil⟩
   | cons a L =>
    repeat'
     conv => whnf
     first
      | refine zA ?_ | refine zB ?_ | refine zC ?_ | refine zD ?_ | refine zE ?_ | refine zF ?_ | refine zG ?_ | refine zH ?_ | refine zJ ?_ | refine zI ?_ | refine splT ?_ | refine splF ?_ | refine splNot ?_
      | ((first | refine splIn ?_ ?_ | refine splD ?_ ?_ | refine splE ?_ ?_ | refine splNE ?_ ?_) <;> intro hc <;> first | (exfalso; omega) | (exfalso; dsimp only at hc; omega) | skip)
    exact ⟨fun w' h => h, fun β w' hB hblk => oEnd (sz := 1) (f := iF) (fun _ => rfl) a L (hblk 0 _ rfl rfl)⟩
theorem numL_step (k : Nat) : numL (k + 1) = numL k ++ [(k : Int)] := by unfold numL; rw [List.range_succ, List.map_append]; rfl
theorem numL_len (k : Nat) : (numL k).length = k := by simp [numL]
def ltB : List Int → List Int → Bool
 | x :: a, y :: b => if x = y then ltB a b else decide (x < y)
 | _, _ => false
def befB (a b : List Int) : Bool := if a.length = b.length then ltB a b else decide (a.length < b.length)
theorem ltB_at : ∀ {a b : List Int} {k : Nat} {x y : Int}, a.take k = b.take k → a[k]? = some x → b[k]? = some y → x ≠ y → ltB a b = decide (x < y)
 | u :: a, v :: b, 0, x, y, _, h1, h2, hn => by
  simp only [List.getElem?_cons_zero, Option.some.injEq] at h1 h2
  subst h1 h2
  rw [ltB, if_neg hn]
 | u :: a, v :: b, k + 1, x, y, ht, h1, h2, hn => by
  simp only [List.take_succ_cons, List.cons.injEq] at ht
  obtain ⟨rfl, ht⟩ := ht
  rw [ltB, if_pos rfl]
  exact ltB_at ht (by simpa using h1) (by simpa using h2) hn
 | [], _, _, _, _, _, h, _, _ => by simp at h
 | _ :: _, [], _, _, _, _, _, h, _ => by simp at h
theorem ltB_self : ∀ a : List Int, ltB a a = false
 | [] => rfl
 | x :: a => by rw [ltB, if_pos rfl]; exact ltB_self a
set_option maxHeartbeats 1000000 in
set_option maxRecDepth 100000 in
theorem before_ok (a b : List Int) (oa ob : Option Addr) (ca cb : Nat) (w : World) (ha : Rd 1 iF (.slice oa a.length ca) a w) (hb : Rd 1 iF (.slice ob b.length cb) b w) (hla : a.length ≤ 1000000) (hlb : b.length ≤ 1000000) :
 Calls Tryz.prog 57 #[.slice oa a.length ca, .slice ob b.length cb] w fun e w' => e = .returned (.bool (befB a b)) ∧ Below w.heap.size w w' := by
 unfold befB
 refine calls_val env mixed Tryz.func57 has57 Tryz.ntmps57 [.slice oa a.length ca, .slice ob b.length cb] (by simp) ?_
 by_cases hl : a.length = b.length
 · rw [if_pos hl]
   repeat'
    conv => whnf
    first
     | refine zA ?_ | refine zB ?_ | refine zC ?_ | refine zD ?_ | refine zE ?_ | refine zF ?_ | refine zG ?_ | refine zH ?_ | refine zJ ?_ | refine zI ?_ | refine splT ?_ | refine splF ?_ | refine splNot ?_
     | ((first | refine splIn ?_ ?_ | refine splD ?_ ?_ | refine splE ?_ ?_ | refine splNE ?_ ?_) <;> intro hc <;> first | (exfalso; omega) | (exfalso; dsimp only at hc; omega) | skip)
   all_goals first | (exfalso; omega) | skip
   refine loopE (fun k : Nat => [(0, .v (.slice oa a.length ca)), (1, .v (.slice ob b.length cb)), (5, .v (iv k))]) (fun _ => []) (fun k => k ≤ a.length ∧ a.take k = b.take k) (fun k => a.length - k) 0 ⟨Nat.zero_le _, rfl⟩ ⟨rfl, rfl, rfl, trivial⟩ trivial (fun _ => ⟨rfl, rfl⟩) ?_
   intro k ⟨hk, hall⟩
   rcases Nat.lt_or_ge k a.length with hkl | hkl
   · obtain ⟨x, hx⟩ : ∃ x, a[k]? = some x := ⟨_, List.getElem?_eq_getElem hkl⟩
     obtain ⟨y, hy⟩ : ∃ y, b[k]? = some y := ⟨_, List.getElem?_eq_getElem (by omega)⟩
     obtain ⟨_, ad, rfl, _⟩ := ha.ptr (by omega)
     obtain ⟨_, ad2, rfl, _⟩ := hb.ptr (by omega)
     have e0 := fun (w' : World) hw' => rd_ati (ha.below (w' := w') hw') hx
     have e1 := fun (w' : World) hw' => rd_ati (hb.below (w' := w') hw') hy
     by_cases hxy : x = y
     · have hn : a.take (k + 1) = b.take (k + 1) := by rw [List.take_add_one, List.take_add_one, hx, hy, hall, hxy]
       repeat'
        conv => whnf
        first
         | refine zA ?_ | refine zB ?_ | refine zC ?_ | refine zD ?_ | refine zE ?_ | refine zF ?_ | refine zG ?_ | refine zH ?_ | refine zJ ?_ | refine zI ?_ | refine splT ?_ | refine splF ?_ | refine splNot ?_
         | ((first | refine splIn ?_ ?_ | refine splD ?_ ?_ | refine splE ?_ ?_ | refine splNE ?_ ?_) <;> intro hc <;> first | (exfalso; omega) | (exfalso; dsimp only at hc; omega) | skip)
         | refine Exists.intro (α := List Value) [iv x] ⟨⟨rfl, fun w' hw' => e0 w' hw'⟩, ?_⟩
         | refine Exists.intro (α := List Value) [iv y] ⟨⟨rfl, fun w' hw' => e1 w' hw'⟩, ?_⟩
       all_goals first | (exfalso; omega) | exact ⟨k + 1, ⟨by omega, hn⟩, by omega, Ent.weak rfl ⟨rfl, rfl, rfl, trivial⟩ trivial fun _ h => h⟩
     · rw [ltB_at hall hx hy hxy]
       repeat'
        conv => whnf
        first
         | refine zA ?_ | refine zB ?_ | refine zC ?_ | refine zD ?_ | refine zE ?_ | refine zF ?_ | refine zG ?_ | refine zH ?_ | refine zJ ?_ | refine zI ?_ | refine splT ?_ | refine splF ?_ | refine splNot ?_
         | ((first | refine splIn ?_ ?_ | refine splD ?_ ?_ | refine splE ?_ ?_ | refine splNE ?_ ?_) <;> intro hc <;> first | (exfalso; omega) | (exfalso; dsimp only at hc; omega) | skip)
         | refine Exists.intro (α := List Value) [iv x] ⟨⟨rfl, fun w' hw' => e0 w' hw'⟩, ?_⟩
         | refine Exists.intro (α := List Value) [iv y] ⟨⟨rfl, fun w' hw' => e1 w' hw'⟩, ?_⟩
       all_goals first | (exfalso; omega) | exact ⟨fun β => rfl, fun w' h => h⟩
   · have hab : a = b := by
      rw [List.take_of_length_le hkl, List.take_of_length_le (by omega)] at hall
      exact hall
     subst hab
     rw [ltB_self]
     repeat'
      conv => whnf
      first
       | refine zA ?_ | refine zB ?_ | refine zC ?_ | refine zD ?_ | refine zE ?_ | refine zF ?_ | refine zG ?_ | refine zH ?_ | refine zJ ?_ | refine zI ?_ | refine splT ?_ | refine splF ?_ | refine splNot ?_
       | ((first | refine splIn ?_ ?_ | refine splD ?_ ?_ | refine splE ?_ ?_ | refine splNE ?_ ?_) <;> intro hc <;> first | (exfalso; omega) | (exfalso; dsimp only at hc; omega) | skip)
     all_goals first | (exfalso; omega) | exact ⟨fun β => rfl, fun w' h => h⟩
 · rw [if_neg hl]
   repeat'
    conv => whnf
    first
     | refine zA ?_ | refine zB ?_ | refine zC ?_ | refine zD ?_ | refine zE ?_ | refine zF ?_ | refine zG ?_ | refine zH ?_ | refine zJ ?_ | refine zI ?_ | refine splT ?_ | refine splF ?_ | refine splNot ?_
     | ((first | refine splIn ?_ ?_ | refine splD ?_ ?_ | refine splE ?_ ?_ | refine splNE ?_ ?_) <;> intro hc <;> first | (exfalso; omega) | (exfalso; dsimp only at hc; omega) | skip)
   all_goals first | (exfalso; omega) | exact ⟨fun β => congrArg Value.bool (by simp), fun w' h => h⟩
end Go.Proofs.YtkbfcofifhngfaaGreat
namespace Go.Proofs.YtkbfcofifhngfaaGreat
open Go Tx Go.RowKit
set_option linter.unusedSimpArgs false
set_option linter.unusedVariables false
theorem und36 : Tryz.prog.underlying 36 = some (.slice 3) := by kernel_rfl
theorem eqS (o : Option Addr) (n c : Nat) (w : World) : (Op.equal 36 (.slice o n c) (.slice none 0 0)).run Tryz.prog w = .ok o.isNone w := by
 unfold Op.equal
 rw [show Op.maxDepth = 9999 + 1 from rfl, Op.equalIn]
 cases o <;> simp [Sem.run_bind, Go.run_underlying und36 w]
theorem nilEq (o : Option Addr) (n c : Nat) (x y : Operand) {K : Value → Prop} (h : K (.bool o.isNone)) : ∃ v, (∀ _ : Nat → Nat, RunIs Tryz.prog (do eqGuard .eql 36 x y (.slice o n c) (.slice none 0 0); binOp .eql 36 (.slice o n c) (.slice none 0 0)) v) ∧ K v :=
 ⟨_, fun _ w => by have := eqS o n c w; simp [eqGuard, binOp, this], h⟩
theorem nilNe (o : Option Addr) (n c : Nat) (x y : Operand) {K : Value → Prop} (h : K (.bool (!o.isNone))) : ∃ v, (∀ _ : Nat → Nat, RunIs Tryz.prog (do eqGuard .neq 36 x y (.slice o n c) (.slice none 0 0); binOp .neq 36 (.slice o n c) (.slice none 0 0)) v) ∧ K v :=
 ⟨_, fun _ w => by have := eqS o n c w; simp [eqGuard, binOp, this], h⟩
set_option maxHeartbeats 1000000 in
set_option maxRecDepth 100000 in
theorem Numbers_own (n : Nat) (hn : 1 ≤ n ∧ n ≤ 1000) (w : World) :
 Calls Tryz.prog 58 #[iv n] w fun e w' => ∃ b d, e = .returned (.slice (some ⟨b, 0, none⟩) n d) ∧ w.heap.size ≤ b ∧ Below w.heap.size w w' ∧ w'.ownsRow 0 3 1 (.slice (some ⟨b, 0, none⟩) n d) n ((numL n).flatMap iF) := by
 refine calls_fam2 env mixed Tryz.func58 has58 Tryz.ntmps58 [iv n] (by simp) ?_
 repeat'
  conv => whnf
  first
   | refine zA ?_ | refine zB ?_ | refine zC ?_ | refine zD ?_ | refine zE ?_ | refine zF ?_ | refine zG ?_ | refine zH ?_ | refine zJ ?_ | refine zI ?_ | refine splT ?_ | refine splF ?_ | refine splNot ?_
   | ((first | refine splIn ?_ ?_ | refine splD ?_ ?_ | refine splE ?_ ?_ | refine splNE ?_ ?_) <;> intro hc <;> first | (exfalso; omega) | (exfalso; dsimp only at hc; omega) | skip)
 refine loopN 2 (fun k : Nat => [(0, .v (iv n)), (3, oSV 0 1 (numL k)), (4, .v (iv k))]) (fun k => oM 0 1 1 iF 3 (numL k)) (fun k => k ≤ n) (fun k => n - k) 0 (Nat.zero_le _) ⟨rfl, rfl, rfl, trivial⟩ trivial (fun k _ => by cases numL k <;> exact ⟨rfl, rfl⟩) ?_
 intro k hk
 rcases Nat.lt_or_ge k n with hkl | hkl
 · have hst := numL_step k
   have hlen := numL_len k
   cases hD : numL k with
   | nil =>
    rw [hD] at hst
    repeat'
     conv => whnf
     first
      | refine zA ?_ | refine zB ?_ | refine zC ?_ | refine zD ?_ | refine zE ?_ | refine zF ?_ | refine zG ?_ | refine zH ?_ | refine zJ ?_ | refine zI ?_ | refine splT ?_ | refine splF ?_ | refine splNot ?_
      | ((first | refine splIn ?_ ?_ | refine splD ?_ ?_ | refine splE ?_ ?_ | refine splNE ?_ ?_) <;> intro hc <;> first | (exfalso; omega) | (exfalso; dsimp only at hc; omega) | skip)
    all_goals first | (exfalso; omega) | exact ⟨k + 1, by omega, by omega, Ent.ren (rho [(0, 3), (1, 4)]) rfl (by rw [hst]; rfl) ⟨rfl, by rw [hst]; rfl, rfl, trivial⟩ (by rw [hst]; exact ⟨rfl, trivial⟩) fun _ h => h⟩
   | cons a D =>
    rw [hD] at hst hlen
    simp only [List.length_cons] at hlen
    repeat'
     conv => whnf
     first
      | refine zA ?_ | refine zB ?_ | refine zC ?_ | refine zD ?_ | refine zE ?_ | refine zF ?_ | refine zG ?_ | refine zH ?_ | refine zJ ?_ | refine zI ?_ | refine splT ?_ | refine splF ?_ | refine splNot ?_
      | ((first | refine splIn ?_ ?_ | refine splD ?_ ?_ | refine splE ?_ ?_ | refine splNE ?_ ?_) <;> intro hc <;> first | (exfalso; omega) | (exfalso; dsimp only at hc; omega) | skip)
    all_goals first | (exfalso; omega) | exact ⟨k + 1, by omega, by omega, Ent.ren (rho [(0, 3), (1, 4)]) rfl (by rw [hst]; rfl) ⟨rfl, by rw [hst]; simp [oSV]; rfl, rfl, trivial⟩ (by rw [hst]; exact ⟨by simp [oM]; rfl, trivial⟩) fun _ h => h⟩
 · obtain rfl : k = n := by omega
   have hlen := numL_len k
   cases hD : numL k with
   | nil => rw [hD] at hlen; simp at hlen; omega
   | cons a L =>
    rw [hD] at hlen
    simp only [List.length_cons] at hlen
    repeat'
     conv => whnf
     first
      | refine zA ?_ | refine zB ?_ | refine zC ?_ | refine zD ?_ | refine zE ?_ | refine zF ?_ | refine zG ?_ | refine zH ?_ | refine zJ ?_ | refine zI ?_ | refine splT ?_ | refine splF ?_ | refine splNot ?_
      | ((first | refine splIn ?_ ?_ | refine splD ?_ ?_ | refine splE ?_ ?_ | refine splNE ?_ ?_) <;> intro hc <;> first | (exfalso; omega) | (exfalso; dsimp only at hc; omega) | skip)
    subst hlen
    exact ⟨fun w' h => h, fun β w' hB hB2 hblk => ⟨β 0, β 1, rfl, (hblk 0 _ rfl rfl).1, hB2, by have := (hblk 0 _ rfl rfl).2; simpa [Blk.ok] using this⟩⟩
def crB (s : SD) (g : Nat) : Bool := decide (s.sl < ((s.G.getD g []).map id).sum)
def crF (s : SD) : Nat → Nat → Option Nat
 | _, 0 => none
 | k, n + 1 => if crB s k = true then some k else crF s (k + 1) n
def unB (s : SD) (l : List Int) : Bool := decide (timesP s l < hoursP s l)
def bestK (s : SD) : Nat → Option (List Int)
 | 0 => none
 | n + 1 => if unB s (memL (n + 1) 6) = true ∧ (bestK s n = none ∨ ∃ b, bestK s n = some b ∧ befB (memL (n + 1) 6) b = true) then some (memL (n + 1) 6) else bestK s n
def rWhy (s : SD) : Option RD :=
 match crF s 0 s.G.length with
 | some g => some ⟨1, g, [], ((s.G.getD g []).map id).sum, s.sl⟩
 | none => match bestK s (2 ^ s.su.toNat - 1) with
  | some l => some ⟨2, 0, l, hoursP s l, timesP s l⟩
  | none => if s.ro * s.sl < hoursP s (numL s.su.toNat) then some ⟨3, 0, [], hoursP s (numL s.su.toNat), s.ro * s.sl⟩ else none
theorem crF_at {s : SD} {k n : Nat} (h : crB s k = true) (hn : 0 < n) : crF s k n = some k := by
 cases n with
 | zero => omega
 | succ n => rw [crF, if_pos h]
theorem crF_no {s : SD} {k n : Nat} (h : crB s k = false) (hn : 0 < n) : crF s k n = crF s (k + 1) (n - 1) := by
 cases n with
 | zero => omega
 | succ n => rw [crF, if_neg (by rw [h]; decide)]; rfl
abbrev RnF (r : Option RD) := { y : Rn // y.d = r.getD ⟨0, 0, [], 0, 0⟩ }
theorem mem_sub {s : SD} (hv : scOk s = true) {n : Nat} (hn : n < 2 ^ s.su.toNat) : subIn s (memL n 6) := by
 obtain ⟨hv1, hv2, hv3, hv4, hv5, hv6, hv7⟩ := scOk_iff.1 hv
 refine ⟨?_, fun j hj => ?_⟩
 · unfold memL
   rw [List.length_map]
   have := List.length_filter_le (fun i => n.testBit i) (List.range 6)
   rw [List.length_range] at this
   omega
 · unfold memL at hj
   obtain ⟨i, hi, rfl⟩ := List.mem_map.1 hj
   have h1 := (List.mem_filter.1 hi).2
   have h2 : ¬ s.su.toNat ≤ i := fun h => by
    have : n < 2 ^ i := Nat.lt_of_lt_of_le hn (Nat.pow_le_pow_right (by omega) h)
    rw [Nat.testBit_lt_two_pow this] at h1; cases h1
   omega
theorem mem_ne {n : Nat} (h0 : 0 < n) (hn : n < 64) : memL n 6 ≠ [] := by
 intro h
 unfold memL at h
 rw [List.map_eq_nil_iff, List.filter_eq_nil_iff] at h
 have : n = 0 := by
  apply Nat.eq_of_testBit_eq
  intro i
  rw [Nat.zero_testBit]
  by_cases hi : i < 6
  · have := h i (List.mem_range.2 hi)
    simpa using this
  · exact Nat.testBit_lt_two_pow (Nat.lt_of_lt_of_le hn (show 2 ^ 6 ≤ 2 ^ i from Nat.pow_le_pow_right (by omega) (by omega)))
 omega
set_option maxHeartbeats 4000000 in
set_option maxRecDepth 100000 in
theorem RWhy_ok (s : Sc) (w : World) (h : ScIn s w) (hB : ScB s) (hv : scOk s.d = true) :
 Calls Tryz.prog 16 #[s.v] w fun e w' => ∃ y : RnF (rWhy s.d), e = .returned (.tuple #[y.1.v, .bool (rWhy s.d).isSome]) ∧ Below w.heap.size w w' ∧ St w.heap.size (Rd 1 iF (.slice y.1.o y.1.L.length y.1.c) y.1.L) w' := by
 have hgrp := fun (g : List Int) (hg : g ∈ s.d.G) => grp_at hv hg
 have cA := fun (l : List Int) (o : Option Addr) (c : Nat) (hl : subIn s.d l) (w' : World) (hw : Below w.heap.size w w') (hr : Rd 1 iF (.slice o l.length c) l w') => All_ok s l o c w' (h.below hw) hv hr hl
 have cT := fun (l : List Int) (o : Option Addr) (c : Nat) (hl : subIn s.d l) (w' : World) (hw : Below w.heap.size w w') (hr : Rd 1 iF (.slice o l.length c) l w') => Times_ok s l o c w' (h.below hw) hB hv hr (by have := hl.1; omega)
 have hms := fun (n : Nat) (hn : n < 2 ^ s.d.su.toNat) => mem_sub hv hn
 obtain ⟨hv1, hv2, hv3, hv4, hv5, hv6, hv7⟩ := scOk_iff.1 hv
 obtain ⟨hg, hr, ht, hh⟩ := h
 generalize hsd : s.d = D at *
 obtain ⟨sl, ro, su, go, gc, G, to, tc, T⟩ := s
 have hDsl : D.sl = sl := by rw [← hsd]; rfl
 have hDro : D.ro = ro := by rw [← hsd]; rfl
 have hDsu : D.su = su := by rw [← hsd]; rfl
 have hDG : D.G = G.map Rw.xs := by rw [← hsd]; rfl
 clear hsd
 have hGl : G.length ≤ 8 := by rw [hDG, List.length_map] at hv4; exact hv4
 rw [hDsl] at hv1
 rw [hDro] at hv2
 rw [hDsu] at hv3
 dsimp only at hg hr
 refine calls_fam env mixed Tryz.func16 has16 Tryz.ntmps16 [.agg #[iv sl, iv ro, iv su, .slice go G.length gc, .slice to T.length tc]] (by simp) ?_
 repeat'
  conv => whnf
  first
   | refine zA ?_ | refine zB ?_ | refine zC ?_ | refine zD ?_ | refine zE ?_ | refine zF ?_ | refine zG ?_ | refine zH ?_ | refine zJ ?_ | refine zI ?_ | refine splT ?_ | refine splF ?_ | refine splNot ?_
   | ((first | refine splIn ?_ ?_ | refine splD ?_ ?_ | refine splE ?_ ?_ | refine splNE ?_ ?_) <;> intro hc <;> first | (exfalso; omega) | (exfalso; dsimp only at hc; omega) | skip)
 refine loopN 2 (fun k : Nat => [(1, .ptr 0 0), (2, .ptr 1 0), (4, .v (iv k))]) (fun _ => [(0, .cells [.v (iv sl), .v (iv ro), .v (iv su), .v (.slice go G.length gc), .v (.slice to T.length tc)] 25), (1, .cells [.v (.int .u8 0), .v (iv 0), .v (.slice none 0 0), .v (iv 0), .v (iv 0)] 38)]) (fun k => k ≤ G.length ∧ crF D 0 G.length = crF D k (G.length - k)) (fun k => G.length - k) 0 ⟨Nat.zero_le _, rfl⟩ ⟨rfl, rfl, rfl, trivial⟩ ⟨rfl, rfl, trivial⟩ (fun _ _ => ⟨rfl, rfl⟩) ?_
 intro k ⟨hk, hcr⟩
 rcases Nat.lt_or_ge k G.length with hkl | hkl
 · obtain ⟨⟨ro', rc, xs⟩, hx⟩ : ∃ b, G[k]? = some b := ⟨_, List.getElem?_eq_getElem hkl⟩
   obtain ⟨_, ad, rfl, _⟩ := hg.ptr (by omega)
   have e0 := fun (w' : World) hw' => rd_ati (hg.below (w' := w') hw') hx
   have hrr := hr _ (List.mem_of_getElem? hx)
   change Rd 1 iF (.slice ro' xs.length rc) xs w at hrr
   have hmx : D.G[k]? = some xs := by rw [hDG, List.getElem?_map, hx]; rfl
   have hxs := hgrp xs (List.mem_of_getElem? hmx)
   have hgx : D.G.getD k [] = xs := by rw [List.getD_eq_getElem?_getD, hmx]; rfl
   have c53 := fun (w' : World) (hw : Below w.heap.size w w') => sum53_ok xs ro' rc w' (hrr.below hw) (by omega) (fun x hx => by have := hxs.2 x hx; omega)
   have hcb : crB D k = decide (sl < (xs.map id).sum) := by unfold crB; rw [hgx, hDsl]
   by_cases hc : sl < (xs.map id).sum
   · have hw : rWhy D = some ⟨1, k, [], (xs.map id).sum, sl⟩ := by
      unfold rWhy
      rw [hDG, List.length_map, hcr, crF_at (by rw [hcb]; exact decide_eq_true hc) (by omega)]
      dsimp only
      rw [← hDG, hgx, hDsl]
     rw [hw]
     generalize (xs.map id).sum = S at *
     repeat'
      conv => whnf
      first
       | refine zA ?_ | refine zB ?_ | refine zC ?_ | refine zD ?_ | refine zE ?_ | refine zF ?_ | refine zG ?_ | refine zH ?_ | refine zJ ?_ | refine zI ?_ | refine splT ?_ | refine splF ?_ | refine splNot ?_
       | ((first | refine splIn ?_ ?_ | refine splD ?_ ?_ | refine splE ?_ ?_ | refine splNE ?_ ?_) <;> intro hc <;> first | (exfalso; omega) | (exfalso; dsimp only at hc; omega) | skip)
       | refine Exists.intro (α := List Value) [.slice ro' xs.length rc] ⟨⟨rfl, fun w' hw' => e0 w' hw'⟩, ?_⟩
       | ((with_reducible show CallEv _ _ 53 _ _ _ _ _); refine callE (k := 53) (fun β w' hbw => c53 _ hbw) ?_)
     all_goals first | (exfalso; omega) | exact ⟨fun w' h => h, fun β w' hB hblk => ⟨⟨⟨1, k, none, 0, [], S, sl⟩, rfl⟩, rfl, fun _ _ => .inl ⟨rfl, rfl⟩⟩⟩
   · have hn : crF D 0 G.length = crF D (k + 1) (G.length - (k + 1)) := by rw [hcr, crF_no (by rw [hcb]; exact decide_eq_false hc) (by omega)]; rfl
     generalize (xs.map id).sum = S at *
     repeat'
      conv => whnf
      first
       | refine zA ?_ | refine zB ?_ | refine zC ?_ | refine zD ?_ | refine zE ?_ | refine zF ?_ | refine zG ?_ | refine zH ?_ | refine zJ ?_ | refine zI ?_ | refine splT ?_ | refine splF ?_ | refine splNot ?_
       | ((first | refine splIn ?_ ?_ | refine splD ?_ ?_ | refine splE ?_ ?_ | refine splNE ?_ ?_) <;> intro hc <;> first | (exfalso; omega) | (exfalso; dsimp only at hc; omega) | skip)
       | refine Exists.intro (α := List Value) [.slice ro' xs.length rc] ⟨⟨rfl, fun w' hw' => e0 w' hw'⟩, ?_⟩
       | ((with_reducible show CallEv _ _ 53 _ _ _ _ _); refine callE (k := 53) (fun β w' hbw => c53 _ hbw) ?_)
     all_goals first | (exfalso; omega) | exact ⟨k + 1, ⟨by omega, hn⟩, by omega, Ent.weak rfl ⟨rfl, rfl, rfl, trivial⟩ ⟨rfl, rfl, trivial⟩ fun _ h => h⟩
 · obtain rfl : k = G.length := by omega
   rw [Nat.sub_self] at hcr
   change crF D 0 G.length = none at hcr
   have hw : rWhy D = match bestK D (2 ^ su.toNat - 1) with
    | some l => some ⟨2, 0, l, hoursP D l, timesP D l⟩
    | none => if ro * sl < hoursP D (numL su.toNat) then some ⟨3, 0, [], hoursP D (numL su.toNat), ro * sl⟩ else none := by
    unfold rWhy
    rw [hDG, List.length_map, hcr, hDsu, hDro, hDsl]
   rw [hw]
   obtain ⟨su, rfl⟩ := Int.eq_ofNat_of_zero_le (show 0 ≤ su by omega)
   have hDn : D.su.toNat = su := by rw [hDsu]; rfl
   rw [hDn] at hms
   rw [Int.toNat_natCast]
   have h64 : 2 ^ su ≤ 2 ^ 6 := Nat.pow_le_pow_right (by omega) (by omega)
   have h1p : 0 < 2 ^ su := Nat.pos_of_ne_zero (by simp)
   have hsh : IntKind.i64.wrap (1 * 2 ^ min (su : Int).toNat IntKind.i64.bits) = ((2 ^ su : Nat) : Int) := by
    have e : min (su : Int).toNat IntKind.i64.bits = su := by show min (su : Int).toNat 64 = su; omega
    rw [e, Int.one_mul, show (2 : Int) ^ su = ((2 ^ su : Nat) : Int) from by simp]
    exact w64i _ (by omega)
   generalize hP : 2 ^ su = P at *
   repeat'
    conv => whnf
    first
     | refine zA ?_ | refine zB ?_ | refine zC ?_ | refine zD ?_ | refine zE ?_ | refine zF ?_ | refine zG ?_ | refine zH ?_ | refine zJ ?_ | refine zI ?_ | refine splT ?_ | refine splF ?_ | refine splNot ?_
     | ((first | refine splIn ?_ ?_ | refine splD ?_ ?_ | refine splE ?_ ?_ | refine splNE ?_ ?_) <;> intro hc <;> first | (exfalso; omega) | (exfalso; dsimp only at hc; omega) | skip)
   all_goals first | (exfalso; omega) | skip
   refine loopD 2 (fun x : Nat × Option Addr × Nat => [(1, .ptr 0 0), (2, .ptr 1 0), (6, .v (sV ((bestK D x.1).getD []).length x.2)), (7, .v (iv (x.1 + 1 : Nat)))]) (fun _ => [(0, .cells [.v (iv sl), .v (iv ro), .v (iv su), .v (.slice go G.length gc), .v (.slice to T.length tc)] 25), (1, .cells [.v (.int .u8 0), .v (iv 0), .v (.slice none 0 0), .v (iv 0), .v (iv 0)] 38)])
    (fun x w' => Below w.heap.size w w' ∧ St w.heap.size (Rd 1 iF (sV ((bestK D x.1).getD []).length x.2) ((bestK D x.1).getD [])) w') (fun x => x.1 + 1 ≤ P ∧ ((bestK D x.1 = none ∧ x.2 = (none, 0)) ∨ ∃ l ad, bestK D x.1 = some l ∧ x.2.1 = some ad ∧ subIn D l)) (fun x => P - x.1)
    (Dis.ent (x := (0, none, 0)) ⟨by omega, .inl ⟨rfl, rfl⟩⟩ (Ent.weak rfl ⟨rfl, rfl, rfl, rfl, trivial⟩ ⟨rfl, rfl, trivial⟩ (fun w' h => ⟨h, fun _ _ => .inl ⟨rfl, rfl⟩⟩))) (fun x _ => ⟨rfl, rfl⟩) ?_
   rintro ⟨n, yo, yc⟩ ⟨hn, hy⟩
   dsimp only at hn hy ⊢
   rcases Nat.lt_or_ge (n + 1) P with hnl | hnl
   · have hm0 := mem_ne (n := n + 1) (by omega) (by omega)
     have hsub := hms (n + 1) hnl
     have c54 := fun (w' : World) (hw : Below w.heap.size w w') => famS hw ((Members_ok (n + 1) (by omega) w').mono fun e w2 ⟨y, h1, h2, h3⟩ => (⟨⟨y, rd_ys (St.now h3)⟩, h1, h2, h3⟩ : ∃ y : YS (memL (n + 1) 6), e = Ending.returned (sV (memL (n + 1) 6).length y.1) ∧ Below w'.heap.size w' w2 ∧ St w'.heap.size (Rd 1 iF (sV (memL (n + 1) 6).length y.1) (memL (n + 1) 6)) w2))
     have hbst : bestK D (n + 1) = if unB D (memL (n + 1) 6) = true ∧ (bestK D n = none ∨ ∃ b, bestK D n = some b ∧ befB (memL (n + 1) 6) b = true) then some (memL (n + 1) 6) else bestK D n := rfl
     generalize memL (n + 1) 6 = M at *
     have cAM := fun (o : Option Addr) (c : Nat) => cA M o c hsub
     have cTM := fun (o : Option Addr) (c : Nat) => cT M o c hsub
     have hub : unB D M = decide (timesP D M < hoursP D M) := rfl
     generalize hoursP D M = HM at *
     generalize timesP D M = TM at *
     have hnn : ((n + 1 : Nat) : Int) + 1 = ((n + 1 + 1 : Nat) : Int) := by omega
     by_cases hgt : TM < HM
     · rw [decide_eq_true hgt] at hub
       rcases hy with ⟨hb0, hy0⟩ | ⟨b, adb, hb0, hy0, hbs⟩
       · simp only [Prod.mk.injEq] at hy0
         obtain ⟨rfl, rfl⟩ := hy0
         have hb1 : bestK D (n + 1) = some M := by rw [hbst, if_pos ⟨hub, .inl hb0⟩]
         rw [hb0]
         repeat'
          conv => whnf
          first
           | refine zA ?_ | refine zB ?_ | refine zC ?_ | refine zD ?_ | refine zE ?_ | refine zF ?_ | refine zG ?_ | refine zH ?_ | refine zJ ?_ | refine zI ?_ | refine splT ?_ | refine splF ?_ | refine splNot ?_
           | ((first | refine splIn ?_ ?_ | refine splD ?_ ?_ | refine splE ?_ ?_ | refine splNE ?_ ?_) <;> intro hc <;> first | (exfalso; omega) | (exfalso; dsimp only at hc; omega) | skip)
           | refine Exists.intro (α := Value) (.int .u64 su) ⟨cvU su (by omega), ?_⟩
           | refine shlE P rfl rfl (by omega) hsh ?_
           | ((with_reducible show CallEv _ _ 54 _ _ _ _ _); refine callF [] (fun y : YS M => sV M.length y.1) (fun y => St w.heap.size (Rd 1 iF (sV M.length y.1) M)) (fun β w' _ hbw => c54 w' (by repeat (first | exact hbw | replace hbw := hbw.1))) ?_; intro y)
           | ((with_reducible show CallEv _ _ 55 _ _ _ _ _); refine callE (k := 55) (fun β w' hbw => (cAM y.1.1 y.1.2) w' hbw.1.1 (St.now hbw.2)) ?_)
           | ((with_reducible show CallEv _ _ 56 _ _ _ _ _); refine callE (k := 56) (fun β w' hbw => (cTM y.1.1 y.1.2) w' hbw.1.1 (St.now hbw.2)) ?_)
           | refine nilEq _ _ _ _ _ ?_
         all_goals first | (exfalso; omega) | exact Dis.ent (x := (n + 1, y.1)) ⟨⟨by dsimp only; omega, .inr ⟨M, _, hb1, (y.2.resolve_left hm0).choose_spec, hsub⟩⟩, by dsimp only; omega⟩ (Ent.weak rfl ⟨rfl, rfl, by dsimp only; rw [hb1]; rfl, by dsimp only; rw [← hnn]; rfl, trivial⟩ ⟨rfl, rfl, trivial⟩ fun w2 h => ⟨h.1.1, by dsimp only; rw [hb1]; exact h.2⟩)
       · subst hy0
         have c57 := fun (y : YS M) (w' : World) (h1 : Rd 1 iF (sV M.length y.1) M w') (h2 : Rd 1 iF (sV b.length (some adb, yc)) b w') => before_ok M b y.1.1 (some adb) y.1.2 yc w' h1 h2 (by have := hsub.1; omega) (by have := hbs.1; omega)
         rw [hb0]
         dsimp only [Option.getD_some]
         cases hbf : befB M b with
         | true =>
          rw [hbf] at c57
          have hb1 : bestK D (n + 1) = some M := by rw [hbst, if_pos ⟨hub, .inr ⟨b, hb0, hbf⟩⟩]
          repeat'
           conv => whnf
           first
            | refine zA ?_ | refine zB ?_ | refine zC ?_ | refine zD ?_ | refine zE ?_ | refine zF ?_ | refine zG ?_ | refine zH ?_ | refine zJ ?_ | refine zI ?_ | refine splT ?_ | refine splF ?_ | refine splNot ?_
            | ((first | refine splIn ?_ ?_ | refine splD ?_ ?_ | refine splE ?_ ?_ | refine splNE ?_ ?_) <;> intro hc <;> first | (exfalso; omega) | (exfalso; dsimp only at hc; omega) | skip)
            | refine Exists.intro (α := Value) (.int .u64 su) ⟨cvU su (by omega), ?_⟩
            | refine shlE P rfl rfl (by omega) hsh ?_
            | ((with_reducible show CallEv _ _ 54 _ _ _ _ _); refine callF [] (fun y : YS M => sV M.length y.1) (fun y => St w.heap.size (Rd 1 iF (sV M.length y.1) M)) (fun β w' _ hbw => c54 w' (by repeat (first | exact hbw | replace hbw := hbw.1))) ?_; intro y)
            | ((with_reducible show CallEv _ _ 55 _ _ _ _ _); refine callE (k := 55) (fun β w' hbw => (cAM y.1.1 y.1.2) w' hbw.1.1 (St.now hbw.2)) ?_)
            | ((with_reducible show CallEv _ _ 56 _ _ _ _ _); refine callE (k := 56) (fun β w' hbw => (cTM y.1.1 y.1.2) w' hbw.1.1 (St.now hbw.2)) ?_)
            | refine nilEq _ _ _ _ _ ?_
            | ((with_reducible show CallEv _ _ 57 _ _ _ _ _); refine callE (k := 57) (fun β w' hbw => (c57 y) w' (St.now hbw.2) (St.now hbw.1.2)) ?_)
          all_goals first | (exfalso; omega) | exact Dis.ent (x := (n + 1, y.1)) ⟨⟨by dsimp only; omega, .inr ⟨M, _, hb1, (y.2.resolve_left hm0).choose_spec, hsub⟩⟩, by dsimp only; omega⟩ (Ent.weak rfl ⟨rfl, rfl, by dsimp only; rw [hb1]; rfl, by dsimp only; rw [← hnn]; rfl, trivial⟩ ⟨rfl, rfl, trivial⟩ fun w2 h => ⟨h.1.1, by dsimp only; rw [hb1]; exact h.2⟩)
         | false =>
          rw [hbf] at c57
          have hb1 : bestK D (n + 1) = some b := by
           rw [hbst, if_neg, hb0]
           rintro ⟨_, h | ⟨b', h1, h2⟩⟩
           · rw [hb0] at h; cases h
           · rw [hb0, Option.some.injEq] at h1
             subst h1
             rw [hbf] at h2; cases h2
          repeat'
           conv => whnf
           first
            | refine zA ?_ | refine zB ?_ | refine zC ?_ | refine zD ?_ | refine zE ?_ | refine zF ?_ | refine zG ?_ | refine zH ?_ | refine zJ ?_ | refine zI ?_ | refine splT ?_ | refine splF ?_ | refine splNot ?_
            | ((first | refine splIn ?_ ?_ | refine splD ?_ ?_ | refine splE ?_ ?_ | refine splNE ?_ ?_) <;> intro hc <;> first | (exfalso; omega) | (exfalso; dsimp only at hc; omega) | skip)
            | refine Exists.intro (α := Value) (.int .u64 su) ⟨cvU su (by omega), ?_⟩
            | refine shlE P rfl rfl (by omega) hsh ?_
            | ((with_reducible show CallEv _ _ 54 _ _ _ _ _); refine callF [] (fun y : YS M => sV M.length y.1) (fun y => St w.heap.size (Rd 1 iF (sV M.length y.1) M)) (fun β w' _ hbw => c54 w' (by repeat (first | exact hbw | replace hbw := hbw.1))) ?_; intro y)
            | ((with_reducible show CallEv _ _ 55 _ _ _ _ _); refine callE (k := 55) (fun β w' hbw => (cAM y.1.1 y.1.2) w' hbw.1.1 (St.now hbw.2)) ?_)
            | ((with_reducible show CallEv _ _ 56 _ _ _ _ _); refine callE (k := 56) (fun β w' hbw => (cTM y.1.1 y.1.2) w' hbw.1.1 (St.now hbw.2)) ?_)
            | refine nilEq _ _ _ _ _ ?_
            | ((with_reducible show CallEv _ _ 57 _ _ _ _ _); refine callE (k := 57) (fun β w' hbw => (c57 y) w' (St.now hbw.2) (St.now hbw.1.2)) ?_)
          all_goals first | (exfalso; omega) | exact Dis.ent (x := (n + 1, some adb, yc)) ⟨⟨by dsimp only; omega, .inr ⟨b, _, hb1, rfl, hbs⟩⟩, by dsimp only; omega⟩ (Ent.weak rfl ⟨rfl, rfl, by dsimp only; rw [hb1]; rfl, by dsimp only; rw [← hnn]; rfl, trivial⟩ ⟨rfl, rfl, trivial⟩ fun w2 h => ⟨h.1.1, by dsimp only; rw [hb1]; exact h.1.2⟩)
     · rw [decide_eq_false hgt] at hub
       have hb1 : bestK D (n + 1) = bestK D n := by rw [hbst, if_neg fun h => by rw [hub] at h; exact absurd h.1 (by decide)]
       repeat'
        conv => whnf
        first
         | refine zA ?_ | refine zB ?_ | refine zC ?_ | refine zD ?_ | refine zE ?_ | refine zF ?_ | refine zG ?_ | refine zH ?_ | refine zJ ?_ | refine zI ?_ | refine splT ?_ | refine splF ?_ | refine splNot ?_
         | ((first | refine splIn ?_ ?_ | refine splD ?_ ?_ | refine splE ?_ ?_ | refine splNE ?_ ?_) <;> intro hc <;> first | (exfalso; omega) | (exfalso; dsimp only at hc; omega) | skip)
         | refine Exists.intro (α := Value) (.int .u64 su) ⟨cvU su (by omega), ?_⟩
         | refine shlE P rfl rfl (by omega) hsh ?_
         | ((with_reducible show CallEv _ _ 54 _ _ _ _ _); refine callF [] (fun y : YS M => sV M.length y.1) (fun y => St w.heap.size (Rd 1 iF (sV M.length y.1) M)) (fun β w' _ hbw => c54 w' (by repeat (first | exact hbw | replace hbw := hbw.1))) ?_; intro y)
         | ((with_reducible show CallEv _ _ 55 _ _ _ _ _); refine callE (k := 55) (fun β w' hbw => (cAM y.1.1 y.1.2) w' hbw.1.1 (St.now hbw.2)) ?_)
         | ((with_reducible show CallEv _ _ 56 _ _ _ _ _); refine callE (k := 56) (fun β w' hbw => (cTM y.1.1 y.1.2) w' hbw.1.1 (St.now hbw.2)) ?_)
       all_goals first | (exfalso; omega) | exact Dis.ent (x := (n + 1, yo, yc)) ⟨⟨by dsimp only; omega, by dsimp only; rw [hb1]; exact hy⟩, by dsimp only; omega⟩ (Ent.weak rfl ⟨rfl, rfl, by dsimp only; rw [hb1]; rfl, by dsimp only; rw [← hnn]; rfl, trivial⟩ ⟨rfl, rfl, trivial⟩ fun w2 h => ⟨h.1.1, by dsimp only; rw [hb1]; exact h.1.2⟩)
   · obtain rfl : n = P - 1 := by omega
     rcases hy with ⟨hb0, hy0⟩ | ⟨b, adb, hb0, hy0, hbs⟩
     · simp only [Prod.mk.injEq] at hy0
       obtain ⟨rfl, rfl⟩ := hy0
       rw [hb0]
       dsimp only
       have hnl : (numL su).length = su := by simp [numL]
       have hsub : subIn D (numL su) := ⟨by omega, fun j hj => by
        obtain ⟨i, hi, rfl⟩ := List.mem_map.1 hj
        have := List.mem_range.1 hi
        omega⟩
       have c55 := fun (o : Option Addr) (c : Nat) (w' : World) (hw : Below w.heap.size w w') (hr : Rd 1 iF (.slice o su c) (numL su) w') => cA (numL su) o c hsub w' hw (by rw [hnl]; exact hr)
       rw [hnl] at c55
       have c58 := fun (w' : World) => Numbers_own su ⟨by omega, by omega⟩ w'
       have hm : -1000 ≤ ro * sl ∧ ro * sl ≤ 1000 := by
        have h1 : 0 ≤ ro * sl := Int.mul_nonneg (by omega) (by omega)
        have h2 : ro * sl ≤ 6 * 40 := Int.mul_le_mul hv2.2 hv1.2 (by omega) (by omega)
        omega
       generalize hoursP D (numL su) = H at *
       by_cases hf : ro * sl < H
       · rw [if_pos hf]
         generalize hX : ro * sl = X at *
         repeat'
          conv => whnf
          first
           | refine zA ?_ | refine zB ?_ | refine zC ?_ | refine zD ?_ | refine zE ?_ | refine zF ?_ | refine zG ?_ | refine zH ?_ | refine zJ ?_ | refine zI ?_ | refine splT ?_ | refine splF ?_ | refine splNot ?_
           | ((first | refine splIn ?_ ?_ | refine splD ?_ ?_ | refine splE ?_ ?_ | refine splNE ?_ ?_) <;> intro hc <;> first | (exfalso; omega) | (exfalso; dsimp only at hc; omega) | skip)
           | refine Exists.intro (α := Value) (.int .u64 su) ⟨cvU su (by omega), ?_⟩
           | refine shlE P rfl rfl (by omega) hsh ?_
           | refine nilNe _ _ _ _ _ ?_
           | ((with_reducible show CallEv _ _ 58 _ _ _ _ _); refine callO 2 [] (.os 2 3 su) su 1 ((numL su).flatMap iF) 3 rfl (fun β w' _ hbw => c58 w') ?_)
           | ((with_reducible show CallEv _ _ 55 _ _ _ _ _); refine callM [2] (fun β w' hbk hbw => c55 _ _ w' hbw.1 (Rd.of_owns (sz := 1) (f := iF) (fun _ => rfl) rfl hnl.symm (hbk 2 (by simp) _ rfl))) ?_)
         all_goals first | (exfalso; omega) | exact ⟨fun w' h => h.1, fun β w' hB hblk => ⟨⟨⟨3, 0, none, 0, [], H, X⟩, rfl⟩, by subst hX; rfl, fun _ _ => .inl ⟨rfl, rfl⟩⟩⟩
       · rw [if_neg hf]
         generalize hX : ro * sl = X at *
         repeat'
          conv => whnf
          first
           | refine zA ?_ | refine zB ?_ | refine zC ?_ | refine zD ?_ | refine zE ?_ | refine zF ?_ | refine zG ?_ | refine zH ?_ | refine zJ ?_ | refine zI ?_ | refine splT ?_ | refine splF ?_ | refine splNot ?_
           | ((first | refine splIn ?_ ?_ | refine splD ?_ ?_ | refine splE ?_ ?_ | refine splNE ?_ ?_) <;> intro hc <;> first | (exfalso; omega) | (exfalso; dsimp only at hc; omega) | skip)
           | refine Exists.intro (α := Value) (.int .u64 su) ⟨cvU su (by omega), ?_⟩
           | refine shlE P rfl rfl (by omega) hsh ?_
           | refine nilNe _ _ _ _ _ ?_
           | ((with_reducible show CallEv _ _ 58 _ _ _ _ _); refine callO 2 [] (.os 2 3 su) su 1 ((numL su).flatMap iF) 3 rfl (fun β w' _ hbw => c58 w') ?_)
           | ((with_reducible show CallEv _ _ 55 _ _ _ _ _); refine callM [2] (fun β w' hbk hbw => c55 _ _ w' hbw.1 (Rd.of_owns (sz := 1) (f := iF) (fun _ => rfl) rfl hnl.symm (hbk 2 (by simp) _ rfl))) ?_)
         all_goals first | (exfalso; omega) | exact ⟨fun w' h => h.1, fun β w' hB hblk => ⟨⟨⟨0, 0, none, 0, [], 0, 0⟩, rfl⟩, rfl, fun _ _ => .inl ⟨rfl, rfl⟩⟩⟩
     · subst hy0
       have cAM := fun (o : Option Addr) (c : Nat) => cA b o c hbs
       have cTM := fun (o : Option Addr) (c : Nat) => cT b o c hbs
       rw [hb0]
       dsimp only [Option.getD_some]
       generalize hoursP D b = HM at *
       generalize timesP D b = TM at *
       repeat'
        conv => whnf
        first
         | refine zA ?_ | refine zB ?_ | refine zC ?_ | refine zD ?_ | refine zE ?_ | refine zF ?_ | refine zG ?_ | refine zH ?_ | refine zJ ?_ | refine zI ?_ | refine splT ?_ | refine splF ?_ | refine splNot ?_
         | ((first | refine splIn ?_ ?_ | refine splD ?_ ?_ | refine splE ?_ ?_ | refine splNE ?_ ?_) <;> intro hc <;> first | (exfalso; omega) | (exfalso; dsimp only at hc; omega) | skip)
         | refine Exists.intro (α := Value) (.int .u64 su) ⟨cvU su (by omega), ?_⟩
         | refine shlE P rfl rfl (by omega) hsh ?_
         | refine nilNe _ _ _ _ _ ?_
         | ((with_reducible show CallEv _ _ 55 _ _ _ _ _); refine callE (k := 55) (fun β w' hbw => (cAM (some adb) yc) w' hbw.1 (St.now hbw.2)) ?_)
         | ((with_reducible show CallEv _ _ 56 _ _ _ _ _); refine callE (k := 56) (fun β w' hbw => (cTM (some adb) yc) w' hbw.1 (St.now hbw.2)) ?_)
       all_goals first | (exfalso; omega) | exact ⟨fun w' h => h.1, fun β w' hB hblk => ⟨⟨⟨2, 0, some adb, yc, b, HM, TM⟩, rfl⟩, rfl, hB.2⟩⟩
end Go.Proofs.YtkbfcofifhngfaaGreat
namespace Go.Proofs.YtkbfcofifhngfaaGreat
open Go
set_option linter.unusedSimpArgs false
set_option linter.unusedVariables false
def fromP (now : List Int) : Nat := match now.getLast? with | none => 0 | some x => x.toNat + 1
def combos (su : Nat) : Nat → List Int → List (List Int)
 | 0, now => [now]
 | d + 1, now => (List.range' (fromP now) (su - fromP now)).flatMap fun j : Nat => combos su d (now ++ [(j : Int)])
def allSets (su : Nat) : List (List Int) := (List.range' 1 su).flatMap fun d => combos su d []
def bestG (P : List Int → Bool) : Nat → Option (List Int)
 | 0 => none
 | n + 1 => if P (memL (n + 1) 6) = true ∧ (bestG P n = none ∨ ∃ b, bestG P n = some b ∧ befB (memL (n + 1) 6) b = true) then some (memL (n + 1) 6) else bestG P n
theorem bestK_G (s : SD) : ∀ n, bestK s n = bestG (unB s) n
 | 0 => rfl
 | n + 1 => by rw [bestK, bestG, bestK_G s n]
theorem ltB_trans : ∀ {a b c : List Int}, a.length = b.length → b.length = c.length → ltB a b = true → ltB b c = true → ltB a c = true
 | x :: a, y :: b, z :: c, h1, h2, h3, h4 => by
  rw [ltB] at h3 h4 ⊢
  simp only [List.length_cons] at h1 h2
  by_cases hxy : x = y
  · subst hxy
    rw [if_pos rfl] at h3
    by_cases hxz : x = z
    · rw [if_pos hxz] at h4 ⊢
      exact ltB_trans (by omega) (by omega) h3 h4
    · rw [if_neg hxz] at h4 ⊢
      exact h4
  · rw [if_neg hxy] at h3
    have h3 := of_decide_eq_true h3
    by_cases hyz : y = z
    · subst hyz
      rw [if_neg hxy]
      exact decide_eq_true h3
    · rw [if_neg hyz] at h4
      have h4 := of_decide_eq_true h4
      rw [if_neg (by omega)]
      exact decide_eq_true (by omega)
 | [], _, _, _, _, h, _ => by simp [ltB] at h
 | _ :: _, [], _, _, _, h, _ => by simp [ltB] at h
 | _ :: _, _ :: _, [], _, _, _, h => by simp [ltB] at h
theorem befB_trans {a b c : List Int} (h1 : befB a b = true) (h2 : befB b c = true) : befB a c = true := by
 unfold befB at h1 h2 ⊢
 by_cases hab : a.length = b.length
 · rw [if_pos hab] at h1
   by_cases hbc : b.length = c.length
   · rw [if_pos hbc] at h2
     rw [if_pos (by omega)]
     exact ltB_trans hab hbc h1 h2
   · rw [if_neg hbc] at h2
     have := of_decide_eq_true h2
     rw [if_neg (by omega)]
     exact decide_eq_true (by omega)
 · rw [if_neg hab] at h1
   have h1 := of_decide_eq_true h1
   by_cases hbc : b.length = c.length
   · rw [if_neg (by omega)]
     exact decide_eq_true (by omega)
   · rw [if_neg hbc] at h2
     have h2 := of_decide_eq_true h2
     rw [if_neg (by omega)]
     exact decide_eq_true (by omega)
theorem befB_self (a : List Int) : befB a a = false := by unfold befB; rw [if_pos rfl]; exact ltB_self a
theorem bestG_none {P : List Int → Bool} : ∀ {n : Nat}, bestG P n = none → ∀ m, 1 ≤ m → m ≤ n → P (memL m 6) = false
 | 0, _, m, h1, h2 => by omega
 | n + 1, h, m, h1, h2 => by
  rw [bestG] at h
  split at h
  · cases h
  · rename_i hc
    have ih := bestG_none h
    by_cases hm : m = n + 1
    · subst hm
      cases hp : P (memL (n + 1) 6) with
      | false => rfl
      | true => exact absurd ⟨hp, .inl h⟩ hc
    · exact ih m h1 (by omega)
theorem bestG_some {P : List Int → Bool} : ∀ {n : Nat} {b : List Int}, bestG P n = some b → P b = true ∧ (∃ m, 1 ≤ m ∧ m ≤ n ∧ memL m 6 = b) ∧ ∀ m, 1 ≤ m → m ≤ n → P (memL m 6) = true → befB (memL m 6) b = false
 | 0, b, h => by cases h
 | n + 1, b, h => by
  rw [bestG] at h
  split at h
  · rename_i hc
    simp only [Option.some.injEq] at h
    subst h
    refine ⟨hc.1, ⟨n + 1, by omega, by omega, rfl⟩, fun m h1 h2 h3 => ?_⟩
    by_cases hm : m = n + 1
    · subst hm; exact befB_self _
    · rcases hc.2 with h4 | ⟨b, h4, h5⟩
      · rw [bestG_none h4 m h1 (by omega)] at h3; cases h3
      · have h6 := (bestG_some h4).2.2 m h1 (by omega) h3
        cases h7 : befB (memL m 6) (memL (n + 1) 6) with
        | false => rfl
        | true => rw [befB_trans h7 h5] at h6; cases h6
  · rename_i hc
    obtain ⟨g1, ⟨m0, g2, g3, g4⟩, g5⟩ := bestG_some h
    refine ⟨g1, ⟨m0, g2, by omega, g4⟩, fun m h1 h2 h3 => ?_⟩
    by_cases hm : m = n + 1
    · subst hm
      cases h7 : befB (memL (n + 1) 6) b with
      | false => rfl
      | true => exact absurd ⟨h3, .inr ⟨b, h, h7⟩⟩ hc
    · exact g5 m h1 (by omega) h3
def sortB : List (List Int) → Bool
 | [] => true
 | a :: r => r.all (befB a) && sortB r
def setsB (su : Nat) : Bool := sortB (allSets su) && ((allSets su).all (fun l => ((List.range' 1 (2 ^ su - 1)).any fun m => decide (memL m 6 = l))) && (List.range' 1 (2 ^ su - 1)).all fun m => (allSets su).any fun l => decide (memL m 6 = l))
theorem setsB_all : ((List.range' 1 6).all setsB) = true := by decide +kernel
theorem sort_find {P : List Int → Bool} : ∀ {L : List (List Int)}, sortB L = true → ∀ {a b : List Int}, L.find? P = some a → b ∈ L → P b = true → b = a ∨ befB a b = true
 | x :: L, h, a, b, hf, hb, hp => by
  rw [sortB, Bool.and_eq_true] at h
  rw [List.find?_cons] at hf
  cases hx : P x with
  | true =>
   rw [hx] at hf
   simp only [Option.some.injEq] at hf
   subst hf
   rcases List.mem_cons.1 hb with rfl | hb
   · exact .inl rfl
   · exact .inr (List.all_eq_true.1 h.1 b hb)
  | false =>
   rw [hx] at hf
   rcases List.mem_cons.1 hb with rfl | hb
   · rw [hx] at hp; cases hp
   · exact sort_find h.2 hf hb hp
 | [], _, _, _, hf, _, _ => by simp at hf
theorem find_best (P : List Int → Bool) {su : Nat} (h1 : 1 ≤ su) (h6 : su ≤ 6) : (allSets su).find? P = bestG P (2 ^ su - 1) := by
 have hc := List.all_eq_true.1 setsB_all su (List.mem_range'_1.2 (by omega))
 unfold setsB at hc
 simp only [Bool.and_eq_true] at hc
 obtain ⟨c1, c2, c3⟩ := hc
 have d2 : ∀ l ∈ allSets su, ∃ m, 1 ≤ m ∧ m ≤ 2 ^ su - 1 ∧ memL m 6 = l := fun l hl => by
  have := List.all_eq_true.1 c2 l hl
  obtain ⟨m, hm, he⟩ := List.any_eq_true.1 this
  have := List.mem_range'_1.1 hm
  exact ⟨m, this.1, by omega, of_decide_eq_true he⟩
 have d3 : ∀ m, 1 ≤ m → m ≤ 2 ^ su - 1 → memL m 6 ∈ allSets su := fun m g1 g2 => by
  have := List.all_eq_true.1 c3 m (List.mem_range'_1.2 (by omega))
  obtain ⟨l, hl, he⟩ := List.any_eq_true.1 this
  rw [of_decide_eq_true he]; exact hl
 cases hb : bestG P (2 ^ su - 1) with
 | none =>
  rw [List.find?_eq_none]
  intro l hl
  obtain ⟨m, g1, g2, rfl⟩ := d2 l hl
  rw [bestG_none hb m g1 g2]; decide
 | some b =>
  obtain ⟨g1, ⟨m, g2, g3, g4⟩, g5⟩ := bestG_some hb
  have hbm := d3 m g2 g3
  rw [g4] at hbm
  cases hf : (allSets su).find? P with
  | none =>
   rw [List.find?_eq_none] at hf
   exact absurd g1 (hf b hbm)
  | some a =>
   rcases sort_find c1 hf hbm g1 with h | h
   · rw [h]
   · obtain ⟨m', k1, k2, k3⟩ := d2 a (List.mem_of_find?_eq_some hf)
     have := g5 m' k1 k2 (by rw [k3]; exact List.find?_some hf)
     rw [k3, h] at this; cases this
end Go.Proofs.YtkbfcofifhngfaaGreat
namespace Go.Proofs.YtkbfcofifhngfaaGreat
open Go Tx Go.RowKit
set_option linter.unusedSimpArgs false
set_option linter.unusedVariables false
def qL : Code → Code | .seq a _ => a | c => c
def qR : Code → Code | .seq _ b => b | c => c
def qT : Code → Code | .cond _ a _ => a | c => c
def qI : Code → Code | .block _ c => c | .loop c => c | .scope c => c | c => c
def qA : Code → Code | .rangeFunc _ _ a _ => a | c => c
def qB : Code → Code | .rangeFunc _ _ _ b => b | c => c
def qO : Code → Array Oper | .region _ o _ => o | _ => #[]
theorem VC.seqR {P : Program} (T : Env P) (hm : P.follows .mixedOrders = true) {a : Code} {σ : Sg} {Φ : Exit → Sg → Prop} (h : VC P a σ (seqΦ (Φ .ret) Φ)) : VC P (.seq a .ret) σ Φ :=
 VC.seq (f := Φ .ret) h fun σ' hx => VC.of T hm hx
theorem VC.eq {P : Program} {c c' : Code} {σ : Sg} {Φ : Exit → Sg → Prop} (h : c' = c) (hv : VC P c σ Φ) : VC P c' σ Φ := h ▸ hv
theorem VC.sq {P : Program} {a b : Code} {σ : Sg} {Φ : Exit → Sg → Prop} (h : VC P a σ (seqΦ (fun σ' => VC P b σ' Φ) Φ)) : VC P (.seq a b) σ Φ := VC.seq h fun _ h => h
theorem YEv.ok {P : Program} {σ : Sg} {l : Nat} {args : List SV} {ks : KT} (h : YEv P σ l args (some ks)) : YOK P σ l args ks := by
 cases h with
 | mk ks' hks h => cases hks; exact h
theorem c122b : qB (qI (qR (qR body122))) = .block 1 (.seq (.region 3 (qO (qL (qI (qB (qI (qR (qR body122))))))) true) (.cond (.tmp 12) .ret .skip)) := by kernel_rfl
theorem mB_lk {N : Nat} : ∀ {m : List (Nat × Blk)}, mB N m = true → ∀ i b, lk m i = some b → i < N ∧ b.lt N = true
 | [], _, i, b, h => by cases h
 | (k, x) :: r, h, i, b, hl => by
  simp only [mB, Bool.and_eq_true, Nat.blt_eq] at h
  by_cases hk : i = k
  · subst hk; rw [lk_cons_eq] at hl; cases hl; exact h.1
  · rw [lk_cons_ne hk] at hl; exact mB_lk h.2 i b hl
theorem gB_lk {N : Nat} : ∀ {g : List (Nat × SV)}, gB N g = true → ∀ k s, lk g k = some s → s.lt N = true
 | [], _, k, s, h => by cases h
 | (j, x) :: r, h, k, s, hl => by
  simp only [gB, Bool.and_eq_true] at h
  by_cases hk : k = j
  · subst hk; rw [lk_cons_eq] at hl; cases hl; exact h.1
  · rw [lk_cons_ne hk] at hl; exact gB_lk h.2 k s hl
theorem eqlS36 {o : Option Addr} {n c : Nat} {x y : Operand} {K : Value → Prop} (h : K (.bool o.isNone)) : ∃ v, (∀ _ : Nat → Nat, RunIs Tryz.prog (do eqGuard .eql 36 x y (.slice o n c) (.slice none 0 0); binOp .eql 36 (.slice o n c) (.slice none 0 0)) v) ∧ K v :=
 ⟨_, fun _ w => by simp [eqGuard, binOp, Op.equal, Op.maxDepth, Lib.run_equalIn_slice_nil w 9999 36 3 o n c 0 0 (under_slice tok36 rfl)], h⟩
set_option maxHeartbeats 1000000 in
set_option maxRecDepth 100000 in
theorem clone_ok (L : List Int) (o : Option Addr) (c : Nat) (w : World) (hrd : Rd 1 iF (.slice o L.length c) L w) (h0 : 1 ≤ L.length) (hl : L.length ≤ 1000000) :
 Calls Tryz.prog 151 #[.slice o L.length c] w fun e w' => ∃ b d, e = .returned (.slice (some ⟨b, 0, none⟩) L.length d) ∧ w.heap.size ≤ b ∧ Below w.heap.size w w' ∧ w'.ownsRow 0 3 1 (.slice (some ⟨b, 0, none⟩) L.length d) L.length (L.flatMap iF) := by
 refine calls_fam2 env mixed Tryz.func151 has151 Tryz.ntmps151 [.slice o L.length c] (by simp) ?_
 obtain ⟨_, ad, rfl, _⟩ := hrd.ptr h0
 have he := fun (w' : World) (hb : Below w.heap.size w w') => Rd.ext (f := iF) (sz := 1) (fun _ => rfl) (hrd.below hb)
 have hln : (L.flatMap iF).length = L.length * 1 := by rw [lenF]; omega
 have hon : ∀ v ∈ L.flatMap iF, v.oneCell' = true := one1 L
 generalize L.flatMap iF = X at *
 generalize L.length = n at *
 repeat'
  conv => whnf
  first
   | refine zA ?_ | refine zB ?_ | refine zC ?_ | refine zD ?_ | refine zE ?_ | refine zF ?_ | refine zG ?_ | refine zH ?_ | refine zJ ?_ | refine zI ?_ | refine splT ?_ | refine splF ?_ | refine splNot ?_
   | ((first | refine splIn ?_ ?_ | refine splD ?_ ?_ | refine splE ?_ ?_ | refine splNE ?_ ?_) <;> intro hc <;> first | (exfalso; omega) | (exfalso; dsimp only at hc; omega) | skip)
   | refine eqlS36 ?_
   | refine Exists.intro (α := List Value) X ⟨⟨hln, fun w' hw' => he w' hw', hon⟩, ?_⟩
 have hz : 0 + n = n := Nat.zero_add n
 exact ⟨fun w' h => h, fun β w' hB hB2 hblk => ⟨β 1, β 2, congrArg (fun z => Ending.returned (.slice (some ⟨β 1, 0, none⟩) z (β 2))) hz, (hblk 1 _ rfl rfl).1, hB2, by have := (hblk 1 _ rfl rfl).2; simp only [Blk.ok, List.nil_append, hz] at this; exact this⟩⟩
theorem c150 : body150 = .seq (qL body150) (.seq (.seq (qL (qL (qR body150))) (.cond (.tmp 13) (.seq (.region 2 (qO (qL (qT (qR (qL (qR body150)))))) true) .ret) .skip)) (qR (qR body150))) := by kernel_rfl
end Go.Proofs.YtkbfcofifhngfaaGreat
