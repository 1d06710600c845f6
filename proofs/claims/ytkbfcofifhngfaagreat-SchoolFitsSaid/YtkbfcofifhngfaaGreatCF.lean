/- Schools of the reference: what Right and Thin return. -/
import Derived.Test.YtkbfcofifhngfaaGreatCE
namespace Go.Proofs.YtkbfcofifhngfaaGreat
open Go Tx Go.RowKit
set_option linter.unusedSimpArgs false
set_option linter.unusedVariables false

set_option maxHeartbeats 4000000 in
set_option maxRecDepth 100000 in
theorem RightS_ok (s : Sc) (w : World) (h : ScIn s w) (hB : ScB s) : Calls Tryz.prog 15 #[s.v] w fun e w' => e = .returned (.bool (scOk s.d)) ∧ Below w.heap.size w w' := by
  obtain ⟨sl, ro, su, go, gc, G, to, tc, T⟩ := s
  obtain ⟨hg, hr, ht, hh⟩ := h
  obtain ⟨b1, b2, b3, b4⟩ := hB
  unfold scOk Sc.d
  dsimp only at hg hr ht hh b1 b2 b3 b4 ⊢
  rw [List.length_map, List.length_map]
  refine calls_val env mixed Tryz.func15 has15 Tryz.ntmps15 [.agg #[iv sl, iv ro, iv su, .slice go G.length gc, .slice to T.length tc]] (by simp) ?_
  by_cases hp : (1 ≤ sl ∧ sl ≤ 40) ∧ (1 ≤ ro ∧ ro ≤ 6) ∧ (1 ≤ su ∧ su ≤ 6) ∧ G.length ≤ 8 ∧ T.length ≤ 8
  case neg =>
    have : (inB sl 1 40 && (inB ro 1 6 && (inB su 1 6 && (decide (G.length ≤ 8) && (decide (T.length ≤ 8) && ((G.map Rw.xs).all (grB su) && (T.map Tc.d).all (teB su))))))) = false := by
      rw [Bool.eq_false_iff]
      intro hc
      simp only [Bool.and_eq_true, inB_iff, decide_eq_true_eq] at hc
      exact hp ⟨hc.1, hc.2.1, hc.2.2.1, hc.2.2.2.1, hc.2.2.2.2.1⟩
    rw [this]
    repeat'
     conv => whnf
     first
      | refine zA ?_ | refine zB ?_ | refine zC ?_ | refine zD ?_ | refine zE ?_ | refine zF ?_ | refine zG ?_ | refine zH ?_ | refine zJ ?_ | refine zI ?_ | refine splT ?_ | refine splF ?_ | refine splNot ?_
      | ((first | refine splIn (fun hc => ?_) (fun hc => ?_) | refine splD (fun hc => ?_) (fun hc => ?_) | refine splE (fun hc => ?_) (fun hc => ?_) | refine splNE (fun hc => ?_) (fun hc => ?_)) <;> first | (exfalso; omega) | (exfalso; dsimp only at hc; omega) | skip)
      | ((with_reducible show CallEv _ _ 50 _ _ _ _ _); refine callE (k := 50) (fun β w' hbw => In_ok _ _ _ _) ?_)
    all_goals first | (exfalso; omega) | exact ⟨fun β => rfl, fun w' h => h⟩
  obtain ⟨p1, p2, p3, p4, p5⟩ := hp
  rw [inB_iff.2 p1, inB_iff.2 p2, inB_iff.2 p3, decide_eq_true p4, decide_eq_true p5]
  simp only [Bool.true_and]
  repeat'
   conv => whnf
   first
    | refine zA ?_ | refine zB ?_ | refine zC ?_ | refine zD ?_ | refine zE ?_ | refine zF ?_ | refine zG ?_ | refine zH ?_ | refine zJ ?_ | refine zI ?_ | refine splT ?_ | refine splF ?_ | refine splNot ?_
    | ((first | refine splIn (fun hc => ?_) (fun hc => ?_) | refine splD (fun hc => ?_) (fun hc => ?_) | refine splE (fun hc => ?_) (fun hc => ?_) | refine splNE (fun hc => ?_) (fun hc => ?_)) <;> first | (exfalso; omega) | (exfalso; dsimp only at hc; omega) | skip)
    | ((with_reducible show CallEv _ _ 50 _ _ _ _ _); refine callE (k := 50) (fun β w' hbw => In_ok _ _ _ _) ?_)
  all_goals first | (exfalso; omega) | skip
  refine loopE (fun k : Nat => [(1, .ptr 0 0), (3, .v (iv k))]) (fun _ => [(0, .cells [.v (iv sl), .v (iv ro), .v (iv su), .v (.slice go G.length gc), .v (.slice to T.length tc)] 25)]) (fun k => k ≤ G.length ∧ ((G.take k).map Rw.xs).all (grB su) = true) (fun k => G.length - k) 0 ⟨Nat.zero_le _, rfl⟩ ⟨rfl, rfl, trivial⟩ ⟨rfl, trivial⟩ (fun _ => ⟨rfl, rfl⟩) ?_
  intro k ⟨hk, hall⟩
  rcases Nat.lt_or_ge k G.length with hkl | hkl
  · obtain ⟨⟨ro', rc, xs⟩, hx⟩ : ∃ b, G[k]? = some b := ⟨_, List.getElem?_eq_getElem hkl⟩
    obtain ⟨_, ad, rfl, _⟩ := hg.ptr (by omega)
    have hrr := hr _ (List.mem_of_getElem? hx)
    have hrb := b2 _ (List.mem_of_getElem? hx)
    change Rd 1 iF (.slice ro' xs.length rc) xs w at hrr
    dsimp only at hrb
    have hat := all_mapT (f := Rw.xs) (p := grB su) hx
    rw [hall, Bool.true_and] at hat
    have hno := all_mapN (f := Rw.xs) (p := grB su) hx
    dsimp only at hat hno
    have e0 := fun (w' : World) hw' => rd_ati (hg.below (w' := w') hw') hx
    have c51 := fun (w' : World) (hw : Below w.heap.size w w') => everyR_ok xs ro' rc 0 20 w' (hrr.below hw) hrb
    by_cases hok : (xs.length : Int) = su ∧ evB xs 0 20 = true
    · have hgr : grB su xs = true := by unfold grB; rw [decide_eq_true hok.1, hok.2]; rfl
      rw [hgr] at hat
      rw [hok.2] at c51
      have hok1 := hok.1
      repeat'
       conv => whnf
       first
        | refine zA ?_ | refine zB ?_ | refine zC ?_ | refine zD ?_ | refine zE ?_ | refine zF ?_ | refine zG ?_ | refine zH ?_ | refine zJ ?_ | refine zI ?_ | refine splT ?_ | refine splF ?_ | refine splNot ?_
        | ((first | refine splIn (fun hc => ?_) (fun hc => ?_) | refine splD (fun hc => ?_) (fun hc => ?_) | refine splE (fun hc => ?_) (fun hc => ?_) | refine splNE (fun hc => ?_) (fun hc => ?_)) <;> first | (exfalso; omega) | (exfalso; dsimp only at hc; omega) | skip)
        | refine Exists.intro (α := List Value) [.slice ro' xs.length rc] ⟨⟨rfl, fun w' hw' => e0 w' hw'⟩, ?_⟩
        | ((with_reducible show CallEv _ _ 51 _ _ _ _ _); refine callE (k := 51) (fun β w' hbw => c51 _ hbw) ?_)
      all_goals first | (exfalso; omega) | exact ⟨k + 1, ⟨by omega, hat⟩, by omega, Ent.weak rfl ⟨rfl, rfl, trivial⟩ ⟨rfl, trivial⟩ fun _ h => h⟩
    · have hgr : grB su xs = false := by
        rw [Bool.eq_false_iff]; intro hc; unfold grB at hc; rw [Bool.and_eq_true, decide_eq_true_eq] at hc; exact hok hc
      rw [hno hgr, Bool.false_and]
      have hok' : evB xs 0 20 = true → (xs.length : Int) ≠ su := fun h1 h2 => hok ⟨h2, h1⟩
      clear hok
      cases hev : evB xs 0 20
      all_goals rw [hev] at c51 hok'
      all_goals first | (have hok' := hok' rfl) | skip
      all_goals skip
      repeat'
       conv => whnf
       first
        | refine zA ?_ | refine zB ?_ | refine zC ?_ | refine zD ?_ | refine zE ?_ | refine zF ?_ | refine zG ?_ | refine zH ?_ | refine zJ ?_ | refine zI ?_ | refine splT ?_ | refine splF ?_ | refine splNot ?_
        | ((first | refine splIn (fun hc => ?_) (fun hc => ?_) | refine splD (fun hc => ?_) (fun hc => ?_) | refine splE (fun hc => ?_) (fun hc => ?_) | refine splNE (fun hc => ?_) (fun hc => ?_)) <;> first | (exfalso; omega) | (exfalso; dsimp only at hc; omega) | skip)
        | refine Exists.intro (α := List Value) [.slice ro' xs.length rc] ⟨⟨rfl, fun w' hw' => e0 w' hw'⟩, ?_⟩
        | ((with_reducible show CallEv _ _ 51 _ _ _ _ _); refine callE (k := 51) (fun β w' hbw => c51 _ hbw) ?_)
      all_goals first | (exfalso; omega) | exact ⟨fun β => rfl, fun w' h => h⟩
  rw [List.take_of_length_le hkl] at hall
  rw [hall, Bool.true_and]
  clear hall
  repeat'
   conv => whnf
   first
    | refine zA ?_ | refine zB ?_ | refine zC ?_ | refine zD ?_ | refine zE ?_ | refine zF ?_ | refine zG ?_ | refine zH ?_ | refine zJ ?_ | refine zI ?_ | refine splT ?_ | refine splF ?_ | refine splNot ?_
    | ((first | refine splIn (fun hc => ?_) (fun hc => ?_) | refine splD (fun hc => ?_) (fun hc => ?_) | refine splE (fun hc => ?_) (fun hc => ?_) | refine splNE (fun hc => ?_) (fun hc => ?_)) <;> first | (exfalso; omega) | (exfalso; dsimp only at hc; omega) | skip)
  all_goals first | (exfalso; omega) | skip
  refine loopE (fun k : Nat => [(1, .ptr 0 0), (4, .v (iv k))]) (fun _ => [(0, .cells [.v (iv sl), .v (iv ro), .v (iv su), .v (.slice go G.length gc), .v (.slice to T.length tc)] 25)]) (fun k => k ≤ T.length ∧ ((T.take k).map Tc.d).all (teB su) = true) (fun k => T.length - k) 0 ⟨Nat.zero_le _, rfl⟩ ⟨rfl, rfl, trivial⟩ ⟨rfl, trivial⟩ (fun _ => ⟨rfl, rfl⟩) ?_
  clear hk hkl
  intro k ⟨hk, hall⟩
  rcases Nat.lt_or_ge k T.length with hkl | hkl
  · obtain ⟨⟨ro', rc, xs, hh'⟩, hx⟩ : ∃ b, T[k]? = some b := ⟨_, List.getElem?_eq_getElem hkl⟩
    obtain ⟨_, ad, rfl, _⟩ := ht.ptr (by omega)
    have hrr := hh _ (List.mem_of_getElem? hx)
    have hrb := b4 _ (List.mem_of_getElem? hx)
    dsimp only at hrr hrb
    have hat := all_mapT (f := Tc.d) (p := teB su) hx
    rw [hall, Bool.true_and] at hat
    have hno := all_mapN (f := Tc.d) (p := teB su) hx
    have e0 := fun (w' : World) hw' => rd_fld (ht.below (w' := w') hw') hx
    have c52 := fun (w' : World) (hw : Below w.heap.size w w') => rising_ok su xs ro' rc w' (hrr.below hw) hrb (by omega)
    have c50 := fun (w' : World) => In_ok hh' 0 40 w'
    have hte : teB su (Tc.d ⟨ro', rc, xs, hh'⟩) = (subB su xs && inB hh' 0 40) := rfl
    rw [hte] at hat hno
    cases q1 : subB su xs <;> cases q2 : inB hh' 0 40
    all_goals rw [q1] at c52
    all_goals rw [q2] at c50
    all_goals first | rw [hno (by rw [q1, q2]; rfl)] | rw [q1, q2] at hat
    all_goals skip
    repeat'
     conv => whnf
     first
      | refine zA ?_ | refine zB ?_ | refine zC ?_ | refine zD ?_ | refine zE ?_ | refine zF ?_ | refine zG ?_ | refine zH ?_ | refine zJ ?_ | refine zI ?_ | refine splT ?_ | refine splF ?_ | refine splNot ?_
      | ((first | refine splIn (fun hc => ?_) (fun hc => ?_) | refine splD (fun hc => ?_) (fun hc => ?_) | refine splE (fun hc => ?_) (fun hc => ?_) | refine splNE (fun hc => ?_) (fun hc => ?_)) <;> first | (exfalso; omega) | (exfalso; dsimp only at hc; omega) | skip)
      | refine Exists.intro (α := List Value) [.slice ro' xs.length rc] ⟨⟨rfl, fun w' hw' => e0 w' hw' 0 _ rfl⟩, ?_⟩
      | refine Exists.intro (α := List Value) [iv hh'] ⟨⟨rfl, fun w' hw' => e0 w' hw' 1 _ rfl⟩, ?_⟩
      | ((with_reducible show CallEv _ _ 52 _ _ _ _ _); refine callE (k := 52) (fun β w' hbw => c52 _ hbw) ?_)
      | ((with_reducible show CallEv _ _ 50 _ _ _ _ _); refine callE (k := 50) (fun β w' hbw => c50 _) ?_)
    all_goals first | (exfalso; omega) | exact ⟨fun β => rfl, fun w' h => h⟩ | exact ⟨k + 1, ⟨by omega, hat⟩, by omega, Ent.weak rfl ⟨rfl, rfl, trivial⟩ ⟨rfl, trivial⟩ fun _ h => h⟩
  rw [List.take_of_length_le hkl] at hall
  rw [hall]
  repeat'
   conv => whnf
   first
    | refine zA ?_ | refine zB ?_ | refine zC ?_ | refine zD ?_ | refine zE ?_ | refine zF ?_ | refine zG ?_ | refine zH ?_ | refine zJ ?_ | refine zI ?_ | refine splT ?_ | refine splF ?_ | refine splNot ?_
    | ((first | refine splIn (fun hc => ?_) (fun hc => ?_) | refine splD (fun hc => ?_) (fun hc => ?_) | refine splE (fun hc => ?_) (fun hc => ?_) | refine splNE (fun hc => ?_) (fun hc => ?_)) <;> first | (exfalso; omega) | (exfalso; dsimp only at hc; omega) | skip)
  all_goals first | (exfalso; omega) | exact ⟨fun β => rfl, fun w' h => h⟩
/-- Is a school thin? -/
def thS (s : SD) : Bool := s.G.all (fun l => decide (l.length ≤ 10)) && (s.T.all (fun t => decide (t.1.length ≤ 10)) && (decide (s.G.length ≤ 12) && decide (s.T.length ≤ 12)))
/-- Its lists are as long as a slice may be. -/
structure ScX (s : Sc) : Prop where
  g : s.G.length ≤ 9223372036854775807
  r : ∀ r ∈ s.G, r.xs.length ≤ 9223372036854775807
  t : s.T.length ≤ 9223372036854775807
  h : ∀ t ∈ s.T, t.T.length ≤ 9223372036854775807
theorem ScX.b {s : Sc} (h : thS s.d = true) : ScB s := by
  unfold thS Sc.d at h
  simp only [Bool.and_eq_true, List.all_map, List.length_map, List.all_eq_true, decide_eq_true_eq, Function.comp] at h
  obtain ⟨h1, h2, h3, h4⟩ := h
  exact ⟨by omega, fun r hr => by have := h1 r hr; omega, by omega, fun t ht => by have := h2 t ht; unfold Tc.d at this; dsimp only at this; omega⟩
set_option maxHeartbeats 4000000 in
set_option maxRecDepth 100000 in
theorem Thin_ok (s : Sc) (w : World) (h : ScIn s w) (hB : ScX s) : Calls Tryz.prog 11 #[s.v] w fun e w' => e = .returned (.bool (thS s.d)) ∧ Below w.heap.size w w' := by
  obtain ⟨sl, ro, su, go, gc, G, to, tc, T⟩ := s
  obtain ⟨hg, hr, ht, hh⟩ := h
  obtain ⟨b1, b2, b3, b4⟩ := hB
  unfold thS Sc.d
  dsimp only at hg hr ht hh b1 b2 b3 b4 ⊢
  rw [List.length_map, List.length_map]
  refine calls_val env mixed Tryz.func11 has11 Tryz.ntmps11 [.agg #[iv sl, iv ro, iv su, .slice go G.length gc, .slice to T.length tc]] (by simp) ?_
  repeat'
   conv => whnf
   first
    | refine zA ?_ | refine zB ?_ | refine zC ?_ | refine zD ?_ | refine zE ?_ | refine zF ?_ | refine zG ?_ | refine zH ?_ | refine zJ ?_ | refine zI ?_ | refine splT ?_ | refine splF ?_ | refine splNot ?_
    | ((first | refine splIn (fun hc => ?_) (fun hc => ?_) | refine splD (fun hc => ?_) (fun hc => ?_) | refine splE (fun hc => ?_) (fun hc => ?_) | refine splNE (fun hc => ?_) (fun hc => ?_)) <;> first | (exfalso; omega) | (exfalso; dsimp only at hc; omega) | skip)
  refine loopE (fun k : Nat => [(1, .ptr 0 0), (3, .v (iv k))]) (fun _ => [(0, .cells [.v (iv sl), .v (iv ro), .v (iv su), .v (.slice go G.length gc), .v (.slice to T.length tc)] 25)]) (fun k => k ≤ G.length ∧ ((G.take k).map Rw.xs).all (fun l => decide (l.length ≤ 10)) = true) (fun k => G.length - k) 0 ⟨Nat.zero_le _, rfl⟩ ⟨rfl, rfl, trivial⟩ ⟨rfl, trivial⟩ (fun _ => ⟨rfl, rfl⟩) ?_
  intro k ⟨hk, hall⟩
  rcases Nat.lt_or_ge k G.length with hkl | hkl
  · obtain ⟨⟨ro', rc, xs⟩, hx⟩ : ∃ b, G[k]? = some b := ⟨_, List.getElem?_eq_getElem hkl⟩
    obtain ⟨_, ad, rfl, _⟩ := hg.ptr (by omega)
    have hrb := b2 _ (List.mem_of_getElem? hx)
    dsimp only at hrb
    have hat := all_mapT (f := Rw.xs) (p := fun l => decide (l.length ≤ 10)) hx
    rw [hall, Bool.true_and] at hat
    have hno := all_mapN (f := Rw.xs) (p := fun l => decide (l.length ≤ 10)) hx
    dsimp only at hat hno
    have e0 := fun (w' : World) hw' => rd_ati (hg.below (w' := w') hw') hx
    by_cases hok : xs.length ≤ 10
    · rw [decide_eq_true hok] at hat
      repeat'
       conv => whnf
       first
        | refine zA ?_ | refine zB ?_ | refine zC ?_ | refine zD ?_ | refine zE ?_ | refine zF ?_ | refine zG ?_ | refine zH ?_ | refine zJ ?_ | refine zI ?_ | refine splT ?_ | refine splF ?_ | refine splNot ?_
        | ((first | refine splIn (fun hc => ?_) (fun hc => ?_) | refine splD (fun hc => ?_) (fun hc => ?_) | refine splE (fun hc => ?_) (fun hc => ?_) | refine splNE (fun hc => ?_) (fun hc => ?_)) <;> first | (exfalso; omega) | (exfalso; dsimp only at hc; omega) | skip)
        | refine Exists.intro (α := List Value) [.slice ro' xs.length rc] ⟨⟨rfl, fun w' hw' => e0 w' hw'⟩, ?_⟩
      all_goals first | (exfalso; omega) | exact ⟨k + 1, ⟨by omega, hat⟩, by omega, Ent.weak rfl ⟨rfl, rfl, trivial⟩ ⟨rfl, trivial⟩ fun _ h => h⟩
    · rw [hno (decide_eq_false hok), Bool.false_and]
      repeat'
       conv => whnf
       first
        | refine zA ?_ | refine zB ?_ | refine zC ?_ | refine zD ?_ | refine zE ?_ | refine zF ?_ | refine zG ?_ | refine zH ?_ | refine zJ ?_ | refine zI ?_ | refine splT ?_ | refine splF ?_ | refine splNot ?_
        | ((first | refine splIn (fun hc => ?_) (fun hc => ?_) | refine splD (fun hc => ?_) (fun hc => ?_) | refine splE (fun hc => ?_) (fun hc => ?_) | refine splNE (fun hc => ?_) (fun hc => ?_)) <;> first | (exfalso; omega) | (exfalso; dsimp only at hc; omega) | skip)
        | refine Exists.intro (α := List Value) [.slice ro' xs.length rc] ⟨⟨rfl, fun w' hw' => e0 w' hw'⟩, ?_⟩
      all_goals first | (exfalso; omega) | exact ⟨fun β => rfl, fun w' h => h⟩
  rw [List.take_of_length_le hkl] at hall
  rw [hall, Bool.true_and]
  clear hall
  repeat'
   conv => whnf
   first
    | refine zA ?_ | refine zB ?_ | refine zC ?_ | refine zD ?_ | refine zE ?_ | refine zF ?_ | refine zG ?_ | refine zH ?_ | refine zJ ?_ | refine zI ?_ | refine splT ?_ | refine splF ?_ | refine splNot ?_
    | ((first | refine splIn (fun hc => ?_) (fun hc => ?_) | refine splD (fun hc => ?_) (fun hc => ?_) | refine splE (fun hc => ?_) (fun hc => ?_) | refine splNE (fun hc => ?_) (fun hc => ?_)) <;> first | (exfalso; omega) | (exfalso; dsimp only at hc; omega) | skip)
  all_goals first | (exfalso; omega) | skip
  refine loopE (fun k : Nat => [(1, .ptr 0 0), (4, .v (iv k))]) (fun _ => [(0, .cells [.v (iv sl), .v (iv ro), .v (iv su), .v (.slice go G.length gc), .v (.slice to T.length tc)] 25)]) (fun k => k ≤ T.length ∧ ((T.take k).map Tc.d).all (fun t => decide (t.1.length ≤ 10)) = true) (fun k => T.length - k) 0 ⟨Nat.zero_le _, rfl⟩ ⟨rfl, rfl, trivial⟩ ⟨rfl, trivial⟩ (fun _ => ⟨rfl, rfl⟩) ?_
  clear hk hkl
  intro k ⟨hk, hall⟩
  rcases Nat.lt_or_ge k T.length with hkl | hkl
  · obtain ⟨⟨ro', rc, xs, hh'⟩, hx⟩ : ∃ b, T[k]? = some b := ⟨_, List.getElem?_eq_getElem hkl⟩
    obtain ⟨_, ad, rfl, _⟩ := ht.ptr (by omega)
    have hrb := b4 _ (List.mem_of_getElem? hx)
    dsimp only at hrb
    have hat := all_mapT (f := Tc.d) (p := fun t => decide (t.1.length ≤ 10)) hx
    rw [hall, Bool.true_and] at hat
    have hno := all_mapN (f := Tc.d) (p := fun t => decide (t.1.length ≤ 10)) hx
    have e0 := fun (w' : World) hw' => rd_fld (ht.below (w' := w') hw') hx
    unfold Tc.d at hno hat
    dsimp only at hno hat
    by_cases hok : xs.length ≤ 10
    · rw [decide_eq_true hok] at hat
      repeat'
       conv => whnf
       first
        | refine zA ?_ | refine zB ?_ | refine zC ?_ | refine zD ?_ | refine zE ?_ | refine zF ?_ | refine zG ?_ | refine zH ?_ | refine zJ ?_ | refine zI ?_ | refine splT ?_ | refine splF ?_ | refine splNot ?_
        | ((first | refine splIn (fun hc => ?_) (fun hc => ?_) | refine splD (fun hc => ?_) (fun hc => ?_) | refine splE (fun hc => ?_) (fun hc => ?_) | refine splNE (fun hc => ?_) (fun hc => ?_)) <;> first | (exfalso; omega) | (exfalso; dsimp only at hc; omega) | skip)
        | refine Exists.intro (α := List Value) [.slice ro' xs.length rc] ⟨⟨rfl, fun w' hw' => e0 w' hw' 0 _ rfl⟩, ?_⟩
      all_goals first | (exfalso; omega) | exact ⟨k + 1, ⟨by omega, hat⟩, by omega, Ent.weak rfl ⟨rfl, rfl, trivial⟩ ⟨rfl, trivial⟩ fun _ h => h⟩
    · have hno2 : (T.map Tc.d).all (fun t => decide (t.1.length ≤ 10)) = false := hno (decide_eq_false hok)
      rw [hno2, Bool.false_and]
      repeat'
       conv => whnf
       first
        | refine zA ?_ | refine zB ?_ | refine zC ?_ | refine zD ?_ | refine zE ?_ | refine zF ?_ | refine zG ?_ | refine zH ?_ | refine zJ ?_ | refine zI ?_ | refine splT ?_ | refine splF ?_ | refine splNot ?_
        | ((first | refine splIn (fun hc => ?_) (fun hc => ?_) | refine splD (fun hc => ?_) (fun hc => ?_) | refine splE (fun hc => ?_) (fun hc => ?_) | refine splNE (fun hc => ?_) (fun hc => ?_)) <;> first | (exfalso; omega) | (exfalso; dsimp only at hc; omega) | skip)
        | refine Exists.intro (α := List Value) [.slice ro' xs.length rc] ⟨⟨rfl, fun w' hw' => e0 w' hw' 0 _ rfl⟩, ?_⟩
      all_goals first | (exfalso; omega) | exact ⟨fun β => rfl, fun w' h => h⟩
  rw [List.take_of_length_le hkl] at hall
  rw [hall, Bool.true_and]
  repeat'
   conv => whnf
   first
    | refine zA ?_ | refine zB ?_ | refine zC ?_ | refine zD ?_ | refine zE ?_ | refine zF ?_ | refine zG ?_ | refine zH ?_ | refine zJ ?_ | refine zI ?_ | refine splT ?_ | refine splF ?_ | refine splNot ?_
    | ((first | refine splIn (fun hc => ?_) (fun hc => ?_) | refine splD (fun hc => ?_) (fun hc => ?_) | refine splE (fun hc => ?_) (fun hc => ?_) | refine splNE (fun hc => ?_) (fun hc => ?_)) <;> first | (exfalso; omega) | (exfalso; dsimp only at hc; omega) | skip)
  all_goals first | (exfalso; omega) | exact ⟨fun β => congrArg Value.bool (by rw [decide_eq_true (by omega : G.length ≤ 12), Bool.true_and]; exact decide_eq_decide.2 (by omega)), fun w' h => h⟩ | exact ⟨fun β => congrArg Value.bool (by rw [decide_eq_false (by omega : ¬ G.length ≤ 12)]; rfl), fun w' h => h⟩
end Go.Proofs.YtkbfcofifhngfaaGreat
