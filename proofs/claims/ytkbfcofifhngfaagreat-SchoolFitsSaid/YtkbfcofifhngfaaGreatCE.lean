/- Valid schools: what valid, CheckSchool, the reference's Right, and Thin return. -/
import Derived.Test.YtkbfcofifhngfaaGreatCD
namespace Go.Proofs.YtkbfcofifhngfaaGreat
open Go Tx Go.RowKit
set_option linter.unusedSimpArgs false
set_option linter.unusedVariables false

theorem all_mapT {α β : Type} {f : α → β} {p : β → Bool} {L : List α} {k : Nat} {x : α} (h : L[k]? = some x) : ((L.take (k + 1)).map f).all p = (((L.take k).map f).all p && p (f x)) := by
  rw [List.take_add_one, h]; simp
theorem all_mapN {α β : Type} {f : α → β} {p : β → Bool} {L : List α} {k : Nat} {x : α} (h : L[k]? = some x) (hx : p (f x) = false) : (L.map f).all p = false := by
  rw [List.all_eq_false]
  exact ⟨f x, List.mem_map_of_mem (List.mem_of_getElem? h), by simp [hx]⟩
set_option maxHeartbeats 2000000 in
set_option maxRecDepth 100000 in
theorem all80_ok (s : Sc) (b : Nat) (C : List Rw) (o : Option Addr) (c : Nat) (w : World) (hb : w.heap[b]? = some (.cells (scC s).toArray 34 (0, 0))) (hrd : Rd 1 Rw.cs (.slice o C.length c) C w) (hR : RR C w) (hl : C.length ≤ 1000000) (hrl : ∀ r ∈ C, r.xs.length ≤ 1000000) :
    Calls Tryz.prog 80 #[.slice o C.length c, .func (.func 81) #[] #[.pointer (some ⟨b, 0, none⟩)]] w fun e w' => e = .returned (.bool ((C.map Rw.xs).all (grB s.su))) ∧ Below w.heap.size w w' := by
  refine calls_val env mixed Tryz.func80 has80 Tryz.ntmps80 [.slice o C.length c, .func (.func 81) #[] #[.pointer (some ⟨b, 0, none⟩)]] (by simp) ?_
  repeat'
   conv => whnf
   first
    | refine zA ?_ | refine zB ?_ | refine zC ?_ | refine zD ?_ | refine zE ?_ | refine zF ?_ | refine zG ?_ | refine zH ?_ | refine zJ ?_ | refine zI ?_ | refine splT ?_ | refine splF ?_ | refine splNot ?_
    | ((first | refine splIn (fun hc => ?_) (fun hc => ?_) | refine splD (fun hc => ?_) (fun hc => ?_) | refine splE (fun hc => ?_) (fun hc => ?_) | refine splNE (fun hc => ?_) (fun hc => ?_)) <;> first | (exfalso; omega) | (exfalso; dsimp only at hc; omega) | skip)
    | ((with_reducible show CallEv _ _ 113 _ _ _ _ _); refine callI env mixed 1000 [] Tryz.func113 has113 Tryz.ntmps113 (Nat.le_of_ble_eq_true rfl) rfl rfl rfl ?_)
    | ((with_reducible show CallEv _ _ 146 _ _ _ _ _); refine callI env mixed 2000 [] Tryz.func146 has146 Tryz.ntmps146 (Nat.le_of_ble_eq_true rfl) rfl rfl rfl ?_)
  refine loopE (fun k : Nat => [(0, .v (.slice o C.length c)), (1, .fn (.func 114) [.ptr 0 0]), (7, .v (iv C.length)), (8, .v (iv k))]) (fun _ => [(0, .cells [.v (.func (.func 81) #[] #[.pointer (some ⟨b, 0, none⟩)])] 111)]) (fun k => k ≤ C.length ∧ ((C.take k).map Rw.xs).all (grB s.su) = true) (fun k => C.length - k) 0 ⟨Nat.zero_le _, rfl⟩ ⟨rfl, rfl, rfl, rfl, trivial⟩ ⟨rfl, trivial⟩ (fun _ => ⟨rfl, rfl⟩) ?_
  intro k ⟨hk, hall⟩
  rcases Nat.lt_or_ge k C.length with hkl | hkl
  · obtain ⟨⟨ro, rc, xs⟩, hx⟩ : ∃ b, C[k]? = some b := ⟨_, List.getElem?_eq_getElem hkl⟩
    obtain ⟨_, ad, rfl, _⟩ := hrd.ptr (by omega)
    have hr := hR _ (List.mem_of_getElem? hx)
    have hrb := hrl _ (List.mem_of_getElem? hx)
    change Rd 1 iF (.slice ro xs.length rc) xs w at hr
    dsimp only at hrb
    have ht := all_mapT (f := Rw.xs) (p := grB s.su) hx
    rw [hall, Bool.true_and] at ht
    have hno := all_mapN (f := Rw.xs) (p := grB s.su) hx
    have e0 := fun (w' : World) hw' => rd_ati (hrd.below (w' := w') hw') hx
    have hv := fun (w' : World) (hw : Below w.heap.size w w') => valid1_ok s b xs ro rc w' (heap_below hb hw) (hr.below hw) hrb
    dsimp only at ht hno
    cases hg : grB s.su xs with
    | true =>
      rw [hg] at hv ht
      repeat'
       conv => whnf
       first
        | refine zA ?_ | refine zB ?_ | refine zC ?_ | refine zD ?_ | refine zE ?_ | refine zF ?_ | refine zG ?_ | refine zH ?_ | refine zJ ?_ | refine zI ?_ | refine splT ?_ | refine splF ?_ | refine splNot ?_
        | ((first | refine splIn (fun hc => ?_) (fun hc => ?_) | refine splD (fun hc => ?_) (fun hc => ?_) | refine splE (fun hc => ?_) (fun hc => ?_) | refine splNE (fun hc => ?_) (fun hc => ?_)) <;> first | (exfalso; omega) | (exfalso; dsimp only at hc; omega) | skip)
        | refine Exists.intro (α := List Value) [.slice ro xs.length rc] ⟨⟨rfl, fun w' hw' => e0 w' hw'⟩, ?_⟩
        | ((with_reducible show CallEv _ _ 114 _ _ _ _ _); refine callI env mixed 3000 [0,1,5,7,8] Tryz.func114 has114 Tryz.ntmps114 (Nat.le_of_ble_eq_true rfl) rfl rfl rfl ?_)
        | ((with_reducible show CallEv _ _ 81 _ _ _ _ _); refine callE (k := 81) (fun β w' hbw => hv _ hbw) ?_)
      all_goals first | (exfalso; omega) | exact ⟨k + 1, ⟨by omega, ht⟩, by omega, Ent.weak rfl ⟨rfl, rfl, rfl, rfl, trivial⟩ ⟨rfl, trivial⟩ fun _ h => h⟩
    | false =>
      rw [hg] at hv ht
      rw [hno hg]
      repeat'
       conv => whnf
       first
        | refine zA ?_ | refine zB ?_ | refine zC ?_ | refine zD ?_ | refine zE ?_ | refine zF ?_ | refine zG ?_ | refine zH ?_ | refine zJ ?_ | refine zI ?_ | refine splT ?_ | refine splF ?_ | refine splNot ?_
        | ((first | refine splIn (fun hc => ?_) (fun hc => ?_) | refine splD (fun hc => ?_) (fun hc => ?_) | refine splE (fun hc => ?_) (fun hc => ?_) | refine splNE (fun hc => ?_) (fun hc => ?_)) <;> first | (exfalso; omega) | (exfalso; dsimp only at hc; omega) | skip)
        | refine Exists.intro (α := List Value) [.slice ro xs.length rc] ⟨⟨rfl, fun w' hw' => e0 w' hw'⟩, ?_⟩
        | ((with_reducible show CallEv _ _ 114 _ _ _ _ _); refine callI env mixed 3000 [0,1,5,7,8] Tryz.func114 has114 Tryz.ntmps114 (Nat.le_of_ble_eq_true rfl) rfl rfl rfl ?_)
        | ((with_reducible show CallEv _ _ 81 _ _ _ _ _); refine callE (k := 81) (fun β w' hbw => hv _ hbw) ?_)
      all_goals first | exact ⟨fun β => rfl, fun w' h => h⟩ | (exfalso; omega)
  · rw [List.take_of_length_le hkl] at hall
    rw [hall]
    repeat'
     conv => whnf
     first
      | refine zA ?_ | refine zB ?_ | refine zC ?_ | refine zD ?_ | refine zE ?_ | refine zF ?_ | refine zG ?_ | refine zH ?_ | refine zJ ?_ | refine zI ?_ | refine splT ?_ | refine splF ?_ | refine splNot ?_
      | ((first | refine splIn (fun hc => ?_) (fun hc => ?_) | refine splD (fun hc => ?_) (fun hc => ?_) | refine splE (fun hc => ?_) (fun hc => ?_) | refine splNE (fun hc => ?_) (fun hc => ?_)) <;> first | (exfalso; omega) | (exfalso; dsimp only at hc; omega) | skip)
    all_goals first | exact ⟨fun β => rfl, fun w' h => h⟩ | (exfalso; omega)
set_option maxHeartbeats 2000000 in
set_option maxRecDepth 100000 in
theorem all83_ok (s : Sc) (b : Nat) (C : List Tc) (o : Option Addr) (c : Nat) (w : World) (hb : w.heap[b]? = some (.cells (scC s).toArray 34 (0, 0))) (hrd : Rd 2 Tc.cs (.slice o C.length c) C w) (hR : ∀ t ∈ C, Rd 1 iF (.slice t.o t.T.length t.c) t.T w) (hl : C.length ≤ 1000000) (hrl : ∀ t ∈ C, t.T.length ≤ 1000000) (hs : -1000000 ≤ s.su ∧ s.su ≤ 1000000) :
    Calls Tryz.prog 83 #[.slice o C.length c, .func (.func 84) #[] #[.pointer (some ⟨b, 0, none⟩)]] w fun e w' => e = .returned (.bool ((C.map Tc.d).all (teB s.su))) ∧ Below w.heap.size w w' := by
  refine calls_val env mixed Tryz.func83 has83 Tryz.ntmps83 [.slice o C.length c, .func (.func 84) #[] #[.pointer (some ⟨b, 0, none⟩)]] (by simp) ?_
  repeat'
   conv => whnf
   first
    | refine zA ?_ | refine zB ?_ | refine zC ?_ | refine zD ?_ | refine zE ?_ | refine zF ?_ | refine zG ?_ | refine zH ?_ | refine zJ ?_ | refine zI ?_ | refine splT ?_ | refine splF ?_ | refine splNot ?_
    | ((first | refine splIn (fun hc => ?_) (fun hc => ?_) | refine splD (fun hc => ?_) (fun hc => ?_) | refine splE (fun hc => ?_) (fun hc => ?_) | refine splNE (fun hc => ?_) (fun hc => ?_)) <;> first | (exfalso; omega) | (exfalso; dsimp only at hc; omega) | skip)
    | ((with_reducible show CallEv _ _ 117 _ _ _ _ _); refine callI env mixed 1000 [] Tryz.func117 has117 Tryz.ntmps117 (Nat.le_of_ble_eq_true rfl) rfl rfl rfl ?_)
    | ((with_reducible show CallEv _ _ 148 _ _ _ _ _); refine callI env mixed 2000 [] Tryz.func148 has148 Tryz.ntmps148 (Nat.le_of_ble_eq_true rfl) rfl rfl rfl ?_)
  refine loopE (fun k : Nat => [(0, .v (.slice o C.length c)), (1, .fn (.func 118) [.ptr 0 0]), (7, .v (iv C.length)), (8, .v (iv k))]) (fun _ => [(0, .cells [.v (.func (.func 84) #[] #[.pointer (some ⟨b, 0, none⟩)])] 140)]) (fun k => k ≤ C.length ∧ ((C.take k).map Tc.d).all (teB s.su) = true) (fun k => C.length - k) 0 ⟨Nat.zero_le _, rfl⟩ ⟨rfl, rfl, rfl, rfl, trivial⟩ ⟨rfl, trivial⟩ (fun _ => ⟨rfl, rfl⟩) ?_
  intro k ⟨hk, hall⟩
  rcases Nat.lt_or_ge k C.length with hkl | hkl
  · obtain ⟨⟨ro, rc, xs, hh⟩, hx⟩ : ∃ b, C[k]? = some b := ⟨_, List.getElem?_eq_getElem hkl⟩
    obtain ⟨_, ad, rfl, _⟩ := hrd.ptr (by omega)
    have hr := hR _ (List.mem_of_getElem? hx)
    have hrb := hrl _ (List.mem_of_getElem? hx)
    dsimp only at hr hrb
    have ht := all_mapT (f := Tc.d) (p := teB s.su) hx
    rw [hall, Bool.true_and] at ht
    have hno := all_mapN (f := Tc.d) (p := teB s.su) hx
    have e0 := fun (w' : World) hw' => rd_ati (hrd.below (w' := w') hw') hx
    have hv := fun (w' : World) (hw : Below w.heap.size w w') => valid2_ok s b ⟨ro, rc, xs, hh⟩ w' (heap_below hb hw) (hr.below hw) hrb hs
    generalize Tc.d ⟨ro, rc, xs, hh⟩ = D at *
    cases hg : teB s.su D with
    | true =>
      rw [hg] at hv ht
      repeat'
       conv => whnf
       first
        | refine zA ?_ | refine zB ?_ | refine zC ?_ | refine zD ?_ | refine zE ?_ | refine zF ?_ | refine zG ?_ | refine zH ?_ | refine zJ ?_ | refine zI ?_ | refine splT ?_ | refine splF ?_ | refine splNot ?_
        | ((first | refine splIn (fun hc => ?_) (fun hc => ?_) | refine splD (fun hc => ?_) (fun hc => ?_) | refine splE (fun hc => ?_) (fun hc => ?_) | refine splNE (fun hc => ?_) (fun hc => ?_)) <;> first | (exfalso; omega) | (exfalso; dsimp only at hc; omega) | skip)
        | refine Exists.intro (α := List Value) [.slice ro xs.length rc, iv hh] ⟨⟨rfl, fun w' hw' => e0 w' hw'⟩, ?_⟩
        | ((with_reducible show CallEv _ _ 118 _ _ _ _ _); refine callI env mixed 3000 [0,1,5,7,8] Tryz.func118 has118 Tryz.ntmps118 (Nat.le_of_ble_eq_true rfl) rfl rfl rfl ?_)
        | ((with_reducible show CallEv _ _ 84 _ _ _ _ _); refine callE (k := 84) (fun β w' hbw => hv _ hbw) ?_)
      all_goals first | (exfalso; omega) | exact ⟨k + 1, ⟨by omega, ht⟩, by omega, Ent.weak rfl ⟨rfl, rfl, rfl, rfl, trivial⟩ ⟨rfl, trivial⟩ fun _ h => h⟩
    | false =>
      rw [hg] at hv ht
      rw [hno hg]
      repeat'
       conv => whnf
       first
        | refine zA ?_ | refine zB ?_ | refine zC ?_ | refine zD ?_ | refine zE ?_ | refine zF ?_ | refine zG ?_ | refine zH ?_ | refine zJ ?_ | refine zI ?_ | refine splT ?_ | refine splF ?_ | refine splNot ?_
        | ((first | refine splIn (fun hc => ?_) (fun hc => ?_) | refine splD (fun hc => ?_) (fun hc => ?_) | refine splE (fun hc => ?_) (fun hc => ?_) | refine splNE (fun hc => ?_) (fun hc => ?_)) <;> first | (exfalso; omega) | (exfalso; dsimp only at hc; omega) | skip)
        | refine Exists.intro (α := List Value) [.slice ro xs.length rc, iv hh] ⟨⟨rfl, fun w' hw' => e0 w' hw'⟩, ?_⟩
        | ((with_reducible show CallEv _ _ 118 _ _ _ _ _); refine callI env mixed 3000 [0,1,5,7,8] Tryz.func118 has118 Tryz.ntmps118 (Nat.le_of_ble_eq_true rfl) rfl rfl rfl ?_)
        | ((with_reducible show CallEv _ _ 84 _ _ _ _ _); refine callE (k := 84) (fun β w' hbw => hv _ hbw) ?_)
      all_goals first | exact ⟨fun β => rfl, fun w' h => h⟩ | (exfalso; omega)
  · rw [List.take_of_length_le hkl] at hall
    rw [hall]
    repeat'
     conv => whnf
     first
      | refine zA ?_ | refine zB ?_ | refine zC ?_ | refine zD ?_ | refine zE ?_ | refine zF ?_ | refine zG ?_ | refine zH ?_ | refine zJ ?_ | refine zI ?_ | refine splT ?_ | refine splF ?_ | refine splNot ?_
      | ((first | refine splIn (fun hc => ?_) (fun hc => ?_) | refine splD (fun hc => ?_) (fun hc => ?_) | refine splE (fun hc => ?_) (fun hc => ?_) | refine splNE (fun hc => ?_) (fun hc => ?_)) <;> first | (exfalso; omega) | (exfalso; dsimp only at hc; omega) | skip)
    all_goals first | exact ⟨fun β => rfl, fun w' h => h⟩ | (exfalso; omega)
set_option maxHeartbeats 4000000 in
set_option maxRecDepth 100000 in
theorem valid_ok (s : Sc) (w : World) (h : ScIn s w) (hB : ScB s) : Calls Tryz.prog 37 #[s.v] w fun e w' => e = .returned (.bool (scOk s.d)) ∧ Below w.heap.size w w' := by
  have c80 := fun (b : Nat) (w' : World) (hw : Below w.heap.size w w') (hb : w'.heap[b]? = some (.cells (scC s).toArray 34 (0, 0))) => all80_ok s b s.G s.go s.gc w' hb (h.g.below hw) (h.r.below hw) hB.g hB.r
  have c83 := fun (hs : -1000000 ≤ s.su ∧ s.su ≤ 1000000) (b : Nat) (w' : World) (hw : Below w.heap.size w w') (hb : w'.heap[b]? = some (.cells (scC s).toArray 34 (0, 0))) => all83_ok s b s.T s.to s.tc w' hb (h.t.below hw) (fun t ht => (h.h t ht).below hw) hB.t hB.h hs
  have l1 := hB.g
  have l2 := hB.t
  obtain ⟨sl, ro, su, go, gc, G, to, tc, T⟩ := s
  unfold scOk Sc.d
  dsimp only at c80 c83 l1 l2 ⊢
  rw [List.length_map, List.length_map]
  generalize (G.map Rw.xs).all (grB su) = q6 at *
  generalize (T.map Tc.d).all (teB su) = q7 at *
  refine calls_val env mixed Tryz.func37 has37 Tryz.ntmps37 [.agg #[iv sl, iv ro, iv su, .slice go G.length gc, .slice to T.length tc]] (by simp) ?_
  cases q6 <;> cases q7
  all_goals skip
  repeat'
   conv => whnf
   first
    | refine zA ?_ | refine zB ?_ | refine zC ?_ | refine zD ?_ | refine zE ?_ | refine zF ?_ | refine zG ?_ | refine zH ?_ | refine zJ ?_ | refine zI ?_ | refine splT ?_ | refine splF ?_ | refine splNot ?_
    | ((first | refine splIn (fun hc => ?_) (fun hc => ?_) | refine splD (fun hc => ?_) (fun hc => ?_) | refine splE (fun hc => ?_) (fun hc => ?_) | refine splNE (fun hc => ?_) (fun hc => ?_)) <;> first | (exfalso; omega) | (exfalso; dsimp only at hc; omega) | skip)
    | ((with_reducible show CallEv _ _ 61 _ _ _ _ _); refine callE (k := 61) (fun β w' hbw => within_ok _ _ _ _) ?_)
    | ((with_reducible show CallEv _ _ 80 _ _ _ _ _); refine callM (k := 80) [0] (fun β w' hbk hbw => c80 _ w' hbw (hbk 0 (by simp) _ rfl)) ?_)
    | ((with_reducible show CallEv _ _ 83 _ _ _ _ _); refine callM (k := 83) [0] (fun β w' hbk hbw => c83 (by omega) _ w' hbw (hbk 0 (by simp) _ rfl)) ?_)
  all_goals first | (exfalso; omega) | exact ⟨fun β => congrArg Value.bool (by simp [inB, *] <;> omega), fun w' h => h⟩
theorem CheckSchool_ok (s : Sc) (w : World) (h : ScIn s w) (hB : ScB s) : Calls Tryz.prog 27 #[s.v] w fun e w' => e = .returned (iv (if scOk s.d = true then 0 else 1)) ∧ Below w.heap.size w w' := by
  have c37 := fun (w' : World) (hw : Below w.heap.size w w') => valid_ok s w' (h.below hw) hB
  generalize scOk s.d = q at *
  obtain ⟨sl, ro, su, go, gc, G, to, tc, T⟩ := s
  refine calls_val env mixed Tryz.func27 has27 Tryz.ntmps27 [.agg #[iv sl, iv ro, iv su, .slice go G.length gc, .slice to T.length tc]] (by simp) ?_
  cases q
  all_goals skip
  repeat'
   conv => whnf
   first
    | refine zA ?_ | refine zB ?_ | refine zC ?_ | refine zD ?_ | refine zE ?_ | refine zF ?_ | refine zG ?_ | refine zH ?_ | refine zJ ?_ | refine zI ?_ | refine splT ?_ | refine splF ?_ | refine splNot ?_
    | ((first | refine splIn (fun hc => ?_) (fun hc => ?_) | refine splD (fun hc => ?_) (fun hc => ?_) | refine splE (fun hc => ?_) (fun hc => ?_) | refine splNE (fun hc => ?_) (fun hc => ?_)) <;> first | (exfalso; omega) | (exfalso; dsimp only at hc; omega) | skip)
    | ((with_reducible show CallEv _ _ 37 _ _ _ _ _); refine callE (k := 37) (fun β w' hbw => c37 _ hbw) ?_)
  all_goals first | (exfalso; omega) | exact ⟨fun β => rfl, fun w' h => h⟩
end Go.Proofs.YtkbfcofifhngfaaGreat
