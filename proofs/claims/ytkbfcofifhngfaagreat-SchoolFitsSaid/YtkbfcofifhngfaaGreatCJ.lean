/- Concat of the rows of a timetable: all its lessons in new memory. -/
import Derived.Test.YtkbfcofifhngfaaGreatCI
import Derived.Laws.OwnMore
import Derived.WalkKit
import Derived.WalkSpells
import Derived.Maps.AppendAt
namespace Go.Proofs.YtkbfcofifhngfaaGreat
open Go Tx Go.RowKit
set_option linter.unusedSimpArgs false
set_option linter.unusedVariables false
set_option maxRecDepth 100000
theorem Grow_own (n : Nat) (w : World) (hn : 1 ≤ n ∧ n ≤ 1000) : Calls Tryz.prog 102 #[.slice none 0 0, iv n] w fun e w' => ∃ b d, e = .returned (.slice (some ⟨b, 0, none⟩) 0 d) ∧ w.heap.size ≤ b ∧ Below w.heap.size w w' ∧ w'.ownsRow 0 46 3 (.slice (some ⟨b, 0, none⟩) 0 d) 0 [] := by
  refine callsIn_wide.1 (?_ : CallsIn Fence.wide 5 Tryz.prog 102 _ w _)
  refine callsIn_of_wp_marks Tryz.func102 rfl trivial ?_ rfl
  simp only [Tryz.ntmps102, List.size_toArray, List.length_cons, List.length_nil, Nat.reduceAdd, Nat.reduceSub, Array.replicate_succ, Array.replicate_zero, List.push_toArray, List.append_toArray, List.nil_append, List.cons_append]
  have hb : Builtin.nextslicecap n 0 * Tryz.t46.bytes ≤ 281474976710656 := by rw [nextslicecap_zero (by omega)]; exact Nat.le_trans (Nat.mul_le_mul_right 24 hn.2) (by decide)
  have hb2 : n * Tryz.t46.bytes ≤ 281474976710656 := Nat.le_trans (Nat.mul_le_mul_right 24 hn.2) (by decide)
  gi_wp2
  all_goals first | (exfalso; omega) | skip
  · have h0 : Tryz.f102.results = #[.tmp 4] := by kernel_rfl
    have hc := grownCap_ge w n 0 46
    have hm := grownCap_le_maxLen w n 0 46 (by simp only [maxLen]; omega)
    refine ⟨_, by simp only [results, h0]; simp [Sem.run_bind, Sem.run_map, Sem.run_pure]; rfl, w.heap.size, _, rfl, Nat.le_refl _, ((Below.refl _ w).alloc (Nat.le_refl _) _).drew, ?_⟩
    refine World.ownsRow_made w _ _ (Nat.zero_le _) hm ?_
    simp only [Array.size_append, size_zeroCells, List.size_toArray, List.length_cons, List.length_nil]
    show n * 3 + (grownCap w n 0 46 - n) * 3 = grownCap w n 0 46 * 3
    omega
theorem Grow_zero (w : World) : Calls Tryz.prog 102 #[.slice none 0 0, iv 0] w fun e w' => e = .returned (.slice none 0 0) ∧ Below w.heap.size w w' := by
  refine callsIn_wide.1 (?_ : CallsIn Fence.wide 5 Tryz.prog 102 _ w _)
  refine callsIn_of_wp_marks Tryz.func102 rfl trivial ?_ rfl
  simp only [Tryz.ntmps102, List.size_toArray, List.length_cons, List.length_nil, Nat.reduceAdd, Nat.reduceSub, Array.replicate_succ, Array.replicate_zero, List.push_toArray, List.append_toArray, List.nil_append, List.cons_append]
  gi_wp2
  have h0 : Tryz.f102.results = #[.tmp 4] := by kernel_rfl
  exact ⟨_, by simp only [results, h0]; simp [Sem.run_bind, Sem.run_map, Sem.run_pure], rfl, Below.refl _ w⟩
theorem lenLn : ∀ A : List Ln, (A.flatMap Ln.cs).length = A.length * 3
  | [] => rfl
  | a :: l => by rw [List.flatMap_cons, List.length_append, lenLn l, List.length_cons]; show 3 + l.length * 3 = (l.length + 1) * 3; omega
/-- All lessons of a timetable, slot by slot. -/
abbrev flL (S : List Lr) : List Ln := S.flatMap Lr.L
theorem flL_take {S : List Lr} {k : Nat} {r : Lr} (h : S[k]? = some r) : flL (S.take (k + 1)) = flL (S.take k) ++ r.L := by
  rw [List.take_add_one, h]; simp [flL]
theorem flL_le {S : List Lr} {m : Nat} : ∀ {k : Nat}, (∀ r ∈ S, r.L.length ≤ m) → (flL (S.take k)).length ≤ k * m := by
  intro k h
  induction k with
  | zero => simp [flL]
  | succ k ih =>
    rw [List.take_add_one, flL, List.flatMap_append, List.length_append]
    cases hr : S[k]? with
    | none => simp; rw [Nat.add_mul]; have ih : (flL (S.take k)).length ≤ k * m := ih; simp only [flL, List.length_flatMap] at ih; simp only [List.map_take] at ih ⊢; omega
    | some r => simp; have := h r (List.mem_of_getElem? hr); rw [Nat.add_mul]; have ih : (flL (S.take k)).length ≤ k * m := ih; simp only [flL, List.length_flatMap] at ih; simp only [List.map_take] at ih ⊢; omega
set_option maxHeartbeats 1000000 in
set_option maxRecDepth 100000 in
theorem Concat_nil (o : Option Addr) (c : Nat) (S : List Lr) (w : World) (h : TbL o c S w) (hl : S.length ≤ 45) (hrl : ∀ r ∈ S, r.L.length ≤ 10) (hz0 : ∀ r ∈ S, r.L = [] → r.o = none ∧ r.c = 0) (h0 : flL S = []) :
    Calls Tryz.prog 69 #[.slice o S.length c] w fun e w' => e = .returned (.slice none 0 0) ∧ Below w.heap.size w w' := by
  obtain ⟨hrd, hR⟩ := h
  have hz : ∀ r ∈ S, r.L = [] := fun r hr => by
    have := List.flatMap_eq_nil_iff.1 h0
    exact this r hr
  refine calls_val env mixed Tryz.func69 has69 Tryz.ntmps69 [.slice o S.length c] (by simp) ?_
  have cz := fun (w' : World) (hw : Below w.heap.size w w') => Grow_zero w'
  repeat'
   conv => whnf
   first
    | refine zA ?_ | refine zB ?_ | refine zC ?_ | refine zD ?_ | refine zE ?_ | refine zF ?_ | refine zG ?_ | refine zH ?_ | refine zJ ?_ | refine zI ?_ | refine splT ?_ | refine splF ?_ | refine splNot ?_
    | ((first | refine splIn (fun hc => ?_) (fun hc => ?_) | refine splD (fun hc => ?_) (fun hc => ?_) | refine splE (fun hc => ?_) (fun hc => ?_) | refine splNE (fun hc => ?_) (fun hc => ?_)) <;> first | (exfalso; omega) | (exfalso; dsimp only at hc; omega) | skip)
  refine loopE (fun k : Nat => [(0, .v (.slice o S.length c)), (3, .v (iv 0)), (9, .v (.slice o S.length c)), (10, .v (iv S.length)), (11, .v (iv k))]) (fun _ => []) (fun k => k ≤ S.length) (fun k => S.length - k) 0 (Nat.zero_le _) ⟨rfl, rfl, rfl, rfl, rfl, trivial⟩ trivial (fun _ => ⟨rfl, rfl⟩) ?_
  intro k hk
  rcases Nat.lt_or_ge k S.length with hkl | hkl
  · obtain ⟨⟨so, sc, L⟩, hx⟩ : ∃ b, S[k]? = some b := ⟨_, List.getElem?_eq_getElem hkl⟩
    obtain ⟨_, ad, rfl, _⟩ := hrd.ptr (by omega)
    have e1 := fun (w' : World) hw' => rd_ati (hrd.below (w' := w') hw') hx
    have hL := hz _ (List.mem_of_getElem? hx)
    have hz1 := hz0 _ (List.mem_of_getElem? hx) hL
    dsimp only at hL hz1; subst hL; obtain ⟨rfl, rfl⟩ := hz1
    repeat'
     conv => whnf
     first
      | refine zA ?_ | refine zB ?_ | refine zC ?_ | refine zD ?_ | refine zE ?_ | refine zF ?_ | refine zG ?_ | refine zH ?_ | refine zJ ?_ | refine zI ?_ | refine splT ?_ | refine splF ?_ | refine splNot ?_
      | ((first | refine splIn (fun hc => ?_) (fun hc => ?_) | refine splD (fun hc => ?_) (fun hc => ?_) | refine splE (fun hc => ?_) (fun hc => ?_) | refine splNE (fun hc => ?_) (fun hc => ?_)) <;> first | (exfalso; omega) | (exfalso; dsimp only at hc; omega) | skip)
      | refine Exists.intro (α := List Value) [.slice none 0 0] ⟨⟨rfl, fun w' hw' => e1 w' hw'⟩, ?_⟩
    all_goals first | (exfalso; omega) | exact ⟨k + 1, by omega, by omega, Ent.weak rfl ⟨rfl, rfl, rfl, rfl, rfl, trivial⟩ trivial fun _ h => h⟩
  · obtain rfl : k = S.length := by omega
    repeat'
     conv => whnf
     first
      | refine zA ?_ | refine zB ?_ | refine zC ?_ | refine zD ?_ | refine zE ?_ | refine zF ?_ | refine zG ?_ | refine zH ?_ | refine zJ ?_ | refine zI ?_ | refine splT ?_ | refine splF ?_ | refine splNot ?_
      | ((first | refine splIn (fun hc => ?_) (fun hc => ?_) | refine splD (fun hc => ?_) (fun hc => ?_) | refine splE (fun hc => ?_) (fun hc => ?_) | refine splNE (fun hc => ?_) (fun hc => ?_)) <;> first | (exfalso; omega) | (exfalso; dsimp only at hc; omega) | skip)
      | ((with_reducible show CallEv _ _ 102 _ _ _ _ _); refine callE (k := 102) (fun β w' hbw => cz _ hbw) ?_)
    conv => whnf
    refine loopE (fun k : Nat => [(6, .v (.slice none 0 0)), (25, .v (.slice o S.length c)), (26, .v (iv S.length)), (27, .v (iv k))]) (fun _ => []) (fun k => k ≤ S.length) (fun k => S.length - k) 0 (Nat.zero_le _) ⟨rfl, rfl, rfl, rfl, trivial⟩ trivial (fun _ => ⟨rfl, rfl⟩) ?_
    intro k hk
    rcases Nat.lt_or_ge k S.length with hkl | hkl
    · obtain ⟨⟨so, sc, L⟩, hx⟩ : ∃ b, S[k]? = some b := ⟨_, List.getElem?_eq_getElem hkl⟩
      obtain ⟨_, ad, rfl, _⟩ := hrd.ptr (by omega)
      have e1 := fun (w' : World) hw' => rd_ati (hrd.below (w' := w') hw') hx
      have hL := hz _ (List.mem_of_getElem? hx)
      have hz1 := hz0 _ (List.mem_of_getElem? hx) hL
      dsimp only at hL hz1; subst hL; obtain ⟨rfl, rfl⟩ := hz1
      repeat'
       conv => whnf
       first
        | refine zA ?_ | refine zB ?_ | refine zC ?_ | refine zD ?_ | refine zE ?_ | refine zF ?_ | refine zG ?_ | refine zH ?_ | refine zJ ?_ | refine zI ?_ | refine splT ?_ | refine splF ?_ | refine splNot ?_
        | ((first | refine splIn (fun hc => ?_) (fun hc => ?_) | refine splD (fun hc => ?_) (fun hc => ?_) | refine splE (fun hc => ?_) (fun hc => ?_) | refine splNE (fun hc => ?_) (fun hc => ?_)) <;> first | (exfalso; omega) | (exfalso; dsimp only at hc; omega) | skip)
        | refine Exists.intro (α := List Value) [.slice none 0 0] ⟨⟨rfl, fun w' hw' => e1 w' hw'⟩, ?_⟩
      all_goals first | (exfalso; omega) | exact ⟨k + 1, by omega, by omega, Ent.weak rfl ⟨rfl, rfl, rfl, rfl, trivial⟩ trivial fun _ h => h⟩
    · obtain rfl : k = S.length := by omega
      repeat'
       conv => whnf
       first
        | refine zA ?_ | refine zB ?_ | refine zC ?_ | refine zD ?_ | refine zE ?_ | refine zF ?_ | refine zG ?_ | refine zH ?_ | refine zJ ?_ | refine zI ?_ | refine splT ?_ | refine splF ?_ | refine splNot ?_
        | ((first | refine splIn (fun hc => ?_) (fun hc => ?_) | refine splD (fun hc => ?_) (fun hc => ?_) | refine splE (fun hc => ?_) (fun hc => ?_) | refine splNE (fun hc => ?_) (fun hc => ?_)) <;> first | (exfalso; omega) | (exfalso; dsimp only at hc; omega) | skip)
      all_goals exact ⟨fun β => rfl, fun w' h => h⟩
set_option maxHeartbeats 1000000 in
set_option maxRecDepth 100000 in
theorem Concat_ok (o : Option Addr) (c : Nat) (S : List Lr) (w : World) (h : TbL o c S w) (hl : S.length ≤ 45) (hrl : ∀ r ∈ S, r.L.length ≤ 10) (hz0 : ∀ r ∈ S, r.L = [] → r.o = none ∧ r.c = 0) :
    Calls Tryz.prog 69 #[.slice o S.length c] w fun e w' => ∃ y : Option Addr × Nat, e = .returned (sV (flL S).length y) ∧ Below w.heap.size w w' ∧ St w.heap.size (Rd 3 Ln.cs (sV (flL S).length y) (flL S)) w' := by
  by_cases h0 : flL S = []
  · refine (Concat_nil o c S w h hl hrl hz0 h0).mono fun e w' ⟨h1, h2⟩ => ⟨(none, 0), ?_, h2, fun _ _ => .inl ⟨?_, h0⟩⟩
    · rw [h1, h0]; rfl
    · rw [h0]; rfl
  obtain ⟨hrd, hR⟩ := h
  refine calls_fam env mixed Tryz.func69 has69 Tryz.ntmps69 [.slice o S.length c] (by simp) ?_
  have hnp : 1 ≤ (flL S).length := by cases hh : flL S with | nil => exact absurd hh h0 | cons a l => simp
  have hnl : (flL S).length ≤ 450 := by
    have := flL_le (m := 10) (k := S.length) hrl
    rw [List.take_length] at this
    omega
  have cz := fun (w' : World) (hw : Below w.heap.size w w') => (Grow_own (flL S).length w' ⟨hnp, by omega⟩)
  repeat'
   conv => whnf
   first
    | refine zA ?_ | refine zB ?_ | refine zC ?_ | refine zD ?_ | refine zE ?_ | refine zF ?_ | refine zG ?_ | refine zH ?_ | refine zJ ?_ | refine zI ?_ | refine splT ?_ | refine splF ?_ | refine splNot ?_
    | ((first | refine splIn (fun hc => ?_) (fun hc => ?_) | refine splD (fun hc => ?_) (fun hc => ?_) | refine splE (fun hc => ?_) (fun hc => ?_) | refine splNE (fun hc => ?_) (fun hc => ?_)) <;> first | (exfalso; omega) | (exfalso; dsimp only at hc; omega) | skip)
  refine loopE (fun k : Nat => [(0, .v (.slice o S.length c)), (3, .v (iv (flL (S.take k)).length)), (9, .v (.slice o S.length c)), (10, .v (iv S.length)), (11, .v (iv k))]) (fun _ => []) (fun k => k ≤ S.length) (fun k => S.length - k) 0 (Nat.zero_le _) ⟨rfl, rfl, rfl, rfl, rfl, trivial⟩ trivial (fun _ => ⟨rfl, rfl⟩) ?_
  intro k hk
  rcases Nat.lt_or_ge k S.length with hkl | hkl
  · obtain ⟨⟨so, sc, L⟩, hx⟩ : ∃ b, S[k]? = some b := ⟨_, List.getElem?_eq_getElem hkl⟩
    obtain ⟨_, ad, rfl, _⟩ := hrd.ptr (by omega)
    have e1 := fun (w' : World) hw' => rd_ati (hrd.below (w' := w') hw') hx
    have hL := hrl _ (List.mem_of_getElem? hx)
    have ht := flL_take hx
    have hle := flL_le (m := 10) (k := k) hrl
    dsimp only at hL
    have ht2 : (flL (S.take (k + 1))).length = (flL (S.take k)).length + L.length := by rw [ht, List.length_append]
    generalize (flL (S.take k)).length = m at *
    repeat'
     conv => whnf
     first
      | refine zA ?_ | refine zB ?_ | refine zC ?_ | refine zD ?_ | refine zE ?_ | refine zF ?_ | refine zG ?_ | refine zH ?_ | refine zJ ?_ | refine zI ?_ | refine splT ?_ | refine splF ?_ | refine splNot ?_
      | ((first | refine splIn (fun hc => ?_) (fun hc => ?_) | refine splD (fun hc => ?_) (fun hc => ?_) | refine splE (fun hc => ?_) (fun hc => ?_) | refine splNE (fun hc => ?_) (fun hc => ?_)) <;> first | (exfalso; omega) | (exfalso; dsimp only at hc; omega) | skip)
      | refine Exists.intro (α := List Value) [.slice so L.length sc] ⟨⟨rfl, fun w' hw' => e1 w' hw'⟩, ?_⟩
    all_goals first | (exfalso; omega) | exact ⟨k + 1, by omega, by omega, Ent.weak rfl ⟨rfl, by rw [ht2]; rfl, rfl, rfl, rfl, trivial⟩ trivial fun _ h => h⟩
  · obtain rfl : k = S.length := by omega
    rw [List.take_length]
    repeat'
     conv => whnf
     first
      | refine zA ?_ | refine zB ?_ | refine zC ?_ | refine zD ?_ | refine zE ?_ | refine zF ?_ | refine zG ?_ | refine zH ?_ | refine zJ ?_ | refine zI ?_ | refine splT ?_ | refine splF ?_ | refine splNot ?_
      | ((first | refine splIn (fun hc => ?_) (fun hc => ?_) | refine splD (fun hc => ?_) (fun hc => ?_) | refine splE (fun hc => ?_) (fun hc => ?_) | refine splNE (fun hc => ?_) (fun hc => ?_)) <;> first | (exfalso; omega) | (exfalso; dsimp only at hc; omega) | skip)
      | ((with_reducible show CallEv _ _ 102 _ _ _ _ _); refine callO 0 [] (.os 0 1 0) 0 3 [] 46 rfl (fun β w' _ hbw => cz w' hbw) ?_)
    conv => whnf
    refine loopN 2 (fun k : Nat => [(6, .os 0 1 (flL (S.take k)).length), (25, .v (.slice o S.length c)), (26, .v (iv S.length)), (27, .v (iv k))]) (fun k => [(0, .own 1 (flL (S.take k)).length 3 ((flL (S.take k)).flatMap Ln.cs) 46)]) (fun k => k ≤ S.length) (fun k => S.length - k) 0 (Nat.zero_le _) ⟨rfl, rfl, rfl, rfl, trivial⟩ ⟨rfl, trivial⟩ (fun _ _ => ⟨rfl, rfl⟩) ?_
    intro k hk
    rcases Nat.lt_or_ge k S.length with hkl | hkl
    · obtain ⟨⟨so, sc, L⟩, hx⟩ : ∃ b, S[k]? = some b := ⟨_, List.getElem?_eq_getElem hkl⟩
      obtain ⟨_, ad, rfl, _⟩ := hrd.ptr (by omega)
      have e1 := fun (w' : World) hw' => rd_ati (hrd.below (w' := w') hw') hx
      have hL := hrl _ (List.mem_of_getElem? hx)
      have hR1 := hR _ (List.mem_of_getElem? hx)
      have hz1 := hz0 _ (List.mem_of_getElem? hx)
      have ht := flL_take hx
      have hle := flL_le (m := 10) (k := k) hrl
      dsimp only at hL hR1 hz1 ht
      have ht2 : (flL (S.take (k + 1))).length = (flL (S.take k)).length + L.length := by rw [ht, List.length_append]
      generalize flL (S.take k) = T at *
      generalize hT2 : flL (S.take (k + 1)) = T2 at *
      generalize hm : T.length = m at *
      generalize hm2 : T2.length = m2 at *
      subst ht
      cases L with
      | nil =>
        obtain ⟨rfl, rfl⟩ := hz1 rfl
        simp only [List.append_nil, List.length_nil, Nat.add_zero] at ht2 hT2 ⊢
        subst ht2
        repeat'
         conv => whnf
         first
          | refine zA ?_ | refine zB ?_ | refine zC ?_ | refine zD ?_ | refine zE ?_ | refine zF ?_ | refine zG ?_ | refine zH ?_ | refine zJ ?_ | refine zI ?_ | refine splT ?_ | refine splF ?_ | refine splNot ?_
          | ((first | refine splIn (fun hc => ?_) (fun hc => ?_) | refine splD (fun hc => ?_) (fun hc => ?_) | refine splE (fun hc => ?_) (fun hc => ?_) | refine splNE (fun hc => ?_) (fun hc => ?_)) <;> first | (exfalso; omega) | (exfalso; dsimp only at hc; omega) | skip)
          | refine Exists.intro (α := List Value) [.slice none 0 0] ⟨⟨rfl, fun w' hw' => e1 w' hw'⟩, ?_⟩
        all_goals first | (exfalso; omega) | exact ⟨k + 1, by omega, by omega, Ent.weak rfl ⟨by rw [hT2, hm]; rfl, rfl, rfl, rfl, trivial⟩ ⟨by rw [hT2, hm]; rfl, trivial⟩ fun _ h => h⟩
      | cons x L =>
        obtain ⟨_, ad2, rfl, _⟩ := hR1.ptr (by simp)
        have he := fun (w' : World) (hb : Below w.heap.size w w') => Rd.ext (f := Ln.cs) (sz := 3) (fun _ => rfl) (hR1.below hb)
        have hon : ∀ v ∈ (x :: L).flatMap Ln.cs, v.oneCell' = true := fun v hv => by
          obtain ⟨a, _, ha⟩ := List.mem_flatMap.1 hv
          simp only [List.mem_cons, List.not_mem_nil, or_false] at ha
          rcases ha with rfl | rfl | rfl <;> rfl
        have hln : ((x :: L).flatMap Ln.cs).length = (L.length + 1) * 3 := lenLn (x :: L)
        have hfm : (T ++ x :: L).flatMap Ln.cs = T.flatMap Ln.cs ++ (x :: L).flatMap Ln.cs := List.flatMap_append
        generalize (x :: L).flatMap Ln.cs = X at *
        simp only [List.length_cons] at hL ht2
        repeat'
         conv => whnf
         first
          | refine zA ?_ | refine zB ?_ | refine zC ?_ | refine zD ?_ | refine zE ?_ | refine zF ?_ | refine zG ?_ | refine zH ?_ | refine zJ ?_ | refine zI ?_ | refine splT ?_ | refine splF ?_ | refine splNot ?_
          | ((first | refine splIn (fun hc => ?_) (fun hc => ?_) | refine splD (fun hc => ?_) (fun hc => ?_) | refine splE (fun hc => ?_) (fun hc => ?_) | refine splNE (fun hc => ?_) (fun hc => ?_)) <;> first | (exfalso; omega) | (exfalso; dsimp only at hc; omega) | skip)
          | refine Exists.intro (α := List Value) [.slice (some ad2) (L.length + 1) sc] ⟨⟨rfl, fun w' hw' => e1 w' hw'⟩, ?_⟩
          | refine Exists.intro (α := List Value) X ⟨⟨hln, fun w' hw' => he w' hw', hon⟩, ?_⟩
        all_goals first | (exfalso; omega) | exact ⟨k + 1, by omega, by omega, Ent.ren (rho [(0, 2), (1, 3)]) rfl rfl ⟨by rw [hT2, hm2, ht2]; rfl, rfl, rfl, rfl, trivial⟩ ⟨by rw [hT2, hm2, ht2, hfm]; rfl, trivial⟩ fun _ h => h⟩
    · obtain rfl : k = S.length := by omega
      rw [List.take_length]
      repeat'
       conv => whnf
       first
        | refine zA ?_ | refine zB ?_ | refine zC ?_ | refine zD ?_ | refine zE ?_ | refine zF ?_ | refine zG ?_ | refine zH ?_ | refine zJ ?_ | refine zI ?_ | refine splT ?_ | refine splF ?_ | refine splNot ?_
        | ((first | refine splIn (fun hc => ?_) (fun hc => ?_) | refine splD (fun hc => ?_) (fun hc => ?_) | refine splE (fun hc => ?_) (fun hc => ?_) | refine splNE (fun hc => ?_) (fun hc => ?_)) <;> first | (exfalso; omega) | (exfalso; dsimp only at hc; omega) | skip)
      generalize flL S = T at *
      cases T with
      | nil => exact absurd rfl h0
      | cons x L =>
        exact ⟨fun w' h => h, fun β w' hB hblk => oEnd (sz := 3) (f := Ln.cs) (fun _ => rfl) x L (hblk 0 _ rfl rfl)⟩
end Go.Proofs.YtkbfcofifhngfaaGreat
