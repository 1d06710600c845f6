/- The lessons of one slot (slot 68). -/
import Derived.Test.YtkbfcofifhngfaaGreatCJ
namespace Go.Proofs.YtkbfcofifhngfaaGreat.Tx
open Go Go.RowKit
set_option linter.unusedSimpArgs false
set_option linter.unusedVariables false
/-- A method's value: the function with its receiver. -/
theorem mkMv {P : Program} {dst : Option Tmp} {ty : TypeId} {pos : String} {after : Array Edge} {gd : Option (Nat × Bool)} {gs : List Nat} {σ : Sg} {K : Ef → Prop} {f : Fn} {x : Operand} {s : SV} (V : Value) (hx : gv σ x = some s) (hV : ∀ β, s.c β = V)
    (hB : efB σ ⟨.v (.func f #[V] #[]), [], [], gs ++ os x, []⟩ = true) (hK : K ⟨.v (.func f #[V] #[]), [], [], gs ++ os x, []⟩) : OpEv P ⟨dst, .makeFunc f #[x] #[], ty, pos, after, gd⟩ gs σ K := by
  refine .mk _ hB (fun k hk => by simp [hk]) rfl (runOK_pure fun β a w hs => ?_) hK
  have e1 := gv_eval hs hx (fun k hk => by simp [hk])
  rw [hV] at e1
  simp only [execOp, Instr.makeFunc, SV.c, Sem.run_bind, Sem.run_pure, Result.andThen_ok, List.map_toArray, List.map_nil, List.map_cons, e1]
end Go.Proofs.YtkbfcofifhngfaaGreat.Tx
namespace Go.Proofs.YtkbfcofifhngfaaGreat
open Go Tx Go.RowKit
set_option linter.unusedSimpArgs false
set_option linter.unusedVariables false

theorem rd_take {α : Type} {sz : Nat} {f : α → List Value} {ad : Addr} {c : Nat} {L : List α} {w : World} (h : Rd sz f (.slice (some ad) L.length c) L w) {k : Nat} (hk : k ≤ L.length) : Rd sz f (.slice (some ad) k c) (L.take k) w := by
  rcases h with ⟨h, _⟩ | ⟨ad', d, h, h2⟩
  · cases h
  · simp only [Value.slice.injEq, Option.some.injEq, true_and] at h
    obtain ⟨rfl, rfl⟩ := h
    refine .inr ⟨_, _, by rw [List.length_take, Nat.min_eq_left hk], fun i b hi => h2 i b ?_⟩
    rw [List.getElem?_take] at hi
    split at hi
    · exact hi
    · cases hi
theorem dsB_take {L : List Ln} {k : Nat} {x : Ln} (h : L[k]? = some x) : alN (fun i => !cfB x (lnAt (L.take k) i)) (L.take k).length = dsB L k := by
  have hk : k < L.length := (List.getElem?_eq_some_iff.1 h).1
  rw [List.length_take, Nat.min_eq_left (Nat.le_of_lt hk), dsB, lnAt_at h]
  refine alN_congr _ fun i hi => ?_
  have : lnAt (L.take k) i = lnAt L i := by
    unfold lnAt
    rw [List.getD_eq_getElem?_getD, List.getD_eq_getElem?_getD, List.getElem?_take, if_pos hi]
  rw [this]
set_option maxHeartbeats 1000000 in
set_option maxRecDepth 100000 in
theorem slot_ok (s : Sc) (L : List Ln) (o : Option Addr) (c : Nat) (w : World) (h : ScIn s w) (hB : ScB s) (hs : -1000000 ≤ s.su ∧ s.su ≤ 1000000) (hrd : Rd 3 Ln.cs (.slice o L.length c) L w) (hl : L.length ≤ 1000000) (hc : L.length ≤ c) :
    Calls Tryz.prog 68 #[s.v, .slice o L.length c] w fun e w' => e = .returned (.bool (sltB s.d L)) ∧ Below w.heap.size w w' := by
  have c100 := fun (w' : World) (hw : Below w.heap.size w w') => allL_ok s L o c w' (h.below hw) hB hs (hrd.below hw) hl
  obtain ⟨sl, ro, su, go, gc, G, to, tc, T⟩ := s
  unfold sltB
  rw [show (Sc.d ⟨sl, ro, su, go, gc, G, to, tc, T⟩).ro = ro from rfl]
  generalize hq : L.all (lesB (Sc.d ⟨sl, ro, su, go, gc, G, to, tc, T⟩)) = q at *
  refine calls_val env mixed Tryz.func68 has68 Tryz.ntmps68 [.agg #[iv sl, iv ro, iv su, .slice go G.length gc, .slice to T.length tc], .slice o L.length c] (by simp) ?_
  repeat'
   conv => whnf
   first
    | refine zA ?_ | refine zB ?_ | refine zC ?_ | refine zD ?_ | refine zE ?_ | refine zF ?_ | refine zG ?_ | refine zH ?_ | refine zJ ?_ | refine zI ?_ | refine splT ?_ | refine splF ?_ | refine splNot ?_
    | ((first | refine splIn (fun hc => ?_) (fun hc => ?_) | refine splD (fun hc => ?_) (fun hc => ?_) | refine splE (fun hc => ?_) (fun hc => ?_) | refine splNE (fun hc => ?_) (fun hc => ?_)) <;> first | (exfalso; omega) | (exfalso; dsimp only at hc; omega) | skip)
  refine loopN 1 (fun k : Nat => [(1, .v (.slice o L.length c)), (2, .ptr 0 0), (7, .v (.slice o L.length c)), (8, .v (iv L.length)), (9, .v (iv k))]) (fun _ => [(0, .cells [.v (iv sl), .v (iv ro), .v (iv su), .v (.slice go G.length gc), .v (.slice to T.length tc)] 34)]) (fun k => k ≤ L.length ∧ alN (dsB L) k = true) (fun k => L.length - k) 0 ⟨Nat.zero_le _, rfl⟩ ⟨rfl, rfl, rfl, rfl, rfl, trivial⟩ ⟨rfl, trivial⟩ (fun _ _ => ⟨rfl, rfl⟩) ?_
  intro k ⟨hk, hall⟩
  rcases Nat.lt_or_ge k L.length with hkl | hkl
  · obtain ⟨x, hx⟩ : ∃ b, L[k]? = some b := ⟨_, List.getElem?_eq_getElem hkl⟩
    obtain ⟨_, ad, rfl, _⟩ := hrd.ptr (by omega)
    have e1 := fun (w' : World) hw' => rd_ati (hrd.below (w' := w') hw') hx
    have hds := dsB_take hx
    have hlk : k = (L.take k).length := by rw [List.length_take]; omega
    have c98 := fun (b : Nat) (w' : World) (hw : Below w.heap.size w w') (hb : w'.heap[b]? = some (.cells x.cs.toArray 46 (0, 0))) => anyC_ok x b (L.take k) (some ad) k c w' hlk hb (hlk ▸ rd_take (hrd.below hw) hk) (by omega)
    rw [hds] at c98
    obtain ⟨x1, x2, x3⟩ := x
    cases hd : dsB L k with
    | false =>
      rw [hd] at c98
      rw [alN_no hkl hd]
      repeat'
       conv => whnf
       first
        | refine zA ?_ | refine zB ?_ | refine zC ?_ | refine zD ?_ | refine zE ?_ | refine zF ?_ | refine zG ?_ | refine zH ?_ | refine zJ ?_ | refine zI ?_ | refine splT ?_ | refine splF ?_ | refine splNot ?_
        | ((first | refine splIn (fun hc => ?_) (fun hc => ?_) | refine splD (fun hc => ?_) (fun hc => ?_) | refine splE (fun hc => ?_) (fun hc => ?_) | refine splNE (fun hc => ?_) (fun hc => ?_)) <;> first | (exfalso; omega) | (exfalso; dsimp only at hc; omega) | skip)
        | refine Exists.intro (α := List Value) [iv x1, iv x2, iv x3] ⟨⟨rfl, fun w' hw' => e1 w' hw'⟩, ?_⟩
        | refine slHi env (z := k) rfl rfl rfl rfl (by omega) rfl ?_
        | ((with_reducible show CallEv _ _ 98 _ _ _ _ _); refine callM (k := 98) [1] (fun β w' hbk hbw => c98 _ _ (by repeat (first | exact hbw | replace hbw := hbw.1)) (hbk 1 (by simp) _ rfl)) ?_)
      all_goals first | (exfalso; omega) | exact ⟨fun β => congrArg Value.bool (by simp), fun w' h => h⟩
    | true =>
      rw [hd] at c98
      repeat'
       conv => whnf
       first
        | refine zA ?_ | refine zB ?_ | refine zC ?_ | refine zD ?_ | refine zE ?_ | refine zF ?_ | refine zG ?_ | refine zH ?_ | refine zJ ?_ | refine zI ?_ | refine splT ?_ | refine splF ?_ | refine splNot ?_
        | ((first | refine splIn (fun hc => ?_) (fun hc => ?_) | refine splD (fun hc => ?_) (fun hc => ?_) | refine splE (fun hc => ?_) (fun hc => ?_) | refine splNE (fun hc => ?_) (fun hc => ?_)) <;> first | (exfalso; omega) | (exfalso; dsimp only at hc; omega) | skip)
        | refine Exists.intro (α := List Value) [iv x1, iv x2, iv x3] ⟨⟨rfl, fun w' hw' => e1 w' hw'⟩, ?_⟩
        | refine slHi env (z := k) rfl rfl rfl rfl (by omega) rfl ?_
        | ((with_reducible show CallEv _ _ 98 _ _ _ _ _); refine callM (k := 98) [1] (fun β w' hbk hbw => c98 _ _ (by repeat (first | exact hbw | replace hbw := hbw.1)) (hbk 1 (by simp) _ rfl)) ?_)
      all_goals first | (exfalso; omega) | exact ⟨k + 1, ⟨by omega, by rw [alN, hall, hd]; rfl⟩, by omega, Ent.weak rfl ⟨rfl, rfl, rfl, rfl, rfl, trivial⟩ ⟨rfl, trivial⟩ fun _ h => h⟩
  · obtain rfl : k = L.length := by omega
    rw [hall]
    repeat'
     conv => whnf
     first
      | refine zA ?_ | refine zB ?_ | refine zC ?_ | refine zD ?_ | refine zE ?_ | refine zF ?_ | refine zG ?_ | refine zH ?_ | refine zJ ?_ | refine zI ?_ | refine splT ?_ | refine splF ?_ | refine splNot ?_
      | ((first | refine splIn (fun hc => ?_) (fun hc => ?_) | refine splD (fun hc => ?_) (fun hc => ?_) | refine splE (fun hc => ?_) (fun hc => ?_) | refine splNE (fun hc => ?_) (fun hc => ?_)) <;> first | (exfalso; omega) | (exfalso; dsimp only at hc; omega) | skip)
      | refine mkMv (.agg #[iv sl, iv ro, iv su, .slice go G.length gc, .slice to T.length tc]) rfl (fun _ => rfl) rfl ?_
      | ((with_reducible show CallEv _ _ 100 _ _ _ _ _); refine callE (k := 100) (fun β w' hbw => c100 _ hbw) ?_)
    all_goals first | (exfalso; omega) | exact ⟨fun β => congrArg Value.bool (by simp [*]), fun w' h => h⟩ | exact ⟨fun β => congrArg Value.bool (by simp <;> omega), fun w' h => h⟩
set_option maxHeartbeats 2000000 in
set_option maxRecDepth 100000 in
theorem all67_ok (s : Sc) (C : List Lr) (o : Option Addr) (c : Nat) (w : World) (h : ScIn s w) (hB : ScB s) (hs : -1000000 ≤ s.su ∧ s.su ≤ 1000000) (ht : TbL o c C w) (hl : C.length ≤ 1000000) (hrl : ∀ r ∈ C, r.L.length ≤ 1000000) (hc : ∀ r ∈ C, r.L.length ≤ r.c) :
    Calls Tryz.prog 67 #[.slice o C.length c, .func (.func 68) #[s.v] #[]] w fun e w' => e = .returned (.bool ((C.map Lr.L).all (sltB s.d))) ∧ Below w.heap.size w w' := by
  obtain ⟨hrd, hR⟩ := ht
  refine calls_val env mixed Tryz.func67 has67 Tryz.ntmps67 [.slice o C.length c, .func (.func 68) #[s.v] #[]] (by simp) ?_
  repeat'
   conv => whnf
   first
    | refine zA ?_ | refine zB ?_ | refine zC ?_ | refine zD ?_ | refine zE ?_ | refine zF ?_ | refine zG ?_ | refine zH ?_ | refine zJ ?_ | refine zI ?_ | refine splT ?_ | refine splF ?_ | refine splNot ?_
    | ((first | refine splIn (fun hc => ?_) (fun hc => ?_) | refine splD (fun hc => ?_) (fun hc => ?_) | refine splE (fun hc => ?_) (fun hc => ?_) | refine splNE (fun hc => ?_) (fun hc => ?_)) <;> first | (exfalso; omega) | (exfalso; dsimp only at hc; omega) | skip)
    | ((with_reducible show CallEv _ _ 96 _ _ _ _ _); refine callI env mixed 1000 [] Tryz.func96 has96 Tryz.ntmps96 (Nat.le_of_ble_eq_true rfl) rfl rfl rfl ?_)
    | ((with_reducible show CallEv _ _ 132 _ _ _ _ _); refine callI env mixed 2000 [] Tryz.func132 has132 Tryz.ntmps132 (Nat.le_of_ble_eq_true rfl) rfl rfl rfl ?_)
  refine loopE (fun k : Nat => [(0, .v (.slice o C.length c)), (1, .fn (.func 97) [.ptr 0 0]), (7, .v (iv C.length)), (8, .v (iv k))]) (fun _ => [(0, .cells [.v (.func (.func 68) #[s.v] #[])] 115)]) (fun k => k ≤ C.length ∧ ((C.take k).map Lr.L).all (sltB s.d) = true) (fun k => C.length - k) 0 ⟨Nat.zero_le _, rfl⟩ ⟨rfl, rfl, rfl, rfl, trivial⟩ ⟨rfl, trivial⟩ (fun _ => ⟨rfl, rfl⟩) ?_
  intro k ⟨hk, hall⟩
  rcases Nat.lt_or_ge k C.length with hkl | hkl
  · obtain ⟨⟨ro, rc, L⟩, hx⟩ : ∃ b, C[k]? = some b := ⟨_, List.getElem?_eq_getElem hkl⟩
    obtain ⟨_, ad, rfl, _⟩ := hrd.ptr (by omega)
    have hr := hR _ (List.mem_of_getElem? hx)
    have hrb := hrl _ (List.mem_of_getElem? hx)
    have hrc := hc _ (List.mem_of_getElem? hx)
    dsimp only at hrb hr hrc
    have ht := all_mapT (f := Lr.L) (p := sltB s.d) hx
    rw [hall, Bool.true_and] at ht
    have hno := all_mapN (f := Lr.L) (p := sltB s.d) hx
    have e0 := fun (w' : World) hw' => rd_ati (hrd.below (w' := w') hw') hx
    have hv := fun (w' : World) (hw : Below w.heap.size w w') => slot_ok s L ro rc w' (h.below hw) hB hs (hr.below hw) hrb hrc
    dsimp only at ht hno
    cases hg : sltB s.d L with
    | true =>
      rw [hg] at hv ht
      repeat'
       conv => whnf
       first
        | refine zA ?_ | refine zB ?_ | refine zC ?_ | refine zD ?_ | refine zE ?_ | refine zF ?_ | refine zG ?_ | refine zH ?_ | refine zJ ?_ | refine zI ?_ | refine splT ?_ | refine splF ?_ | refine splNot ?_
        | ((first | refine splIn (fun hc => ?_) (fun hc => ?_) | refine splD (fun hc => ?_) (fun hc => ?_) | refine splE (fun hc => ?_) (fun hc => ?_) | refine splNE (fun hc => ?_) (fun hc => ?_)) <;> first | (exfalso; omega) | (exfalso; dsimp only at hc; omega) | skip)
        | refine Exists.intro (α := List Value) [.slice ro L.length rc] ⟨⟨rfl, fun w' hw' => e0 w' hw'⟩, ?_⟩
        | ((with_reducible show CallEv _ _ 97 _ _ _ _ _); refine callI env mixed 3000 [0,1,5,7,8] Tryz.func97 has97 Tryz.ntmps97 (Nat.le_of_ble_eq_true rfl) rfl rfl rfl ?_)
        | ((with_reducible show CallEv _ _ 68 _ _ _ _ _); refine callE (k := 68) (fun β w' hbw => hv _ hbw) ?_)
      all_goals first | (exfalso; omega) | exact ⟨k + 1, ⟨by omega, ht⟩, by omega, Ent.weak rfl ⟨rfl, rfl, rfl, rfl, trivial⟩ ⟨rfl, trivial⟩ fun _ h => h⟩
    | false =>
      rw [hg] at hv ht
      rw [hno hg]
      repeat'
       conv => whnf
       first
        | refine zA ?_ | refine zB ?_ | refine zC ?_ | refine zD ?_ | refine zE ?_ | refine zF ?_ | refine zG ?_ | refine zH ?_ | refine zJ ?_ | refine zI ?_ | refine splT ?_ | refine splF ?_ | refine splNot ?_
        | ((first | refine splIn (fun hc => ?_) (fun hc => ?_) | refine splD (fun hc => ?_) (fun hc => ?_) | refine splE (fun hc => ?_) (fun hc => ?_) | refine splNE (fun hc => ?_) (fun hc => ?_)) <;> first | (exfalso; omega) | (exfalso; dsimp only at hc; omega) | skip)
        | refine Exists.intro (α := List Value) [.slice ro L.length rc] ⟨⟨rfl, fun w' hw' => e0 w' hw'⟩, ?_⟩
        | ((with_reducible show CallEv _ _ 97 _ _ _ _ _); refine callI env mixed 3000 [0,1,5,7,8] Tryz.func97 has97 Tryz.ntmps97 (Nat.le_of_ble_eq_true rfl) rfl rfl rfl ?_)
        | ((with_reducible show CallEv _ _ 68 _ _ _ _ _); refine callE (k := 68) (fun β w' hbw => hv _ hbw) ?_)
      all_goals first | exact ⟨fun β => rfl, fun w' h => h⟩ | (exfalso; omega)
  · rw [List.take_of_length_le hkl] at hall
    rw [hall]
    repeat'
     conv => whnf
     first
      | refine zA ?_ | refine zB ?_ | refine zC ?_ | refine zD ?_ | refine zE ?_ | refine zF ?_ | refine zG ?_ | refine zH ?_ | refine zJ ?_ | refine zI ?_ | refine splT ?_ | refine splF ?_ | refine splNot ?_
      | ((first | refine splIn (fun hc => ?_) (fun hc => ?_) | refine splD (fun hc => ?_) (fun hc => ?_) | refine splE (fun hc => ?_) (fun hc => ?_) | refine splNE (fun hc => ?_) (fun hc => ?_)) <;> first | (exfalso; omega) | (exfalso; dsimp only at hc; omega) | skip)
    all_goals first | exact ⟨fun β => rfl, fun w' h => h⟩ | (exfalso; omega)
end Go.Proofs.YtkbfcofifhngfaaGreat
