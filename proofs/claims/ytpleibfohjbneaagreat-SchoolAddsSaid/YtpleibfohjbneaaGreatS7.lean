/- SchoolAdds: what a child has with its stays in another order, and with a stay less. -/
import Derived.Test.YtpleibfohjbneaaGreatS6
namespace Go.Proofs.YtpleibfohjbneaaGreat
open Go Tx Go.RowKit
set_option linter.unusedSimpArgs false
set_option linter.unusedVariables false

set_option maxHeartbeats 4000000 in
set_option maxRecDepth 100000 in
theorem Ad5 (no : Option Addr) (nc : Nat) (N : List Int) (wk : Int) (co : Option Addr) (cc : Nat) (C : List Rw) (o : Option Addr) (c : Nat) (S : List Sy) (tn : Int) (w : World) (k : Nat) (u : (Addr × Nat) × (Addr × Nat)) (hX : CrIn ⟨no, nc, N, wk, co, cc, C⟩ w) (hY : SyIn o c S w) (hE : ckE N wk (C.map Rw.xs) (S.map Sy.d) = 0) (hk : k < S.length) (hcap : S.length ≤ c) (hsl8 : S.length ≤ 100)
    (h5 : ∀ v, VC Tryz.prog (rest 5 body7) (aS5 no nc N wk co cc C o c S tn w u v) (endΦ env Tryz.f7 fun s σ => (∀ β, s.c β = .bool true) ∧ ∀ w', σ.h w' → Below w.heap.size w w')) : VC Tryz.prog (rest 2 (rest 2 body7)) (aS4 no nc N wk co cc C o c S tn w k u) (endΦ env Tryz.f7 fun s σ => (∀ β, s.c β = .bool true) ∧ ∀ w', σ.h w' → Below w.heap.size w w') := by
  have h30 := fun w' hb => Course_nr ⟨no, nc, N, wk, co, cc, C⟩ w' (hX.below hb)
  have hz := SzOk.of hX hY
  have hy := YrOk.of hE
  have hn6 := hy.n6
  have hsl := hY.sl
  dsimp only at h30 hz
  have hrot : (S.drop k ++ S.take k).map Sy.d = (S.map Sy.d).drop k ++ (S.map Sy.d).take k := by rw [List.map_append, List.map_drop, List.map_take]
  have hE' := ckE_turn hE k
  have hz' : SzOk N (C.map Rw.xs) ((S.map Sy.d).drop k ++ (S.map Sy.d).take k) := ⟨hz.n, hz.c, hz.r, by have := hz.s; simp at this ⊢; omega, fun s hs => by
    rcases List.mem_append.1 hs with hs | hs
    · exact hz.t s (List.mem_of_mem_drop hs)
    · exact hz.t s (List.mem_of_mem_take hs)⟩
  have h29 := @Has_at N wk (C.map Rw.xs) _ hz' hE' hn6.1
  have hA : aK (C.map Rw.xs) ((S.map Sy.d).drop k ++ (S.map Sy.d).take k) N.length = aK (C.map Rw.xs) (S.map Sy.d) N.length := List.map_congr_left fun j _ => hsV_turn k
  obtain ⟨_, ad, rfl, _⟩ := hY.s.ptr (by omega)
  have h31 := fun (β0 β1 m : Nat) (hm : m = S.length) w' (hb : Below w.heap.size w w') (X : List Value) (hX : X = (S.drop k ++ S.take k).flatMap Sy.cs) (hr : w'.ownsRow 0 69 2 (.slice (some ⟨β0, 0, none⟩) m β1) m X) => Stays_m (some ⟨β0, 0, none⟩) β1 (S.drop k ++ S.take k) w' ⟨by
      subst hm; rw [show (S.drop k ++ S.take k).length = S.length from by simp; omega]; exact Rd.of_owns (sz := 2) (f := Sy.cs) (fun _ => rfl) hX (by simp; omega) hr, fun s hs => (hY.below hb).r s (by
      rcases List.mem_append.1 hs with hs | hs
      · exact List.mem_of_mem_drop hs
      · exact List.mem_of_mem_take hs), by simp; omega, fun s hs => hY.rl s (by
      rcases List.mem_append.1 hs with hs | hs
      · exact List.mem_of_mem_drop hs
      · exact List.mem_of_mem_take hs)⟩ m (by subst hm; simp; omega) hrot
  have e1 := fun w' (hb : Below w.heap.size w w') => Rd.ext (f := Sy.cs) (sz := 2) (fun _ => rfl) (Rd.dropP (hY.s.below hb) k (c - k))
  have e2 := fun w' (hb : Below w.heap.size w w') => Rd.ext (f := Sy.cs) (sz := 2) (fun _ => rfl) (Rd.takeP (hY.s.below hb) k c)
  have l1 : ((S.drop k).flatMap Sy.cs).length = (S.length - k) * 2 := by rw [lenSy, List.length_drop]
  have l2 : ((S.take k).flatMap Sy.cs).length = k * 2 := by rw [lenSy, List.length_take, Nat.min_eq_left (by omega)]
  have o1 := oneSy (S.drop k)
  have o2 := oneSy (S.take k)
  have hfl : [] ++ (S.drop k).flatMap Sy.cs ++ (S.take k).flatMap Sy.cs = (S.drop k ++ S.take k).flatMap Sy.cs := by rw [List.nil_append, List.flatMap_append]
  generalize (S.drop k).flatMap Sy.cs = X1 at *
  generalize (S.take k).flatMap Sy.cs = X2 at *
  generalize (S.drop k ++ S.take k).flatMap Sy.cs = X3 at *
  subst hfl
  rw [c7_4]
  refine VC.seq (f := fun σ' => ∃ v, Ent σ' (aS5 no nc N wk co cc C (some ad) c S tn w u v)) ?_ (fun σ' ⟨v, hv⟩ => VC.ent (h5 v) hv (okB rfl rfl rfl))
  clear h5
  apply VC_reg3 env mixed 1 10 11 (fun y : (Option Addr × Nat) × Rws (C.map Rw.xs) => .agg #[.slice y.1.1 N.length y.1.2, iv wk, .slice y.2.o y.2.C.length y.2.c]) (fun y => crH N y) (fun y : SyF ((S.map Sy.d).drop k ++ (S.map Sy.d).take k) => .slice y.o y.S.length y.c) (fun y => y.In) (hyV N.length) (hyH N (C.map Rw.xs) ((S.map Sy.d).drop k ++ (S.map Sy.d).take k)) ((none, 0), ⟨none, 0, C, rfl⟩) ⟨none, 0, (S.drop k ++ S.take k), hrot⟩ ((ad, 0), (ad, 0))
  case h12 => decide
  case h23 => decide
  case h3 => exact Nat.le_of_ble_eq_true (by kernel_rfl)
  case hd12 => kernel_rfl
  case hd13 => kernel_rfl
  case hd23 => kernel_rfl
  case hv =>
    intro y1 y2 y3
    skip
    repeat'
     conv => whnf
     first
      | refine zA ?_ | refine zB ?_ | refine zC ?_ | refine zD ?_ | refine zE ?_ | refine zF ?_ | refine zG ?_ | refine zH ?_ | refine zJ ?_ | refine zI ?_ | refine splT ?_ | refine splF ?_ | refine splNot ?_
      | ((first | refine splIn (fun hc => ?_) (fun hc => ?_) | refine splD (fun hc => ?_) (fun hc => ?_) | refine splE (fun hc => ?_) (fun hc => ?_) | refine splNE (fun hc => ?_) (fun hc => ?_)) <;> first | (exfalso; omega) | (exfalso; dsimp only at hc; omega) | skip)
      | refine slLo env rfl rfl rfl rfl (by omega) (by omega) rfl ?_
      | refine slHi env rfl rfl rfl rfl (by omega) rfl ?_
      | refine Exists.intro (α := List Value) X1 ⟨⟨l1, fun w' hw' => e1 w' hw'.1, o1⟩, ?_⟩
      | refine Exists.intro (α := List Value) X2 ⟨⟨l2, fun w' hw' => e2 w' hw'.1, o2⟩, ?_⟩
      | refine And.intro (a := (_ : Bool) = true ∧ (_ : List _) = [] ∧ (_ : List _) = []) ⟨rfl, rfl, rfl⟩ ?_
      | (with_reducible show FamEv _ _ _ 30 _ _ _); refine FamEv.mk [] (fun β w' _ hbw => h30 w' (by first | exact hbw | exact hbw.1 | exact hbw.1.1 | exact hbw.1.1.1 | exact hbw.1.1.1.1 | exact hbw.1.1.1.1.1 | exact hbw.1.1.1.1.1.1 | exact hbw.1.1.1.1.1.1.1 | exact hbw.1.1.1.1.1.1.1.1 | exact hbw.1.1.1.1.1.1.1.1.1 | exact hbw.1.1.1.1.1.1.1.1.1.1 | exact hbw.1.1.1.1.1.1.1.1.1.1.1 | exact hbw.1.1.1.1.1.1.1.1.1.1.1.1 | exact hbw.1.1.1.1.1.1.1.1.1.1.1.1.1)) ?_
      | (with_reducible show FamEv _ _ _ 31 _ _ _); refine FamEv.mk [3] (fun β w' hbk hbw => h31 (β 3) (β 4) _ (by omega) w' (by first | exact hbw | exact hbw.1 | exact hbw.1.1 | exact hbw.1.1.1 | exact hbw.1.1.1.1 | exact hbw.1.1.1.1.1 | exact hbw.1.1.1.1.1.1 | exact hbw.1.1.1.1.1.1.1 | exact hbw.1.1.1.1.1.1.1.1 | exact hbw.1.1.1.1.1.1.1.1.1 | exact hbw.1.1.1.1.1.1.1.1.1.1 | exact hbw.1.1.1.1.1.1.1.1.1.1.1 | exact hbw.1.1.1.1.1.1.1.1.1.1.1.1 | exact hbw.1.1.1.1.1.1.1.1.1.1.1.1.1) _ rfl (hbk 3 (by simp) _ rfl)) ?_
      | (with_reducible show FamEv _ _ _ 29 _ _ _); refine FamEv.mk [] (fun β w' _ hbw => h29 y1 y2 w' hbw.1.2 hbw.2) ?_
    refine ⟨?_, y3.1, Ent.weak rfl ⟨rfl, rfl, rfl, rfl, rfl, rfl, rfl, trivial⟩ ⟨rfl, trivial⟩ fun w2 h => ⟨h.1.1.1, hA ▸ h.2.1⟩⟩
    simp only [List.nil_append, List.cons_append, List.append_assoc]
    exact rfl
  case hk1 => intros; rfl
  case hk2 => intros; rfl
  case hk3 => intros; rfl
  case hi1 => exact fun _ _ _ _ => ⟨Or.inr rfl, Or.inl (by kernel_rfl), Or.inr rfl, Or.inr rfl, Or.inr rfl, Or.inl (by kernel_rfl), Or.inr rfl, Or.inr rfl, Or.inr rfl, Or.inl (by kernel_rfl), Or.inl (by kernel_rfl), Or.inl (by kernel_rfl), Or.inl (by kernel_rfl), Or.inl (by kernel_rfl), Or.inl (by kernel_rfl), Or.inl (by kernel_rfl), Or.inl (by kernel_rfl), Or.inl (by kernel_rfl), Or.inl (by kernel_rfl), trivial⟩
  case hi2 => exact fun _ _ _ _ => ⟨Or.inr rfl, Or.inr rfl, Or.inr rfl, Or.inr rfl, Or.inr rfl, Or.inr rfl, Or.inr rfl, Or.inr rfl, Or.inr rfl, Or.inr rfl, Or.inl (by kernel_rfl), Or.inl (by kernel_rfl), Or.inl (by kernel_rfl), Or.inl (by kernel_rfl), Or.inl (by kernel_rfl), Or.inl (by kernel_rfl), Or.inl (by kernel_rfl), Or.inl (by kernel_rfl), Or.inl (by kernel_rfl), trivial⟩
  case hi3 => exact fun _ _ _ _ => ⟨Or.inr rfl, Or.inr rfl, Or.inr rfl, Or.inr rfl, Or.inr rfl, Or.inr rfl, Or.inr rfl, Or.inr rfl, Or.inr rfl, Or.inr rfl, Or.inr rfl, Or.inl (by kernel_rfl), Or.inl (by kernel_rfl), Or.inl (by kernel_rfl), Or.inl (by kernel_rfl), Or.inl (by kernel_rfl), Or.inl (by kernel_rfl), Or.inl (by kernel_rfl), Or.inl (by kernel_rfl), trivial⟩
set_option maxHeartbeats 4000000 in
set_option maxRecDepth 100000 in
theorem Ad6 (no : Option Addr) (nc : Nat) (N : List Int) (wk : Int) (co : Option Addr) (cc : Nat) (C : List Rw) (o : Option Addr) (c : Nat) (S : List Sy) (tn : Int) (w : World) (u : (Addr × Nat) × (Addr × Nat)) (v : Addr × Nat) (hX : CrIn ⟨no, nc, N, wk, co, cc, C⟩ w) (hY : SyIn o c S w) (hE : ckE N wk (C.map Rw.xs) (S.map Sy.d) = 0) (h0 : 1 ≤ S.length) (hcap : S.length ≤ c) (hsl8 : S.length ≤ 100)
    (h6 : ∀ x, VC Tryz.prog (rest 6 body7) (aS6 no nc N wk co cc C o c S tn w u v x) (endΦ env Tryz.f7 fun s σ => (∀ β, s.c β = .bool true) ∧ ∀ w', σ.h w' → Below w.heap.size w w')) : VC Tryz.prog (rest 5 body7) (aS5 no nc N wk co cc C o c S tn w u v) (endΦ env Tryz.f7 fun s σ => (∀ β, s.c β = .bool true) ∧ ∀ w', σ.h w' → Below w.heap.size w w') := by
  have h30 := fun w' hb => Course_nr ⟨no, nc, N, wk, co, cc, C⟩ w' (hX.below hb)
  have hz := SzOk.of hX hY
  have hy := YrOk.of hE
  have hn6 := hy.n6
  have hsl := hY.sl
  dsimp only at h30 hz
  have hrot : (S.take (S.length - 1)).map Sy.d = (S.map Sy.d).take (S.length - 1) := by rw [List.map_take]
  have hE' := ckE_less hE (S.length - 1)
  have hz' : SzOk N (C.map Rw.xs) ((S.map Sy.d).take (S.length - 1)) := ⟨hz.n, hz.c, hz.r, by have := hz.s; simp at this ⊢; omega, fun s hs => hz.t s (List.mem_of_mem_take hs)⟩
  have h29 := @Has_at N wk (C.map Rw.xs) _ hz' hE' hn6.1
  obtain ⟨_, ad, rfl, _⟩ := hY.s.ptr (by omega)
  have h31 := fun w' (hb : Below w.heap.size w w') => Stays_m (some ad) c (S.take (S.length - 1)) w' ⟨Rd.takeP (hY.s.below hb) _ _, fun s hs => (hY.below hb).r s (List.mem_of_mem_take hs), by simp; omega, fun s hs => hY.rl s (List.mem_of_mem_take hs)⟩ (S.length - 1) (by simp) hrot
  rw [c7_5]
  refine VC.seq (f := fun σ' => ∃ x, Ent σ' (aS6 no nc N wk co cc C (some ad) c S tn w u v x)) ?_ (fun σ' ⟨x, hx⟩ => VC.ent (h6 x) hx (okB rfl rfl rfl))
  clear h6
  apply VC_reg3 env mixed 1 7 8 (fun y : (Option Addr × Nat) × Rws (C.map Rw.xs) => .agg #[.slice y.1.1 N.length y.1.2, iv wk, .slice y.2.o y.2.C.length y.2.c]) (fun y => crH N y) (fun y : SyF ((S.map Sy.d).take (S.length - 1)) => .slice y.o y.S.length y.c) (fun y => y.In) (hyV N.length) (hyH N (C.map Rw.xs) ((S.map Sy.d).take (S.length - 1))) ((none, 0), ⟨none, 0, C, rfl⟩) ⟨none, 0, _, hrot⟩ ((ad, 0), (ad, 0))
  case h12 => decide
  case h23 => decide
  case h3 => exact Nat.le_of_ble_eq_true (by kernel_rfl)
  case hd12 => kernel_rfl
  case hd13 => kernel_rfl
  case hd23 => kernel_rfl
  case hv =>
    intro y1 y2 y3
    repeat'
     conv => whnf
     first
      | refine zA ?_ | refine zB ?_ | refine zC ?_ | refine zD ?_ | refine zE ?_ | refine zF ?_ | refine zG ?_ | refine zH ?_ | refine zJ ?_ | refine zI ?_ | refine splT ?_ | refine splF ?_ | refine splNot ?_
      | ((first | refine splIn (fun hc => ?_) (fun hc => ?_) | refine splD (fun hc => ?_) (fun hc => ?_) | refine splE (fun hc => ?_) (fun hc => ?_) | refine splNE (fun hc => ?_) (fun hc => ?_)) <;> first | (exfalso; omega) | (exfalso; dsimp only at hc; omega) | skip)
      | refine slHiI env (S.length - 1) rfl rfl (by omega) rfl rfl (by omega) rfl ?_
      | refine And.intro (a := (_ : Bool) = true ∧ (_ : List _) = [] ∧ (_ : List _) = []) ⟨rfl, rfl, rfl⟩ ?_
      | (with_reducible show FamEv _ _ _ 30 _ _ _); refine FamEv.mk [] (fun β w' _ hbw => h30 w' (by first | exact hbw | exact hbw.1 | exact hbw.1.1 | exact hbw.1.1.1 | exact hbw.1.1.1.1 | exact hbw.1.1.1.1.1 | exact hbw.1.1.1.1.1.1 | exact hbw.1.1.1.1.1.1.1 | exact hbw.1.1.1.1.1.1.1.1 | exact hbw.1.1.1.1.1.1.1.1.1 | exact hbw.1.1.1.1.1.1.1.1.1.1 | exact hbw.1.1.1.1.1.1.1.1.1.1.1 | exact hbw.1.1.1.1.1.1.1.1.1.1.1.1 | exact hbw.1.1.1.1.1.1.1.1.1.1.1.1.1)) ?_
      | (with_reducible show FamEv _ _ _ 31 _ _ _); refine FamEv.mk [] (fun β w' hbk hbw => h31 w' (by first | exact hbw | exact hbw.1 | exact hbw.1.1 | exact hbw.1.1.1 | exact hbw.1.1.1.1 | exact hbw.1.1.1.1.1 | exact hbw.1.1.1.1.1.1 | exact hbw.1.1.1.1.1.1.1 | exact hbw.1.1.1.1.1.1.1.1 | exact hbw.1.1.1.1.1.1.1.1.1 | exact hbw.1.1.1.1.1.1.1.1.1.1 | exact hbw.1.1.1.1.1.1.1.1.1.1.1 | exact hbw.1.1.1.1.1.1.1.1.1.1.1.1 | exact hbw.1.1.1.1.1.1.1.1.1.1.1.1.1)) ?_
      | (with_reducible show FamEv _ _ _ 29 _ _ _); refine FamEv.mk [] (fun β w' _ hbw => h29 y1 y2 w' hbw.1.2 hbw.2) ?_
    refine ⟨?_, y3, Ent.weak rfl ⟨rfl, rfl, rfl, rfl, rfl, rfl, rfl, rfl, rfl, rfl, trivial⟩ ⟨rfl, trivial⟩ fun w2 h => ⟨h.1.1.1, h.2⟩⟩
    simp only [List.nil_append, List.cons_append, List.append_assoc]
    exact rfl
  case hk1 => intros; rfl
  case hk2 => intros; rfl
  case hk3 => intros; rfl
  case hi1 => exact fun _ _ _ _ => ⟨Or.inr rfl, Or.inl (by kernel_rfl), Or.inr rfl, Or.inr rfl, Or.inr rfl, Or.inr rfl, Or.inr rfl, Or.inl (by kernel_rfl), Or.inl (by kernel_rfl), Or.inl (by kernel_rfl), Or.inl (by kernel_rfl), Or.inl (by kernel_rfl), Or.inl (by kernel_rfl), Or.inl (by kernel_rfl), Or.inl (by kernel_rfl), Or.inl (by kernel_rfl), trivial⟩
  case hi2 => exact fun _ _ _ _ => ⟨Or.inr rfl, Or.inr rfl, Or.inr rfl, Or.inr rfl, Or.inr rfl, Or.inr rfl, Or.inr rfl, Or.inl (by kernel_rfl), Or.inl (by kernel_rfl), Or.inl (by kernel_rfl), Or.inl (by kernel_rfl), Or.inl (by kernel_rfl), Or.inl (by kernel_rfl), Or.inl (by kernel_rfl), Or.inl (by kernel_rfl), Or.inl (by kernel_rfl), trivial⟩
  case hi3 => exact fun _ _ _ _ => ⟨Or.inr rfl, Or.inr rfl, Or.inr rfl, Or.inr rfl, Or.inr rfl, Or.inr rfl, Or.inr rfl, Or.inr rfl, Or.inl (by kernel_rfl), Or.inl (by kernel_rfl), Or.inl (by kernel_rfl), Or.inl (by kernel_rfl), Or.inl (by kernel_rfl), Or.inl (by kernel_rfl), Or.inl (by kernel_rfl), Or.inl (by kernel_rfl), trivial⟩
end Go.Proofs.YtpleibfohjbneaaGreat
