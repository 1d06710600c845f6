/- The law: whether any timetable fits. By cCP.py. -/
import Derived.Test.YtkbfcofifhngfaaGreatCO
import Derived.Test.YtkbfcofifhngfaaGreatSY
import Derived.Test.YtkbfcofifhngfaaGreatH
namespace Go.Proofs.YtkbfcofifhngfaaGreat
open Go Tx Go.RowKit
set_option linter.unusedSimpArgs false
set_option linter.unusedVariables false
theorem und4 : Tryz.prog.underlying 4 = some .bool := by kernel_rfl
theorem equalB4 (d : Nat) (a b : Bool) (w : World) : (Op.equalIn (d + 1) 4 (.bool a) (.bool b)).run Tryz.prog w = .ok (a == b) w := by
  rw [Op.equalIn]
  simp [Sem.run_bind, Go.run_underlying und4 w]
theorem eqlBt {a b : Bool} {x y : Operand} {K : Value → Prop} (hab : a = b) (h : K (.bool true)) : ∃ v, (∀ _ : Nat → Nat, RunIs Tryz.prog (do eqGuard .eql 4 x y (.bool a) (.bool b); binOp .eql 4 (.bool a) (.bool b)) v) ∧ K v := by
  subst hab
  refine ⟨.bool true, fun _ w => ?_, h⟩
  have h := equalB4 9999 a a w
  simp [eqGuard, binOp, Op.equal, Op.maxDepth, h]
def tbD (S : List Lr) : TbF (S.map Lr.L) := ⟨none, 0, S.map fun r => ⟨none, r.L.length, r.L⟩, by rw [List.map_map]; rfl, fun r hr => by
  obtain ⟨q, _, rfl⟩ := List.mem_map.1 hr
  exact ⟨Nat.le_refl _, fun h => ⟨rfl, by dsimp only at h ⊢; rw [h]; rfl⟩⟩⟩
theorem c8_4 : rest 4 body8 = .seq (.region 9 (hdO (rest 4 body8)) true) (tlD (rest 4 body8)) := by kernel_rfl

set_option maxHeartbeats 8000000 in
set_option maxRecDepth 100000 in
theorem Sf_true (sl ro su : Int) (go to : Option Addr) (gc tc : Nat) (G : List Rw) (T : List Tc) (o : Option Addr) (c : Nat) (S : List Lr) (w : World) (h : ScIn ⟨sl, ro, su, go, gc, G, to, tc, T⟩ w) (hB : ScB ⟨sl, ro, su, go, gc, G, to, tc, T⟩) (hT : TbL o c S w) (hl : S.length ≤ 45) (hrl : ∀ r ∈ S, r.L.length ≤ 10) (hv : scOk (Sc.d ⟨sl, ro, su, go, gc, G, to, tc, T⟩) = true) :
    VC Tryz.prog (rest 4 body8) ⟨63, [(1, .v (.slice o S.length c)), (2, .ptr 0 0), (6, .v (iv 0))], [(0, .cells [.v (iv sl), .v (iv ro), .v (iv su), .v (.slice go G.length gc), .v (.slice to T.length tc)] 25)], 1, Below w.heap.size w, z0⟩ (endΦ env Tryz.f8 fun v σ => (∀ β, v.c β = .bool true) ∧ ∀ w', σ.h w' → Below w.heap.size w w') := by
  have h14 := fun (w' : World) (hw : Below w.heap.size w w') => famS hw (School_ok ⟨sl, ro, su, go, gc, G, to, tc, T⟩ w' (h.below hw) hB)
  have h15 := fun (w' : World) (hw : Below w.heap.size w w') => RightS_ok ⟨sl, ro, su, go, gc, G, to, tc, T⟩ w' (h.below hw) hB
  have h29 := fun (w' : World) (hw : Below w.heap.size w w') => famS hw (table_ok o c S w' (hT.below hw) (by omega) (fun r hr => by have := hrl r hr; omega))
  have h28 : ∀ (y : { y : Sc // y.d = Sc.d ⟨sl, ro, su, go, gc, G, to, tc, T⟩ }) (t : TbF (S.map Lr.L)) (w' : World), ScIn y.1 w' → TbL t.o t.c t.D w' → Calls Tryz.prog 28 #[y.1.v, t.v] w' fun e w2 => ∃ x : Unit, e = .returned (.bool (fitB (Sc.d ⟨sl, ro, su, go, gc, G, to, tc, T⟩) (S.map Lr.L))) ∧ Below w'.heap.size w' w2 ∧ St w'.heap.size (fun _ => True) w2 := fun y t w' h1 h2 => by
    have hlen : t.D.length = S.length := by have := congrArg List.length t.h; simpa using this
    have := Fits_ok y.1 t.D t.o t.c w' h1 (hB.d y.2) h2 (by omega) (fun r hr => by
      have h3 : r.L ∈ S.map Lr.L := t.h ▸ List.mem_map_of_mem hr
      obtain ⟨q, h4, h5⟩ := List.mem_map.1 h3
      rw [← h5]; exact hrl q h4) t.k
    rw [y.2, t.h] at this
    exact this.mono fun e w2 ⟨h1, h2⟩ => ⟨(), h1, h2, fun _ _ => trivial⟩
  have h17 := fun (w' : World) (hw : Below w.heap.size w w') => RFits_ok ⟨sl, ro, su, go, gc, G, to, tc, T⟩ S o c w' (h.below hw) hB (hT.below hw) hl hrl hv
  rw [← fit_ref hv] at h17
  rw [hv] at h15
  have h12 := fun w' => awake_calls w'
  generalize fitB (Sc.d ⟨sl, ro, su, go, gc, G, to, tc, T⟩) (S.map Lr.L) = q at *
  rw [c8_4]
  refine VC.seq (f := fun σ' => Ent σ' ⟨63, [(4, .v (.bool true))], [], 1, Below w.heap.size w, z0⟩) ?_ (fun σ' hy => VC.ent ?_ hy (okB rfl rfl rfl))
  · apply VC_reg3 env mixed 15 17 18 (fun y : { y : Sc // y.d = Sc.d ⟨sl, ro, su, go, gc, G, to, tc, T⟩ } => y.1.v) (fun y w2 => St w.heap.size (ScIn y.1) w2) (fun t : TbF (S.map Lr.L) => t.v) (fun t w2 => St w.heap.size (TbL t.o t.c t.D) w2) (fun _ : Unit => .bool q) (fun _ _ => True) ⟨⟨sl, ro, su, go, gc, G, to, tc, T⟩, rfl⟩ (tbD S) ()
    case h12 => decide
    case h23 => decide
    case h3 => exact Nat.le_of_ble_eq_true (by kernel_rfl)
    case hd12 => kernel_rfl
    case hd13 => kernel_rfl
    case hd23 => kernel_rfl
    case hv =>
      intro y1 y2 y3
      repeat'
       conv => whnf
       first
        | refine zA ?_ | refine zB ?_ | refine zC ?_ | refine zD ?_ | refine zE ?_ | refine zF ?_ | refine zG ?_ | refine zH ?_ | refine zJ ?_ | refine zI ?_ | refine splT ?_ | refine splF ?_ | refine splNot ?_
        | ((first | refine splIn (fun hc => ?_) (fun hc => ?_) | refine splD (fun hc => ?_) (fun hc => ?_) | refine splE (fun hc => ?_) (fun hc => ?_) | refine splNE (fun hc => ?_) (fun hc => ?_)) <;> first | (exfalso; omega) | (exfalso; dsimp only at hc; omega) | skip)
        | ((with_reducible show CallEv _ _ 15 _ _ _ _ _); refine callE (k := 15) (fun β w' hbw => h15 w' hbw) ?_)
      conv => whnf
      refine eqlBt rfl ?_
      repeat'
       conv => whnf
       first
        | refine zA ?_ | refine zB ?_ | refine zC ?_ | refine zD ?_ | refine zE ?_ | refine zF ?_ | refine zG ?_ | refine zH ?_ | refine zJ ?_ | refine zI ?_ | refine splT ?_ | refine splF ?_ | refine splNot ?_
        | ((first | refine splIn (fun hc => ?_) (fun hc => ?_) | refine splD (fun hc => ?_) (fun hc => ?_) | refine splE (fun hc => ?_) (fun hc => ?_) | refine splNE (fun hc => ?_) (fun hc => ?_)) <;> first | (exfalso; omega) | (exfalso; dsimp only at hc; omega) | skip)
        | refine And.intro (a := (_ : Bool) = true ∧ (_ : List _) = [] ∧ (_ : List _) = []) ⟨rfl, rfl, rfl⟩ ?_
        | (with_reducible show FamEv _ _ _ 14 _ _ _); refine FamEv.mk [] (fun β w' _ hbw => h14 w' hbw) ?_
        | (with_reducible show FamEv _ _ _ 29 _ _ _); refine FamEv.mk [] (fun β w' _ hbw => h29 w' (by repeat (first | exact hbw | replace hbw := hbw.1))) ?_
        | (with_reducible show FamEv _ _ _ 28 _ _ _); refine FamEv.mk [] (fun β w' _ hbw => h28 y1 y2 w' (St.now hbw.1.2) (St.now hbw.2)) ?_
        | ((with_reducible show CallEv _ _ 15 _ _ _ _ _); refine callE (k := 15) (fun β w' hbw => h15 w' hbw) ?_)
        | ((with_reducible show CallEv _ _ 17 _ _ _ _ _); refine callE (k := 17) (fun β w' hbw => h17 w' hbw) ?_)
      conv => whnf
      refine eqlBt (a := q) (b := q) rfl ?_
      repeat'
       conv => whnf
       first
        | refine zA ?_ | refine zB ?_ | refine zC ?_ | refine zD ?_ | refine zE ?_ | refine zF ?_ | refine zG ?_ | refine zH ?_ | refine zJ ?_ | refine zI ?_ | refine splT ?_ | refine splF ?_ | refine splNot ?_
        | ((first | refine splIn (fun hc => ?_) (fun hc => ?_) | refine splD (fun hc => ?_) (fun hc => ?_) | refine splE (fun hc => ?_) (fun hc => ?_) | refine splNE (fun hc => ?_) (fun hc => ?_)) <;> first | (exfalso; omega) | (exfalso; dsimp only at hc; omega) | skip)
      conv => whnf
      refine callE (k := 12) (fun β w' hbw => h12 w') ?_
      conv => whnf
      refine zA ?_
      refine ⟨?_, Ent.weak rfl ⟨rfl, trivial⟩ trivial fun w2 h => h.1.1.1⟩
      simp only [List.nil_append, List.cons_append, List.append_assoc]
      exact rfl
    case hk1 => intros; rfl
    case hk2 => intros; rfl
    case hk3 => intros; rfl
    case hi1 => exact fun _ _ _ _ => ⟨Or.inr rfl, Or.inr rfl, Or.inr rfl, Or.inr rfl, Or.inr rfl, Or.inr rfl, Or.inr rfl, Or.inr rfl, Or.inr rfl, Or.inr rfl, Or.inr rfl, Or.inr rfl, Or.inr rfl, Or.inr rfl, Or.inr rfl, Or.inl (by kernel_rfl), Or.inr rfl, Or.inl (by kernel_rfl), Or.inl (by kernel_rfl), Or.inr rfl, Or.inl (by kernel_rfl), Or.inl (by kernel_rfl), Or.inl (by kernel_rfl), Or.inl (by kernel_rfl), Or.inl (by kernel_rfl), Or.inl (by kernel_rfl), Or.inl (by kernel_rfl), Or.inl (by kernel_rfl), Or.inl (by kernel_rfl), Or.inl (by kernel_rfl), Or.inl (by kernel_rfl), Or.inl (by kernel_rfl), trivial⟩
    case hi2 => exact fun _ _ _ _ => ⟨Or.inr rfl, Or.inr rfl, Or.inr rfl, Or.inr rfl, Or.inr rfl, Or.inr rfl, Or.inr rfl, Or.inr rfl, Or.inr rfl, Or.inr rfl, Or.inr rfl, Or.inr rfl, Or.inr rfl, Or.inr rfl, Or.inr rfl, Or.inr rfl, Or.inr rfl, Or.inl (by kernel_rfl), Or.inl (by kernel_rfl), Or.inr rfl, Or.inl (by kernel_rfl), Or.inl (by kernel_rfl), Or.inl (by kernel_rfl), Or.inl (by kernel_rfl), Or.inl (by kernel_rfl), Or.inl (by kernel_rfl), Or.inl (by kernel_rfl), Or.inl (by kernel_rfl), Or.inl (by kernel_rfl), Or.inl (by kernel_rfl), Or.inl (by kernel_rfl), Or.inl (by kernel_rfl), trivial⟩
    case hi3 => exact fun _ _ _ _ => ⟨Or.inr rfl, Or.inr rfl, Or.inr rfl, Or.inr rfl, Or.inr rfl, Or.inr rfl, Or.inr rfl, Or.inr rfl, Or.inr rfl, Or.inr rfl, Or.inr rfl, Or.inr rfl, Or.inr rfl, Or.inr rfl, Or.inr rfl, Or.inr rfl, Or.inr rfl, Or.inr rfl, Or.inl (by kernel_rfl), Or.inr rfl, Or.inl (by kernel_rfl), Or.inl (by kernel_rfl), Or.inl (by kernel_rfl), Or.inl (by kernel_rfl), Or.inl (by kernel_rfl), Or.inl (by kernel_rfl), Or.inl (by kernel_rfl), Or.inl (by kernel_rfl), Or.inl (by kernel_rfl), Or.inl (by kernel_rfl), Or.inl (by kernel_rfl), Or.inl (by kernel_rfl), trivial⟩
  · refine VC.of env mixed ?_
    repeat'
     conv => whnf
     first
      | refine zA ?_ | refine zB ?_ | refine zC ?_ | refine zD ?_ | refine zE ?_ | refine zF ?_ | refine zG ?_ | refine zH ?_ | refine zJ ?_ | refine zI ?_ | refine splT ?_ | refine splF ?_ | refine splNot ?_
      | ((first | refine splIn (fun hc => ?_) (fun hc => ?_) | refine splD (fun hc => ?_) (fun hc => ?_) | refine splE (fun hc => ?_) (fun hc => ?_) | refine splNE (fun hc => ?_) (fun hc => ?_)) <;> first | (exfalso; omega) | (exfalso; dsimp only at hc; omega) | skip)
    exact ⟨fun β => rfl, fun w' h => h⟩

set_option maxHeartbeats 8000000 in
set_option maxRecDepth 100000 in
theorem Sf_false (sl ro su : Int) (go to : Option Addr) (gc tc : Nat) (G : List Rw) (T : List Tc) (o : Option Addr) (c : Nat) (S : List Lr) (w : World) (h : ScIn ⟨sl, ro, su, go, gc, G, to, tc, T⟩ w) (hB : ScB ⟨sl, ro, su, go, gc, G, to, tc, T⟩) (hT : TbL o c S w) (hl : S.length ≤ 45) (hrl : ∀ r ∈ S, r.L.length ≤ 10) (hv : scOk (Sc.d ⟨sl, ro, su, go, gc, G, to, tc, T⟩) = false) :
    VC Tryz.prog (rest 4 body8) ⟨63, [(1, .v (.slice o S.length c)), (2, .ptr 0 0), (6, .v (iv 1))], [(0, .cells [.v (iv sl), .v (iv ro), .v (iv su), .v (.slice go G.length gc), .v (.slice to T.length tc)] 25)], 1, Below w.heap.size w, z0⟩ (endΦ env Tryz.f8 fun v σ => (∀ β, v.c β = .bool true) ∧ ∀ w', σ.h w' → Below w.heap.size w w') := by
  have h14 := fun (w' : World) (hw : Below w.heap.size w w') => famS hw (School_ok ⟨sl, ro, su, go, gc, G, to, tc, T⟩ w' (h.below hw) hB)
  have h15 := fun (w' : World) (hw : Below w.heap.size w w') => RightS_ok ⟨sl, ro, su, go, gc, G, to, tc, T⟩ w' (h.below hw) hB
  have h29 := fun (w' : World) (hw : Below w.heap.size w w') => famS hw (table_ok o c S w' (hT.below hw) (by omega) (fun r hr => by have := hrl r hr; omega))
  have h28 : ∀ (y : { y : Sc // y.d = Sc.d ⟨sl, ro, su, go, gc, G, to, tc, T⟩ }) (t : TbF (S.map Lr.L)) (w' : World), ScIn y.1 w' → TbL t.o t.c t.D w' → Calls Tryz.prog 28 #[y.1.v, t.v] w' fun e w2 => ∃ x : Unit, e = .returned (.bool (fitB (Sc.d ⟨sl, ro, su, go, gc, G, to, tc, T⟩) (S.map Lr.L))) ∧ Below w'.heap.size w' w2 ∧ St w'.heap.size (fun _ => True) w2 := fun y t w' h1 h2 => by
    have hlen : t.D.length = S.length := by have := congrArg List.length t.h; simpa using this
    have := Fits_ok y.1 t.D t.o t.c w' h1 (hB.d y.2) h2 (by omega) (fun r hr => by
      have h3 : r.L ∈ S.map Lr.L := t.h ▸ List.mem_map_of_mem hr
      obtain ⟨q, h4, h5⟩ := List.mem_map.1 h3
      rw [← h5]; exact hrl q h4) t.k
    rw [y.2, t.h] at this
    exact this.mono fun e w2 ⟨h1, h2⟩ => ⟨(), h1, h2, fun _ _ => trivial⟩
  have hfb : fitB (Sc.d ⟨sl, ro, su, go, gc, G, to, tc, T⟩) (S.map Lr.L) = false := by unfold fitB; rw [hv]; rfl
  rw [hfb] at h28
  rw [hv] at h15
  have h12 := fun w' => awake_calls w'
  
  rw [c8_4]
  refine VC.seq (f := fun σ' => Ent σ' ⟨63, [(4, .v (.bool true))], [], 1, Below w.heap.size w, z0⟩) ?_ (fun σ' hy => VC.ent ?_ hy (okB rfl rfl rfl))
  · apply VC_reg3 env mixed 15 17 18 (fun y : { y : Sc // y.d = Sc.d ⟨sl, ro, su, go, gc, G, to, tc, T⟩ } => y.1.v) (fun y w2 => St w.heap.size (ScIn y.1) w2) (fun t : TbF (S.map Lr.L) => t.v) (fun t w2 => St w.heap.size (TbL t.o t.c t.D) w2) (fun _ : Unit => .bool false) (fun _ _ => True) ⟨⟨sl, ro, su, go, gc, G, to, tc, T⟩, rfl⟩ (tbD S) ()
    case h12 => decide
    case h23 => decide
    case h3 => exact Nat.le_of_ble_eq_true (by kernel_rfl)
    case hd12 => kernel_rfl
    case hd13 => kernel_rfl
    case hd23 => kernel_rfl
    case hv =>
      intro y1 y2 y3
      repeat'
       conv => whnf
       first
        | refine zA ?_ | refine zB ?_ | refine zC ?_ | refine zD ?_ | refine zE ?_ | refine zF ?_ | refine zG ?_ | refine zH ?_ | refine zJ ?_ | refine zI ?_ | refine splT ?_ | refine splF ?_ | refine splNot ?_
        | ((first | refine splIn (fun hc => ?_) (fun hc => ?_) | refine splD (fun hc => ?_) (fun hc => ?_) | refine splE (fun hc => ?_) (fun hc => ?_) | refine splNE (fun hc => ?_) (fun hc => ?_)) <;> first | (exfalso; omega) | (exfalso; dsimp only at hc; omega) | skip)
        | ((with_reducible show CallEv _ _ 15 _ _ _ _ _); refine callE (k := 15) (fun β w' hbw => h15 w' hbw) ?_)
      conv => whnf
      refine eqlBt rfl ?_
      repeat'
       conv => whnf
       first
        | refine zA ?_ | refine zB ?_ | refine zC ?_ | refine zD ?_ | refine zE ?_ | refine zF ?_ | refine zG ?_ | refine zH ?_ | refine zJ ?_ | refine zI ?_ | refine splT ?_ | refine splF ?_ | refine splNot ?_
        | ((first | refine splIn (fun hc => ?_) (fun hc => ?_) | refine splD (fun hc => ?_) (fun hc => ?_) | refine splE (fun hc => ?_) (fun hc => ?_) | refine splNE (fun hc => ?_) (fun hc => ?_)) <;> first | (exfalso; omega) | (exfalso; dsimp only at hc; omega) | skip)
        | refine And.intro (a := (_ : Bool) = true ∧ (_ : List _) = [] ∧ (_ : List _) = []) ⟨rfl, rfl, rfl⟩ ?_
        | (with_reducible show FamEv _ _ _ 14 _ _ _); refine FamEv.mk [] (fun β w' _ hbw => h14 w' hbw) ?_
        | (with_reducible show FamEv _ _ _ 29 _ _ _); refine FamEv.mk [] (fun β w' _ hbw => h29 w' (by repeat (first | exact hbw | replace hbw := hbw.1))) ?_
        | (with_reducible show FamEv _ _ _ 28 _ _ _); refine FamEv.mk [] (fun β w' _ hbw => h28 y1 y2 w' (St.now hbw.1.2) (St.now hbw.2)) ?_
        | ((with_reducible show CallEv _ _ 15 _ _ _ _ _); refine callE (k := 15) (fun β w' hbw => h15 w' hbw) ?_)
        | ((with_reducible show CallEv _ _ 17 _ _ _ _ _); refine callE (k := 17) (fun β w' hbw => h17 w' hbw) ?_)
      conv => whnf
      refine eqlBt (a := false) (b := false) rfl ?_
      repeat'
       conv => whnf
       first
        | refine zA ?_ | refine zB ?_ | refine zC ?_ | refine zD ?_ | refine zE ?_ | refine zF ?_ | refine zG ?_ | refine zH ?_ | refine zJ ?_ | refine zI ?_ | refine splT ?_ | refine splF ?_ | refine splNot ?_
        | ((first | refine splIn (fun hc => ?_) (fun hc => ?_) | refine splD (fun hc => ?_) (fun hc => ?_) | refine splE (fun hc => ?_) (fun hc => ?_) | refine splNE (fun hc => ?_) (fun hc => ?_)) <;> first | (exfalso; omega) | (exfalso; dsimp only at hc; omega) | skip)
      conv => whnf
      refine callE (k := 12) (fun β w' hbw => h12 w') ?_
      conv => whnf
      refine zA ?_
      refine ⟨?_, Ent.weak rfl ⟨rfl, trivial⟩ trivial fun w2 h => h.1.1.1⟩
      simp only [List.nil_append, List.cons_append, List.append_assoc]
      exact rfl
    case hk1 => intros; rfl
    case hk2 => intros; rfl
    case hk3 => intros; rfl
    case hi1 => exact fun _ _ _ _ => ⟨Or.inr rfl, Or.inr rfl, Or.inr rfl, Or.inr rfl, Or.inr rfl, Or.inr rfl, Or.inr rfl, Or.inr rfl, Or.inr rfl, Or.inr rfl, Or.inr rfl, Or.inr rfl, Or.inr rfl, Or.inr rfl, Or.inr rfl, Or.inl (by kernel_rfl), Or.inr rfl, Or.inl (by kernel_rfl), Or.inl (by kernel_rfl), Or.inr rfl, Or.inl (by kernel_rfl), Or.inl (by kernel_rfl), Or.inl (by kernel_rfl), Or.inl (by kernel_rfl), Or.inl (by kernel_rfl), Or.inl (by kernel_rfl), Or.inl (by kernel_rfl), Or.inl (by kernel_rfl), Or.inl (by kernel_rfl), Or.inl (by kernel_rfl), Or.inl (by kernel_rfl), Or.inl (by kernel_rfl), trivial⟩
    case hi2 => exact fun _ _ _ _ => ⟨Or.inr rfl, Or.inr rfl, Or.inr rfl, Or.inr rfl, Or.inr rfl, Or.inr rfl, Or.inr rfl, Or.inr rfl, Or.inr rfl, Or.inr rfl, Or.inr rfl, Or.inr rfl, Or.inr rfl, Or.inr rfl, Or.inr rfl, Or.inr rfl, Or.inr rfl, Or.inl (by kernel_rfl), Or.inl (by kernel_rfl), Or.inr rfl, Or.inl (by kernel_rfl), Or.inl (by kernel_rfl), Or.inl (by kernel_rfl), Or.inl (by kernel_rfl), Or.inl (by kernel_rfl), Or.inl (by kernel_rfl), Or.inl (by kernel_rfl), Or.inl (by kernel_rfl), Or.inl (by kernel_rfl), Or.inl (by kernel_rfl), Or.inl (by kernel_rfl), Or.inl (by kernel_rfl), trivial⟩
    case hi3 => exact fun _ _ _ _ => ⟨Or.inr rfl, Or.inr rfl, Or.inr rfl, Or.inr rfl, Or.inr rfl, Or.inr rfl, Or.inr rfl, Or.inr rfl, Or.inr rfl, Or.inr rfl, Or.inr rfl, Or.inr rfl, Or.inr rfl, Or.inr rfl, Or.inr rfl, Or.inr rfl, Or.inr rfl, Or.inr rfl, Or.inl (by kernel_rfl), Or.inr rfl, Or.inl (by kernel_rfl), Or.inl (by kernel_rfl), Or.inl (by kernel_rfl), Or.inl (by kernel_rfl), Or.inl (by kernel_rfl), Or.inl (by kernel_rfl), Or.inl (by kernel_rfl), Or.inl (by kernel_rfl), Or.inl (by kernel_rfl), Or.inl (by kernel_rfl), Or.inl (by kernel_rfl), Or.inl (by kernel_rfl), trivial⟩
  · refine VC.of env mixed ?_
    repeat'
     conv => whnf
     first
      | refine zA ?_ | refine zB ?_ | refine zC ?_ | refine zD ?_ | refine zE ?_ | refine zF ?_ | refine zG ?_ | refine zH ?_ | refine zJ ?_ | refine zI ?_ | refine splT ?_ | refine splF ?_ | refine splNot ?_
      | ((first | refine splIn (fun hc => ?_) (fun hc => ?_) | refine splD (fun hc => ?_) (fun hc => ?_) | refine splE (fun hc => ?_) (fun hc => ?_) | refine splNE (fun hc => ?_) (fun hc => ?_)) <;> first | (exfalso; omega) | (exfalso; dsimp only at hc; omega) | skip)
    exact ⟨fun β => rfl, fun w' h => h⟩

set_option maxHeartbeats 8000000 in
set_option maxRecDepth 100000 in
theorem SchoolFits_ok (s : Sc) (S : List Lr) (o : Option Addr) (c : Nat) (w : World) (h : ScIn s w) (hX : ScX s) (hT : TbL o c S w) (hSl : S.length ≤ 9223372036854775807) (hSr : ∀ r ∈ S, r.L.length ≤ 9223372036854775807) :
    Calls Tryz.prog 8 #[s.v, .slice o S.length c] w fun e w' => e = .returned (.bool true) ∧ Below w.heap.size w w' := by
  have h12 := fun w' => awake_calls w'
  have h11 := fun (w' : World) (hw : Below w.heap.size w w') => Thin_ok s w' (h.below hw) hX
  cases hth : thS s.d with
  | false =>
    rw [hth] at h11
    obtain ⟨sl, ro, su, go, gc, G, to, tc, T⟩ := s
    refine calls_val env mixed Tryz.func8 has8 Tryz.ntmps8 [.agg #[iv sl, iv ro, iv su, .slice go G.length gc, .slice to T.length tc], .slice o S.length c] (by simp) ?_
    repeat'
     conv => whnf
     first
      | refine zA ?_ | refine zB ?_ | refine zC ?_ | refine zD ?_ | refine zE ?_ | refine zF ?_ | refine zG ?_ | refine zH ?_ | refine zJ ?_ | refine zI ?_ | refine splT ?_ | refine splF ?_ | refine splNot ?_
      | ((first | refine splIn (fun hc => ?_) (fun hc => ?_) | refine splD (fun hc => ?_) (fun hc => ?_) | refine splE (fun hc => ?_) (fun hc => ?_) | refine splNE (fun hc => ?_) (fun hc => ?_)) <;> first | (exfalso; omega) | (exfalso; dsimp only at hc; omega) | skip)
      | ((with_reducible show CallEv _ _ 11 _ _ _ _ _); refine callE (k := 11) (fun β w' hbw => h11 _ hbw) ?_)
      | ((with_reducible show CallEv _ _ 12 _ _ _ _ _); refine callE (k := 12) (fun β w' hbw => h12 w') ?_)
    all_goals first | exact ⟨fun β => rfl, fun w' h => h⟩ | (exfalso; omega)
  | true =>
    rw [hth] at h11
    have hB := ScX.b hth
    by_cases hl : S.length ≤ 45
    · have h14 := fun (w' : World) (hw : Below w.heap.size w w') => famS hw (School_ok s w' (h.below hw) hB)
      have h27 : ∀ (y : { y : Sc // y.d = s.d }) (w' : World), ScIn y.1 w' → Calls Tryz.prog 27 #[y.1.v] w' fun e w2 => e = .returned (iv (if scOk s.d = true then 0 else 1)) ∧ Below w'.heap.size w' w2 := fun y w' h1 => by
        have := CheckSchool_ok y.1 w' h1 (hB.d y.2)
        rw [y.2] at this
        exact this
      obtain ⟨sl, ro, su, go, gc, G, to, tc, T⟩ := s
      have h0 := Sf_true sl ro su go to gc tc G T o c S w h hB hT hl
      have h1 := Sf_false sl ro su go to gc tc G T o c S w h hB hT hl
      cases hv : scOk (Sc.d ⟨sl, ro, su, go, gc, G, to, tc, T⟩)
      · have hr := h1
        rw [hv] at h27
        refine calls_valV env mixed Tryz.func8 has8 Tryz.ntmps8 [.agg #[iv sl, iv ro, iv su, .slice go G.length gc, .slice to T.length tc], .slice o S.length c] (by simp) ?_
        refine VC.cutE env mixed 4 1 (fun _ : Unit => [(1, .v (.slice o S.length c)), (2, .ptr 0 0), (6, .v (iv 1))]) (fun _ => [(0, .cells [.v (iv sl), .v (iv ro), .v (iv su), .v (.slice go G.length gc), .v (.slice to T.length tc)] 25)]) (fun _ => ∀ r ∈ S, r.L.length ≤ 10) (fun _ _ => ⟨rfl, rfl⟩) ?_ (fun _ hp => hr hp hv)
        repeat'
         conv => whnf
         first
          | refine zA ?_ | refine zB ?_ | refine zC ?_ | refine zD ?_ | refine zE ?_ | refine zF ?_ | refine zG ?_ | refine zH ?_ | refine zJ ?_ | refine zI ?_ | refine splT ?_ | refine splF ?_ | refine splNot ?_
          | ((first | refine splIn (fun hc => ?_) (fun hc => ?_) | refine splD (fun hc => ?_) (fun hc => ?_) | refine splE (fun hc => ?_) (fun hc => ?_) | refine splNE (fun hc => ?_) (fun hc => ?_)) <;> first | (exfalso; omega) | (exfalso; dsimp only at hc; omega) | skip)
          | ((with_reducible show CallEv _ _ 11 _ _ _ _ _); refine callE (k := 11) (fun β w' hbw => h11 _ hbw) ?_)
          | ((with_reducible show CallEv _ _ 12 _ _ _ _ _); refine callE (k := 12) (fun β w' hbw => h12 w') ?_)
        all_goals first | (exfalso; omega) | skip
        refine loopE (fun k : Nat => [(1, .v (.slice o S.length c)), (2, .ptr 0 0), (5, .v (iv k))]) (fun _ => [(0, .cells [.v (iv sl), .v (iv ro), .v (iv su), .v (.slice go G.length gc), .v (.slice to T.length tc)] 25)]) (fun k => k ≤ S.length ∧ ∀ r ∈ S.take k, r.L.length ≤ 10) (fun k => S.length - k) 0 ⟨Nat.zero_le _, fun r hr => by simp at hr⟩ ⟨rfl, rfl, rfl, trivial⟩ ⟨rfl, trivial⟩ (fun _ => ⟨rfl, rfl⟩) ?_
        intro k ⟨hk, hall⟩
        rcases Nat.lt_or_ge k S.length with hkl | hkl
        · obtain ⟨⟨so, sc, L⟩, hx⟩ : ∃ b, S[k]? = some b := ⟨_, List.getElem?_eq_getElem hkl⟩
          obtain ⟨hS, hSr2⟩ := hT
          obtain ⟨_, ad, rfl, _⟩ := hS.ptr (by omega)
          have e1 := fun (w' : World) hw' => rd_ati (hS.below (w' := w') hw') hx
          have hL := hSr _ (List.mem_of_getElem? hx)
          dsimp only at hL
          by_cases h10 : L.length ≤ 10
          · have hn : ∀ r ∈ S.take (k + 1), r.L.length ≤ 10 := fun r hr => by
              rw [List.take_add_one, hx] at hr
              simp only [Option.toList_some, List.mem_append, List.mem_singleton] at hr
              rcases hr with hr | rfl
              · exact hall r hr
              · exact h10
            repeat'
             conv => whnf
             first
              | refine zA ?_ | refine zB ?_ | refine zC ?_ | refine zD ?_ | refine zE ?_ | refine zF ?_ | refine zG ?_ | refine zH ?_ | refine zJ ?_ | refine zI ?_ | refine splT ?_ | refine splF ?_ | refine splNot ?_
              | ((first | refine splIn (fun hc => ?_) (fun hc => ?_) | refine splD (fun hc => ?_) (fun hc => ?_) | refine splE (fun hc => ?_) (fun hc => ?_) | refine splNE (fun hc => ?_) (fun hc => ?_)) <;> first | (exfalso; omega) | (exfalso; dsimp only at hc; omega) | skip)
              | refine Exists.intro (α := List Value) [.slice so L.length sc] ⟨⟨rfl, fun w' hw' => e1 w' hw'⟩, ?_⟩
            all_goals first | (exfalso; omega) | exact ⟨k + 1, ⟨by omega, hn⟩, by omega, Ent.weak rfl ⟨rfl, rfl, rfl, trivial⟩ ⟨rfl, trivial⟩ fun _ h => h⟩
          · skip
            repeat'
             conv => whnf
             first
              | refine zA ?_ | refine zB ?_ | refine zC ?_ | refine zD ?_ | refine zE ?_ | refine zF ?_ | refine zG ?_ | refine zH ?_ | refine zJ ?_ | refine zI ?_ | refine splT ?_ | refine splF ?_ | refine splNot ?_
              | ((first | refine splIn (fun hc => ?_) (fun hc => ?_) | refine splD (fun hc => ?_) (fun hc => ?_) | refine splE (fun hc => ?_) (fun hc => ?_) | refine splNE (fun hc => ?_) (fun hc => ?_)) <;> first | (exfalso; omega) | (exfalso; dsimp only at hc; omega) | skip)
              | refine Exists.intro (α := List Value) [.slice so L.length sc] ⟨⟨rfl, fun w' hw' => e1 w' hw'⟩, ?_⟩
              | ((with_reducible show CallEv _ _ 12 _ _ _ _ _); refine callE (k := 12) (fun β w' hbw => h12 w') ?_)
            all_goals first | (exfalso; omega) | exact ⟨fun β => rfl, fun w' h => h⟩
        · rw [List.take_of_length_le hkl] at hall
          obtain rfl : k = S.length := by omega
          repeat'
           conv => whnf
           first
            | refine zA ?_ | refine zB ?_ | refine zC ?_ | refine zD ?_ | refine zE ?_ | refine zF ?_ | refine zG ?_ | refine zH ?_ | refine zJ ?_ | refine zI ?_ | refine splT ?_ | refine splF ?_ | refine splNot ?_
            | ((first | refine splIn (fun hc => ?_) (fun hc => ?_) | refine splD (fun hc => ?_) (fun hc => ?_) | refine splE (fun hc => ?_) (fun hc => ?_) | refine splNE (fun hc => ?_) (fun hc => ?_)) <;> first | (exfalso; omega) | (exfalso; dsimp only at hc; omega) | skip)
            | ((with_reducible show CallEv _ _ 14 _ _ _ _ _); refine callF [] (fun y : { y : Sc // y.d = Sc.d ⟨sl, ro, su, go, gc, G, to, tc, T⟩ } => y.1.v) (fun y => St w.heap.size (ScIn y.1)) (fun β w' _ hbw => h14 w' (by repeat (first | exact hbw | replace hbw := hbw.1))) ?_; intro y)
            | ((with_reducible show CallEv _ _ 27 _ _ _ _ _); refine callE (k := 27) (fun β w' hbw => (h27 y) w' (St.now hbw.2)) ?_)
          all_goals first | (exfalso; omega) | exact ⟨rfl, (), hall, Ent.weak rfl ⟨rfl, rfl, rfl, trivial⟩ ⟨rfl, trivial⟩ fun _ h => h.1⟩
      · have hr := h0
        rw [hv] at h27
        refine calls_valV env mixed Tryz.func8 has8 Tryz.ntmps8 [.agg #[iv sl, iv ro, iv su, .slice go G.length gc, .slice to T.length tc], .slice o S.length c] (by simp) ?_
        refine VC.cutE env mixed 4 1 (fun _ : Unit => [(1, .v (.slice o S.length c)), (2, .ptr 0 0), (6, .v (iv 0))]) (fun _ => [(0, .cells [.v (iv sl), .v (iv ro), .v (iv su), .v (.slice go G.length gc), .v (.slice to T.length tc)] 25)]) (fun _ => ∀ r ∈ S, r.L.length ≤ 10) (fun _ _ => ⟨rfl, rfl⟩) ?_ (fun _ hp => hr hp hv)
        repeat'
         conv => whnf
         first
          | refine zA ?_ | refine zB ?_ | refine zC ?_ | refine zD ?_ | refine zE ?_ | refine zF ?_ | refine zG ?_ | refine zH ?_ | refine zJ ?_ | refine zI ?_ | refine splT ?_ | refine splF ?_ | refine splNot ?_
          | ((first | refine splIn (fun hc => ?_) (fun hc => ?_) | refine splD (fun hc => ?_) (fun hc => ?_) | refine splE (fun hc => ?_) (fun hc => ?_) | refine splNE (fun hc => ?_) (fun hc => ?_)) <;> first | (exfalso; omega) | (exfalso; dsimp only at hc; omega) | skip)
          | ((with_reducible show CallEv _ _ 11 _ _ _ _ _); refine callE (k := 11) (fun β w' hbw => h11 _ hbw) ?_)
          | ((with_reducible show CallEv _ _ 12 _ _ _ _ _); refine callE (k := 12) (fun β w' hbw => h12 w') ?_)
        all_goals first | (exfalso; omega) | skip
        refine loopE (fun k : Nat => [(1, .v (.slice o S.length c)), (2, .ptr 0 0), (5, .v (iv k))]) (fun _ => [(0, .cells [.v (iv sl), .v (iv ro), .v (iv su), .v (.slice go G.length gc), .v (.slice to T.length tc)] 25)]) (fun k => k ≤ S.length ∧ ∀ r ∈ S.take k, r.L.length ≤ 10) (fun k => S.length - k) 0 ⟨Nat.zero_le _, fun r hr => by simp at hr⟩ ⟨rfl, rfl, rfl, trivial⟩ ⟨rfl, trivial⟩ (fun _ => ⟨rfl, rfl⟩) ?_
        intro k ⟨hk, hall⟩
        rcases Nat.lt_or_ge k S.length with hkl | hkl
        · obtain ⟨⟨so, sc, L⟩, hx⟩ : ∃ b, S[k]? = some b := ⟨_, List.getElem?_eq_getElem hkl⟩
          obtain ⟨hS, hSr2⟩ := hT
          obtain ⟨_, ad, rfl, _⟩ := hS.ptr (by omega)
          have e1 := fun (w' : World) hw' => rd_ati (hS.below (w' := w') hw') hx
          have hL := hSr _ (List.mem_of_getElem? hx)
          dsimp only at hL
          by_cases h10 : L.length ≤ 10
          · have hn : ∀ r ∈ S.take (k + 1), r.L.length ≤ 10 := fun r hr => by
              rw [List.take_add_one, hx] at hr
              simp only [Option.toList_some, List.mem_append, List.mem_singleton] at hr
              rcases hr with hr | rfl
              · exact hall r hr
              · exact h10
            repeat'
             conv => whnf
             first
              | refine zA ?_ | refine zB ?_ | refine zC ?_ | refine zD ?_ | refine zE ?_ | refine zF ?_ | refine zG ?_ | refine zH ?_ | refine zJ ?_ | refine zI ?_ | refine splT ?_ | refine splF ?_ | refine splNot ?_
              | ((first | refine splIn (fun hc => ?_) (fun hc => ?_) | refine splD (fun hc => ?_) (fun hc => ?_) | refine splE (fun hc => ?_) (fun hc => ?_) | refine splNE (fun hc => ?_) (fun hc => ?_)) <;> first | (exfalso; omega) | (exfalso; dsimp only at hc; omega) | skip)
              | refine Exists.intro (α := List Value) [.slice so L.length sc] ⟨⟨rfl, fun w' hw' => e1 w' hw'⟩, ?_⟩
            all_goals first | (exfalso; omega) | exact ⟨k + 1, ⟨by omega, hn⟩, by omega, Ent.weak rfl ⟨rfl, rfl, rfl, trivial⟩ ⟨rfl, trivial⟩ fun _ h => h⟩
          · skip
            repeat'
             conv => whnf
             first
              | refine zA ?_ | refine zB ?_ | refine zC ?_ | refine zD ?_ | refine zE ?_ | refine zF ?_ | refine zG ?_ | refine zH ?_ | refine zJ ?_ | refine zI ?_ | refine splT ?_ | refine splF ?_ | refine splNot ?_
              | ((first | refine splIn (fun hc => ?_) (fun hc => ?_) | refine splD (fun hc => ?_) (fun hc => ?_) | refine splE (fun hc => ?_) (fun hc => ?_) | refine splNE (fun hc => ?_) (fun hc => ?_)) <;> first | (exfalso; omega) | (exfalso; dsimp only at hc; omega) | skip)
              | refine Exists.intro (α := List Value) [.slice so L.length sc] ⟨⟨rfl, fun w' hw' => e1 w' hw'⟩, ?_⟩
              | ((with_reducible show CallEv _ _ 12 _ _ _ _ _); refine callE (k := 12) (fun β w' hbw => h12 w') ?_)
            all_goals first | (exfalso; omega) | exact ⟨fun β => rfl, fun w' h => h⟩
        · rw [List.take_of_length_le hkl] at hall
          obtain rfl : k = S.length := by omega
          repeat'
           conv => whnf
           first
            | refine zA ?_ | refine zB ?_ | refine zC ?_ | refine zD ?_ | refine zE ?_ | refine zF ?_ | refine zG ?_ | refine zH ?_ | refine zJ ?_ | refine zI ?_ | refine splT ?_ | refine splF ?_ | refine splNot ?_
            | ((first | refine splIn (fun hc => ?_) (fun hc => ?_) | refine splD (fun hc => ?_) (fun hc => ?_) | refine splE (fun hc => ?_) (fun hc => ?_) | refine splNE (fun hc => ?_) (fun hc => ?_)) <;> first | (exfalso; omega) | (exfalso; dsimp only at hc; omega) | skip)
            | ((with_reducible show CallEv _ _ 14 _ _ _ _ _); refine callF [] (fun y : { y : Sc // y.d = Sc.d ⟨sl, ro, su, go, gc, G, to, tc, T⟩ } => y.1.v) (fun y => St w.heap.size (ScIn y.1)) (fun β w' _ hbw => h14 w' (by repeat (first | exact hbw | replace hbw := hbw.1))) ?_; intro y)
            | ((with_reducible show CallEv _ _ 27 _ _ _ _ _); refine callE (k := 27) (fun β w' hbw => (h27 y) w' (St.now hbw.2)) ?_)
          all_goals first | (exfalso; omega) | exact ⟨rfl, (), hall, Ent.weak rfl ⟨rfl, rfl, rfl, trivial⟩ ⟨rfl, trivial⟩ fun _ h => h.1⟩
    · obtain ⟨sl, ro, su, go, gc, G, to, tc, T⟩ := s
      refine calls_val env mixed Tryz.func8 has8 Tryz.ntmps8 [.agg #[iv sl, iv ro, iv su, .slice go G.length gc, .slice to T.length tc], .slice o S.length c] (by simp) ?_
      repeat'
       conv => whnf
       first
        | refine zA ?_ | refine zB ?_ | refine zC ?_ | refine zD ?_ | refine zE ?_ | refine zF ?_ | refine zG ?_ | refine zH ?_ | refine zJ ?_ | refine zI ?_ | refine splT ?_ | refine splF ?_ | refine splNot ?_
        | ((first | refine splIn (fun hc => ?_) (fun hc => ?_) | refine splD (fun hc => ?_) (fun hc => ?_) | refine splE (fun hc => ?_) (fun hc => ?_) | refine splNE (fun hc => ?_) (fun hc => ?_)) <;> first | (exfalso; omega) | (exfalso; dsimp only at hc; omega) | skip)
        | ((with_reducible show CallEv _ _ 11 _ _ _ _ _); refine callE (k := 11) (fun β w' hbw => h11 _ hbw) ?_)
        | ((with_reducible show CallEv _ _ 12 _ _ _ _ _); refine callE (k := 12) (fun β w' hbw => h12 w') ?_)
      all_goals first | exact ⟨fun β => rfl, fun w' h => h⟩ | (exfalso; omega)

end Go.Proofs.YtkbfcofifhngfaaGreat
