/- RiggingRooms answers true. By JQ.py. -/
import Derived.Test.YtaciigegbgnadaaJP
import Derived.Test.YtaciigegbgnadaaJR
namespace Go.Proofs.Ytaciigegbgnadaa
open Go Tx Go.RowKit
set_option linter.unusedSimpArgs false
set_option linter.unusedVariables false

set_option maxHeartbeats 8000000 in
set_option maxRecDepth 100000 in
theorem RoomsRest (po bo lo : Option Addr) (pn pc bn bc ln lc : Nat) (f0 f1 f2 : Int) (PP : List Int) (BB : List Bm) (LL : List Ld) (b a : Int) (kd : Nat) (w : World) (hX : RigX ⟨po, pn, pc, bo, bn, bc, f0, f1, f2, lo, ln, lc⟩ PP BB LL w) (hkd : kd ≤ 255) (hth : PP.length ≤ 16 ∧ BB.length ≤ 16 ∧ LL.length ≤ 24) (E V : Int) (hE : rmE ⟨po, pn, pc, bo, bn, bc, f0, f1, f2, lo, ln, lc⟩ PP BB LL b a kd = E) (hV : rmV ⟨po, pn, pc, bo, bn, bc, f0, f1, f2, lo, ln, lc⟩ PP BB LL b a kd = V) :
    VC Try.prog (rest 3 body13) ⟨88, [(2, .v (.int .u8 kd)), (3, .ptr 0 0), (4, .ptr 1 0), (7, .v (iv V)), (8, .v (iv E))], [(0, .cells [.v (.slice po pn pc), .v (.slice bo bn bc), .v (iv f0), .v (iv f1), .v (iv f2), .v (.slice lo ln lc)] 48), (1, .cells [.v (iv b), .v (iv a)] 62)], 2, Below w.heap.size w, z0⟩ (endΦ env Try.f13 fun s σ => (∀ β, s.c β = .bool true) ∧ ∀ w', σ.h w' → Below w.heap.size w w') := by
  have h27 := fun (w' : World) (hb : Below w.heap.size w w') => Right_ok ⟨po, pn, pc, bo, bn, bc, f0, f1, f2, lo, ln, lc⟩ PP BB LL w' (hX.below hb)
  have h51 := fun (w' : World) => HasR_ok ⟨po, pn, pc, bo, bn, bc, f0, f1, f2, lo, ln, lc⟩ b a BB.length w' (by have := hX.pn; dsimp only at this ⊢; omega) (by omega)
  have h52 := fun hr hh hk hl (w' : World) (hb : Below w.heap.size w w') => SafeR_ok ⟨po, pn, pc, bo, bn, bc, f0, f1, f2, lo, ln, lc⟩ PP BB LL b a kd 0 w' (hX.below hb) hr hh hk (by omega) hl
  have h53 := fun hr hh hk hl (w' : World) (hb : Below w.heap.size w w') => RoomR_ok ⟨po, pn, pc, bo, bn, bc, f0, f1, f2, lo, ln, lc⟩ PP BB LL b a kd w' (hX.below hb) hr hh hk hl
  have hpn := hX.pn
  have hbn := hX.bn
  have hln := hX.ln
  dsimp only at hpn hbn hln h51
  unfold rmV at hV
  rw [hE] at hV
  unfold rmE at hE
  generalize sfB ⟨po, pn, pc, bo, bn, bc, f0, f1, f2, lo, ln, lc⟩ PP BB LL b a kd = S at *
  clear hX
  subst hpn
  subst hbn
  subst hln
  dsimp only at h27 h52 h53 hE
  refine VC.of env mixed ?_
  cases hr : rigOk f0 f1 f2 PP BB LL with
  | false =>
    rw [hr] at h27
    rw [hr, if_neg (by simp)] at hE
    subst hE
    rw [if_neg (by omega)] at hV
    subst hV
    repeat'
     conv => whnf
     first
      | refine zA ?_ | refine zB ?_ | refine zC ?_ | refine zD ?_ | refine zE ?_ | refine zF ?_ | refine zG ?_ | refine zH ?_ | refine zJ ?_ | refine zI ?_ | refine splT ?_ | refine splF ?_ | refine splNot ?_
      | ((first | refine splIn (fun hc => ?_) (fun hc => ?_) | refine splD (fun hc => ?_) (fun hc => ?_) | refine splE (fun hc => ?_) (fun hc => ?_) | refine splNE (fun hc => ?_) (fun hc => ?_)) <;> first | (exfalso; omega) | (exfalso; dsimp only at hc; omega) | skip)
      | ((with_reducible show CallEv _ _ 27 _ _ _ _ _); refine callE (k := 27) (fun β w' hbw => h27 _ hbw) ?_)
      | ((with_reducible show CallEv _ _ 16 _ _ _ _ _); refine callE (k := 16) (fun β w' hbw => awake_ok _) ?_)
    all_goals first | (exfalso; omega) | exact ⟨fun β => rfl, fun w' h => h⟩
  | true =>
    rw [hr] at h27
    rw [hr, if_pos rfl] at hE
    have h52 := h52 hr
    have h53 := h53 hr
    cases hh : hasB PP.length b a BB.length with
    | false =>
      rw [hh] at h51
      rw [hh, if_neg (by simp)] at hE
      subst hE
      rw [if_neg (by omega)] at hV
      subst hV
      repeat'
       conv => whnf
       first
        | refine zA ?_ | refine zB ?_ | refine zC ?_ | refine zD ?_ | refine zE ?_ | refine zF ?_ | refine zG ?_ | refine zH ?_ | refine zJ ?_ | refine zI ?_ | refine splT ?_ | refine splF ?_ | refine splNot ?_
        | ((first | refine splIn (fun hc => ?_) (fun hc => ?_) | refine splD (fun hc => ?_) (fun hc => ?_) | refine splE (fun hc => ?_) (fun hc => ?_) | refine splNE (fun hc => ?_) (fun hc => ?_)) <;> first | (exfalso; omega) | (exfalso; dsimp only at hc; omega) | skip)
        | ((with_reducible show CallEv _ _ 27 _ _ _ _ _); refine callE (k := 27) (fun β w' hbw => h27 _ hbw) ?_)
        | ((with_reducible show CallEv _ _ 51 _ _ _ _ _); refine callE (k := 51) (fun β w' hbw => h51 _) ?_)
        | ((with_reducible show CallEv _ _ 16 _ _ _ _ _); refine callE (k := 16) (fun β w' hbw => awake_ok _) ?_)
      all_goals first | (exfalso; omega) | exact ⟨fun β => rfl, fun w' h => h⟩
    | true =>
      rw [hh] at h51 hE
      have h52 := h52 hh
      have h53 := h53 hh
      by_cases hk : kd ≤ 2
      case neg =>
        rw [if_neg (fun hc => hk hc.2)] at hE
        subst hE
        rw [if_neg (by omega)] at hV
        subst hV
        repeat'
         conv => whnf
         first
          | refine zA ?_ | refine zB ?_ | refine zC ?_ | refine zD ?_ | refine zE ?_ | refine zF ?_ | refine zG ?_ | refine zH ?_ | refine zJ ?_ | refine zI ?_ | refine splT ?_ | refine splF ?_ | refine splNot ?_
          | ((first | refine splIn (fun hc => ?_) (fun hc => ?_) | refine splD (fun hc => ?_) (fun hc => ?_) | refine splE (fun hc => ?_) (fun hc => ?_) | refine splNE (fun hc => ?_) (fun hc => ?_)) <;> first | (exfalso; omega) | (exfalso; dsimp only at hc; omega) | skip)
          | ((with_reducible show CallEv _ _ 27 _ _ _ _ _); refine callE (k := 27) (fun β w' hbw => h27 _ hbw) ?_)
          | ((with_reducible show CallEv _ _ 51 _ _ _ _ _); refine callE (k := 51) (fun β w' hbw => h51 _) ?_)
          | ((with_reducible show CallEv _ _ 16 _ _ _ _ _); refine callE (k := 16) (fun β w' hbw => awake_ok _) ?_)
        all_goals first | (exfalso; omega) | exact ⟨fun β => rfl, fun w' h => h⟩
      rw [if_pos ⟨rfl, hk⟩] at hE
      by_cases hl : LL.length < 20
      case neg =>
        rw [if_neg hl] at hE
        subst hE
        rw [if_neg (by omega)] at hV
        subst hV
        repeat'
         conv => whnf
         first
          | refine zA ?_ | refine zB ?_ | refine zC ?_ | refine zD ?_ | refine zE ?_ | refine zF ?_ | refine zG ?_ | refine zH ?_ | refine zJ ?_ | refine zI ?_ | refine splT ?_ | refine splF ?_ | refine splNot ?_
          | ((first | refine splIn (fun hc => ?_) (fun hc => ?_) | refine splD (fun hc => ?_) (fun hc => ?_) | refine splE (fun hc => ?_) (fun hc => ?_) | refine splNE (fun hc => ?_) (fun hc => ?_)) <;> first | (exfalso; omega) | (exfalso; dsimp only at hc; omega) | skip)
          | ((with_reducible show CallEv _ _ 27 _ _ _ _ _); refine callE (k := 27) (fun β w' hbw => h27 _ hbw) ?_)
          | ((with_reducible show CallEv _ _ 51 _ _ _ _ _); refine callE (k := 51) (fun β w' hbw => h51 _) ?_)
          | ((with_reducible show CallEv _ _ 16 _ _ _ _ _); refine callE (k := 16) (fun β w' hbw => awake_ok _) ?_)
        all_goals first | (exfalso; omega) | exact ⟨fun β => rfl, fun w' h => h⟩
      rw [if_pos hl] at hE
      have h52 := h52 hk hl
      have h53 := h53 hk hl
      cases hs : S 0 with
      | false =>
        rw [hs] at h52
        rw [hs, if_neg (by simp)] at hE
        subst hE
        rw [if_neg (by omega)] at hV
        subst hV
        repeat'
         conv => whnf
         first
          | refine zA ?_ | refine zB ?_ | refine zC ?_ | refine zD ?_ | refine zE ?_ | refine zF ?_ | refine zG ?_ | refine zH ?_ | refine zJ ?_ | refine zI ?_ | refine splT ?_ | refine splF ?_ | refine splNot ?_
          | ((first | refine splIn (fun hc => ?_) (fun hc => ?_) | refine splD (fun hc => ?_) (fun hc => ?_) | refine splE (fun hc => ?_) (fun hc => ?_) | refine splNE (fun hc => ?_) (fun hc => ?_)) <;> first | (exfalso; omega) | (exfalso; dsimp only at hc; omega) | skip)
          | ((with_reducible show CallEv _ _ 27 _ _ _ _ _); refine callE (k := 27) (fun β w' hbw => h27 _ hbw) ?_)
          | ((with_reducible show CallEv _ _ 51 _ _ _ _ _); refine callE (k := 51) (fun β w' hbw => h51 _) ?_)
          | ((with_reducible show CallEv _ _ 52 _ _ _ _ _); refine callE (k := 52) (fun β w' hbw => h52 _ hbw) ?_)
          | ((with_reducible show CallEv _ _ 16 _ _ _ _ _); refine callE (k := 16) (fun β w' hbw => awake_ok _) ?_)
        all_goals first | (exfalso; omega) | exact ⟨fun β => rfl, fun w' h => h⟩
      | true =>
        rw [hs] at h52
        rw [hs, if_pos rfl] at hE
        subst hE
        rw [if_pos rfl] at hV
        subst hV
        generalize bs S 1000000 0 1000000 = V at *
        repeat'
         conv => whnf
         first
          | refine zA ?_ | refine zB ?_ | refine zC ?_ | refine zD ?_ | refine zE ?_ | refine zF ?_ | refine zG ?_ | refine zH ?_ | refine zJ ?_ | refine zI ?_ | refine splT ?_ | refine splF ?_ | refine splNot ?_
          | ((first | refine splIn (fun hc => ?_) (fun hc => ?_) | refine splD (fun hc => ?_) (fun hc => ?_) | refine splE (fun hc => ?_) (fun hc => ?_) | refine splNE (fun hc => ?_) (fun hc => ?_)) <;> first | (exfalso; omega) | (exfalso; dsimp only at hc; omega) | skip)
          | ((with_reducible show CallEv _ _ 27 _ _ _ _ _); refine callE (k := 27) (fun β w' hbw => h27 _ hbw) ?_)
          | ((with_reducible show CallEv _ _ 51 _ _ _ _ _); refine callE (k := 51) (fun β w' hbw => h51 _) ?_)
          | ((with_reducible show CallEv _ _ 52 _ _ _ _ _); refine callE (k := 52) (fun β w' hbw => h52 _ hbw) ?_)
          | ((with_reducible show CallEv _ _ 53 _ _ _ _ _); refine callE (k := 53) (fun β w' hbw => h53 _ hbw) ?_)
          | ((with_reducible show CallEv _ _ 16 _ _ _ _ _); refine callE (k := 16) (fun β w' hbw => awake_ok _) ?_)
        all_goals first | (exfalso; omega) | exact ⟨fun β => rfl, fun w' h => h⟩

set_option maxHeartbeats 8000000 in
set_option maxRecDepth 100000 in
theorem RiggingRooms_ok (r : Rig) (PP : List Int) (BB : List Bm) (LL : List Ld) (b a : Int) (kd : Nat) (w : World) (hX : RigX r PP BB LL w) (hkd : kd ≤ 255) :
    Calls Try.prog 13 #[r.v, .agg #[iv b, iv a], .int .u8 kd] w fun e w' => e = .returned (.bool true) ∧ Below w.heap.size w w' := by
  have hpn := hX.pn
  have hbn := hX.bn
  have hln := hX.ln
  have pl := hX.pl
  have bl := hX.bl
  have ll := hX.ll
  have h33 := fun (w' : World) => Thin_ok r w' (by omega) (by omega) (by omega)
  have h27 := fun (w' : World) (hb : Below w.heap.size w w') => Right_ok r PP BB LL w' (hX.below hb)
  rw [hpn, hbn, hln] at h33
  cases ht : thB PP.length BB.length LL.length with
  | false =>
    rw [ht] at h33
    obtain ⟨po, pn, pc, bo, bn, bc, f0, f1, f2, lo, ln, lc⟩ := r
    dsimp only at h33 hpn hbn hln
    refine calls_val env mixed Try.func13 has13 Try.ntmps13 [.agg #[.slice po pn pc, .slice bo bn bc, iv f0, iv f1, iv f2, .slice lo ln lc], .agg #[iv b, iv a], .int .u8 kd] (by simp) ?_
    repeat'
     conv => whnf
     first
      | refine zA ?_ | refine zB ?_ | refine zC ?_ | refine zD ?_ | refine zE ?_ | refine zF ?_ | refine zG ?_ | refine zH ?_ | refine zJ ?_ | refine zI ?_ | refine splT ?_ | refine splF ?_ | refine splNot ?_
      | ((first | refine splIn (fun hc => ?_) (fun hc => ?_) | refine splD (fun hc => ?_) (fun hc => ?_) | refine splE (fun hc => ?_) (fun hc => ?_) | refine splNE (fun hc => ?_) (fun hc => ?_)) <;> first | (exfalso; omega) | (exfalso; dsimp only at hc; omega) | skip)
      | ((with_reducible show CallEv _ _ 33 _ _ _ _ _); refine callE (k := 33) (fun β w' hbw => h33 _) ?_)
      | ((with_reducible show CallEv _ _ 16 _ _ _ _ _); refine callE (k := 16) (fun β w' hbw => awake_ok _) ?_)
    all_goals first | (exfalso; omega) | exact ⟨fun β => rfl, fun w' h => h⟩
  | true =>
  rw [ht] at h33
  have hth : PP.length ≤ 16 ∧ BB.length ≤ 16 ∧ LL.length ≤ 24 := by simp [thB] at ht; omega
  by_cases hgo : rigOk r.f0 r.f1 r.f2 PP BB LL = true ∧ 8 < LL.length ∧ LL.length < 20
  case pos =>
    obtain ⟨hr, h8, h20⟩ := hgo
    rw [hr] at h27
    obtain ⟨po, pn, pc, bo, bn, bc, f0, f1, f2, lo, ln, lc⟩ := r
    dsimp only at h33 h27 hpn hbn hln
    subst hln
    refine calls_val env mixed Try.func13 has13 Try.ntmps13 [.agg #[.slice po pn pc, .slice bo bn bc, iv f0, iv f1, iv f2, .slice lo LL.length lc], .agg #[iv b, iv a], .int .u8 kd] (by simp) ?_
    repeat'
     conv => whnf
     first
      | refine zA ?_ | refine zB ?_ | refine zC ?_ | refine zD ?_ | refine zE ?_ | refine zF ?_ | refine zG ?_ | refine zH ?_ | refine zJ ?_ | refine zI ?_ | refine splT ?_ | refine splF ?_ | refine splNot ?_
      | ((first | refine splIn (fun hc => ?_) (fun hc => ?_) | refine splD (fun hc => ?_) (fun hc => ?_) | refine splE (fun hc => ?_) (fun hc => ?_) | refine splNE (fun hc => ?_) (fun hc => ?_)) <;> first | (exfalso; omega) | (exfalso; dsimp only at hc; omega) | skip)
      | ((with_reducible show CallEv _ _ 33 _ _ _ _ _); refine callE (k := 33) (fun β w' hbw => h33 _) ?_)
      | ((with_reducible show CallEv _ _ 27 _ _ _ _ _); refine callE (k := 27) (fun β w' hbw => h27 _ hbw) ?_)
      | ((with_reducible show CallEv _ _ 16 _ _ _ _ _); refine callE (k := 16) (fun β w' hbw => awake_ok _) ?_)
    all_goals first | (exfalso; omega) | exact ⟨fun β => rfl, fun w' h => h⟩
  have hin := hX.rin (by omega) (by omega) (by omega)
  have h49 := fun (y : (Option Addr × Nat) × (Option Addr × Nat) × (Option Addr × Nat)) (hn : LL = [] → y.2.2 = (none, 0)) (w' : World) (h : nrH PP BB LL y w') => Room_nr PP BB LL r.f0 r.f1 r.f2 r ⟨rfl, rfl, rfl⟩ b a kd hkd y w' h hn (by omega) (by omega) (by omega)
  have h30o := fun (p0 : Int) (PP' : List Int) (hp : PP = p0 :: PP') (w' : World) (hb : Below w.heap.size w w') => Rig_own r p0 PP' BB LL w' (by rw [← hp]; exact hin.below hb) (by omega) (by omega)
  have h30n := fun (hp : PP = []) (w' : World) (hb : Below w.heap.size w w') => Rig_own0 r BB LL w' (by rw [← hp]; exact hin.below hb) (by omega) (by omega)
  obtain ⟨E, hE⟩ : ∃ E, rmE r PP BB LL b a kd = E := ⟨_, rfl⟩
  obtain ⟨V, hV⟩ : ∃ V, rmV r PP BB LL b a kd = V := ⟨_, rfl⟩
  rw [hE, hV] at h49
  have hfin : VC Try.prog (rest 3 body13) ⟨88, [(2, .v (.int .u8 kd)), (3, .ptr 0 0), (4, .ptr 1 0), (7, .v (iv V)), (8, .v (iv E))], [(0, .cells [.v (.slice r.po r.pn r.pc), .v (.slice r.bo r.bn r.bc), .v (iv r.f0), .v (iv r.f1), .v (iv r.f2), .v (.slice r.lo r.ln r.lc)] 48), (1, .cells [.v (iv b), .v (iv a)] 62)], 2, Below w.heap.size w, z0⟩ (endΦ env Try.f13 fun s σ => (∀ β, s.c β = .bool true) ∧ ∀ w', σ.h w' → Below w.heap.size w w') :=
    RoomsRest r.po r.bo r.lo r.pn r.pc r.bn r.bc r.ln r.lc r.f0 r.f1 r.f2 PP BB LL b a kd w hX hkd hth E V hE hV
  clear hX hin hE hV
  obtain ⟨po, pn, pc, bo, bn, bc, f0, f1, f2, lo, ln, lc⟩ := r
  dsimp only at h33 h27 hpn hbn hln h49 h30o h30n hfin hgo
  refine calls_valV env mixed Try.func13 has13 Try.ntmps13 [.agg #[.slice po pn pc, .slice bo bn bc, iv f0, iv f1, iv f2, .slice lo ln lc], .agg #[iv b, iv a], .int .u8 kd] (by simp) ?_
  refine VC.cutE env mixed 3 2 (fun _ : Unit => [(2, .v (.int .u8 kd)), (3, .ptr 0 0), (4, .ptr 1 0), (7, .v (iv V)), (8, .v (iv E))]) (fun _ => [(0, .cells [.v (.slice po pn pc), .v (.slice bo bn bc), .v (iv f0), .v (iv f1), .v (iv f2), .v (.slice lo ln lc)] 48), (1, .cells [.v (iv b), .v (iv a)] 62)]) (fun _ => True) (fun _ _ => ⟨rfl, rfl⟩) ?_ (fun _ _ => hfin)
  clear hfin
  subst hln
  cases hr : rigOk f0 f1 f2 PP BB LL with
  | false =>
    rw [hr] at h27
    cases PP with
    | nil =>
      cases BB with
      | nil =>
        cases LL with
        | nil =>
          skip
          repeat'
           conv => whnf
           first
            | refine zA ?_ | refine zB ?_ | refine zC ?_ | refine zD ?_ | refine zE ?_ | refine zF ?_ | refine zG ?_ | refine zH ?_ | refine zJ ?_ | refine zI ?_ | refine splT ?_ | refine splF ?_ | refine splNot ?_
            | ((first | refine splIn (fun hc => ?_) (fun hc => ?_) | refine splD (fun hc => ?_) (fun hc => ?_) | refine splE (fun hc => ?_) (fun hc => ?_) | refine splNE (fun hc => ?_) (fun hc => ?_)) <;> first | (exfalso; omega) | (exfalso; dsimp only at hc; omega) | skip)
            | ((with_reducible show CallEv _ _ 33 _ _ _ _ _); refine callE (k := 33) (fun β w' hbw => h33 _) ?_)
            | ((with_reducible show CallEv _ _ 27 _ _ _ _ _); refine callE (k := 27) (fun β w' hbw => h27 _ hbw) ?_)
            | ((with_reducible show CallEv _ _ 30 _ _ _ _ _); refine callR [2, 3, 4, 5, 6, 7] [] (rigM0 2 ([] : List Bm) ([] : List Ld)) (rigS0 2 ([] : List Bm) ([] : List Ld) f0 f1 f2) rfl (fun i b hi => by simp [oM] at hi) (fun β w' _ hbw => (h30n rfl w' hbw).mono fun e w2 h => mv_gen (nb := 2) (k := 6) rfl (rig0_V 2 _ _ _ _ _) (rig0_m 2 _ _) h) ?_)
            | ((with_reducible show CallEv _ _ 50 _ _ _ _ _); refine callE (k := 50) (fun β w' hbw => place_ok _ _ _) ?_)
            | ((with_reducible show CallEv _ _ 49 _ _ _ _ _); refine callM (k := 49) [] (fun β w' hbk hbw => h49 ((none, 0), (none, 0), (none, 0)) (fun _ => rfl) w' (⟨.inl ⟨rfl, rfl⟩, .inl ⟨rfl, rfl⟩, .inl ⟨rfl, rfl⟩⟩)) ?_)
          all_goals first | (exfalso; omega) | (exfalso; simp only [List.length_cons] at *; omega) | exact ⟨rfl, (), trivial, Ent.weak rfl ⟨rfl, rfl, rfl, rfl, rfl, trivial⟩ ⟨rfl, rfl, trivial⟩ fun _ h => h⟩
        | cons l0 LL =>
          skip
          repeat'
           conv => whnf
           first
            | refine zA ?_ | refine zB ?_ | refine zC ?_ | refine zD ?_ | refine zE ?_ | refine zF ?_ | refine zG ?_ | refine zH ?_ | refine zJ ?_ | refine zI ?_ | refine splT ?_ | refine splF ?_ | refine splNot ?_
            | ((first | refine splIn (fun hc => ?_) (fun hc => ?_) | refine splD (fun hc => ?_) (fun hc => ?_) | refine splE (fun hc => ?_) (fun hc => ?_) | refine splNE (fun hc => ?_) (fun hc => ?_)) <;> first | (exfalso; omega) | (exfalso; dsimp only at hc; omega) | skip)
            | ((with_reducible show CallEv _ _ 33 _ _ _ _ _); refine callE (k := 33) (fun β w' hbw => h33 _) ?_)
            | ((with_reducible show CallEv _ _ 27 _ _ _ _ _); refine callE (k := 27) (fun β w' hbw => h27 _ hbw) ?_)
            | ((with_reducible show CallEv _ _ 30 _ _ _ _ _); refine callR [2, 3, 4, 5, 6, 7] [] (rigM0 2 ([] : List Bm) (l0 :: LL)) (rigS0 2 ([] : List Bm) (l0 :: LL) f0 f1 f2) rfl (fun i b hi => by simp [oM] at hi; obtain ⟨rfl, _⟩ := hi; decide) (fun β w' _ hbw => (h30n rfl w' hbw).mono fun e w2 h => mv_gen (nb := 2) (k := 6) rfl (rig0_V 2 _ _ _ _ _) (rig0_m 2 _ _) h) ?_)
            | ((with_reducible show CallEv _ _ 50 _ _ _ _ _); refine callE (k := 50) (fun β w' hbw => place_ok _ _ _) ?_)
            | ((with_reducible show CallEv _ _ 49 _ _ _ _ _); refine callM (k := 49) [6] (fun β w' hbk hbw => h49 ((none, 0), (none, 0), (some ⟨β 6, 0, none⟩, β 7)) (fun hc => (by cases hc)) w' (⟨.inl ⟨rfl, rfl⟩, .inl ⟨rfl, rfl⟩, Rd.of_owns (sz := 5) (f := Ld.cs) (fun _ => rfl) rfl rfl (hbk 6 (by simp) _ rfl)⟩)) ?_)
          all_goals first | (exfalso; omega) | (exfalso; simp only [List.length_cons] at *; omega) | exact ⟨rfl, (), trivial, Ent.weak rfl ⟨rfl, rfl, rfl, rfl, rfl, trivial⟩ ⟨rfl, rfl, trivial⟩ fun _ h => h⟩
      | cons b0 BB =>
        cases LL with
        | nil =>
          skip
          repeat'
           conv => whnf
           first
            | refine zA ?_ | refine zB ?_ | refine zC ?_ | refine zD ?_ | refine zE ?_ | refine zF ?_ | refine zG ?_ | refine zH ?_ | refine zJ ?_ | refine zI ?_ | refine splT ?_ | refine splF ?_ | refine splNot ?_
            | ((first | refine splIn (fun hc => ?_) (fun hc => ?_) | refine splD (fun hc => ?_) (fun hc => ?_) | refine splE (fun hc => ?_) (fun hc => ?_) | refine splNE (fun hc => ?_) (fun hc => ?_)) <;> first | (exfalso; omega) | (exfalso; dsimp only at hc; omega) | skip)
            | ((with_reducible show CallEv _ _ 33 _ _ _ _ _); refine callE (k := 33) (fun β w' hbw => h33 _) ?_)
            | ((with_reducible show CallEv _ _ 27 _ _ _ _ _); refine callE (k := 27) (fun β w' hbw => h27 _ hbw) ?_)
            | ((with_reducible show CallEv _ _ 30 _ _ _ _ _); refine callR [2, 3, 4, 5, 6, 7] [] (rigM0 2 (b0 :: BB) ([] : List Ld)) (rigS0 2 (b0 :: BB) ([] : List Ld) f0 f1 f2) rfl (fun i b hi => by simp [oM] at hi; obtain ⟨rfl, _⟩ := hi; decide) (fun β w' _ hbw => (h30n rfl w' hbw).mono fun e w2 h => mv_gen (nb := 2) (k := 6) rfl (rig0_V 2 _ _ _ _ _) (rig0_m 2 _ _) h) ?_)
            | ((with_reducible show CallEv _ _ 50 _ _ _ _ _); refine callE (k := 50) (fun β w' hbw => place_ok _ _ _) ?_)
            | ((with_reducible show CallEv _ _ 49 _ _ _ _ _); refine callM (k := 49) [4] (fun β w' hbk hbw => h49 ((none, 0), (some ⟨β 4, 0, none⟩, β 5), (none, 0)) (fun _ => rfl) w' (⟨.inl ⟨rfl, rfl⟩, Rd.of_owns (sz := 8) (f := Bm.cs) (fun _ => rfl) rfl rfl (hbk 4 (by simp) _ rfl), .inl ⟨rfl, rfl⟩⟩)) ?_)
          all_goals first | (exfalso; omega) | (exfalso; simp only [List.length_cons] at *; omega) | exact ⟨rfl, (), trivial, Ent.weak rfl ⟨rfl, rfl, rfl, rfl, rfl, trivial⟩ ⟨rfl, rfl, trivial⟩ fun _ h => h⟩
        | cons l0 LL =>
          skip
          repeat'
           conv => whnf
           first
            | refine zA ?_ | refine zB ?_ | refine zC ?_ | refine zD ?_ | refine zE ?_ | refine zF ?_ | refine zG ?_ | refine zH ?_ | refine zJ ?_ | refine zI ?_ | refine splT ?_ | refine splF ?_ | refine splNot ?_
            | ((first | refine splIn (fun hc => ?_) (fun hc => ?_) | refine splD (fun hc => ?_) (fun hc => ?_) | refine splE (fun hc => ?_) (fun hc => ?_) | refine splNE (fun hc => ?_) (fun hc => ?_)) <;> first | (exfalso; omega) | (exfalso; dsimp only at hc; omega) | skip)
            | ((with_reducible show CallEv _ _ 33 _ _ _ _ _); refine callE (k := 33) (fun β w' hbw => h33 _) ?_)
            | ((with_reducible show CallEv _ _ 27 _ _ _ _ _); refine callE (k := 27) (fun β w' hbw => h27 _ hbw) ?_)
            | ((with_reducible show CallEv _ _ 30 _ _ _ _ _); refine callR [2, 3, 4, 5, 6, 7] [] (rigM0 2 (b0 :: BB) (l0 :: LL)) (rigS0 2 (b0 :: BB) (l0 :: LL) f0 f1 f2) rfl (fun i b hi => by simp [oM] at hi; rcases hi with ⟨rfl, _⟩ | ⟨rfl, _⟩ <;> decide) (fun β w' _ hbw => (h30n rfl w' hbw).mono fun e w2 h => mv_gen (nb := 2) (k := 6) rfl (rig0_V 2 _ _ _ _ _) (rig0_m 2 _ _) h) ?_)
            | ((with_reducible show CallEv _ _ 50 _ _ _ _ _); refine callE (k := 50) (fun β w' hbw => place_ok _ _ _) ?_)
            | ((with_reducible show CallEv _ _ 49 _ _ _ _ _); refine callM (k := 49) [4, 6] (fun β w' hbk hbw => h49 ((none, 0), (some ⟨β 4, 0, none⟩, β 5), (some ⟨β 6, 0, none⟩, β 7)) (fun hc => (by cases hc)) w' (⟨.inl ⟨rfl, rfl⟩, Rd.of_owns (sz := 8) (f := Bm.cs) (fun _ => rfl) rfl rfl (hbk 4 (by simp) _ rfl), Rd.of_owns (sz := 5) (f := Ld.cs) (fun _ => rfl) rfl rfl (hbk 6 (by simp) _ rfl)⟩)) ?_)
          all_goals first | (exfalso; omega) | (exfalso; simp only [List.length_cons] at *; omega) | exact ⟨rfl, (), trivial, Ent.weak rfl ⟨rfl, rfl, rfl, rfl, rfl, trivial⟩ ⟨rfl, rfl, trivial⟩ fun _ h => h⟩
    | cons p0 PP =>
      cases BB with
      | nil =>
        cases LL with
        | nil =>
          skip
          repeat'
           conv => whnf
           first
            | refine zA ?_ | refine zB ?_ | refine zC ?_ | refine zD ?_ | refine zE ?_ | refine zF ?_ | refine zG ?_ | refine zH ?_ | refine zJ ?_ | refine zI ?_ | refine splT ?_ | refine splF ?_ | refine splNot ?_
            | ((first | refine splIn (fun hc => ?_) (fun hc => ?_) | refine splD (fun hc => ?_) (fun hc => ?_) | refine splE (fun hc => ?_) (fun hc => ?_) | refine splNE (fun hc => ?_) (fun hc => ?_)) <;> first | (exfalso; omega) | (exfalso; dsimp only at hc; omega) | skip)
            | ((with_reducible show CallEv _ _ 33 _ _ _ _ _); refine callE (k := 33) (fun β w' hbw => h33 _) ?_)
            | ((with_reducible show CallEv _ _ 27 _ _ _ _ _); refine callE (k := 27) (fun β w' hbw => h27 _ hbw) ?_)
            | ((with_reducible show CallEv _ _ 30 _ _ _ _ _); refine callR [2, 3, 4, 5, 6, 7] [] (rigM 2 (p0 :: PP) ([] : List Bm) ([] : List Ld)) (rigS 2 (PP.length + 1) ([] : List Bm) ([] : List Ld) f0 f1 f2) rfl (fun i b hi => by rcases rigM_mem hi with ⟨rfl, _⟩ | ⟨rfl, _⟩ | ⟨rfl, _⟩ <;> decide) (fun β w' _ hbw => (h30o p0 PP rfl w' hbw).mono fun e w2 h => rig_mv h) ?_)
            | ((with_reducible show CallEv _ _ 50 _ _ _ _ _); refine callE (k := 50) (fun β w' hbw => place_ok _ _ _) ?_)
            | ((with_reducible show CallEv _ _ 49 _ _ _ _ _); refine callM (k := 49) [2] (fun β w' hbk hbw => h49 ((some ⟨β 2, 0, none⟩, β 3), (none, 0), (none, 0)) (fun _ => rfl) w' (⟨Rd.of_owns (sz := 1) (f := iF) (fun _ => rfl) rfl rfl (hbk 2 (by simp) _ rfl), .inl ⟨rfl, rfl⟩, .inl ⟨rfl, rfl⟩⟩)) ?_)
          all_goals first | (exfalso; omega) | (exfalso; simp only [List.length_cons] at *; omega) | exact ⟨rfl, (), trivial, Ent.weak rfl ⟨rfl, rfl, rfl, rfl, rfl, trivial⟩ ⟨rfl, rfl, trivial⟩ fun _ h => h⟩
        | cons l0 LL =>
          skip
          repeat'
           conv => whnf
           first
            | refine zA ?_ | refine zB ?_ | refine zC ?_ | refine zD ?_ | refine zE ?_ | refine zF ?_ | refine zG ?_ | refine zH ?_ | refine zJ ?_ | refine zI ?_ | refine splT ?_ | refine splF ?_ | refine splNot ?_
            | ((first | refine splIn (fun hc => ?_) (fun hc => ?_) | refine splD (fun hc => ?_) (fun hc => ?_) | refine splE (fun hc => ?_) (fun hc => ?_) | refine splNE (fun hc => ?_) (fun hc => ?_)) <;> first | (exfalso; omega) | (exfalso; dsimp only at hc; omega) | skip)
            | ((with_reducible show CallEv _ _ 33 _ _ _ _ _); refine callE (k := 33) (fun β w' hbw => h33 _) ?_)
            | ((with_reducible show CallEv _ _ 27 _ _ _ _ _); refine callE (k := 27) (fun β w' hbw => h27 _ hbw) ?_)
            | ((with_reducible show CallEv _ _ 30 _ _ _ _ _); refine callR [2, 3, 4, 5, 6, 7] [] (rigM 2 (p0 :: PP) ([] : List Bm) (l0 :: LL)) (rigS 2 (PP.length + 1) ([] : List Bm) (l0 :: LL) f0 f1 f2) rfl (fun i b hi => by rcases rigM_mem hi with ⟨rfl, _⟩ | ⟨rfl, _⟩ | ⟨rfl, _⟩ <;> decide) (fun β w' _ hbw => (h30o p0 PP rfl w' hbw).mono fun e w2 h => rig_mv h) ?_)
            | ((with_reducible show CallEv _ _ 50 _ _ _ _ _); refine callE (k := 50) (fun β w' hbw => place_ok _ _ _) ?_)
            | ((with_reducible show CallEv _ _ 49 _ _ _ _ _); refine callM (k := 49) [2, 6] (fun β w' hbk hbw => h49 ((some ⟨β 2, 0, none⟩, β 3), (none, 0), (some ⟨β 6, 0, none⟩, β 7)) (fun hc => (by cases hc)) w' (⟨Rd.of_owns (sz := 1) (f := iF) (fun _ => rfl) rfl rfl (hbk 2 (by simp) _ rfl), .inl ⟨rfl, rfl⟩, Rd.of_owns (sz := 5) (f := Ld.cs) (fun _ => rfl) rfl rfl (hbk 6 (by simp) _ rfl)⟩)) ?_)
          all_goals first | (exfalso; omega) | (exfalso; simp only [List.length_cons] at *; omega) | exact ⟨rfl, (), trivial, Ent.weak rfl ⟨rfl, rfl, rfl, rfl, rfl, trivial⟩ ⟨rfl, rfl, trivial⟩ fun _ h => h⟩
      | cons b0 BB =>
        cases LL with
        | nil =>
          skip
          repeat'
           conv => whnf
           first
            | refine zA ?_ | refine zB ?_ | refine zC ?_ | refine zD ?_ | refine zE ?_ | refine zF ?_ | refine zG ?_ | refine zH ?_ | refine zJ ?_ | refine zI ?_ | refine splT ?_ | refine splF ?_ | refine splNot ?_
            | ((first | refine splIn (fun hc => ?_) (fun hc => ?_) | refine splD (fun hc => ?_) (fun hc => ?_) | refine splE (fun hc => ?_) (fun hc => ?_) | refine splNE (fun hc => ?_) (fun hc => ?_)) <;> first | (exfalso; omega) | (exfalso; dsimp only at hc; omega) | skip)
            | ((with_reducible show CallEv _ _ 33 _ _ _ _ _); refine callE (k := 33) (fun β w' hbw => h33 _) ?_)
            | ((with_reducible show CallEv _ _ 27 _ _ _ _ _); refine callE (k := 27) (fun β w' hbw => h27 _ hbw) ?_)
            | ((with_reducible show CallEv _ _ 30 _ _ _ _ _); refine callR [2, 3, 4, 5, 6, 7] [] (rigM 2 (p0 :: PP) (b0 :: BB) ([] : List Ld)) (rigS 2 (PP.length + 1) (b0 :: BB) ([] : List Ld) f0 f1 f2) rfl (fun i b hi => by rcases rigM_mem hi with ⟨rfl, _⟩ | ⟨rfl, _⟩ | ⟨rfl, _⟩ <;> decide) (fun β w' _ hbw => (h30o p0 PP rfl w' hbw).mono fun e w2 h => rig_mv h) ?_)
            | ((with_reducible show CallEv _ _ 50 _ _ _ _ _); refine callE (k := 50) (fun β w' hbw => place_ok _ _ _) ?_)
            | ((with_reducible show CallEv _ _ 49 _ _ _ _ _); refine callM (k := 49) [2, 4] (fun β w' hbk hbw => h49 ((some ⟨β 2, 0, none⟩, β 3), (some ⟨β 4, 0, none⟩, β 5), (none, 0)) (fun _ => rfl) w' (⟨Rd.of_owns (sz := 1) (f := iF) (fun _ => rfl) rfl rfl (hbk 2 (by simp) _ rfl), Rd.of_owns (sz := 8) (f := Bm.cs) (fun _ => rfl) rfl rfl (hbk 4 (by simp) _ rfl), .inl ⟨rfl, rfl⟩⟩)) ?_)
          all_goals first | (exfalso; omega) | (exfalso; simp only [List.length_cons] at *; omega) | exact ⟨rfl, (), trivial, Ent.weak rfl ⟨rfl, rfl, rfl, rfl, rfl, trivial⟩ ⟨rfl, rfl, trivial⟩ fun _ h => h⟩
        | cons l0 LL =>
          skip
          repeat'
           conv => whnf
           first
            | refine zA ?_ | refine zB ?_ | refine zC ?_ | refine zD ?_ | refine zE ?_ | refine zF ?_ | refine zG ?_ | refine zH ?_ | refine zJ ?_ | refine zI ?_ | refine splT ?_ | refine splF ?_ | refine splNot ?_
            | ((first | refine splIn (fun hc => ?_) (fun hc => ?_) | refine splD (fun hc => ?_) (fun hc => ?_) | refine splE (fun hc => ?_) (fun hc => ?_) | refine splNE (fun hc => ?_) (fun hc => ?_)) <;> first | (exfalso; omega) | (exfalso; dsimp only at hc; omega) | skip)
            | ((with_reducible show CallEv _ _ 33 _ _ _ _ _); refine callE (k := 33) (fun β w' hbw => h33 _) ?_)
            | ((with_reducible show CallEv _ _ 27 _ _ _ _ _); refine callE (k := 27) (fun β w' hbw => h27 _ hbw) ?_)
            | ((with_reducible show CallEv _ _ 30 _ _ _ _ _); refine callR [2, 3, 4, 5, 6, 7] [] (rigM 2 (p0 :: PP) (b0 :: BB) (l0 :: LL)) (rigS 2 (PP.length + 1) (b0 :: BB) (l0 :: LL) f0 f1 f2) rfl (fun i b hi => by rcases rigM_mem hi with ⟨rfl, _⟩ | ⟨rfl, _⟩ | ⟨rfl, _⟩ <;> decide) (fun β w' _ hbw => (h30o p0 PP rfl w' hbw).mono fun e w2 h => rig_mv h) ?_)
            | ((with_reducible show CallEv _ _ 50 _ _ _ _ _); refine callE (k := 50) (fun β w' hbw => place_ok _ _ _) ?_)
            | ((with_reducible show CallEv _ _ 49 _ _ _ _ _); refine callM (k := 49) [2, 4, 6] (fun β w' hbk hbw => h49 ((some ⟨β 2, 0, none⟩, β 3), (some ⟨β 4, 0, none⟩, β 5), (some ⟨β 6, 0, none⟩, β 7)) (fun hc => (by cases hc)) w' (⟨Rd.of_owns (sz := 1) (f := iF) (fun _ => rfl) rfl rfl (hbk 2 (by simp) _ rfl), Rd.of_owns (sz := 8) (f := Bm.cs) (fun _ => rfl) rfl rfl (hbk 4 (by simp) _ rfl), Rd.of_owns (sz := 5) (f := Ld.cs) (fun _ => rfl) rfl rfl (hbk 6 (by simp) _ rfl)⟩)) ?_)
          all_goals first | (exfalso; omega) | (exfalso; simp only [List.length_cons] at *; omega) | exact ⟨rfl, (), trivial, Ent.weak rfl ⟨rfl, rfl, rfl, rfl, rfl, trivial⟩ ⟨rfl, rfl, trivial⟩ fun _ h => h⟩
  | true =>
    rw [hr] at h27
    have h8 : ¬ (8 < LL.length ∧ LL.length < 20) := fun hc => hgo ⟨hr, hc⟩
    cases PP with
    | nil => exact absurd (rigOk_iff.1 hr).1.1 (by simp)
    | cons p0 PP =>
      cases BB with
      | nil =>
        cases LL with
        | nil =>
          skip
          repeat'
           conv => whnf
           first
            | refine zA ?_ | refine zB ?_ | refine zC ?_ | refine zD ?_ | refine zE ?_ | refine zF ?_ | refine zG ?_ | refine zH ?_ | refine zJ ?_ | refine zI ?_ | refine splT ?_ | refine splF ?_ | refine splNot ?_
            | ((first | refine splIn (fun hc => ?_) (fun hc => ?_) | refine splD (fun hc => ?_) (fun hc => ?_) | refine splE (fun hc => ?_) (fun hc => ?_) | refine splNE (fun hc => ?_) (fun hc => ?_)) <;> first | (exfalso; omega) | (exfalso; dsimp only at hc; omega) | skip)
            | ((with_reducible show CallEv _ _ 33 _ _ _ _ _); refine callE (k := 33) (fun β w' hbw => h33 _) ?_)
            | ((with_reducible show CallEv _ _ 27 _ _ _ _ _); refine callE (k := 27) (fun β w' hbw => h27 _ hbw) ?_)
            | ((with_reducible show CallEv _ _ 30 _ _ _ _ _); refine callR [2, 3, 4, 5, 6, 7] [] (rigM 2 (p0 :: PP) ([] : List Bm) ([] : List Ld)) (rigS 2 (PP.length + 1) ([] : List Bm) ([] : List Ld) f0 f1 f2) rfl (fun i b hi => by rcases rigM_mem hi with ⟨rfl, _⟩ | ⟨rfl, _⟩ | ⟨rfl, _⟩ <;> decide) (fun β w' _ hbw => (h30o p0 PP rfl w' hbw).mono fun e w2 h => rig_mv h) ?_)
            | ((with_reducible show CallEv _ _ 50 _ _ _ _ _); refine callE (k := 50) (fun β w' hbw => place_ok _ _ _) ?_)
            | ((with_reducible show CallEv _ _ 49 _ _ _ _ _); refine callM (k := 49) [2] (fun β w' hbk hbw => h49 ((some ⟨β 2, 0, none⟩, β 3), (none, 0), (none, 0)) (fun _ => rfl) w' (⟨Rd.of_owns (sz := 1) (f := iF) (fun _ => rfl) rfl rfl (hbk 2 (by simp) _ rfl), .inl ⟨rfl, rfl⟩, .inl ⟨rfl, rfl⟩⟩)) ?_)
          all_goals first | (exfalso; omega) | (exfalso; simp only [List.length_cons] at *; omega) | exact ⟨rfl, (), trivial, Ent.weak rfl ⟨rfl, rfl, rfl, rfl, rfl, trivial⟩ ⟨rfl, rfl, trivial⟩ fun _ h => h⟩
        | cons l0 LL =>
          skip
          repeat'
           conv => whnf
           first
            | refine zA ?_ | refine zB ?_ | refine zC ?_ | refine zD ?_ | refine zE ?_ | refine zF ?_ | refine zG ?_ | refine zH ?_ | refine zJ ?_ | refine zI ?_ | refine splT ?_ | refine splF ?_ | refine splNot ?_
            | ((first | refine splIn (fun hc => ?_) (fun hc => ?_) | refine splD (fun hc => ?_) (fun hc => ?_) | refine splE (fun hc => ?_) (fun hc => ?_) | refine splNE (fun hc => ?_) (fun hc => ?_)) <;> first | (exfalso; omega) | (exfalso; dsimp only at hc; omega) | skip)
            | ((with_reducible show CallEv _ _ 33 _ _ _ _ _); refine callE (k := 33) (fun β w' hbw => h33 _) ?_)
            | ((with_reducible show CallEv _ _ 27 _ _ _ _ _); refine callE (k := 27) (fun β w' hbw => h27 _ hbw) ?_)
            | ((with_reducible show CallEv _ _ 30 _ _ _ _ _); refine callR [2, 3, 4, 5, 6, 7] [] (rigM 2 (p0 :: PP) ([] : List Bm) (l0 :: LL)) (rigS 2 (PP.length + 1) ([] : List Bm) (l0 :: LL) f0 f1 f2) rfl (fun i b hi => by rcases rigM_mem hi with ⟨rfl, _⟩ | ⟨rfl, _⟩ | ⟨rfl, _⟩ <;> decide) (fun β w' _ hbw => (h30o p0 PP rfl w' hbw).mono fun e w2 h => rig_mv h) ?_)
            | ((with_reducible show CallEv _ _ 50 _ _ _ _ _); refine callE (k := 50) (fun β w' hbw => place_ok _ _ _) ?_)
            | ((with_reducible show CallEv _ _ 49 _ _ _ _ _); refine callM (k := 49) [2, 6] (fun β w' hbk hbw => h49 ((some ⟨β 2, 0, none⟩, β 3), (none, 0), (some ⟨β 6, 0, none⟩, β 7)) (fun hc => (by cases hc)) w' (⟨Rd.of_owns (sz := 1) (f := iF) (fun _ => rfl) rfl rfl (hbk 2 (by simp) _ rfl), .inl ⟨rfl, rfl⟩, Rd.of_owns (sz := 5) (f := Ld.cs) (fun _ => rfl) rfl rfl (hbk 6 (by simp) _ rfl)⟩)) ?_)
          all_goals first | (exfalso; omega) | (exfalso; simp only [List.length_cons] at *; omega) | exact ⟨rfl, (), trivial, Ent.weak rfl ⟨rfl, rfl, rfl, rfl, rfl, trivial⟩ ⟨rfl, rfl, trivial⟩ fun _ h => h⟩
      | cons b0 BB =>
        cases LL with
        | nil =>
          skip
          repeat'
           conv => whnf
           first
            | refine zA ?_ | refine zB ?_ | refine zC ?_ | refine zD ?_ | refine zE ?_ | refine zF ?_ | refine zG ?_ | refine zH ?_ | refine zJ ?_ | refine zI ?_ | refine splT ?_ | refine splF ?_ | refine splNot ?_
            | ((first | refine splIn (fun hc => ?_) (fun hc => ?_) | refine splD (fun hc => ?_) (fun hc => ?_) | refine splE (fun hc => ?_) (fun hc => ?_) | refine splNE (fun hc => ?_) (fun hc => ?_)) <;> first | (exfalso; omega) | (exfalso; dsimp only at hc; omega) | skip)
            | ((with_reducible show CallEv _ _ 33 _ _ _ _ _); refine callE (k := 33) (fun β w' hbw => h33 _) ?_)
            | ((with_reducible show CallEv _ _ 27 _ _ _ _ _); refine callE (k := 27) (fun β w' hbw => h27 _ hbw) ?_)
            | ((with_reducible show CallEv _ _ 30 _ _ _ _ _); refine callR [2, 3, 4, 5, 6, 7] [] (rigM 2 (p0 :: PP) (b0 :: BB) ([] : List Ld)) (rigS 2 (PP.length + 1) (b0 :: BB) ([] : List Ld) f0 f1 f2) rfl (fun i b hi => by rcases rigM_mem hi with ⟨rfl, _⟩ | ⟨rfl, _⟩ | ⟨rfl, _⟩ <;> decide) (fun β w' _ hbw => (h30o p0 PP rfl w' hbw).mono fun e w2 h => rig_mv h) ?_)
            | ((with_reducible show CallEv _ _ 50 _ _ _ _ _); refine callE (k := 50) (fun β w' hbw => place_ok _ _ _) ?_)
            | ((with_reducible show CallEv _ _ 49 _ _ _ _ _); refine callM (k := 49) [2, 4] (fun β w' hbk hbw => h49 ((some ⟨β 2, 0, none⟩, β 3), (some ⟨β 4, 0, none⟩, β 5), (none, 0)) (fun _ => rfl) w' (⟨Rd.of_owns (sz := 1) (f := iF) (fun _ => rfl) rfl rfl (hbk 2 (by simp) _ rfl), Rd.of_owns (sz := 8) (f := Bm.cs) (fun _ => rfl) rfl rfl (hbk 4 (by simp) _ rfl), .inl ⟨rfl, rfl⟩⟩)) ?_)
          all_goals first | (exfalso; omega) | (exfalso; simp only [List.length_cons] at *; omega) | exact ⟨rfl, (), trivial, Ent.weak rfl ⟨rfl, rfl, rfl, rfl, rfl, trivial⟩ ⟨rfl, rfl, trivial⟩ fun _ h => h⟩
        | cons l0 LL =>
          skip
          repeat'
           conv => whnf
           first
            | refine zA ?_ | refine zB ?_ | refine zC ?_ | refine zD ?_ | refine zE ?_ | refine zF ?_ | refine zG ?_ | refine zH ?_ | refine zJ ?_ | refine zI ?_ | refine splT ?_ | refine splF ?_ | refine splNot ?_
            | ((first | refine splIn (fun hc => ?_) (fun hc => ?_) | refine splD (fun hc => ?_) (fun hc => ?_) | refine splE (fun hc => ?_) (fun hc => ?_) | refine splNE (fun hc => ?_) (fun hc => ?_)) <;> first | (exfalso; omega) | (exfalso; dsimp only at hc; omega) | skip)
            | ((with_reducible show CallEv _ _ 33 _ _ _ _ _); refine callE (k := 33) (fun β w' hbw => h33 _) ?_)
            | ((with_reducible show CallEv _ _ 27 _ _ _ _ _); refine callE (k := 27) (fun β w' hbw => h27 _ hbw) ?_)
            | ((with_reducible show CallEv _ _ 30 _ _ _ _ _); refine callR [2, 3, 4, 5, 6, 7] [] (rigM 2 (p0 :: PP) (b0 :: BB) (l0 :: LL)) (rigS 2 (PP.length + 1) (b0 :: BB) (l0 :: LL) f0 f1 f2) rfl (fun i b hi => by rcases rigM_mem hi with ⟨rfl, _⟩ | ⟨rfl, _⟩ | ⟨rfl, _⟩ <;> decide) (fun β w' _ hbw => (h30o p0 PP rfl w' hbw).mono fun e w2 h => rig_mv h) ?_)
            | ((with_reducible show CallEv _ _ 50 _ _ _ _ _); refine callE (k := 50) (fun β w' hbw => place_ok _ _ _) ?_)
            | ((with_reducible show CallEv _ _ 49 _ _ _ _ _); refine callM (k := 49) [2, 4, 6] (fun β w' hbk hbw => h49 ((some ⟨β 2, 0, none⟩, β 3), (some ⟨β 4, 0, none⟩, β 5), (some ⟨β 6, 0, none⟩, β 7)) (fun hc => (by cases hc)) w' (⟨Rd.of_owns (sz := 1) (f := iF) (fun _ => rfl) rfl rfl (hbk 2 (by simp) _ rfl), Rd.of_owns (sz := 8) (f := Bm.cs) (fun _ => rfl) rfl rfl (hbk 4 (by simp) _ rfl), Rd.of_owns (sz := 5) (f := Ld.cs) (fun _ => rfl) rfl rfl (hbk 6 (by simp) _ rfl)⟩)) ?_)
          all_goals first | (exfalso; omega) | (exfalso; simp only [List.length_cons] at *; omega) | exact ⟨rfl, (), trivial, Ent.weak rfl ⟨rfl, rfl, rfl, rfl, rfl, trivial⟩ ⟨rfl, rfl, trivial⟩ fun _ h => h⟩
end Go.Proofs.Ytaciigegbgnadaa
