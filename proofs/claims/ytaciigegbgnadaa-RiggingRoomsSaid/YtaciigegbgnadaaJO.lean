/- RiggingRoom answers true. By JO.py. -/
import Derived.Test.YtaciigegbgnadaaJN
import Derived.Test.YtaciigegbgnadaaIC
import Derived.Test.YtaciigegbgnadaaIG
namespace Go.Proofs.Ytaciigegbgnadaa
open Go Tx Go.RowKit
set_option linter.unusedSimpArgs false
set_option linter.unusedVariables false

/-- A rig out of new memory; without loads their row is nil. -/
theorem Rig_famN (r : Rig) (PP : List Int) (BB : List Bm) (LL : List Ld) (w : World) (h : RigIn r PP BB LL w) (hp : 1 ≤ PP.length) (hbm : BB.length ≤ 1000) (hlm : LL.length ≤ 1000) :
    Calls Try.prog 30 #[r.v] w fun e w' => ∃ y : { y : (Option Addr × Nat) × (Option Addr × Nat) × (Option Addr × Nat) // LL = [] → y.2.2 = (none, 0) }, e = .returned (nrV PP BB LL r.f0 r.f1 r.f2 y.1) ∧ Below w.heap.size w w' ∧ St w.heap.size (nrH PP BB LL y.1) w' := by
  cases PP with
  | nil => simp at hp
  | cons p0 PP =>
  refine (Rig_own r p0 PP BB LL w h hbm hlm).mono fun e w' ⟨γ, h1, h2, h3, _⟩ => ?_
  obtain ⟨m0, m1, m2⟩ := rigM_of 0 (p0 := p0) (PP := PP) (BB := BB) (LL := LL)
  have s0 := own_st (sz := 1) (f := iF) (fun _ => rfl) (h3 _ _ m0).1 rfl (h3 _ _ m0).2
  have s1 := fun h => own_st (sz := 8) (f := Bm.cs) (fun _ => rfl) (h3 _ _ (m1 h)).1 rfl (h3 _ _ (m1 h)).2
  have s2 := fun h => own_st (sz := 5) (f := Ld.cs) (fun _ => rfl) (h3 _ _ (m2 h)).1 rfl (h3 _ _ (m2 h)).2
  rw [h1]
  cases BB with
  | nil =>
    cases LL with
    | nil => exact ⟨⟨((some ⟨γ 0, 0, none⟩, γ 1), (none, 0), (none, 0)), fun _ => rfl⟩, rfl, h2, fun w2 k => ⟨s0 w2 k, .inl ⟨rfl, rfl⟩, .inl ⟨rfl, rfl⟩⟩⟩
    | cons l0 LL => exact ⟨⟨((some ⟨γ 0, 0, none⟩, γ 1), (none, 0), (some ⟨γ 4, 0, none⟩, γ 5)), fun hc => (by cases hc)⟩, rfl, h2, fun w2 k => ⟨s0 w2 k, .inl ⟨rfl, rfl⟩, s2 (by simp) w2 k⟩⟩
  | cons b0 BB =>
    cases LL with
    | nil => exact ⟨⟨((some ⟨γ 0, 0, none⟩, γ 1), (some ⟨γ 2, 0, none⟩, γ 3), (none, 0)), fun _ => rfl⟩, rfl, h2, fun w2 k => ⟨s0 w2 k, s1 (by simp) w2 k, .inl ⟨rfl, rfl⟩⟩⟩
    | cons l0 LL => exact ⟨⟨((some ⟨γ 0, 0, none⟩, γ 1), (some ⟨γ 2, 0, none⟩, γ 3), (some ⟨γ 4, 0, none⟩, γ 5)), fun hc => (by cases hc)⟩, rfl, h2, fun w2 k => ⟨s0 w2 k, s1 (by simp) w2 k, s2 (by simp) w2 k⟩⟩
theorem sfB_fac {r r' : Rig} (h : ∀ k, r.fac k = r'.fac k) (PP : List Int) (BB : List Bm) (LL : List Ld) (b a : Int) (kd : Nat) : sfB r PP BB LL b a kd = sfB r' PP BB LL b a kd := funext fun n => by
  unfold sfB sfW
  rw [ovO_fac h, slO_fac h]
theorem Room_nr (PP : List Int) (BB : List Bm) (LL : List Ld) (f0 f1 f2 : Int) (r : Rig) (hf : r.f0 = f0 ∧ r.f1 = f1 ∧ r.f2 = f2) (b a : Int) (kd : Nat) (hkd : kd ≤ 255) (y : (Option Addr × Nat) × (Option Addr × Nat) × (Option Addr × Nat)) (w : World) (h : nrH PP BB LL y w) (hnil : LL = [] → y.2.2 = (none, 0)) (h1 : PP.length ≤ 1000000) (h2 : BB.length ≤ 1000000) (h3 : LL.length ≤ 1000000) :
    Calls Try.prog 49 #[nrV PP BB LL f0 f1 f2 y, .agg #[iv b, iv a], .int .u8 kd] w fun e w' => e = .returned (.tuple #[iv (rmV r PP BB LL b a kd), iv (rmE r PP BB LL b a kd)]) ∧ Below w.heap.size w w' := by
  obtain ⟨e0, e1, e2⟩ := hf
  have hfa := fac_eq (r := nrR PP BB LL f0 f1 f2 y) (r' := r) e0.symm e1.symm e2.symm
  have q1 : rmE (nrR PP BB LL f0 f1 f2 y) PP BB LL b a kd = rmE r PP BB LL b a kd := by
    unfold rmE
    rw [sfB_fac hfa, e0, e1, e2]
  have q2 : rmV (nrR PP BB LL f0 f1 f2 y) PP BB LL b a kd = rmV r PP BB LL b a kd := by
    unfold rmV
    rw [q1, sfB_fac hfa]
  have := Room_ok (nrR PP BB LL f0 f1 f2 y) PP BB LL b a kd w (h.rin h1 h2 h3) (fun hl => by have := hnil hl; exact ⟨congrArg Prod.fst this, congrArg Prod.snd this⟩) hkd
  rw [q1, q2] at this
  exact this
theorem rmE_cases {r : Rig} {PP : List Int} {BB : List Bm} {LL : List Ld} {b a : Int} {kd : Nat} (hr : rigOk r.f0 r.f1 r.f2 PP BB LL = true) (hl : LL.length ≤ 19) : (rmE r PP BB LL b a kd = 2 ∧ rmV r PP BB LL b a kd = 0) ∨ (rmE r PP BB LL b a kd = 9 ∧ rmV r PP BB LL b a kd = 0) ∨ (rmE r PP BB LL b a kd = 0 ∧ hasB PP.length b a BB.length = true ∧ kd ≤ 2 ∧
    ∃ v : Nat, rmV r PP BB LL b a kd = v ∧ v ≤ 1000000 ∧ sfB r PP BB LL b a kd v = true ∧ (v = 1000000 ∨ sfB r PP BB LL b a kd ((v + 1 : Nat) : Int) = false)) := by
  unfold rmV
  unfold rmE
  rw [if_pos hr]
  by_cases hh : hasB PP.length b a BB.length = true ∧ kd ≤ 2
  · rw [if_pos hh, if_pos (by omega)]
    by_cases hs : sfB r PP BB LL b a kd 0 = true
    · rw [if_pos hs, if_pos rfl]
      have := bs_spec (sfB r PP BB LL b a kd) 1000000 1000000 0 1000000 (by omega) (by omega) (by omega) hs (.inl rfl)
      exact .inr (.inr ⟨rfl, hh.1, hh.2, _, rfl, this.2.1, this.2.2.1, this.2.2.2⟩)
    · rw [if_neg hs, if_neg (by omega)]
      exact .inr (.inl ⟨rfl, rfl⟩)
  · rw [if_neg hh, if_neg (by omega)]
    exact .inl ⟨rfl, rfl⟩
theorem Wk_e {W : Wk} : (W.e true = 7 ↔ W.isNone = true) ∧ (W.e true = 7 ∨ W.e true = 0) := by
  cases W <;> simp [Wk.e]

set_option maxHeartbeats 16000000 in
set_option maxRecDepth 100000 in
theorem RiggingRoom_ok (r : Rig) (PP : List Int) (BB : List Bm) (LL : List Ld) (b a : Int) (kd : Nat) (w : World) (hX : RigX r PP BB LL w) (hkd : kd ≤ 255) :
    Calls Try.prog 14 #[r.v, .agg #[iv b, iv a], .int .u8 kd] w fun e w' => e = .returned (.bool true) ∧ Below w.heap.size w w' := by
  have h27 := fun (w' : World) (hb : Below w.heap.size w w') => Right_ok r PP BB LL w' (hX.below hb)
  have hln := hX.ln
  have hll := hX.ll
  by_cases hgo : rigOk r.f0 r.f1 r.f2 PP BB LL = true ∧ LL.length ≤ 19
  case neg =>
    obtain ⟨po, pn, pc, bo, bn, bc, f0, f1, f2, lo, ln, lc⟩ := r
    dsimp only at hln h27 hgo
    subst hln
    refine calls_val env mixed Try.func14 has14 Try.ntmps14 [.agg #[.slice po pn pc, .slice bo bn bc, iv f0, iv f1, iv f2, .slice lo LL.length lc], .agg #[iv b, iv a], .int .u8 kd] (by simp) ?_
    cases hr : rigOk f0 f1 f2 PP BB LL with
    | false =>
      rw [hr] at h27
      repeat'
       conv => whnf
       first
        | refine zA ?_ | refine zB ?_ | refine zC ?_ | refine zD ?_ | refine zE ?_ | refine zF ?_ | refine zG ?_ | refine zH ?_ | refine zI ?_ | refine splT ?_ | refine splF ?_ | refine splNot ?_
        | ((first | refine splIn (fun hc => ?_) (fun hc => ?_) | refine splD (fun hc => ?_) (fun hc => ?_) | refine splE (fun hc => ?_) (fun hc => ?_) | refine splNE (fun hc => ?_) (fun hc => ?_)) <;> first | (exfalso; omega) | (exfalso; dsimp only at hc; omega) | skip)
        | ((with_reducible show CallEv _ _ 27 _ _ _ _ _); refine callE (k := 27) (fun β w' hbw => h27 _ hbw) ?_)
        | ((with_reducible show CallEv _ _ 16 _ _ _ _ _); refine callE (k := 16) (fun β w' hbw => awake_ok _) ?_)
      all_goals first | (exfalso; omega) | exact ⟨fun β => rfl, fun w' h => h⟩
    | true =>
      rw [hr] at h27
      have hl19 : ¬ LL.length ≤ 19 := fun hc => hgo ⟨hr, hc⟩
      repeat'
       conv => whnf
       first
        | refine zA ?_ | refine zB ?_ | refine zC ?_ | refine zD ?_ | refine zE ?_ | refine zF ?_ | refine zG ?_ | refine zH ?_ | refine zI ?_ | refine splT ?_ | refine splF ?_ | refine splNot ?_
        | ((first | refine splIn (fun hc => ?_) (fun hc => ?_) | refine splD (fun hc => ?_) (fun hc => ?_) | refine splE (fun hc => ?_) (fun hc => ?_) | refine splNE (fun hc => ?_) (fun hc => ?_)) <;> first | (exfalso; omega) | (exfalso; dsimp only at hc; omega) | skip)
        | ((with_reducible show CallEv _ _ 27 _ _ _ _ _); refine callE (k := 27) (fun β w' hbw => h27 _ hbw) ?_)
        | ((with_reducible show CallEv _ _ 16 _ _ _ _ _); refine callE (k := 16) (fun β w' hbw => awake_ok _) ?_)
      all_goals first | (exfalso; omega) | exact ⟨fun β => rfl, fun w' h => h⟩
  obtain ⟨hr, hl19⟩ := hgo
  rw [hr] at h27
  have hri := rigOk_iff.1 hr
  have hm12 := hri.2.2.1
  have hP1 := hri.1
  have hin := hX.rin (by omega) (by omega) (by omega)
  have h30 := fun (w' : World) (hb : Below w.heap.size w w') => Rig_famN r PP BB LL w' (hin.below hb) (by omega) (by omega) (by omega)
  have h49 := fun (y : (Option Addr × Nat) × (Option Addr × Nat) × (Option Addr × Nat)) (hn : LL = [] → y.2.2 = (none, 0)) (w' : World) (h : nrH PP BB LL y w') => Room_nr PP BB LL r.f0 r.f1 r.f2 r ⟨rfl, rfl, rfl⟩ b a kd hkd y w' h hn (by omega) (by omega) (by omega)
  have hcs := rmE_cases (b := b) (a := a) (kd := kd) hr hl19
  generalize rmE r PP BB LL b a kd = E at *
  generalize rmV r PP BB LL b a kd = V at *
  have hok := fun (hh : hasB PP.length b a BB.length = true) (hk : kd ≤ 2) (n : Int) (hn : 0 ≤ n ∧ n ≤ 1000000) => rigOk_more hr hh hk hn (by omega)
  have h41 := fun (lm : Ld) (hr2 : rigOk r.f0 r.f1 r.f2 PP BB (LL ++ [lm]) = true) (y : (Option Addr × Nat) × (Option Addr × Nat) × (Option Addr × Nat)) (w' : World) (h : nrH PP BB (LL ++ [lm]) y w') => Over_nr PP BB (LL ++ [lm]) r.f0 r.f1 r.f2 r (ovO r PP BB (LL ++ [lm]) (frF BB (LL ++ [lm]))) (by rw [hr2, if_pos rfl]) ⟨rfl, rfl, rfl⟩ y w' h (by omega) (by omega) (by rw [List.length_append]; simp; omega)
  have h42 := fun (lm : Ld) (hr2 : rigOk r.f0 r.f1 r.f2 PP BB (LL ++ [lm]) = true) (y : (Option Addr × Nat) × (Option Addr × Nat) × (Option Addr × Nat)) (w' : World) (h : nrH PP BB (LL ++ [lm]) y w') => Slack_nr PP BB (LL ++ [lm]) r.f0 r.f1 r.f2 r (slO r BB (LL ++ [lm]) (frF BB (LL ++ [lm]))) (by rw [hr2, if_pos rfl]) ⟨rfl, rfl, rfl⟩ y w' h (by omega) (by omega) (by rw [List.length_append]; simp; omega)
  have h30o := fun (p0 : Int) (PP' : List Int) (hp : PP = p0 :: PP') (w' : World) (hb : Below w.heap.size w w') => Rig_own r p0 PP' BB LL w' (by rw [← hp]; exact hin.below hb) (by omega) (by omega)
  have hS : ∀ n : Int, sfB r PP BB LL b a kd n = ((ovO r PP BB (LL ++ [⟨b, a, kd, 0, n⟩]) (frF BB (LL ++ [⟨b, a, kd, 0, n⟩]))).isNone && (slO r BB (LL ++ [⟨b, a, kd, 0, n⟩]) (frF BB (LL ++ [⟨b, a, kd, 0, n⟩]))).isNone) := fun n => by unfold sfB sfW; rfl
  clear hX hin
  obtain ⟨po, pn, pc, bo, bn, bc, f0, f1, f2, lo, ln, lc⟩ := r
  dsimp only at hln h27 h30 h49 h41 h42 h30o hok hr
  subst hln
  refine calls_val env mixed Try.func14 has14 Try.ntmps14 [.agg #[.slice po pn pc, .slice bo bn bc, iv f0, iv f1, iv f2, .slice lo LL.length lc], .agg #[iv b, iv a], .int .u8 kd] (by simp) ?_
  rcases hcs with ⟨rfl, rfl⟩ | ⟨rfl, rfl⟩ | ⟨rfl, hh, hk, v, rfl, hv, hs1, hs2⟩
  · skip
    repeat'
     conv => whnf
     first
      | refine zA ?_ | refine zB ?_ | refine zC ?_ | refine zD ?_ | refine zE ?_ | refine zF ?_ | refine zG ?_ | refine zH ?_ | refine zI ?_ | refine splT ?_ | refine splF ?_ | refine splNot ?_
      | ((first | refine splIn (fun hc => ?_) (fun hc => ?_) | refine splD (fun hc => ?_) (fun hc => ?_) | refine splE (fun hc => ?_) (fun hc => ?_) | refine splNE (fun hc => ?_) (fun hc => ?_)) <;> first | (exfalso; omega) | (exfalso; dsimp only at hc; omega) | skip)
      | ((with_reducible show CallEv _ _ 27 _ _ _ _ _); refine callE (k := 27) (fun β w' hbw => h27 _ hbw) ?_)
      | ((with_reducible show CallEv _ _ 30 _ _ _ _ _); refine callF [] (fun y : { y : (Option Addr × Nat) × (Option Addr × Nat) × (Option Addr × Nat) // LL = [] → y.2.2 = (none, 0) } => nrV PP BB LL f0 f1 f2 y.1) (fun y => nrH PP BB LL y.1) (fun β w' _ hbw => h30 w' hbw) ?_; intro y; obtain ⟨⟨⟨v1, v2⟩, ⟨v3, v4⟩, v5, v6⟩, hyn⟩ := y; dsimp only at hyn ⊢)
      | ((with_reducible show CallEv _ _ 50 _ _ _ _ _); refine callE (k := 50) (fun β w' hbw => place_ok _ _ _) ?_)
      | ((with_reducible show CallEv _ _ 49 _ _ _ _ _); refine callE (k := 49) (fun β w' hbw => h49 ((_, _), (_, _), (_, _)) hyn _ hbw.2) ?_)
      | ((with_reducible show CallEv _ _ 16 _ _ _ _ _); refine callE (k := 16) (fun β w' hbw => awake_ok _) ?_)
    all_goals first | (exfalso; omega) | exact ⟨fun β => rfl, fun w' h => h.1⟩
  · skip
    repeat'
     conv => whnf
     first
      | refine zA ?_ | refine zB ?_ | refine zC ?_ | refine zD ?_ | refine zE ?_ | refine zF ?_ | refine zG ?_ | refine zH ?_ | refine zI ?_ | refine splT ?_ | refine splF ?_ | refine splNot ?_
      | ((first | refine splIn (fun hc => ?_) (fun hc => ?_) | refine splD (fun hc => ?_) (fun hc => ?_) | refine splE (fun hc => ?_) (fun hc => ?_) | refine splNE (fun hc => ?_) (fun hc => ?_)) <;> first | (exfalso; omega) | (exfalso; dsimp only at hc; omega) | skip)
      | ((with_reducible show CallEv _ _ 27 _ _ _ _ _); refine callE (k := 27) (fun β w' hbw => h27 _ hbw) ?_)
      | ((with_reducible show CallEv _ _ 30 _ _ _ _ _); refine callF [] (fun y : { y : (Option Addr × Nat) × (Option Addr × Nat) × (Option Addr × Nat) // LL = [] → y.2.2 = (none, 0) } => nrV PP BB LL f0 f1 f2 y.1) (fun y => nrH PP BB LL y.1) (fun β w' _ hbw => h30 w' hbw) ?_; intro y; obtain ⟨⟨⟨v1, v2⟩, ⟨v3, v4⟩, v5, v6⟩, hyn⟩ := y; dsimp only at hyn ⊢)
      | ((with_reducible show CallEv _ _ 50 _ _ _ _ _); refine callE (k := 50) (fun β w' hbw => place_ok _ _ _) ?_)
      | ((with_reducible show CallEv _ _ 49 _ _ _ _ _); refine callE (k := 49) (fun β w' hbw => h49 ((_, _), (_, _), (_, _)) hyn _ hbw.2) ?_)
      | ((with_reducible show CallEv _ _ 16 _ _ _ _ _); refine callE (k := 16) (fun β w' hbw => awake_ok _) ?_)
    all_goals first | (exfalso; omega) | exact ⟨fun β => rfl, fun w' h => h.1⟩
  have hok := hok hh hk
  repeat'
   conv => whnf
   first
    | refine zA ?_ | refine zB ?_ | refine zC ?_ | refine zD ?_ | refine zE ?_ | refine zF ?_ | refine zG ?_ | refine zH ?_ | refine zI ?_ | refine splT ?_ | refine splF ?_ | refine splNot ?_
    | ((first | refine splIn (fun hc => ?_) (fun hc => ?_) | refine splD (fun hc => ?_) (fun hc => ?_) | refine splE (fun hc => ?_) (fun hc => ?_) | refine splNE (fun hc => ?_) (fun hc => ?_)) <;> first | (exfalso; omega) | (exfalso; dsimp only at hc; omega) | skip)
    | ((with_reducible show CallEv _ _ 27 _ _ _ _ _); refine callE (k := 27) (fun β w' hbw => h27 _ hbw) ?_)
    | ((with_reducible show CallEv _ _ 30 _ _ _ _ _); refine callF [] (fun y : { y : (Option Addr × Nat) × (Option Addr × Nat) × (Option Addr × Nat) // LL = [] → y.2.2 = (none, 0) } => nrV PP BB LL f0 f1 f2 y.1) (fun y => nrH PP BB LL y.1) (fun β w' _ hbw => h30 w' hbw) ?_; intro y; obtain ⟨⟨⟨v1, v2⟩, ⟨v3, v4⟩, v5, v6⟩, hyn⟩ := y; dsimp only at hyn ⊢)
    | ((with_reducible show CallEv _ _ 50 _ _ _ _ _); refine callE (k := 50) (fun β w' hbw => place_ok _ _ _) ?_)
    | ((with_reducible show CallEv _ _ 49 _ _ _ _ _); refine callE (k := 49) (fun β w' hbw => h49 ((_, _), (_, _), (_, _)) hyn _ hbw.2) ?_)
  all_goals first | (exfalso; omega) | skip
  clear h49 h30
  refine loopN 3 (fun k : Nat => [(2, .v (.int .u8 kd)), (3, .ptr 0 0), (4, .ptr 1 0), (8, .v (iv v)), (10, .v (iv k))]) (fun _ => [(0, .cells [.v (.slice po pn pc), .v (.slice bo bn bc), .v (iv f0), .v (iv f1), .v (iv f2), .v (.slice lo LL.length lc)] 48), (1, .cells [.v (iv b), .v (iv a)] 62)])
    (fun k => k ≤ 2 ∧ (v : Int) + k ≤ 1000001) (fun k => 2 - k) 0 ⟨by omega, by omega⟩ ⟨rfl, rfl, rfl, rfl, rfl, trivial⟩ ⟨rfl, rfl, trivial⟩ (fun _ _ => ⟨rfl, rfl⟩) ?_
  intro k ⟨hk2, hkv⟩
  by_cases hout : k = 2 ∨ (v : Int) + k = 1000001
  case pos =>
    rcases hout with rfl | hout
    all_goals skip
    repeat'
     conv => whnf
     first
      | refine zA ?_ | refine zB ?_ | refine zC ?_ | refine zD ?_ | refine zE ?_ | refine zF ?_ | refine zG ?_ | refine zH ?_ | refine zI ?_ | refine splT ?_ | refine splF ?_ | refine splNot ?_
      | ((first | refine splIn (fun hc => ?_) (fun hc => ?_) | refine splD (fun hc => ?_) (fun hc => ?_) | refine splE (fun hc => ?_) (fun hc => ?_) | refine splNE (fun hc => ?_) (fun hc => ?_)) <;> first | (exfalso; omega) | (exfalso; dsimp only at hc; omega) | skip)
      | ((with_reducible show CallEv _ _ 16 _ _ _ _ _); refine callE (k := 16) (fun β w' hbw => awake_ok _) ?_)
    all_goals first | (exfalso; omega) | exact ⟨fun β => rfl, fun w' h => h.1⟩
  case neg =>
  obtain ⟨p0, PP', hPe⟩ : ∃ p0 PP', PP = p0 :: PP' := by cases PP with | nil => simp at hP1 | cons p0 PP' => exact ⟨p0, PP', rfl⟩
  have hr2 := hok (v + k) (by omega)
  have hSk := hS (v + k)
  obtain ⟨vk, hvk⟩ : ∃ z : Int, (v : Int) + k = z := ⟨_, rfl⟩
  have hkk : (k = 0 ∧ sfB ⟨po, pn, pc, bo, bn, bc, f0, f1, f2, lo, LL.length, lc⟩ PP BB LL b a kd (v + k) = true) ∨ (k = 1 ∧ sfB ⟨po, pn, pc, bo, bn, bc, f0, f1, f2, lo, LL.length, lc⟩ PP BB LL b a kd (v + k) = false) := by
    obtain rfl | rfl : k = 0 ∨ k = 1 := by omega
    · exact .inl ⟨rfl, by rw [Int.natCast_zero, Int.add_zero]; exact hs1⟩
    · exact .inr ⟨rfl, hs2.resolve_left (by omega)⟩
  rw [hvk] at hr2 hSk hkk
  obtain ⟨lm, hlm⟩ : ∃ lm : Ld, (⟨b, a, kd, 0, vk⟩ : Ld) = lm := ⟨_, rfl⟩
  have hfx : ∀ L : List Ld, L.flatMap Ld.cs ++ [iv b, iv a, .int .u8 kd, iv 0, iv vk] = (L ++ [lm]).flatMap Ld.cs := fun L => by rw [← hlm, List.flatMap_append]; simp
  have hfn : [iv b, iv a, .int .u8 kd, iv 0, iv vk] = ([lm] : List Ld).flatMap Ld.cs := by rw [← hlm]; simp
  rw [hlm] at hr2 hSk
  have h41a := h41 lm hr2
  have h42a := h42 lm hr2
  clear h41 h42
  have h30p := h30o p0 PP' hPe
  clear h30o
  rw [hr2] at h41a h42a
  obtain ⟨q1, q2⟩ := Wk_e (W := ovO ⟨po, pn, pc, bo, bn, bc, f0, f1, f2, lo, LL.length, lc⟩ PP BB (LL ++ [lm]) (frF BB (LL ++ [lm])))
  obtain ⟨q3, q4⟩ := Wk_e (W := slO ⟨po, pn, pc, bo, bn, bc, f0, f1, f2, lo, LL.length, lc⟩ BB (LL ++ [lm]) (frF BB (LL ++ [lm])))
  rw [hSk] at hkk
  clear hSk hS hok hs1 hs2 hr2
  generalize ovO ⟨po, pn, pc, bo, bn, bc, f0, f1, f2, lo, LL.length, lc⟩ PP BB (LL ++ [lm]) (frF BB (LL ++ [lm])) = W1 at *
  generalize slO ⟨po, pn, pc, bo, bn, bc, f0, f1, f2, lo, LL.length, lc⟩ BB (LL ++ [lm]) (frF BB (LL ++ [lm])) = W2 at *
  have hE : (k = 0 ∧ Wk.e true W1 = 7 ∧ Wk.e true W2 = 7) ∨ (k = 1 ∧ (Wk.e true W1 = 0 ∨ Wk.e true W2 = 0)) := by
    rcases hkk with ⟨rfl, h⟩ | ⟨rfl, h⟩
    · rw [Bool.and_eq_true] at h
      exact .inl ⟨rfl, q1.2 h.1, q3.2 h.2⟩
    · refine .inr ⟨rfl, ?_⟩
      by_cases h1 : W1.isNone = true
      · rw [h1, Bool.true_and] at h
        exact .inr (q4.resolve_left fun hc => by rw [q3.1 hc] at h; cases h)
      · exact .inl (q2.resolve_left fun hc => h1 (q1.1 hc))
  clear hkk q1 q2 q3 q4
  generalize Wk.e true W1 = E1 at *
  generalize Wk.e true W2 = E2 at *
  generalize Wk.b W1 = B1 at *
  generalize Wk.a W1 = A1 at *
  generalize Wk.b W2 = B2 at *
  generalize Wk.a W2 = A2 at *
  generalize Wk.pl ⟨po, pn, pc, bo, bn, bc, f0, f1, f2, lo, LL.length, lc⟩ (LL ++ [lm]) true W1 = P1 at *
  generalize Wk.pl ⟨po, pn, pc, bo, bn, bc, f0, f1, f2, lo, LL.length, lc⟩ (LL ++ [lm]) false W2 = P2 at *
  subst hPe
  cases BB with
  | nil =>
    cases LL with
    | nil =>
      simp only [nrV, List.length_append, List.length_cons, List.length_nil] at h41a h42a
      
      repeat'
       conv => whnf
       first
        | refine zA ?_ | refine zB ?_ | refine zC ?_ | refine zD ?_ | refine zE ?_ | refine zF ?_ | refine zG ?_ | refine zH ?_ | refine zI ?_ | refine splT ?_ | refine splF ?_ | refine splNot ?_
        | ((first | refine splIn (fun hc => ?_) (fun hc => ?_) | refine splD (fun hc => ?_) (fun hc => ?_) | refine splE (fun hc => ?_) (fun hc => ?_) | refine splNE (fun hc => ?_) (fun hc => ?_)) <;> first | (exfalso; omega) | (exfalso; dsimp only at hc; omega) | skip)
        | ((with_reducible show CallEv _ _ 30 _ _ _ _ _); refine callR [3, 4, 5, 6, 7, 8] [] (rigM 3 (p0 :: PP') ([] : List Bm) ([] : List Ld)) (rigS 3 (PP'.length + 1) ([] : List Bm) ([] : List Ld) f0 f1 f2) rfl (fun i b hi => by rcases rigM_mem hi with ⟨rfl, _⟩ | ⟨rfl, _⟩ | ⟨rfl, _⟩ <;> decide) (fun β w' _ hbw => (h30p w' hbw.1).mono fun e w2 h => rig_mv h) ?_)
        | ((with_reducible show CallEv _ _ 50 _ _ _ _ _); refine callE (k := 50) (fun β w' hbw => place_ok _ _ _) ?_)
        | rw [hvk]
        | ((with_reducible show CallEv _ _ 41 _ _ _ _ _); refine callF [3, 11] (fun z : Option Addr × Nat => .tuple #[.agg #[iv B1, iv A1], sV P1.length z, iv E1]) (fun z => Rd 1 iF (sV P1.length z) P1) (fun β w' hbk hbw => h41a ((some ⟨β 3, 0, none⟩, β 4), (none, 0), (some ⟨β 11, 0, none⟩, β 12)) w' (⟨Rd.of_owns (sz := 1) (f := iF) (fun _ => rfl) rfl rfl (hbk 3 (by simp) _ rfl), .inl ⟨rfl, rfl⟩, Rd.of_owns (sz := 5) (f := Ld.cs) (fun _ => rfl) (hfn) (by simp) (hbk 11 (by simp) _ rfl)⟩)) ?_; intro z; obtain ⟨z1, z2⟩ := z; dsimp only)
        | ((with_reducible show CallEv _ _ 42 _ _ _ _ _); refine callF [3, 11] (fun z : Option Addr × Nat => .tuple #[.agg #[iv B2, iv A2], sV P2.length z, iv E2]) (fun z => Rd 1 iF (sV P2.length z) P2) (fun β w' hbk hbw => h42a ((some ⟨β 3, 0, none⟩, β 4), (none, 0), (some ⟨β 11, 0, none⟩, β 12)) w' (⟨Rd.of_owns (sz := 1) (f := iF) (fun _ => rfl) rfl rfl (hbk 3 (by simp) _ rfl), .inl ⟨rfl, rfl⟩, Rd.of_owns (sz := 5) (f := Ld.cs) (fun _ => rfl) (hfn) (by simp) (hbk 11 (by simp) _ rfl)⟩)) ?_; intro z; obtain ⟨x1, x2⟩ := z; dsimp only)
      all_goals first | (exfalso; omega) | exact ⟨k + 1, ⟨by omega, by omega⟩, by omega, Ent.weak rfl ⟨rfl, rfl, rfl, rfl, rfl, trivial⟩ ⟨rfl, rfl, trivial⟩ fun _ h => h.1.1⟩
    | cons l0 LL =>
      simp only [nrV, List.length_append, List.length_cons, List.length_nil] at h41a h42a
      simp only [List.length_cons] at hl19
      repeat'
       conv => whnf
       first
        | refine zA ?_ | refine zB ?_ | refine zC ?_ | refine zD ?_ | refine zE ?_ | refine zF ?_ | refine zG ?_ | refine zH ?_ | refine zI ?_ | refine splT ?_ | refine splF ?_ | refine splNot ?_
        | ((first | refine splIn (fun hc => ?_) (fun hc => ?_) | refine splD (fun hc => ?_) (fun hc => ?_) | refine splE (fun hc => ?_) (fun hc => ?_) | refine splNE (fun hc => ?_) (fun hc => ?_)) <;> first | (exfalso; omega) | (exfalso; dsimp only at hc; omega) | skip)
        | ((with_reducible show CallEv _ _ 30 _ _ _ _ _); refine callR [3, 4, 5, 6, 7, 8] [] (rigM 3 (p0 :: PP') ([] : List Bm) (l0 :: LL)) (rigS 3 (PP'.length + 1) ([] : List Bm) (l0 :: LL) f0 f1 f2) rfl (fun i b hi => by rcases rigM_mem hi with ⟨rfl, _⟩ | ⟨rfl, _⟩ | ⟨rfl, _⟩ <;> decide) (fun β w' _ hbw => (h30p w' hbw.1).mono fun e w2 h => rig_mv h) ?_)
        | ((with_reducible show CallEv _ _ 50 _ _ _ _ _); refine callE (k := 50) (fun β w' hbw => place_ok _ _ _) ?_)
        | rw [hvk]
        | ((with_reducible show CallEv _ _ 41 _ _ _ _ _); refine callF [3, 11] (fun z : Option Addr × Nat => .tuple #[.agg #[iv B1, iv A1], sV P1.length z, iv E1]) (fun z => Rd 1 iF (sV P1.length z) P1) (fun β w' hbk hbw => h41a ((some ⟨β 3, 0, none⟩, β 4), (none, 0), (some ⟨β 11, 0, none⟩, β 12)) w' (⟨Rd.of_owns (sz := 1) (f := iF) (fun _ => rfl) rfl rfl (hbk 3 (by simp) _ rfl), .inl ⟨rfl, rfl⟩, Rd.of_owns (sz := 5) (f := Ld.cs) (fun _ => rfl) (hfx _) (by simp) (by rw [show (l0 :: LL ++ [lm]).length = LL.length + 1 + 1 from by simp]; exact hbk 11 (by simp) _ rfl)⟩)) ?_; intro z; obtain ⟨z1, z2⟩ := z; dsimp only)
        | ((with_reducible show CallEv _ _ 42 _ _ _ _ _); refine callF [3, 11] (fun z : Option Addr × Nat => .tuple #[.agg #[iv B2, iv A2], sV P2.length z, iv E2]) (fun z => Rd 1 iF (sV P2.length z) P2) (fun β w' hbk hbw => h42a ((some ⟨β 3, 0, none⟩, β 4), (none, 0), (some ⟨β 11, 0, none⟩, β 12)) w' (⟨Rd.of_owns (sz := 1) (f := iF) (fun _ => rfl) rfl rfl (hbk 3 (by simp) _ rfl), .inl ⟨rfl, rfl⟩, Rd.of_owns (sz := 5) (f := Ld.cs) (fun _ => rfl) (hfx _) (by simp) (by rw [show (l0 :: LL ++ [lm]).length = LL.length + 1 + 1 from by simp]; exact hbk 11 (by simp) _ rfl)⟩)) ?_; intro z; obtain ⟨x1, x2⟩ := z; dsimp only)
      all_goals first | (exfalso; omega) | exact ⟨k + 1, ⟨by omega, by omega⟩, by omega, Ent.weak rfl ⟨rfl, rfl, rfl, rfl, rfl, trivial⟩ ⟨rfl, rfl, trivial⟩ fun _ h => h.1.1⟩
  | cons b0 BB =>
    cases LL with
    | nil =>
      simp only [nrV, List.length_append, List.length_cons, List.length_nil] at h41a h42a
      
      repeat'
       conv => whnf
       first
        | refine zA ?_ | refine zB ?_ | refine zC ?_ | refine zD ?_ | refine zE ?_ | refine zF ?_ | refine zG ?_ | refine zH ?_ | refine zI ?_ | refine splT ?_ | refine splF ?_ | refine splNot ?_
        | ((first | refine splIn (fun hc => ?_) (fun hc => ?_) | refine splD (fun hc => ?_) (fun hc => ?_) | refine splE (fun hc => ?_) (fun hc => ?_) | refine splNE (fun hc => ?_) (fun hc => ?_)) <;> first | (exfalso; omega) | (exfalso; dsimp only at hc; omega) | skip)
        | ((with_reducible show CallEv _ _ 30 _ _ _ _ _); refine callR [3, 4, 5, 6, 7, 8] [] (rigM 3 (p0 :: PP') (b0 :: BB) ([] : List Ld)) (rigS 3 (PP'.length + 1) (b0 :: BB) ([] : List Ld) f0 f1 f2) rfl (fun i b hi => by rcases rigM_mem hi with ⟨rfl, _⟩ | ⟨rfl, _⟩ | ⟨rfl, _⟩ <;> decide) (fun β w' _ hbw => (h30p w' hbw.1).mono fun e w2 h => rig_mv h) ?_)
        | ((with_reducible show CallEv _ _ 50 _ _ _ _ _); refine callE (k := 50) (fun β w' hbw => place_ok _ _ _) ?_)
        | rw [hvk]
        | ((with_reducible show CallEv _ _ 41 _ _ _ _ _); refine callF [3, 5, 11] (fun z : Option Addr × Nat => .tuple #[.agg #[iv B1, iv A1], sV P1.length z, iv E1]) (fun z => Rd 1 iF (sV P1.length z) P1) (fun β w' hbk hbw => h41a ((some ⟨β 3, 0, none⟩, β 4), (some ⟨β 5, 0, none⟩, β 6), (some ⟨β 11, 0, none⟩, β 12)) w' (⟨Rd.of_owns (sz := 1) (f := iF) (fun _ => rfl) rfl rfl (hbk 3 (by simp) _ rfl), Rd.of_owns (sz := 8) (f := Bm.cs) (fun _ => rfl) rfl rfl (hbk 5 (by simp) _ rfl), Rd.of_owns (sz := 5) (f := Ld.cs) (fun _ => rfl) (hfn) (by simp) (hbk 11 (by simp) _ rfl)⟩)) ?_; intro z; obtain ⟨z1, z2⟩ := z; dsimp only)
        | ((with_reducible show CallEv _ _ 42 _ _ _ _ _); refine callF [3, 5, 11] (fun z : Option Addr × Nat => .tuple #[.agg #[iv B2, iv A2], sV P2.length z, iv E2]) (fun z => Rd 1 iF (sV P2.length z) P2) (fun β w' hbk hbw => h42a ((some ⟨β 3, 0, none⟩, β 4), (some ⟨β 5, 0, none⟩, β 6), (some ⟨β 11, 0, none⟩, β 12)) w' (⟨Rd.of_owns (sz := 1) (f := iF) (fun _ => rfl) rfl rfl (hbk 3 (by simp) _ rfl), Rd.of_owns (sz := 8) (f := Bm.cs) (fun _ => rfl) rfl rfl (hbk 5 (by simp) _ rfl), Rd.of_owns (sz := 5) (f := Ld.cs) (fun _ => rfl) (hfn) (by simp) (hbk 11 (by simp) _ rfl)⟩)) ?_; intro z; obtain ⟨x1, x2⟩ := z; dsimp only)
      all_goals first | (exfalso; omega) | exact ⟨k + 1, ⟨by omega, by omega⟩, by omega, Ent.weak rfl ⟨rfl, rfl, rfl, rfl, rfl, trivial⟩ ⟨rfl, rfl, trivial⟩ fun _ h => h.1.1⟩
    | cons l0 LL =>
      simp only [nrV, List.length_append, List.length_cons, List.length_nil] at h41a h42a
      simp only [List.length_cons] at hl19
      repeat'
       conv => whnf
       first
        | refine zA ?_ | refine zB ?_ | refine zC ?_ | refine zD ?_ | refine zE ?_ | refine zF ?_ | refine zG ?_ | refine zH ?_ | refine zI ?_ | refine splT ?_ | refine splF ?_ | refine splNot ?_
        | ((first | refine splIn (fun hc => ?_) (fun hc => ?_) | refine splD (fun hc => ?_) (fun hc => ?_) | refine splE (fun hc => ?_) (fun hc => ?_) | refine splNE (fun hc => ?_) (fun hc => ?_)) <;> first | (exfalso; omega) | (exfalso; dsimp only at hc; omega) | skip)
        | ((with_reducible show CallEv _ _ 30 _ _ _ _ _); refine callR [3, 4, 5, 6, 7, 8] [] (rigM 3 (p0 :: PP') (b0 :: BB) (l0 :: LL)) (rigS 3 (PP'.length + 1) (b0 :: BB) (l0 :: LL) f0 f1 f2) rfl (fun i b hi => by rcases rigM_mem hi with ⟨rfl, _⟩ | ⟨rfl, _⟩ | ⟨rfl, _⟩ <;> decide) (fun β w' _ hbw => (h30p w' hbw.1).mono fun e w2 h => rig_mv h) ?_)
        | ((with_reducible show CallEv _ _ 50 _ _ _ _ _); refine callE (k := 50) (fun β w' hbw => place_ok _ _ _) ?_)
        | rw [hvk]
        | ((with_reducible show CallEv _ _ 41 _ _ _ _ _); refine callF [3, 5, 11] (fun z : Option Addr × Nat => .tuple #[.agg #[iv B1, iv A1], sV P1.length z, iv E1]) (fun z => Rd 1 iF (sV P1.length z) P1) (fun β w' hbk hbw => h41a ((some ⟨β 3, 0, none⟩, β 4), (some ⟨β 5, 0, none⟩, β 6), (some ⟨β 11, 0, none⟩, β 12)) w' (⟨Rd.of_owns (sz := 1) (f := iF) (fun _ => rfl) rfl rfl (hbk 3 (by simp) _ rfl), Rd.of_owns (sz := 8) (f := Bm.cs) (fun _ => rfl) rfl rfl (hbk 5 (by simp) _ rfl), Rd.of_owns (sz := 5) (f := Ld.cs) (fun _ => rfl) (hfx _) (by simp) (by rw [show (l0 :: LL ++ [lm]).length = LL.length + 1 + 1 from by simp]; exact hbk 11 (by simp) _ rfl)⟩)) ?_; intro z; obtain ⟨z1, z2⟩ := z; dsimp only)
        | ((with_reducible show CallEv _ _ 42 _ _ _ _ _); refine callF [3, 5, 11] (fun z : Option Addr × Nat => .tuple #[.agg #[iv B2, iv A2], sV P2.length z, iv E2]) (fun z => Rd 1 iF (sV P2.length z) P2) (fun β w' hbk hbw => h42a ((some ⟨β 3, 0, none⟩, β 4), (some ⟨β 5, 0, none⟩, β 6), (some ⟨β 11, 0, none⟩, β 12)) w' (⟨Rd.of_owns (sz := 1) (f := iF) (fun _ => rfl) rfl rfl (hbk 3 (by simp) _ rfl), Rd.of_owns (sz := 8) (f := Bm.cs) (fun _ => rfl) rfl rfl (hbk 5 (by simp) _ rfl), Rd.of_owns (sz := 5) (f := Ld.cs) (fun _ => rfl) (hfx _) (by simp) (by rw [show (l0 :: LL ++ [lm]).length = LL.length + 1 + 1 from by simp]; exact hbk 11 (by simp) _ rfl)⟩)) ?_; intro z; obtain ⟨x1, x2⟩ := z; dsimp only)
      all_goals first | (exfalso; omega) | exact ⟨k + 1, ⟨by omega, by omega⟩, by omega, Ent.weak rfl ⟨rfl, rfl, rfl, rfl, rfl, trivial⟩ ⟨rfl, rfl, trivial⟩ fun _ h => h.1.1⟩
end Go.Proofs.Ytaciigegbgnadaa
