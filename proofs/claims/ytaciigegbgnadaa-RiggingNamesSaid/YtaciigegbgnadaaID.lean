/- The reference: whether a rig is right: what Right returns. -/
import Derived.Test.YtaciigegbgnadaaIC
namespace Go.Proofs.Ytaciigegbgnadaa
open Go Tx Go.RowKit
set_option linter.unusedSimpArgs false
set_option linter.unusedVariables false

set_option maxHeartbeats 8000000 in
set_option maxRecDepth 100000 in
theorem Right_ok (r : Rig) (PP : List Int) (BB : List Bm) (LL : List Ld) (w : World) (h : RigX r PP BB LL w) :
    Calls Try.prog 27 #[r.v] w fun e w' => e = .returned (.bool (rigOk r.f0 r.f1 r.f2 PP BB LL)) ∧ Below w.heap.size w w' := by
  have hDp := fun (k : Nat) (b : Bm) (w' : World) (hb' : Below w.heap.size w w') (hm : BB.length ≤ 12) (hb : BB[k]? = some b) (hR : bmsR r.pn BB k) (h1 : hasB r.pn b.ab b.aa k = true) (h2 : hasB r.pn b.bb b.ba k = true) => Depth_ok r PP BB LL BB.length k (List.getElem?_eq_some_iff.1 hb).1 w' b (h.below hb') (by omega) hb hR h1 h2
  obtain ⟨po, pn, pc, bo, bn, bc, f0, f1, f2, lo, ln, lc⟩ := r
  obtain ⟨hP, hB, hL, rfl, rfl, rfl, l1, l2, l3, iP, iB, iL, i0, i1, i2⟩ := h
  dsimp only at hP hB hL l1 l2 l3 hDp i0 i1 i2 ⊢
  refine calls_val env mixed Try.func27 has27 Try.ntmps27 [.agg #[.slice po PP.length pc, .slice bo BB.length bc, iv f0, iv f1, iv f2, .slice lo LL.length lc]] (by simp) ?_
  have hF : rigOk f0 f1 f2 PP BB LL = false → false = rigOk f0 f1 f2 PP BB LL := fun h => h.symm
  repeat'
   conv => whnf
   first
    | refine zA ?_ | refine zB ?_ | refine zC ?_ | refine zD ?_ | refine zE ?_ | refine zF ?_ | refine zG ?_ | refine zH ?_ | refine zI ?_ | refine splT ?_ | refine splF ?_ | refine splNot ?_
    | ((first | refine splIn (fun hc => ?_) (fun hc => ?_) | refine splD (fun hc => ?_) (fun hc => ?_) | refine splE (fun hc => ?_) (fun hc => ?_) | refine splNE (fun hc => ?_) (fun hc => ?_)) <;> first | (exfalso; omega) | (exfalso; dsimp only at hc; omega) | skip)
    | ((with_reducible show CallEv _ _ 23 _ _ _ _ _); refine callE (k := 23) (fun β w' hbw => In_ok _ _ _ _) ?_)
  all_goals first | exact ⟨fun β => congrArg Value.bool (hF (by rw [Bool.eq_false_iff]; intro hc; rw [rigOk_iff] at hc; omega)), fun w' h => h⟩ | skip
  have b12 : BB.length ≤ 12 := by omega
  have l20 : LL.length ≤ 20 := by omega
  refine loopN 1 (fun k : Nat => [(1, .ptr 0 0), (3, .v (iv k))]) (fun _ => [(0, .cells [.v (.slice po PP.length pc), .v (.slice bo BB.length bc), .v (iv f0), .v (iv f1), .v (iv f2), .v (.slice lo LL.length lc)] 48)])
    (fun k => k ≤ PP.length ∧ (PP.take k).all (fun n => inB n 0 1000000) = true) (fun k => PP.length - k) 0 ⟨Nat.zero_le _, rfl⟩ ⟨rfl, rfl, trivial⟩ ⟨rfl, trivial⟩ (fun _ _ => ⟨rfl, rfl⟩) ?_
  intro k ⟨hk, hall⟩
  rcases Nat.lt_or_ge k PP.length with hkl | hkl
  · obtain ⟨n, hb⟩ : ∃ b, PP[k]? = some b := ⟨_, List.getElem?_eq_getElem hkl⟩
    obtain ⟨_, ad, rfl, _⟩ := hP.ptr (by omega)
    have ht : (PP.take (k + 1)).all (fun n => inB n 0 1000000) = inB n 0 1000000 := by rw [List.take_add_one, hb]; simp [hall]
    have e0 := fun (w' : World) hw' => rd_ati (hP.below (w' := w') hw') hb
    have hno : inB n 0 1000000 = false → rigOk f0 f1 f2 PP BB LL = false := fun h => by
      rw [Bool.eq_false_iff]; intro hc; rw [rigOk_iff, List.all_eq_true (l := PP)] at hc
      rw [hc.2.1 n (List.mem_of_getElem? hb)] at h; cases h
    repeat'
     conv => whnf
     first
      | refine zA ?_ | refine zB ?_ | refine zC ?_ | refine zD ?_ | refine zE ?_ | refine zF ?_ | refine zG ?_ | refine zH ?_ | refine zI ?_ | refine splT ?_ | refine splF ?_ | refine splNot ?_
      | ((first | refine splIn (fun hc => ?_) (fun hc => ?_) | refine splD (fun hc => ?_) (fun hc => ?_) | refine splE (fun hc => ?_) (fun hc => ?_) | refine splNE (fun hc => ?_) (fun hc => ?_)) <;> first | (exfalso; omega) | (exfalso; dsimp only at hc; omega) | skip)
      | refine Exists.intro (α := List Value) [iv n] ⟨⟨rfl, fun w' hw' => e0 w' hw'⟩, ?_⟩
      | ((with_reducible show CallEv _ _ 64 _ _ _ _ _); refine callE (k := 64) (fun β w' hbw => bear_ok _ _) ?_)
    all_goals first
      | (exfalso; omega)
      | exact ⟨k + 1, ⟨by omega, by rw [ht, inB_iff]; omega⟩, by omega, Ent.weak rfl ⟨rfl, rfl, trivial⟩ ⟨rfl, trivial⟩ fun _ h => h⟩
      | exact ⟨fun β => congrArg Value.bool (hF (hno (by rw [Bool.eq_false_iff]; intro hc; rw [inB_iff] at hc; omega))), fun w' h => h⟩
  rw [List.take_of_length_le hkl] at hall
  repeat'
   conv => whnf
   first
    | refine zA ?_ | refine zB ?_ | refine zC ?_ | refine zD ?_ | refine zE ?_ | refine zF ?_ | refine zG ?_ | refine zH ?_ | refine zI ?_ | refine splT ?_ | refine splF ?_ | refine splNot ?_
    | ((first | refine splIn (fun hc => ?_) (fun hc => ?_) | refine splD (fun hc => ?_) (fun hc => ?_) | refine splE (fun hc => ?_) (fun hc => ?_) | refine splNE (fun hc => ?_) (fun hc => ?_)) <;> first | (exfalso; omega) | (exfalso; dsimp only at hc; omega) | skip)
  all_goals first | (exfalso; omega) | skip
  refine loopN 1 (fun k : Nat => [(1, .ptr 0 0), (4, .v (iv k))]) (fun _ => [(0, .cells [.v (.slice po PP.length pc), .v (.slice bo BB.length bc), .v (iv f0), .v (iv f1), .v (iv f2), .v (.slice lo LL.length lc)] 48)])
    (fun k => k ≤ 3 ∧ (1 ≤ k → inB f0 1000 20000 = true) ∧ (2 ≤ k → inB f1 1000 20000 = true) ∧ (3 ≤ k → inB f2 1000 20000 = true)) (fun k => 3 - k) 0 ⟨by omega, fun h => absurd h (by omega), fun h => absurd h (by omega), fun h => absurd h (by omega)⟩ ⟨rfl, rfl, trivial⟩ ⟨rfl, trivial⟩ (fun _ _ => ⟨rfl, rfl⟩) ?_
  clear hk hkl
  intro k ⟨hk, p0, p1, p2⟩
  have hno : inB f0 1000 20000 = false ∨ inB f1 1000 20000 = false ∨ inB f2 1000 20000 = false → rigOk f0 f1 f2 PP BB LL = false := fun h => by
    rw [Bool.eq_false_iff]; intro hc; rw [rigOk_iff] at hc
    have := hc.2.2.2.2.2.1
    simp only [List.all_cons, List.all_nil, Bool.and_true, Bool.and_eq_true] at this
    rw [this.1, this.2.1, this.2.2] at h
    simp at h
  obtain rfl | rfl | rfl | rfl : k = 0 ∨ k = 1 ∨ k = 2 ∨ k = 3 := by omega
  · skip
    repeat'
     conv => whnf
     first
      | refine zA ?_ | refine zB ?_ | refine zC ?_ | refine zD ?_ | refine zE ?_ | refine zF ?_ | refine zG ?_ | refine zH ?_ | refine zI ?_ | refine splT ?_ | refine splF ?_ | refine splNot ?_
      | ((first | refine splIn (fun hc => ?_) (fun hc => ?_) | refine splD (fun hc => ?_) (fun hc => ?_) | refine splE (fun hc => ?_) (fun hc => ?_) | refine splNE (fun hc => ?_) (fun hc => ?_)) <;> first | (exfalso; omega) | (exfalso; dsimp only at hc; omega) | skip)
      | ((with_reducible show CallEv _ _ 23 _ _ _ _ _); refine callE (k := 23) (fun β w' hbw => In_ok _ _ _ _) ?_)
    all_goals first
      | (exfalso; omega)
      | exact ⟨1, ⟨by omega, fun _ => inB_iff.2 (by omega), fun h => absurd h (by omega), fun h => absurd h (by omega)⟩, by omega, Ent.weak rfl ⟨rfl, rfl, trivial⟩ ⟨rfl, trivial⟩ fun _ h => h⟩
      | exact ⟨fun β => congrArg Value.bool (hF (hno (.inl (by rw [Bool.eq_false_iff]; intro hc; rw [inB_iff] at hc; omega)))), fun w' h => h⟩
  · have p0 := p0 (by omega)
    repeat'
     conv => whnf
     first
      | refine zA ?_ | refine zB ?_ | refine zC ?_ | refine zD ?_ | refine zE ?_ | refine zF ?_ | refine zG ?_ | refine zH ?_ | refine zI ?_ | refine splT ?_ | refine splF ?_ | refine splNot ?_
      | ((first | refine splIn (fun hc => ?_) (fun hc => ?_) | refine splD (fun hc => ?_) (fun hc => ?_) | refine splE (fun hc => ?_) (fun hc => ?_) | refine splNE (fun hc => ?_) (fun hc => ?_)) <;> first | (exfalso; omega) | (exfalso; dsimp only at hc; omega) | skip)
      | ((with_reducible show CallEv _ _ 23 _ _ _ _ _); refine callE (k := 23) (fun β w' hbw => In_ok _ _ _ _) ?_)
    all_goals first
      | (exfalso; omega)
      | exact ⟨2, ⟨by omega, fun _ => p0, fun _ => inB_iff.2 (by omega), fun h => absurd h (by omega)⟩, by omega, Ent.weak rfl ⟨rfl, rfl, trivial⟩ ⟨rfl, trivial⟩ fun _ h => h⟩
      | exact ⟨fun β => congrArg Value.bool (hF (hno (.inr (.inl (by rw [Bool.eq_false_iff]; intro hc; rw [inB_iff] at hc; omega))))), fun w' h => h⟩
  · have p0 := p0 (by omega)
    have p1 := p1 (by omega)
    repeat'
     conv => whnf
     first
      | refine zA ?_ | refine zB ?_ | refine zC ?_ | refine zD ?_ | refine zE ?_ | refine zF ?_ | refine zG ?_ | refine zH ?_ | refine zI ?_ | refine splT ?_ | refine splF ?_ | refine splNot ?_
      | ((first | refine splIn (fun hc => ?_) (fun hc => ?_) | refine splD (fun hc => ?_) (fun hc => ?_) | refine splE (fun hc => ?_) (fun hc => ?_) | refine splNE (fun hc => ?_) (fun hc => ?_)) <;> first | (exfalso; omega) | (exfalso; dsimp only at hc; omega) | skip)
      | ((with_reducible show CallEv _ _ 23 _ _ _ _ _); refine callE (k := 23) (fun β w' hbw => In_ok _ _ _ _) ?_)
    all_goals first
      | (exfalso; omega)
      | exact ⟨3, ⟨by omega, fun _ => p0, fun _ => p1, fun _ => inB_iff.2 (by omega)⟩, by omega, Ent.weak rfl ⟨rfl, rfl, trivial⟩ ⟨rfl, trivial⟩ fun _ h => h⟩
      | exact ⟨fun β => congrArg Value.bool (hF (hno (.inr (.inr (by rw [Bool.eq_false_iff]; intro hc; rw [inB_iff] at hc; omega))))), fun w' h => h⟩
  have hfac : [f0, f1, f2].all (fun n => inB n 1000 20000) = true := by simp [p0 (by omega), p1 (by omega), p2 (by omega)]
  clear p0 p1 p2 hno
  repeat'
   conv => whnf
   first
    | refine zA ?_ | refine zB ?_ | refine zC ?_ | refine zD ?_ | refine zE ?_ | refine zF ?_ | refine zG ?_ | refine zH ?_ | refine zI ?_ | refine splT ?_ | refine splF ?_ | refine splNot ?_
    | ((first | refine splIn (fun hc => ?_) (fun hc => ?_) | refine splD (fun hc => ?_) (fun hc => ?_) | refine splE (fun hc => ?_) (fun hc => ?_) | refine splNE (fun hc => ?_) (fun hc => ?_)) <;> first | (exfalso; omega) | (exfalso; dsimp only at hc; omega) | skip)
  all_goals first | (exfalso; omega) | skip
  refine loopN 1 (fun k : Nat => [(1, .ptr 0 0), (5, .v (iv k))]) (fun _ => [(0, .cells [.v (.slice po PP.length pc), .v (.slice bo BB.length bc), .v (iv f0), .v (iv f1), .v (iv f2), .v (.slice lo LL.length lc)] 48)])
    (fun k => k ≤ BB.length ∧ bmsOk PP.length [] BB = bmsOk PP.length (dps [] (BB.take k)) (BB.drop k) ∧ bmsR PP.length BB k) (fun k => BB.length - k) 0 ⟨Nat.zero_le _, rfl, fun j b _ h => absurd h (by omega)⟩ ⟨rfl, rfl, trivial⟩ ⟨rfl, trivial⟩ (fun _ _ => ⟨rfl, rfl⟩) ?_
  clear hk
  intro k ⟨hk, hen, hR⟩
  rcases Nat.lt_or_ge k BB.length with hkl | hkl
  · obtain ⟨b, hb⟩ : ∃ b, BB[k]? = some b := ⟨_, List.getElem?_eq_getElem hkl⟩
    obtain ⟨_, ad, rfl, _⟩ := hB.ptr (by omega)
    have e0 := fun (w' : World) hw' => rd_ati (hB.below (w' := w') hw') hb
    have hdl : (dps [] (BB.take k)).length = k := by rw [dps_len]; simp; omega
    rw [bmsOk_drop hb, hdl] at hen
    have hnx := dps_take hb []
    have hdv : dpv BB k = dB b (dps [] (BB.take k)) := by unfold dpv; rw [hb]
    have hdp := fun (w' : World) (hb' : Below w.heap.size w w') => hDp k b w' hb' b12 hb hR
    have hR' : hasB PP.length b.ab b.aa k = true → hasB PP.length b.bb b.ba k = true → dpv BB k ≤ 3 → bmsR PP.length BB (k + 1) := fun q1 q2 q3 j c hc hj => by
      by_cases hjk : j = k
      · subst hjk
        rw [hb] at hc; cases hc
        exact ⟨q1, q2, q3⟩
      · exact hR j c hc (by omega)
    rw [← hdv] at hen hnx
    have hno : bmsOk PP.length [] BB = false → rigOk f0 f1 f2 PP BB LL = false := fun h => by
      rw [Bool.eq_false_iff]; intro hc; rw [rigOk_iff, h] at hc; exact absurd hc.2.2.2.1 (by simp)
    have hn1 : bmOk PP.length k b = false → rigOk f0 f1 f2 PP BB LL = false := fun h => hno (by rw [hen, h]; rfl)
    have hn2 : ¬ dpv BB k ≤ 3 → rigOk f0 f1 f2 PP BB LL = false := fun h => hno (by rw [hen, decide_eq_false h, Bool.and_false]; rfl)
    have hy : bmOk PP.length k b = true → dpv BB k ≤ 3 → bmsOk PP.length [] BB = bmsOk PP.length (dps [] (BB.take (k + 1))) (BB.drop (k + 1)) := fun h h3 => by rw [hen, h, decide_eq_true h3, hnx]; rfl
    clear hen hDp hnx hdv
    have hsp : spanB b = spL.contains (b.hi - b.lo) := rfl
    obtain ⟨b1, b2, b3, b4, b5, b6, b7, b8⟩ := b
    dsimp only at hdp hR' hsp
    generalize dpv BB k = z at *
    have hz4 : z ≤ 3 ∨ ¬ z ≤ 3 := by omega
    repeat'
     conv => whnf
     first
      | refine zA ?_ | refine zB ?_ | refine zC ?_ | refine zD ?_ | refine zE ?_ | refine zF ?_ | refine zG ?_ | refine zH ?_ | refine zI ?_ | refine splT ?_ | refine splF ?_ | refine splNot ?_
      | ((first | refine splIn (fun hc => ?_) (fun hc => ?_) | refine splD (fun hc => ?_) (fun hc => ?_) | refine splE (fun hc => ?_) (fun hc => ?_) | refine splNE (fun hc => ?_) (fun hc => ?_)) <;> first | (exfalso; omega) | (exfalso; dsimp only at hc; omega) | skip)
      | refine Exists.intro (α := List Value) [iv b1, iv b2, iv b3, iv b4, iv b5, iv b6, iv b7, iv b8] ⟨⟨rfl, fun w' hw' => e0 w' hw'⟩, ?_⟩
      | ((with_reducible show CallEv _ _ 23 _ _ _ _ _); refine callE (k := 23) (fun β w' hbw => In_ok _ _ _ _) ?_)
      | ((with_reducible show CallEv _ _ 65 _ _ _ _ _); refine callE (k := 65) (fun β w' hbw => spanR_ok _ _) ?_)
      | ((with_reducible show CallEv _ _ 51 _ _ _ _ _); refine callE (k := 51) (fun β w' hbw => HasR_ok ⟨po, PP.length, pc, some ad, BB.length, bc, f0, f1, f2, lo, LL.length, lc⟩ _ _ _ _ (by dsimp only; omega) (by omega)) ?_)
      | ((with_reducible show CallEv _ _ 64 _ _ _ _ _); refine callE (k := 64) (fun β w' hbw => bear_ok _ _) ?_)
      | refine splB (fun hb => ?_) (fun hb => ?_)
      | ((with_reducible show CallEv _ _ 66 _ _ _ _ _); refine callE (k := 66) (fun β w' hbw => hdp _ hbw (by assumption) (by assumption)) ?_)
    all_goals first
      | (exfalso; omega)
      | exact ⟨fun β => congrArg Value.bool (hF (hn1 (by rw [Bool.eq_false_iff]; intro hc; rw [bmOk_iff] at hc; dsimp only at hc; first | omega | exact absurd ((hsp.symm.trans hc.2.2.1).symm.trans hb) (by decide) | exact absurd (hc.2.2.2.1.symm.trans hb) (by decide) | exact absurd (hc.2.2.2.2.1.symm.trans hb) (by decide)))), fun w' h => h⟩
      | exact ⟨fun β => congrArg Value.bool (hF (hn2 (by omega))), fun w' h => h⟩
      | exact ⟨k + 1, ⟨by omega, hy (by rw [bmOk_iff]; exact ⟨by assumption, by assumption, by assumption, by assumption, by assumption, by assumption, by assumption⟩) (by omega), hR' (by assumption) (by assumption) (by omega)⟩, by omega, Ent.weak rfl ⟨rfl, rfl, trivial⟩ ⟨rfl, trivial⟩ fun _ h => h⟩
  rw [List.drop_eq_nil_of_le hkl] at hen
  have hbm : bmsOk PP.length [] BB = true := hen
  clear hen hR hDp hk
  repeat'
   conv => whnf
   first
    | refine zA ?_ | refine zB ?_ | refine zC ?_ | refine zD ?_ | refine zE ?_ | refine zF ?_ | refine zG ?_ | refine zH ?_ | refine zI ?_ | refine splT ?_ | refine splF ?_ | refine splNot ?_
    | ((first | refine splIn (fun hc => ?_) (fun hc => ?_) | refine splD (fun hc => ?_) (fun hc => ?_) | refine splE (fun hc => ?_) (fun hc => ?_) | refine splNE (fun hc => ?_) (fun hc => ?_)) <;> first | (exfalso; omega) | (exfalso; dsimp only at hc; omega) | skip)
  all_goals first | (exfalso; omega) | skip
  refine loopN 1 (fun k : Nat => [(1, .ptr 0 0), (7, .v (iv k))]) (fun _ => [(0, .cells [.v (.slice po PP.length pc), .v (.slice bo BB.length bc), .v (iv f0), .v (iv f1), .v (iv f2), .v (.slice lo LL.length lc)] 48)])
    (fun k => k ≤ LL.length ∧ (LL.take k).all (ldOk PP.length BB.length) = true) (fun k => LL.length - k) 0 ⟨Nat.zero_le _, rfl⟩ ⟨rfl, rfl, trivial⟩ ⟨rfl, trivial⟩ (fun _ _ => ⟨rfl, rfl⟩) ?_
  clear hkl
  intro k ⟨hk, hal⟩
  rcases Nat.lt_or_ge k LL.length with hkl | hkl
  · obtain ⟨l, hb⟩ : ∃ b, LL[k]? = some b := ⟨_, List.getElem?_eq_getElem hkl⟩
    obtain ⟨_, ad, rfl, _⟩ := hL.ptr (by omega)
    have ht : (LL.take (k + 1)).all (ldOk PP.length BB.length) = ldOk PP.length BB.length l := by rw [List.take_add_one, hb]; simp [hal]
    have e0 := fun (w' : World) hw' => rd_ati (hL.below (w' := w') hw') hb
    have hno : ldOk PP.length BB.length l = false → rigOk f0 f1 f2 PP BB LL = false := fun h => by
      rw [Bool.eq_false_iff]; intro hc; rw [rigOk_iff, List.all_eq_true (l := LL)] at hc
      rw [hc.2.2.2.2.2.2 l (List.mem_of_getElem? hb)] at h; cases h
    obtain ⟨l1, l2, l3, l4, l5⟩ := l
    repeat'
     conv => whnf
     first
      | refine zA ?_ | refine zB ?_ | refine zC ?_ | refine zD ?_ | refine zE ?_ | refine zF ?_ | refine zG ?_ | refine zH ?_ | refine zI ?_ | refine splT ?_ | refine splF ?_ | refine splNot ?_
      | ((first | refine splIn (fun hc => ?_) (fun hc => ?_) | refine splD (fun hc => ?_) (fun hc => ?_) | refine splE (fun hc => ?_) (fun hc => ?_) | refine splNE (fun hc => ?_) (fun hc => ?_)) <;> first | (exfalso; omega) | (exfalso; dsimp only at hc; omega) | skip)
      | refine Exists.intro (α := List Value) [iv l1, iv l2, .int .u8 l3, iv l4, iv l5] ⟨⟨rfl, fun w' hw' => e0 w' hw'⟩, ?_⟩
      | ((with_reducible show CallEv _ _ 51 _ _ _ _ _); refine callE (k := 51) (fun β w' hbw => HasR_ok ⟨po, PP.length, pc, bo, BB.length, bc, f0, f1, f2, some ad, LL.length, lc⟩ _ _ _ _ (by dsimp only; omega) (by omega)) ?_)
      | ((with_reducible show CallEv _ _ 64 _ _ _ _ _); refine callE (k := 64) (fun β w' hbw => bear_ok _ _) ?_)
      | refine splB (fun hb => ?_) (fun hb => ?_)
    all_goals first
      | (exfalso; omega)
      | exact ⟨k + 1, ⟨by omega, by rw [ht, ldOk_iff]; refine ⟨by assumption, ?_⟩; dsimp only; omega⟩, by omega, Ent.weak rfl ⟨rfl, rfl, trivial⟩ ⟨rfl, trivial⟩ fun _ h => h⟩
      | exact ⟨fun β => congrArg Value.bool (hF (hno (by rw [Bool.eq_false_iff]; intro hc; rw [ldOk_iff] at hc; dsimp only at hc; first | omega | simp_all))), fun w' h => h⟩
  rw [List.take_of_length_le hkl] at hal
  have hy : rigOk f0 f1 f2 PP BB LL = true := by
    rw [rigOk_iff]; exact ⟨by assumption, hall, by omega, hbm, by omega, hfac, hal⟩
  rw [hy]
  repeat'
   conv => whnf
   first
    | refine zA ?_ | refine zB ?_ | refine zC ?_ | refine zD ?_ | refine zE ?_ | refine zF ?_ | refine zG ?_ | refine zH ?_ | refine zI ?_ | refine splT ?_ | refine splF ?_ | refine splNot ?_
    | ((first | refine splIn (fun hc => ?_) (fun hc => ?_) | refine splD (fun hc => ?_) (fun hc => ?_) | refine splE (fun hc => ?_) (fun hc => ?_) | refine splNE (fun hc => ?_) (fun hc => ?_)) <;> first | (exfalso; omega) | (exfalso; dsimp only at hc; omega) | skip)
  all_goals first | (exfalso; omega) | exact ⟨fun β => rfl, fun w' h => h⟩
end Go.Proofs.Ytaciigegbgnadaa
