/- The reference: places, spans, depths; whether a rig is right. -/
import Derived.Test.YtaciigegbgnadaaGX
import Derived.Test.YtaciigegbgnadaaPo
namespace Go.Proofs.Ytaciigegbgnadaa
open Go Tx Go.RowKit
set_option linter.unusedSimpArgs false
set_option linter.unusedVariables false

theorem bear_ok (n : Int) (w : World) : Calls Try.prog 64 #[iv n] w fun e w' => e = .returned (.bool (inB n 0 1000000)) ∧ Below w.heap.size w w' := by
  refine calls_val env mixed Try.func64 has64 Try.ntmps64 [iv n] (by simp) ?_
  repeat'
    conv => whnf
    first
      | refine And.intro (a := drawB _ = true) (by kernel_rfl) ?_
      | refine And.intro (a := (_ : Bool) = true) rfl ?_
      | refine And.intro (a := (_ : Bool) = true ∧ (_ : Bool) = true) ⟨rfl, rfl⟩ ?_
      | refine And.intro (a := (_ : Bool) = true ∧ (_ : List _) = []) ⟨rfl, rfl⟩ ?_
      | refine And.intro (a := IR _ _) (And.intro (by omega) (by omega)) ?_
      | refine wrapE (And.intro (by omega) (by omega)) ?_
      | refine And.intro (a := (0 : Int) ≤ _ ∧ _ < _) (And.intro (by omega) (by omega)) ?_
      | refine And.intro (a := (_ : Bool) = true) (by simp only [Nat.beq_refl]; rfl) ?_
      | refine And.intro (a := ((_ : Bool) = true → 1 ≤ _) ∧ _ ≤ 9223372036854775807 ∧ _ ≤ 140737488355328) ⟨fun h => (by first | omega | cases h), by omega, by omega⟩ ?_
      | refine splT ?_
      | refine splF ?_
      | refine splNot ?_
      | (refine splIn (fun hc => ?_) (fun hc => ?_) <;> first | (exfalso; omega) | (exfalso; dsimp only at hc; omega) | skip)
      | (refine splD (fun hc => ?_) (fun hc => ?_) <;> first | (exfalso; omega) | (exfalso; dsimp only at hc; omega) | skip)
      | (refine splE (fun hc => ?_) (fun hc => ?_) <;> first | (exfalso; omega) | (exfalso; dsimp only at hc; omega) | skip)
      | (refine splNE (fun hc => ?_) (fun hc => ?_) <;> first | (exfalso; omega) | (exfalso; dsimp only at hc; omega) | skip)
      | ((with_reducible show CallEv _ _ 23 _ _ _ _ _); refine callE (k := 23) (fun β w' hbw => In_ok _ _ _ _) ?_)
  all_goals exact ⟨fun β => congrArg Value.bool (by simp [inB, *]), fun w' h => h⟩
theorem spanR_ok (n : Int) (w : World) : Calls Try.prog 65 #[iv n] w fun e w' => e = .returned (.bool (spL.contains n)) ∧ Below w.heap.size w w' := by
  refine calls_val env mixed Try.func65 has65 Try.ntmps65 [iv n] (by simp) ?_
  have h : ∀ q : Bool, (q = true ↔ n = 10 ∨ n = 12 ∨ n = 15 ∨ n = 20 ∨ n = 30 ∨ n = 60) → q = spL.contains n := fun q hq => by
    rw [Bool.eq_iff_iff, hq, List.contains_iff_mem]
    simp [spL]
  repeat'
    conv => whnf
    first
      | refine And.intro (a := drawB _ = true) (by kernel_rfl) ?_
      | refine And.intro (a := (_ : Bool) = true) rfl ?_
      | refine And.intro (a := (_ : Bool) = true ∧ (_ : Bool) = true) ⟨rfl, rfl⟩ ?_
      | refine And.intro (a := (_ : Bool) = true ∧ (_ : List _) = []) ⟨rfl, rfl⟩ ?_
      | refine And.intro (a := IR _ _) (And.intro (by omega) (by omega)) ?_
      | refine wrapE (And.intro (by omega) (by omega)) ?_
      | refine And.intro (a := (0 : Int) ≤ _ ∧ _ < _) (And.intro (by omega) (by omega)) ?_
      | refine And.intro (a := (_ : Bool) = true) (by simp only [Nat.beq_refl]; rfl) ?_
      | refine And.intro (a := ((_ : Bool) = true → 1 ≤ _) ∧ _ ≤ 9223372036854775807 ∧ _ ≤ 140737488355328) ⟨fun h => (by first | omega | cases h), by omega, by omega⟩ ?_
      | refine splT ?_
      | refine splF ?_
      | refine splNot ?_
      | (refine splIn (fun hc => ?_) (fun hc => ?_) <;> first | (exfalso; omega) | (exfalso; dsimp only at hc; omega) | skip)
      | (refine splD (fun hc => ?_) (fun hc => ?_) <;> first | (exfalso; omega) | (exfalso; dsimp only at hc; omega) | skip)
      | (refine splE (fun hc => ?_) (fun hc => ?_) <;> first | (exfalso; omega) | (exfalso; dsimp only at hc; omega) | skip)
      | (refine splNE (fun hc => ?_) (fun hc => ?_) <;> first | (exfalso; omega) | (exfalso; dsimp only at hc; omega) | skip)
  all_goals exact ⟨fun β => congrArg Value.bool (h _ (by simp <;> omega)), fun w' h => h⟩
set_option maxRecDepth 100000 in
theorem HasR_ok (r : Rig) (b a n : Int) (w : World) (hp : (r.pn : Int) ≤ 9223372036854775807) (hn : -9223372036854775807 ≤ n ∧ n ≤ 9223372036854775807) :
    Calls Try.prog 51 #[r.v, iv n, .agg #[iv b, iv a]] w fun e w' => e = .returned (.bool (hasB r.pn b a n)) ∧ Below w.heap.size w w' := by
  obtain ⟨po, pn, pc, bo, bn, bc, f0, f1, f2, lo, ln, lc⟩ := r
  dsimp only at hp ⊢
  refine calls_val env mixed Try.func51 has51 Try.ntmps51 [.agg #[.slice po pn pc, .slice bo bn bc, iv f0, iv f1, iv f2, .slice lo ln lc], iv n, .agg #[iv b, iv a]] (by simp) ?_
  unfold hasB
  by_cases hb : b = -1
  · rw [if_pos hb]
    repeat'
      conv => whnf
      first
        | refine And.intro (a := drawB _ = true) (by kernel_rfl) ?_
        | refine And.intro (a := (_ : Bool) = true) rfl ?_
        | refine And.intro (a := (_ : Bool) = true ∧ (_ : Bool) = true) ⟨rfl, rfl⟩ ?_
        | refine And.intro (a := (_ : Bool) = true ∧ (_ : List _) = []) ⟨rfl, rfl⟩ ?_
        | refine And.intro (a := IR _ _) (And.intro (by omega) (by omega)) ?_
        | refine wrapE (And.intro (by omega) (by omega)) ?_
        | refine And.intro (a := (0 : Int) ≤ _ ∧ _ < _) (And.intro (by omega) (by omega)) ?_
        | refine And.intro (a := (_ : Bool) = true) (by simp only [Nat.beq_refl]; rfl) ?_
        | refine And.intro (a := ((_ : Bool) = true → 1 ≤ _) ∧ _ ≤ 9223372036854775807 ∧ _ ≤ 140737488355328) ⟨fun h => (by first | omega | cases h), by omega, by omega⟩ ?_
        | refine splT ?_
        | refine splF ?_
        | refine splNot ?_
        | (refine splIn (fun hc => ?_) (fun hc => ?_) <;> first | (exfalso; omega) | (exfalso; dsimp only at hc; omega) | skip)
        | (refine splD (fun hc => ?_) (fun hc => ?_) <;> first | (exfalso; omega) | (exfalso; dsimp only at hc; omega) | skip)
        | (refine splE (fun hc => ?_) (fun hc => ?_) <;> first | (exfalso; omega) | (exfalso; dsimp only at hc; omega) | skip)
        | (refine splNE (fun hc => ?_) (fun hc => ?_) <;> first | (exfalso; omega) | (exfalso; dsimp only at hc; omega) | skip)
        | ((with_reducible show CallEv _ _ 23 _ _ _ _ _); refine callE (k := 23) (fun β w' hbw => In_ok _ _ _ _) ?_)
    all_goals first | (exfalso; omega) | skip
    all_goals exact ⟨fun β => congrArg Value.bool (by simp [inB, *]), fun w' h => h⟩
  · rw [if_neg hb]
    repeat'
      conv => whnf
      first
        | refine And.intro (a := drawB _ = true) (by kernel_rfl) ?_
        | refine And.intro (a := (_ : Bool) = true) rfl ?_
        | refine And.intro (a := (_ : Bool) = true ∧ (_ : Bool) = true) ⟨rfl, rfl⟩ ?_
        | refine And.intro (a := (_ : Bool) = true ∧ (_ : List _) = []) ⟨rfl, rfl⟩ ?_
        | refine And.intro (a := IR _ _) (And.intro (by omega) (by omega)) ?_
        | refine wrapE (And.intro (by omega) (by omega)) ?_
        | refine And.intro (a := (0 : Int) ≤ _ ∧ _ < _) (And.intro (by omega) (by omega)) ?_
        | refine And.intro (a := (_ : Bool) = true) (by simp only [Nat.beq_refl]; rfl) ?_
        | refine And.intro (a := ((_ : Bool) = true → 1 ≤ _) ∧ _ ≤ 9223372036854775807 ∧ _ ≤ 140737488355328) ⟨fun h => (by first | omega | cases h), by omega, by omega⟩ ?_
        | refine splT ?_
        | refine splF ?_
        | refine splNot ?_
        | (refine splIn (fun hc => ?_) (fun hc => ?_) <;> first | (exfalso; omega) | (exfalso; dsimp only at hc; omega) | skip)
        | (refine splD (fun hc => ?_) (fun hc => ?_) <;> first | (exfalso; omega) | (exfalso; dsimp only at hc; omega) | skip)
        | (refine splE (fun hc => ?_) (fun hc => ?_) <;> first | (exfalso; omega) | (exfalso; dsimp only at hc; omega) | skip)
        | (refine splNE (fun hc => ?_) (fun hc => ?_) <;> first | (exfalso; omega) | (exfalso; dsimp only at hc; omega) | skip)
        | ((with_reducible show CallEv _ _ 23 _ _ _ _ _); refine callE (k := 23) (fun β w' hbw => In_ok _ _ _ _) ?_)
    all_goals first | (exfalso; omega) | skip
    all_goals exact ⟨fun β => congrArg Value.bool (by simp [inB, *]), fun w' h => h⟩

/-- The depth of a beam. -/
def dpv (BB : List Bm) (i : Nat) : Int := match BB[i]? with | some b => dB b (dps [] (BB.take i)) | none => 0
theorem dps_get {BB : List Bm} {i j : Nat} (hj : j < i) (hi : i ≤ BB.length) : (dps [] (BB.take i))[j]? = some (dpv BB j) := by
  obtain ⟨b, hb⟩ : ∃ b, BB[j]? = some b := ⟨_, List.getElem?_eq_getElem (by omega)⟩
  obtain ⟨t, ht⟩ := dps_pre ((BB.take i).drop (j + 1)) (dps [] ((BB.take i).take (j + 1)))
  rw [← dps_append, List.take_append_drop, List.take_take, Nat.min_eq_left (by omega), dps_take hb] at ht
  have hl : (dps [] (BB.take j)).length = j := by rw [dps_len]; simp; omega
  rw [ht, List.append_assoc, List.getElem?_append_right (by omega), hl]
  simp [dpv, hb]
/-- The beams ahead of a number hang on earlier ones, and are not deep. -/
def bmsR (pn : Nat) (BB : List Bm) (i : Nat) : Prop := ∀ (j : Nat) b, BB[j]? = some b → j < i → hasB pn b.ab b.aa j = true ∧ hasB pn b.bb b.ba j = true ∧ dpv BB j ≤ 3
theorem bmsR_dsB {pn : Nat} {BB : List Bm} : ∀ {i : Nat}, bmsR pn BB i → i ≤ BB.length → dsB (dps [] (BB.take i))
  | 0, _, _ => fun j n h => by simp [dps] at h
  | i + 1, h, hi => by
    have ih := bmsR_dsB (i := i) (fun j b hb hj => h j b hb (by omega)) (by omega)
    obtain ⟨b, hb⟩ : ∃ b, BB[i]? = some b := ⟨_, List.getElem?_eq_getElem (by omega)⟩
    have h3 := (h i b hb (by omega)).2.2
    rw [dps_take hb]
    refine dsB_snoc ih ⟨(dB_bd ih).1, ?_⟩
    unfold dpv at h3
    rw [hb] at h3
    exact h3

set_option maxHeartbeats 4000000 in
set_option maxRecDepth 100000 in
theorem Depth_ok (r : Rig) (PP : List Int) (BB : List Bm) (LL : List Ld) : ∀ (n i : Nat), i < n → ∀ (w : World) (b : Bm), RigX r PP BB LL w → BB.length ≤ 1000000 → BB[i]? = some b → bmsR r.pn BB i → hasB r.pn b.ab b.aa i = true → hasB r.pn b.bb b.ba i = true →
    Calls Try.prog 66 #[r.v, iv i] w fun e w' => e = .returned (iv (dpv BB i)) ∧ Below w.heap.size w w'
  | n + 1, i, hin, w, b, hX, hbl, hb, hR, h1, h2 => by
    have hil := (List.getElem?_eq_some_iff.1 hb).1
    have hds := bmsR_dsB hR (by omega)
    have ih := fun (j : Nat) (c : Bm) (w' : World) (hbw : Below w.heap.size w w') (hc : BB[j]? = some c) (hj : j < i) => Depth_ok r PP BB LL n j (by omega) w' c (hX.below hbw) hbl hc (fun j' b' h h' => hR j' b' h (by omega)) (hR j c hc hj).1 (hR j c hc hj).2.1
    have g1 := hasB_cases h1
    have g2 := hasB_cases h2
    have hget := fun (j : Nat) (hj : j < i) => dps_get (BB := BB) hj (by omega)
    have hdv : dpv BB i = dB b (dps [] (BB.take i)) := by unfold dpv; rw [hb]
    have hdj : ∀ j, j < i → 1 ≤ dpv BB j ∧ dpv BB j ≤ 3 := fun j hj => hds j _ (hget j hj)
    rw [hdv]
    have hB := hX.b
    have hbn := hX.bn
    obtain ⟨po, pn, pc, bo, bn, bc, f0, f1, f2, lo, ln, lc⟩ := r
    dsimp only at ih hB hbn g1 g2
    subst hbn
    refine calls_val env mixed Try.func66 has66 Try.ntmps66 [.agg #[.slice po pn pc, .slice bo BB.length bc, iv f0, iv f1, iv f2, .slice lo ln lc], iv i] (by simp) ?_
    obtain ⟨_, ad, rfl, _⟩ := hB.ptr (by omega)
    have e1 := fun (w' : World) (hw' : Below w.heap.size w w') => rd_ati (hB.below hw') hb
    have eA := fun (w' : World) (hw' : Below w.heap.size w w') => fun j v (h : [iv b.ab, iv b.aa][j]? = some v) => (show w'.cell? (((ad.add ((i : Int).toNat * 8)).add 2).add j) = some v from by
      match j, h with
      | 0, h => rw [Addr.add_add]; exact e1 w' hw' 2 _ h
      | 1, h => rw [Addr.add_add]; exact e1 w' hw' 3 _ h)
    have eB := fun (w' : World) (hw' : Below w.heap.size w w') => fun j v (h : [iv b.bb, iv b.ba][j]? = some v) => (show w'.cell? (((ad.add ((i : Int).toNat * 8)).add 4).add j) = some v from by
      match j, h with
      | 0, h => rw [Addr.add_add]; exact e1 w' hw' 4 _ h
      | 1, h => rw [Addr.add_add]; exact e1 w' hw' 5 _ h)
    obtain ⟨b1, b2, b3, b4, b5, b6, b7, b8⟩ := b
    dsimp only at g1 g2 eA eB
    generalize hT : dps [] (BB.take i) = T at *
    have hA3 : b3 ≠ -1 → ∃ j : Nat, b3 = j ∧ j < i ∧ T[j]? = some (dpv BB j) ∧ ∃ c, BB[j]? = some c := fun hne => by
      obtain ⟨j, hj⟩ := Int.eq_ofNat_of_zero_le (show 0 ≤ b3 by omega)
      exact ⟨j, hj, by omega, hget j (by omega), _, List.getElem?_eq_getElem (by omega)⟩
    have hB3 : b5 ≠ -1 → ∃ j : Nat, b5 = j ∧ j < i ∧ T[j]? = some (dpv BB j) ∧ ∃ c, BB[j]? = some c := fun hne => by
      obtain ⟨j, hj⟩ := Int.eq_ofNat_of_zero_le (show 0 ≤ b5 by omega)
      exact ⟨j, hj, by omega, hget j (by omega), _, List.getElem?_eq_getElem (by omega)⟩
    unfold dB dA
    dsimp only
    by_cases h3 : b3 = -1 <;> by_cases h5 : b5 = -1
    · rw [if_pos h3, if_pos h5]
      repeat'
        conv => whnf
        first
          | refine And.intro (a := drawB _ = true) (by kernel_rfl) ?_
          | refine And.intro (a := (_ : Bool) = true) rfl ?_
          | refine And.intro (a := (_ : Bool) = true ∧ (_ : Bool) = true) ⟨rfl, rfl⟩ ?_
          | refine And.intro (a := (_ : Bool) = true ∧ (_ : List _) = []) ⟨rfl, rfl⟩ ?_
          | refine And.intro (a := IR _ _) (And.intro (by omega) (by omega)) ?_
          | refine wrapE (And.intro (by omega) (by omega)) ?_
          | refine And.intro (a := (0 : Int) ≤ _ ∧ _ < _) (And.intro (by omega) (by omega)) ?_
          | refine And.intro (a := (_ : Bool) = true) (by simp only [Nat.beq_refl]; rfl) ?_
          | refine And.intro (a := ((_ : Bool) = true → 1 ≤ _) ∧ _ ≤ 9223372036854775807 ∧ _ ≤ 140737488355328) ⟨fun h => (by first | omega | cases h), by omega, by omega⟩ ?_
          | refine splT ?_
          | refine splF ?_
          | refine splNot ?_
          | (refine splIn (fun hc => ?_) (fun hc => ?_) <;> first | (exfalso; omega) | (exfalso; dsimp only at hc; omega) | skip)
          | (refine splD (fun hc => ?_) (fun hc => ?_) <;> first | (exfalso; omega) | (exfalso; dsimp only at hc; omega) | skip)
          | (refine splE (fun hc => ?_) (fun hc => ?_) <;> first | (exfalso; omega) | (exfalso; dsimp only at hc; omega) | skip)
          | (refine splNE (fun hc => ?_) (fun hc => ?_) <;> first | (exfalso; omega) | (exfalso; dsimp only at hc; omega) | skip)
          | refine Exists.intro (α := List Value) [iv b3, iv b4] ⟨⟨rfl, fun w' hw' => eA w' hw'⟩, ?_⟩
          | refine Exists.intro (α := List Value) [iv b5, iv b6] ⟨⟨rfl, fun w' hw' => eB w' hw'⟩, ?_⟩
      all_goals first | (exfalso; omega) | exact ⟨fun β => rfl, fun w' h => h⟩ | (trace_state; sorry)
    · obtain ⟨j, rfl, hj, hTj, c, hc⟩ := hB3 h5
      have ih1 := fun w' hbw => ih j c w' hbw hc hj
      have hd1 := hdj j hj
      rw [if_pos h3, if_neg h5, Int.toNat_natCast, List.getD_eq_getElem?_getD, hTj, Option.getD_some, Int.add_comm]
      generalize dpv BB j = x at *
      repeat'
        conv => whnf
        first
          | refine And.intro (a := drawB _ = true) (by kernel_rfl) ?_
          | refine And.intro (a := (_ : Bool) = true) rfl ?_
          | refine And.intro (a := (_ : Bool) = true ∧ (_ : Bool) = true) ⟨rfl, rfl⟩ ?_
          | refine And.intro (a := (_ : Bool) = true ∧ (_ : List _) = []) ⟨rfl, rfl⟩ ?_
          | refine And.intro (a := IR _ _) (And.intro (by omega) (by omega)) ?_
          | refine wrapE (And.intro (by omega) (by omega)) ?_
          | refine And.intro (a := (0 : Int) ≤ _ ∧ _ < _) (And.intro (by omega) (by omega)) ?_
          | refine And.intro (a := (_ : Bool) = true) (by simp only [Nat.beq_refl]; rfl) ?_
          | refine And.intro (a := ((_ : Bool) = true → 1 ≤ _) ∧ _ ≤ 9223372036854775807 ∧ _ ≤ 140737488355328) ⟨fun h => (by first | omega | cases h), by omega, by omega⟩ ?_
          | refine splT ?_
          | refine splF ?_
          | refine splNot ?_
          | (refine splIn (fun hc => ?_) (fun hc => ?_) <;> first | (exfalso; omega) | (exfalso; dsimp only at hc; omega) | skip)
          | (refine splD (fun hc => ?_) (fun hc => ?_) <;> first | (exfalso; omega) | (exfalso; dsimp only at hc; omega) | skip)
          | (refine splE (fun hc => ?_) (fun hc => ?_) <;> first | (exfalso; omega) | (exfalso; dsimp only at hc; omega) | skip)
          | (refine splNE (fun hc => ?_) (fun hc => ?_) <;> first | (exfalso; omega) | (exfalso; dsimp only at hc; omega) | skip)
          | refine Exists.intro (α := List Value) [iv b3, iv b4] ⟨⟨rfl, fun w' hw' => eA w' hw'⟩, ?_⟩
          | refine Exists.intro (α := List Value) [iv j, iv b6] ⟨⟨rfl, fun w' hw' => eB w' hw'⟩, ?_⟩
          | ((with_reducible show CallEv _ _ 66 _ _ _ _ _); refine callE (k := 66) (fun β w' hbw => ih1 _ hbw) ?_)
      all_goals first | (exfalso; omega) | exact ⟨fun β => rfl, fun w' h => h⟩ | (trace_state; sorry)
    · obtain ⟨j, rfl, hj, hTj, c, hc⟩ := hA3 h3
      have ih1 := fun w' hbw => ih j c w' hbw hc hj
      have hd1 := hdj j hj
      rw [if_neg h3, if_pos h5, Int.toNat_natCast, List.getD_eq_getElem?_getD, hTj, Option.getD_some, Int.add_comm]
      generalize dpv BB j = x at *
      repeat'
        conv => whnf
        first
          | refine And.intro (a := drawB _ = true) (by kernel_rfl) ?_
          | refine And.intro (a := (_ : Bool) = true) rfl ?_
          | refine And.intro (a := (_ : Bool) = true ∧ (_ : Bool) = true) ⟨rfl, rfl⟩ ?_
          | refine And.intro (a := (_ : Bool) = true ∧ (_ : List _) = []) ⟨rfl, rfl⟩ ?_
          | refine And.intro (a := IR _ _) (And.intro (by omega) (by omega)) ?_
          | refine wrapE (And.intro (by omega) (by omega)) ?_
          | refine And.intro (a := (0 : Int) ≤ _ ∧ _ < _) (And.intro (by omega) (by omega)) ?_
          | refine And.intro (a := (_ : Bool) = true) (by simp only [Nat.beq_refl]; rfl) ?_
          | refine And.intro (a := ((_ : Bool) = true → 1 ≤ _) ∧ _ ≤ 9223372036854775807 ∧ _ ≤ 140737488355328) ⟨fun h => (by first | omega | cases h), by omega, by omega⟩ ?_
          | refine splT ?_
          | refine splF ?_
          | refine splNot ?_
          | (refine splIn (fun hc => ?_) (fun hc => ?_) <;> first | (exfalso; omega) | (exfalso; dsimp only at hc; omega) | skip)
          | (refine splD (fun hc => ?_) (fun hc => ?_) <;> first | (exfalso; omega) | (exfalso; dsimp only at hc; omega) | skip)
          | (refine splE (fun hc => ?_) (fun hc => ?_) <;> first | (exfalso; omega) | (exfalso; dsimp only at hc; omega) | skip)
          | (refine splNE (fun hc => ?_) (fun hc => ?_) <;> first | (exfalso; omega) | (exfalso; dsimp only at hc; omega) | skip)
          | refine Exists.intro (α := List Value) [iv j, iv b4] ⟨⟨rfl, fun w' hw' => eA w' hw'⟩, ?_⟩
          | refine Exists.intro (α := List Value) [iv b5, iv b6] ⟨⟨rfl, fun w' hw' => eB w' hw'⟩, ?_⟩
          | ((with_reducible show CallEv _ _ 66 _ _ _ _ _); refine callE (k := 66) (fun β w' hbw => ih1 _ hbw) ?_)
      all_goals first | (exfalso; omega) | exact ⟨fun β => rfl, fun w' h => h⟩ | (trace_state; sorry)
    · obtain ⟨j, rfl, hj, hTj, c, hc⟩ := hA3 h3
      obtain ⟨k, rfl, hk, hTk, c', hc'⟩ := hB3 h5
      have ih1 := fun w' hbw => ih j c w' hbw hc hj
      have ih2 := fun w' hbw => ih k c' w' hbw hc' hk
      have hd1 := hdj j hj
      have hd2 := hdj k hk
      rw [if_neg h3, if_neg h5, Int.toNat_natCast, Int.toNat_natCast, List.getD_eq_getElem?_getD, List.getD_eq_getElem?_getD, hTj, hTk, Option.getD_some, Option.getD_some, Int.add_comm _ 1, Int.add_comm _ 1]
      generalize dpv BB j = x at *
      generalize dpv BB k = y at *
      have hmx := imax_bd (x := 1) (y := 1 + x) (by omega) (by omega)
      repeat'
        conv => whnf
        first
          | refine And.intro (a := drawB _ = true) (by kernel_rfl) ?_
          | refine And.intro (a := (_ : Bool) = true) rfl ?_
          | refine And.intro (a := (_ : Bool) = true ∧ (_ : Bool) = true) ⟨rfl, rfl⟩ ?_
          | refine And.intro (a := (_ : Bool) = true ∧ (_ : List _) = []) ⟨rfl, rfl⟩ ?_
          | refine And.intro (a := IR _ _) (And.intro (by omega) (by omega)) ?_
          | refine wrapE (And.intro (by omega) (by omega)) ?_
          | refine And.intro (a := (0 : Int) ≤ _ ∧ _ < _) (And.intro (by omega) (by omega)) ?_
          | refine And.intro (a := (_ : Bool) = true) (by simp only [Nat.beq_refl]; rfl) ?_
          | refine And.intro (a := ((_ : Bool) = true → 1 ≤ _) ∧ _ ≤ 9223372036854775807 ∧ _ ≤ 140737488355328) ⟨fun h => (by first | omega | cases h), by omega, by omega⟩ ?_
          | refine splT ?_
          | refine splF ?_
          | refine splNot ?_
          | (refine splIn (fun hc => ?_) (fun hc => ?_) <;> first | (exfalso; omega) | (exfalso; dsimp only at hc; omega) | skip)
          | (refine splD (fun hc => ?_) (fun hc => ?_) <;> first | (exfalso; omega) | (exfalso; dsimp only at hc; omega) | skip)
          | (refine splE (fun hc => ?_) (fun hc => ?_) <;> first | (exfalso; omega) | (exfalso; dsimp only at hc; omega) | skip)
          | (refine splNE (fun hc => ?_) (fun hc => ?_) <;> first | (exfalso; omega) | (exfalso; dsimp only at hc; omega) | skip)
          | refine Exists.intro (α := List Value) [iv j, iv b4] ⟨⟨rfl, fun w' hw' => eA w' hw'⟩, ?_⟩
          | refine Exists.intro (α := List Value) [iv k, iv b6] ⟨⟨rfl, fun w' hw' => eB w' hw'⟩, ?_⟩
          | ((with_reducible show CallEv _ _ 66 [_, .v (iv j)] _ _ _ _); refine callE (k := 66) (fun β w' hbw => ih1 _ hbw) ?_)
          | ((with_reducible show CallEv _ _ 66 [_, .v (iv k)] _ _ _ _); refine callE (k := 66) (fun β w' hbw => ih2 _ hbw) ?_)
      all_goals first | (exfalso; omega) | exact ⟨fun β => rfl, fun w' h => h⟩ | (trace_state; sorry)
  termination_by n => n
end Go.Proofs.Ytaciigegbgnadaa
