import Derived.Test.YtaciigegbgnadaaGX
import Derived.Test.YtaciigegbgnadaaPo
/- The reference: places, spans, depths; whether a rig is right. -/
namespace Go.Proofs.Ytaciigegbgnadaa
open Go Tx Go.RowKit
set_option linter.unusedSimpArgs false
set_option linter.unusedVariables false

theorem bear_ok (n : Int) (w : World) : Calls Try.prog 64 #[iv n] w fun e w' => e = .returned (.bool (inB n 0 1000000)) ∧ Below w.heap.size w w' := by
  refine calls_val env mixed Try.func64 has64 Try.ntmps64 [iv n] (by simp) ?_
  repeat'
   conv => whnf
   first
    | refine zA ?_ | refine zB ?_ | refine zC ?_ | refine zD ?_ | refine zE ?_ | refine zF ?_ | refine zG ?_ | refine zH ?_ | refine zI ?_ | refine splT ?_ | refine splF ?_ | refine splNot ?_
    | ((first | refine splIn (fun hc => ?_) (fun hc => ?_) | refine splD (fun hc => ?_) (fun hc => ?_) | refine splE (fun hc => ?_) (fun hc => ?_) | refine splNE (fun hc => ?_) (fun hc => ?_)) <;> first | (exfalso; omega) | (exfalso; dsimp only at hc; omega) | skip)
    | ((with_reducible show CallEv _ _ 23 _ _ _ _ _); refine callE (k := 23) (fun β w' hbw => In_ok _ _ _ _) ?_)
  all_goals exact ⟨fun β => congrArg Value.bool (by simp [inB, *]), fun w' h => h⟩
theorem spanR_ok (n : Int) (w : World) : Calls Try.prog 65 #[iv n] w fun e w' => e = .returned (.bool (spL.contains n)) ∧ Below w.heap.size w w' := by
  refine calls_val env mixed Try.func65 has65 Try.ntmps65 [iv n] (by simp) ?_
  have h : ∀ q : Bool, (q = true ↔ n = 10 ∨ n = 12 ∨ n = 15 ∨ n = 20 ∨ n = 30 ∨ n = 60) → q = spL.contains n := fun q hq => by
    rw [Bool.eq_iff_iff, hq, List.contains_iff_mem]
    simp [spL]
  repeat'
   conv => whnf
   first
    | refine zA ?_ | refine zB ?_ | refine zC ?_ | refine zD ?_ | refine zE ?_ | refine zF ?_ | refine zG ?_ | refine zH ?_ | refine zI ?_ | refine splT ?_ | refine splF ?_ | refine splNot ?_
    | ((first | refine splIn (fun hc => ?_) (fun hc => ?_) | refine splD (fun hc => ?_) (fun hc => ?_) | refine splE (fun hc => ?_) (fun hc => ?_) | refine splNE (fun hc => ?_) (fun hc => ?_)) <;> first | (exfalso; omega) | (exfalso; dsimp only at hc; omega) | skip)
  all_goals exact ⟨fun β => congrArg Value.bool (h _ (by simp <;> omega)), fun w' h => h⟩
set_option maxRecDepth 100000 in
theorem HasR_ok (r : Rig) (b a n : Int) (w : World) (hp : (r.pn : Int) ≤ 9223372036854775807) (hn : -9223372036854775807 ≤ n ∧ n ≤ 9223372036854775807) :
    Calls Try.prog 51 #[r.v, iv n, .agg #[iv b, iv a]] w fun e w' => e = .returned (.bool (hasB r.pn b a n)) ∧ Below w.heap.size w w' := by
  obtain ⟨po, pn, pc, bo, bn, bc, f0, f1, f2, lo, ln, lc⟩ := r
  dsimp only at hp ⊢
  refine calls_val env mixed Try.func51 has51 Try.ntmps51 [.agg #[.slice po pn pc, .slice bo bn bc, iv f0, iv f1, iv f2, .slice lo ln lc], iv n, .agg #[iv b, iv a]] (by simp) ?_
  unfold hasB
  by_cases hb : b = -1
  · rw [if_pos hb]
    repeat'
     conv => whnf
     first
      | refine zA ?_ | refine zB ?_ | refine zC ?_ | refine zD ?_ | refine zE ?_ | refine zF ?_ | refine zG ?_ | refine zH ?_ | refine zI ?_ | refine splT ?_ | refine splF ?_ | refine splNot ?_
      | ((first | refine splIn (fun hc => ?_) (fun hc => ?_) | refine splD (fun hc => ?_) (fun hc => ?_) | refine splE (fun hc => ?_) (fun hc => ?_) | refine splNE (fun hc => ?_) (fun hc => ?_)) <;> first | (exfalso; omega) | (exfalso; dsimp only at hc; omega) | skip)
      | ((with_reducible show CallEv _ _ 23 _ _ _ _ _); refine callE (k := 23) (fun β w' hbw => In_ok _ _ _ _) ?_)
    all_goals first | (exfalso; omega) | skip
    all_goals exact ⟨fun β => congrArg Value.bool (by simp [inB, *]), fun w' h => h⟩
  · rw [if_neg hb]
    repeat'
     conv => whnf
     first
      | refine zA ?_ | refine zB ?_ | refine zC ?_ | refine zD ?_ | refine zE ?_ | refine zF ?_ | refine zG ?_ | refine zH ?_ | refine zI ?_ | refine splT ?_ | refine splF ?_ | refine splNot ?_
      | ((first | refine splIn (fun hc => ?_) (fun hc => ?_) | refine splD (fun hc => ?_) (fun hc => ?_) | refine splE (fun hc => ?_) (fun hc => ?_) | refine splNE (fun hc => ?_) (fun hc => ?_)) <;> first | (exfalso; omega) | (exfalso; dsimp only at hc; omega) | skip)
      | ((with_reducible show CallEv _ _ 23 _ _ _ _ _); refine callE (k := 23) (fun β w' hbw => In_ok _ _ _ _) ?_)
    all_goals first | (exfalso; omega) | skip
    all_goals exact ⟨fun β => congrArg Value.bool (by simp [inB, *]), fun w' h => h⟩

/-- The depth of a beam. -/
def dpv (BB : List Bm) (i : Nat) : Int := match BB[i]? with | some b => dB b (dps [] (BB.take i)) | none => 0
theorem dps_get {BB : List Bm} {i j : Nat} (hj : j < i) (hi : i ≤ BB.length) : (dps [] (BB.take i))[j]? = some (dpv BB j) := by
  obtain ⟨b, hb⟩ : ∃ b, BB[j]? = some b := ⟨_, List.getElem?_eq_getElem (by omega)⟩
  obtain ⟨t, ht⟩ := dps_pre ((BB.take i).drop (j + 1)) (dps [] ((BB.take i).take (j + 1)))
  rw [← dps_append, List.take_append_drop, List.take_take, Nat.min_eq_left (by omega), dps_take hb] at ht
  have hl : (dps [] (BB.take j)).length = j := by rw [dps_len]; simp; omega
  rw [ht, List.append_assoc, List.getElem?_append_right (by omega), hl]
  simp [dpv, hb]
/-- The beams ahead of a number hang on earlier ones, and are not deep. -/
def bmsR (pn : Nat) (BB : List Bm) (i : Nat) : Prop := ∀ (j : Nat) b, BB[j]? = some b → j < i → hasB pn b.ab b.aa j = true ∧ hasB pn b.bb b.ba j = true ∧ dpv BB j ≤ 3
theorem bmsR_dsB {pn : Nat} {BB : List Bm} : ∀ {i : Nat}, bmsR pn BB i → i ≤ BB.length → dsB (dps [] (BB.take i))
  | 0, _, _ => fun j n h => by simp [dps] at h
  | i + 1, h, hi => by
    have ih := bmsR_dsB (i := i) (fun j b hb hj => h j b hb (by omega)) (by omega)
    obtain ⟨b, hb⟩ : ∃ b, BB[i]? = some b := ⟨_, List.getElem?_eq_getElem (by omega)⟩
    have h3 := (h i b hb (by omega)).2.2
    rw [dps_take hb]
    refine dsB_snoc ih ⟨(dB_bd ih).1, ?_⟩
    unfold dpv at h3
    rw [hb] at h3
    exact h3

set_option maxHeartbeats 4000000 in
set_option maxRecDepth 100000 in
theorem Depth_ok (r : Rig) (PP : List Int) (BB : List Bm) (LL : List Ld) : ∀ (n i : Nat), i < n → ∀ (w : World) (b : Bm), RigX r PP BB LL w → BB.length ≤ 1000000 → BB[i]? = some b → bmsR r.pn BB i → hasB r.pn b.ab b.aa i = true → hasB r.pn b.bb b.ba i = true →
    Calls Try.prog 66 #[r.v, iv i] w fun e w' => e = .returned (iv (dpv BB i)) ∧ Below w.heap.size w w'
  | n + 1, i, hin, w, b, hX, hbl, hb, hR, h1, h2 => by
    have hil := (List.getElem?_eq_some_iff.1 hb).1
    have hds := bmsR_dsB hR (by omega)
    have ih := fun (j : Nat) (c : Bm) (w' : World) (hbw : Below w.heap.size w w') (hc : BB[j]? = some c) (hj : j < i) => Depth_ok r PP BB LL n j (by omega) w' c (hX.below hbw) hbl hc (fun j' b' h h' => hR j' b' h (by omega)) (hR j c hc hj).1 (hR j c hc hj).2.1
    have g1 := hasB_cases h1
    have g2 := hasB_cases h2
    have hget := fun (j : Nat) (hj : j < i) => dps_get (BB := BB) hj (by omega)
    have hdv : dpv BB i = dB b (dps [] (BB.take i)) := by unfold dpv; rw [hb]
    have hdj : ∀ j, j < i → 1 ≤ dpv BB j ∧ dpv BB j ≤ 3 := fun j hj => hds j _ (hget j hj)
    rw [hdv]
    have hB := hX.b
    have hbn := hX.bn
    obtain ⟨po, pn, pc, bo, bn, bc, f0, f1, f2, lo, ln, lc⟩ := r
    dsimp only at ih hB hbn g1 g2
    subst hbn
    refine calls_val env mixed Try.func66 has66 Try.ntmps66 [.agg #[.slice po pn pc, .slice bo BB.length bc, iv f0, iv f1, iv f2, .slice lo ln lc], iv i] (by simp) ?_
    obtain ⟨_, ad, rfl, _⟩ := hB.ptr (by omega)
    have e1 := fun (w' : World) (hw' : Below w.heap.size w w') => rd_ati (hB.below hw') hb
    have eA := fun (w' : World) (hw' : Below w.heap.size w w') => fun j v (h : [iv b.ab, iv b.aa][j]? = some v) => (show w'.cell? (((ad.add ((i : Int).toNat * 8)).add 2).add j) = some v from by
      match j, h with
      | 0, h => rw [Addr.add_add]; exact e1 w' hw' 2 _ h
      | 1, h => rw [Addr.add_add]; exact e1 w' hw' 3 _ h)
    have eB := fun (w' : World) (hw' : Below w.heap.size w w') => fun j v (h : [iv b.bb, iv b.ba][j]? = some v) => (show w'.cell? (((ad.add ((i : Int).toNat * 8)).add 4).add j) = some v from by
      match j, h with
      | 0, h => rw [Addr.add_add]; exact e1 w' hw' 4 _ h
      | 1, h => rw [Addr.add_add]; exact e1 w' hw' 5 _ h)
    obtain ⟨b1, b2, b3, b4, b5, b6, b7, b8⟩ := b
    dsimp only at g1 g2 eA eB
    generalize hT : dps [] (BB.take i) = T at *
    have hA3 : b3 ≠ -1 → ∃ j : Nat, b3 = j ∧ j < i ∧ T[j]? = some (dpv BB j) ∧ ∃ c, BB[j]? = some c := fun hne => by
      obtain ⟨j, hj⟩ := Int.eq_ofNat_of_zero_le (show 0 ≤ b3 by omega)
      exact ⟨j, hj, by omega, hget j (by omega), _, List.getElem?_eq_getElem (by omega)⟩
    have hB3 : b5 ≠ -1 → ∃ j : Nat, b5 = j ∧ j < i ∧ T[j]? = some (dpv BB j) ∧ ∃ c, BB[j]? = some c := fun hne => by
      obtain ⟨j, hj⟩ := Int.eq_ofNat_of_zero_le (show 0 ≤ b5 by omega)
      exact ⟨j, hj, by omega, hget j (by omega), _, List.getElem?_eq_getElem (by omega)⟩
    unfold dB dA
    dsimp only
    by_cases h3 : b3 = -1 <;> by_cases h5 : b5 = -1
    · rw [if_pos h3, if_pos h5]
      repeat'
       conv => whnf
       first
        | refine zA ?_ | refine zB ?_ | refine zC ?_ | refine zD ?_ | refine zE ?_ | refine zF ?_ | refine zG ?_ | refine zH ?_ | refine zI ?_ | refine splT ?_ | refine splF ?_ | refine splNot ?_
        | ((first | refine splIn (fun hc => ?_) (fun hc => ?_) | refine splD (fun hc => ?_) (fun hc => ?_) | refine splE (fun hc => ?_) (fun hc => ?_) | refine splNE (fun hc => ?_) (fun hc => ?_)) <;> first | (exfalso; omega) | (exfalso; dsimp only at hc; omega) | skip)
        | refine Exists.intro (α := List Value) [iv b3, iv b4] ⟨⟨rfl, fun w' hw' => eA w' hw'⟩, ?_⟩
        | refine Exists.intro (α := List Value) [iv b5, iv b6] ⟨⟨rfl, fun w' hw' => eB w' hw'⟩, ?_⟩
      all_goals first | (exfalso; omega) | exact ⟨fun β => rfl, fun w' h => h⟩
    · obtain ⟨j, rfl, hj, hTj, c, hc⟩ := hB3 h5
      have ih1 := fun w' hbw => ih j c w' hbw hc hj
      have hd1 := hdj j hj
      rw [if_pos h3, if_neg h5, Int.toNat_natCast, List.getD_eq_getElem?_getD, hTj, Option.getD_some, Int.add_comm]
      generalize dpv BB j = x at *
      repeat'
       conv => whnf
       first
        | refine zA ?_ | refine zB ?_ | refine zC ?_ | refine zD ?_ | refine zE ?_ | refine zF ?_ | refine zG ?_ | refine zH ?_ | refine zI ?_ | refine splT ?_ | refine splF ?_ | refine splNot ?_
        | ((first | refine splIn (fun hc => ?_) (fun hc => ?_) | refine splD (fun hc => ?_) (fun hc => ?_) | refine splE (fun hc => ?_) (fun hc => ?_) | refine splNE (fun hc => ?_) (fun hc => ?_)) <;> first | (exfalso; omega) | (exfalso; dsimp only at hc; omega) | skip)
        | refine Exists.intro (α := List Value) [iv b3, iv b4] ⟨⟨rfl, fun w' hw' => eA w' hw'⟩, ?_⟩
        | refine Exists.intro (α := List Value) [iv j, iv b6] ⟨⟨rfl, fun w' hw' => eB w' hw'⟩, ?_⟩
        | ((with_reducible show CallEv _ _ 66 _ _ _ _ _); refine callE (k := 66) (fun β w' hbw => ih1 _ hbw) ?_)
      all_goals first | (exfalso; omega) | exact ⟨fun β => rfl, fun w' h => h⟩
    · obtain ⟨j, rfl, hj, hTj, c, hc⟩ := hA3 h3
      have ih1 := fun w' hbw => ih j c w' hbw hc hj
      have hd1 := hdj j hj
      rw [if_neg h3, if_pos h5, Int.toNat_natCast, List.getD_eq_getElem?_getD, hTj, Option.getD_some, Int.add_comm]
      generalize dpv BB j = x at *
      repeat'
       conv => whnf
       first
        | refine zA ?_ | refine zB ?_ | refine zC ?_ | refine zD ?_ | refine zE ?_ | refine zF ?_ | refine zG ?_ | refine zH ?_ | refine zI ?_ | refine splT ?_ | refine splF ?_ | refine splNot ?_
        | ((first | refine splIn (fun hc => ?_) (fun hc => ?_) | refine splD (fun hc => ?_) (fun hc => ?_) | refine splE (fun hc => ?_) (fun hc => ?_) | refine splNE (fun hc => ?_) (fun hc => ?_)) <;> first | (exfalso; omega) | (exfalso; dsimp only at hc; omega) | skip)
        | refine Exists.intro (α := List Value) [iv j, iv b4] ⟨⟨rfl, fun w' hw' => eA w' hw'⟩, ?_⟩
        | refine Exists.intro (α := List Value) [iv b5, iv b6] ⟨⟨rfl, fun w' hw' => eB w' hw'⟩, ?_⟩
        | ((with_reducible show CallEv _ _ 66 _ _ _ _ _); refine callE (k := 66) (fun β w' hbw => ih1 _ hbw) ?_)
      all_goals first | (exfalso; omega) | exact ⟨fun β => rfl, fun w' h => h⟩
    · obtain ⟨j, rfl, hj, hTj, c, hc⟩ := hA3 h3
      obtain ⟨k, rfl, hk, hTk, c', hc'⟩ := hB3 h5
      have ih1 := fun w' hbw => ih j c w' hbw hc hj
      have ih2 := fun w' hbw => ih k c' w' hbw hc' hk
      have hd1 := hdj j hj
      have hd2 := hdj k hk
      rw [if_neg h3, if_neg h5, Int.toNat_natCast, Int.toNat_natCast, List.getD_eq_getElem?_getD, List.getD_eq_getElem?_getD, hTj, hTk, Option.getD_some, Option.getD_some, Int.add_comm _ 1, Int.add_comm _ 1]
      generalize dpv BB j = x at *
      generalize dpv BB k = y at *
      have hmx := imax_bd (x := 1) (y := 1 + x) (by omega) (by omega)
      repeat'
       conv => whnf
       first
        | refine zA ?_ | refine zB ?_ | refine zC ?_ | refine zD ?_ | refine zE ?_ | refine zF ?_ | refine zG ?_ | refine zH ?_ | refine zI ?_ | refine splT ?_ | refine splF ?_ | refine splNot ?_
        | ((first | refine splIn (fun hc => ?_) (fun hc => ?_) | refine splD (fun hc => ?_) (fun hc => ?_) | refine splE (fun hc => ?_) (fun hc => ?_) | refine splNE (fun hc => ?_) (fun hc => ?_)) <;> first | (exfalso; omega) | (exfalso; dsimp only at hc; omega) | skip)
        | refine Exists.intro (α := List Value) [iv j, iv b4] ⟨⟨rfl, fun w' hw' => eA w' hw'⟩, ?_⟩
        | refine Exists.intro (α := List Value) [iv k, iv b6] ⟨⟨rfl, fun w' hw' => eB w' hw'⟩, ?_⟩
        | ((with_reducible show CallEv _ _ 66 [_, .v (iv j)] _ _ _ _); refine callE (k := 66) (fun β w' hbw => ih1 _ hbw) ?_)
        | ((with_reducible show CallEv _ _ 66 [_, .v (iv k)] _ _ _ _); refine callE (k := 66) (fun β w' hbw => ih2 _ hbw) ?_)
      all_goals first | (exfalso; omega) | exact ⟨fun β => rfl, fun w' h => h⟩
  termination_by n => n
end Go.Proofs.Ytaciigegbgnadaa

/- The plain law of frames: what each part is given of a force at a place, told one by one, is what the frame's rows tell. -/
namespace Go.Proofs.Ytaciigegbgnadaa
open Go Tx Go.RowKit
set_option linter.unusedSimpArgs false
set_option linter.unusedVariables false

def sumI : Nat → (Nat → Int) → Int
  | 0, _ => 0
  | n + 1, f => sumI n f + f n
theorem sumI_congr {f g : Nat → Int} : ∀ {n : Nat}, (∀ j, j < n → f j = g j) → sumI n f = sumI n g
  | 0, _ => rfl
  | n + 1, h => by rw [sumI, sumI, sumI_congr fun j hj => h j (by omega), h n (by omega)]
theorem sumI_add {f g : Nat → Int} : ∀ n, sumI n (fun j => f j + g j) = sumI n f + sumI n g
  | 0 => rfl
  | n + 1 => by rw [sumI, sumI, sumI, sumI_add n]; omega
theorem sumI_zero {f : Nat → Int} (h : ∀ j, f j = 0) : ∀ n, sumI n f = 0
  | 0 => rfl
  | n + 1 => by rw [sumI, sumI_zero h n, h]; rfl
theorem sumI_mul {f : Nat → Int} (k : Int) : ∀ n, sumI n (fun j => k * f j) = k * sumI n f
  | 0 => by simp [sumI]
  | n + 1 => by rw [sumI, sumI, sumI_mul k n, Int.mul_add]
/-- One summand changed. -/
theorem sumI_upd {f g : Nat → Int} {k : Nat} {d : Int} (h1 : ∀ j, j ≠ k → g j = f j) (h2 : g k = f k + d) : ∀ {n : Nat}, k < n → sumI n g = sumI n f + d
  | n + 1, hk => by
    rw [sumI, sumI]
    by_cases h : k = n
    · subst h
      rw [h2, sumI_congr (f := g) (g := f) fun j hj => h1 j (by omega)]; omega
    · rw [sumI_upd h1 h2 (show k < n by omega), h1 n (by omega)]; omega

/-- What a force at a place gives a part. -/
def gvR (m : Bm) (a f : Int) : Int := f.tdiv (m.hi - m.lo) * (a - m.lo)
def gv (BB : List Bm) : Nat → Int → Int → Int → Int × Int → Int
  | 0, _, _, _, _ => 0
  | n + 1, b, a, f, q => if b = -1 then (if q = (-1, a) then f else 0) else
    match BB[b.toNat]? with
    | some m => (if q = (b, 0) then f - gvR m a f else 0) + (if q = (b, 1) then gvR m a f else 0) + gv BB n m.ab m.aa (f - gvR m a f) q + gv BB n m.bb m.ba (gvR m a f) q
    | none => 0
/-- The depth of a place. -/
def dpn (BB : List Bm) (b : Int) : Nat := if b = -1 then 0 else (dpv BB b.toNat).toNat
theorem dpn_nat (BB : List Bm) (i : Nat) : dpn BB i = (dpv BB i).toNat := by unfold dpn; rw [if_neg (by omega), Int.toNat_natCast]
/-- Beams that are right: what the law uses. -/
structure BmsG (BB : List Bm) : Prop where
  on : ∀ (i : Nat) b, BB[i]? = some b → (b.ab = -1 ∨ 0 ≤ b.ab ∧ b.ab < i) ∧ (b.bb = -1 ∨ 0 ≤ b.bb ∧ b.bb < i)
  dep : ∀ (i : Nat) b, BB[i]? = some b → dpn BB b.ab + 1 ≤ dpn BB i ∧ dpn BB b.bb + 1 ≤ dpn BB i
  d3 : ∀ (i : Nat), dpn BB i ≤ 3
  sp : ∀ (i : Nat) b, BB[i]? = some b → ∃ t : Int, (b.hi - b.lo) * t = 60 ∧ b.hi - b.lo ≠ 0
theorem bmsG_of {pn : Nat} {BB : List Bm} (h : bmsOk pn [] BB = true) : BmsG BB := by
  have hok := fun (i : Nat) (b : Bm) (hb : BB[i]? = some b) => (by have := bmsOk_all h i b hb; simpa using this : bmOk pn i b = true)
  have hdv : ∀ (i : Nat) (b : Bm), BB[i]? = some b → dpv BB i = dB b (dps [] (BB.take i)) := fun i b hb => by unfold dpv; rw [hb]
  have hds := fun (i : Nat) (b : Bm) (hb : BB[i]? = some b) => bms_dep dsB_nil h i b hb
  refine ⟨fun i b hb => ?_, fun i b hb => ?_, fun i => ?_, fun i b hb => ?_⟩
  · have := bmOk_iff.1 (hok i b hb)
    have h1 := hasB_cases this.2.2.2.1
    have h2 := hasB_cases this.2.2.2.2.1
    omega
  · have hb3 := bmOk_iff.1 (hok i b hb)
    have h1 := hasB_cases hb3.2.2.2.1
    have h2 := hasB_cases hb3.2.2.2.2.1
    obtain ⟨d1, d2⟩ := hds i b hb
    have hil := (List.getElem?_eq_some_iff.1 hb).1
    have hdi := (dB_bd (b := b) d1).1
    rw [dpn_nat, hdv i b hb]
    generalize hT : dps [] (BB.take i) = T at *
    have hA : b.ab ≠ -1 → T.getD b.ab.toNat 0 + 1 ≤ dB b T := fun hn => by
      have : T.getD b.ab.toNat 0 + 1 ≤ dA b T := by unfold dA; rw [if_neg hn, imax_eq]; omega
      unfold dB
      split
      · exact this
      · rw [imax_eq]; omega
    have hB : b.bb ≠ -1 → T.getD b.bb.toNat 0 + 1 ≤ dB b T := fun hn => by
      unfold dB; rw [if_neg hn, imax_eq]; omega
    have hg : ∀ x : Int, 0 ≤ x → x < i → T.getD x.toNat 0 = dpv BB x.toNat := fun x h0 hx => by
      rw [List.getD_eq_getElem?_getD, ← hT, dps_get (show x.toNat < i by omega) (by omega)]; rfl
    unfold dpn
    constructor
    · split
      · omega
      · rename_i hn
        have := hA hn
        rw [hg b.ab (by omega) (by omega)] at this
        omega
    · split
      · omega
      · rename_i hn
        have := hB hn
        rw [hg b.bb (by omega) (by omega)] at this
        omega
  · rw [dpn_nat]
    cases hb : BB[i]? with
    | none => unfold dpv; rw [hb]; simp
    | some b => rw [hdv i b hb]; have := (hds i b hb).2; omega
  · have := (bmOk_iff.1 (hok i b hb)).2.2.1
    unfold spanB spL at this
    rw [List.contains_iff_mem] at this
    simp only [List.mem_cons, List.not_mem_nil, or_false] at this
    rcases this with h | h | h | h | h | h <;> rw [h]
    · exact ⟨6, by decide, by decide⟩
    · exact ⟨5, by decide, by decide⟩
    · exact ⟨4, by decide, by decide⟩
    · exact ⟨3, by decide, by decide⟩
    · exact ⟨2, by decide, by decide⟩
    · exact ⟨1, by decide, by decide⟩
/-- More steps than needed change nothing. -/
theorem gv_fuel {BB : List Bm} (hG : BmsG BB) : ∀ (n n' : Nat) (b a f : Int) (q : Int × Int), (b = -1 ∨ 0 ≤ b) → b + 2 ≤ n → b + 2 ≤ n' → gv BB n b a f q = gv BB n' b a f q
  | 0, n', b, a, f, q, hb, h1, h2 => by omega
  | n + 1, 0, b, a, f, q, hb, h1, h2 => by omega
  | n + 1, n' + 1, b, a, f, q, hb, h1, h2 => by
    unfold gv
    split
    · rfl
    · rename_i hn
      split
      · rename_i m hm
        have := hG.on b.toNat m hm
        rw [gv_fuel hG n n' m.ab m.aa _ q (by omega) (by omega) (by omega), gv_fuel hG n n' m.bb m.ba _ q (by omega) (by omega) (by omega)]
      · rfl
/-- What a force at a place gives a part, in as many steps as there are beams. -/
def gq (BB : List Bm) (b a f : Int) (q : Int × Int) : Int := gv BB (BB.length + 1) b a f q
theorem gq_pt (BB : List Bm) (a f : Int) (q : Int × Int) : gq BB (-1) a f q = if q = (-1, a) then f else 0 := by unfold gq gv; rw [if_pos rfl]
theorem gq_bm {BB : List Bm} (hG : BmsG BB) {i : Nat} {m : Bm} (hm : BB[i]? = some m) (a f : Int) (q : Int × Int) :
    gq BB i a f q = (if q = ((i : Int), 0) then f - gvR m a f else 0) + (if q = ((i : Int), 1) then gvR m a f else 0) + gq BB m.ab m.aa (f - gvR m a f) q + gq BB m.bb m.ba (gvR m a f) q := by
  have hil := (List.getElem?_eq_some_iff.1 hm).1
  have := hG.on i m hm
  unfold gq
  rw [gv, if_neg (by omega), Int.toNat_natCast, hm]
  dsimp only
  rw [gv_fuel hG BB.length (BB.length + 1) m.ab m.aa _ q (by omega) (by omega) (by omega), gv_fuel hG BB.length (BB.length + 1) m.bb m.ba _ q (by omega) (by omega) (by omega)]

/-! ### Multiples of 60 -/
theorem gvR_mul {m : Bm} {a x y : Int} {d : Nat} (hs : ∃ t : Int, (m.hi - m.lo) * t = 60 ∧ m.hi - m.lo ≠ 0) (hx : (60 : Int) ^ (d + 1) ∣ x) : (60 : Int) ^ d ∣ gvR m a x ∧ (60 : Int) ^ d ∣ x - gvR m a x ∧ ∀ k : Int, gvR m a (k * x) = k * gvR m a x := by
  obtain ⟨t, ht, h0⟩ := hs
  obtain ⟨u, rfl⟩ := hx
  unfold gvR
  generalize m.hi - m.lo = s at *
  have e : (60 : Int) ^ (d + 1) * u = s * (t * (60 ^ d * u)) := by
    rw [Int.pow_succ]
    generalize (60 : Int) ^ d = p
    rw [← ht, Int.mul_comm p]
    simp only [Int.mul_assoc]
  have e2 : ∀ k : Int, k * ((60 : Int) ^ (d + 1) * u) = s * (k * (t * (60 ^ d * u))) := fun k => by
    rw [e, Int.mul_left_comm]
  have h1 : (60 : Int) ^ d ∣ ((60 : Int) ^ (d + 1) * u).tdiv s * (a - m.lo) := by
    rw [e, Int.mul_tdiv_cancel_left _ h0]
    exact ⟨t * u * (a - m.lo), by rw [Int.mul_left_comm t]; simp only [Int.mul_assoc]⟩
  refine ⟨h1, ?_, fun k => ?_⟩
  · refine Int.dvd_sub ⟨60 * u, ?_⟩ h1
    rw [Int.pow_succ, Int.mul_assoc]
  · rw [e2, Int.mul_tdiv_cancel_left _ h0, e, Int.mul_tdiv_cancel_left _ h0, Int.mul_assoc]
theorem gvR_add {m : Bm} {a x y : Int} {d : Nat} (hs : ∃ t : Int, (m.hi - m.lo) * t = 60 ∧ m.hi - m.lo ≠ 0) (hx : (60 : Int) ^ (d + 1) ∣ x) (hy : (60 : Int) ^ (d + 1) ∣ y) : gvR m a (x + y) = gvR m a x + gvR m a y := by
  obtain ⟨t, ht, h0⟩ := hs
  obtain ⟨u, rfl⟩ := hx
  obtain ⟨v, rfl⟩ := hy
  unfold gvR
  generalize m.hi - m.lo = s at *
  have e : ∀ u : Int, (60 : Int) ^ (d + 1) * u = s * (t * (60 ^ d * u)) := fun u => by
    rw [Int.pow_succ]
    generalize (60 : Int) ^ d = p
    rw [← ht, Int.mul_comm p]
    simp only [Int.mul_assoc]
  rw [← Int.mul_add, e, e, e, Int.mul_tdiv_cancel_left _ h0, Int.mul_tdiv_cancel_left _ h0, Int.mul_tdiv_cancel_left _ h0, Int.mul_add, Int.mul_add, Int.add_mul]
theorem pow_dvd {d e : Nat} {x : Int} (h : d ≤ e) (hx : (60 : Int) ^ e ∣ x) : (60 : Int) ^ d ∣ x := Int.dvd_trans (by
  obtain ⟨k, rfl⟩ := Nat.exists_eq_add_of_le h
  exact ⟨60 ^ k, Int.pow_add _ _ _⟩) hx
section
variable {BB : List Bm} (hG : BmsG BB)
include hG
/-- Twice the force, twice the gifts. -/
theorem gq_lin : ∀ (n : Nat) (b a x y k : Int) (q : Int × Int), b < n → (60 : Int) ^ dpn BB b ∣ x → (60 : Int) ^ dpn BB b ∣ y → (b = -1 ∨ 0 ≤ b ∧ b < BB.length) →
    gq BB b a (x + y) q = gq BB b a x q + gq BB b a y q ∧ gq BB b a (k * x) q = k * gq BB b a x q := by
  intro n
  induction n with
  | zero =>
    intro b a x y k q hb hx hy hv
    obtain rfl : b = -1 := by omega
    simp only [gq_pt]
    split <;> simp
  | succ n ih =>
    intro b a x y k q hb hx hy hv
    rcases hv with rfl | ⟨h1, h2⟩
    · simp only [gq_pt]
      split <;> simp
    · obtain ⟨i, rfl⟩ := Int.eq_ofNat_of_zero_le h1
      obtain ⟨m, hm⟩ : ∃ m, BB[i]? = some m := ⟨_, List.getElem?_eq_getElem (by omega)⟩
      have hd := hG.dep i m hm
      have ho := hG.on i m hm
      obtain ⟨d, hdd⟩ : ∃ d, dpn BB i = d + 1 := ⟨dpn BB i - 1, by omega⟩
      rw [hdd] at hx hy hd
      obtain ⟨p1, p2, p3⟩ := gvR_mul (a := a) (y := 0) (hG.sp i m hm) hx
      obtain ⟨q1, q2, q3⟩ := gvR_mul (a := a) (y := 0) (hG.sp i m hm) hy
      have ha := gvR_add (a := a) (hG.sp i m hm) hx hy
      have hab : m.ab = -1 ∨ 0 ≤ m.ab ∧ m.ab < BB.length := by omega
      have hbb : m.bb = -1 ∨ 0 ≤ m.bb ∧ m.bb < BB.length := by omega
      have i1 := ih m.ab m.aa (x - gvR m a x) (y - gvR m a y) k q (by omega) (pow_dvd (by omega) p2) (pow_dvd (by omega) q2) hab
      have i2 := ih m.bb m.ba (gvR m a x) (gvR m a y) k q (by omega) (pow_dvd (by omega) p1) (pow_dvd (by omega) q1) hbb
      rw [gq_bm hG hm, gq_bm hG hm, gq_bm hG hm, gq_bm hG hm, ha, p3 k]
      rw [show x + y - (gvR m a x + gvR m a y) = (x - gvR m a x) + (y - gvR m a y) from by omega, show k * x - k * gvR m a x = k * (x - gvR m a x) from by rw [Int.mul_sub], i1.1, i1.2, i2.1, i2.2]
      constructor
      · split <;> split <;> omega
      · simp only [Int.mul_add]
        split <;> split <;> simp [Int.mul_sub]
theorem gq_add {b a x y : Int} (q : Int × Int) (hx : (60 : Int) ^ dpn BB b ∣ x) (hy : (60 : Int) ^ dpn BB b ∣ y) (hv : b = -1 ∨ 0 ≤ b ∧ b < BB.length) : gq BB b a (x + y) q = gq BB b a x q + gq BB b a y q :=
  (gq_lin hG BB.length b a x y 0 q (by omega) hx hy hv).1
theorem gq_mul {b a x : Int} (k : Int) (q : Int × Int) (hx : (60 : Int) ^ dpn BB b ∣ x) (hv : b = -1 ∨ 0 ≤ b ∧ b < BB.length) : gq BB b a (k * x) q = k * gq BB b a x q :=
  (gq_lin hG BB.length b a x x k q (by omega) hx hx hv).2
theorem gq_0 {b a : Int} (q : Int × Int) (hv : b = -1 ∨ 0 ≤ b ∧ b < BB.length) : gq BB b a 0 q = 0 := by
  have := gq_mul hG (a := a) (x := 0) 0 q ⟨0, by simp⟩ hv
  simpa using this
theorem gq_sum {b a : Int} {f : Nat → Int} (q : Int × Int) (hv : b = -1 ∨ 0 ≤ b ∧ b < BB.length) : ∀ n, (∀ j, j < n → (60 : Int) ^ dpn BB b ∣ f j) → gq BB b a (sumI n f) q = sumI n (fun j => gq BB b a (f j) q) ∧ (60 : Int) ^ dpn BB b ∣ sumI n f
  | 0, _ => ⟨gq_0 hG q hv, ⟨0, by simp [sumI]⟩⟩
  | n + 1, h => by
    obtain ⟨ih1, ih2⟩ := gq_sum (f := f) q hv n fun j hj => h j (by omega)
    refine ⟨?_, Int.dvd_add ih2 (h n (by omega))⟩
    rw [sumI, sumI, gq_add hG q ih2 (h n (by omega)) hv, ih1]
end
end Go.Proofs.Ytaciigegbgnadaa

/- The plain law of frames, part 2: what the rows of a frame tell. -/
namespace Go.Proofs.Ytaciigegbgnadaa
open Go Tx Go.RowKit
set_option linter.unusedSimpArgs false
set_option linter.unusedVariables false

/-- What a part is given, read off a frame. -/
def ob (F : Fr) (c : Nat) (q : Int × Int) : Int := if q.1 = -1 then F.p q.2.toNat c else F.h q.1.toNat q.2.toNat c
/-- It is the name of a point or of a hanger. -/
def qv (q : Int × Int) : Prop := (q.1 = -1 ∨ 0 ≤ q.1 ∧ q.2 ≤ 1) ∧ 0 ≤ q.2
def QQ (BB : List Bm) (F : Fr) (I c : Nat) (q : Int × Int) : Int := ob F c q + sumI I (fun b => sumI 61 (fun a => gq BB b a (F.u b a c) q))
def MI (BB : List Bm) (F : Fr) (I c : Nat) : Prop := ∀ b, b < I → ∀ a, (60 : Int) ^ dpn BB b ∣ F.u b a c
theorem dvd_0 (k : Int) : k ∣ 0 := ⟨0, by simp⟩
section
variable {BB : List Bm} (hG : BmsG BB)
include hG
theorem QQ_put {F : Fr} {I c n : Nat} {b a : Int} {x : Row} {q : Int × Int} (hI : I ≤ BB.length) (hM : MI BB F I c) (hh : hasB n b a I = true) (hx : (60 : Int) ^ dpn BB b ∣ x c) (hq : qv q) :
    QQ BB (putF F b a x) I c q = QQ BB F I c q + gq BB b a (x c) q ∧ MI BB (putF F b a x) I c := by
  rcases hasB_cases hh with ⟨rfl, h1, h2⟩ | ⟨hne, ⟨h1, h2⟩, h3, h4⟩
  · have hu : (putF F (-1) a x).u = F.u := rfl
    refine ⟨?_, fun b hb a' => by rw [hu]; exact hM b hb a'⟩
    unfold QQ
    rw [hu, gq_pt]
    have : ob (putF F (-1) a x) c q = ob F c q + (if q = (-1, a) then x c else 0) := by
      obtain ⟨q1, q2⟩ := q
      unfold ob putF putP
      simp only [if_true]
      by_cases hq1 : q1 = -1
      · subst hq1
        simp only [if_true]
        have h0 : 0 ≤ q2 := hq.2
        by_cases hq2 : q2 = a
        · subst hq2; simp [addR]
        · rw [if_neg (show ¬ q2.toNat = a.toNat by omega), if_neg (fun h => hq2 (congrArg Prod.snd h))]; omega
      · rw [if_neg hq1, if_neg hq1, if_neg (fun h => hq1 (congrArg Prod.fst h))]; omega
    rw [this]; omega
  · obtain ⟨k, rfl⟩ := Int.eq_ofNat_of_zero_le h1
    obtain ⟨a, rfl⟩ := Int.eq_ofNat_of_zero_le h3
    have hp : putF F k a x = putU F k a x := by unfold putF; rw [if_neg hne, Int.toNat_natCast, Int.toNat_natCast]
    rw [hp]
    have hkI : k < I := by omega
    have hob : ob (putU F k a x) c q = ob F c q := rfl
    have hua : (putU F k a x).u k a c = F.u k a c + x c := by simp [putU, addR]
    have huk : ∀ a', a' ≠ a → (putU F k a x).u k a' c = F.u k a' c := fun a' h => by simp [putU, h]
    have huj : ∀ j a', j ≠ k → (putU F k a x).u j a' c = F.u j a' c := fun j a' h => by simp [putU, h]
    refine ⟨?_, fun b hb a' => ?_⟩
    · unfold QQ
      rw [hob, sumI_upd (f := fun b => sumI 61 (fun a => gq BB b a (F.u b a c) q)) (k := k) (d := gq BB k a (x c) q) (fun j hj => ?_) ?_ hkI]
      · omega
      · show sumI 61 (fun a' => gq BB k a' ((putU F k a x).u k a' c) q) = sumI 61 (fun a' => gq BB k a' (F.u k a' c) q) + gq BB k a (x c) q
        have hone : gq BB k a ((putU F k a x).u k a c) q = gq BB k a (F.u k a c) q + gq BB k a (x c) q := by
          rw [hua, gq_add hG q (hM k hkI a) hx (by omega)]
        have hoth : ∀ j : Nat, j ≠ a → gq BB k j ((putU F k a x).u k j c) q = gq BB k j (F.u k j c) q := fun a' ha' => by rw [huk a' ha']
        exact sumI_upd (f := fun a' => gq BB k a' (F.u k a' c) q) (g := fun a' => gq BB k a' ((putU F k a x).u k a' c) q) (k := a) (d := gq BB k a (x c) q) (n := 61) hoth hone (by omega)
      · show sumI 61 (fun a' => gq BB j a' ((putU F k a x).u j a' c) q) = sumI 61 (fun a' => gq BB j a' (F.u j a' c) q)
        have hoth : ∀ a' : Nat, a' < 61 → gq BB j a' ((putU F k a x).u j a' c) q = gq BB j a' (F.u j a' c) q := fun a' _ => by rw [huj j a' hj]
        exact sumI_congr (f := fun a' => gq BB j a' ((putU F k a x).u j a' c) q) (g := fun a' => gq BB j a' (F.u j a' c) q) (n := 61) hoth
    · by_cases hj : b = k
      · subst hj
        by_cases ha : a' = a
        · subst ha; rw [hua]; exact Int.dvd_add (hM b hb a') hx
        · rw [huk a' ha]; exact hM b hb a'
      · rw [huj b a' hj]; exact hM b hb a'
omit hG in
theorem hg_sum (b : Bm) (i : Nat) (F : Fr) (c : Nat) : ∀ n : Nat, (hgF b i F n).h i 0 c = F.h i 0 c + sumI n (fun a => F.u i a c - gvR b a (F.u i a c)) ∧ (hgF b i F n).h i 1 c = F.h i 1 c + sumI n (fun a => gvR b a (F.u i a c))
  | 0 => ⟨by simp [hgF, sumI], by simp [hgF, sumI]⟩
  | n + 1 => by
    obtain ⟨ih1, ih2⟩ := hg_sum b i F c n
    obtain ⟨e1, e2, _⟩ := hgF_hi b i F n
    rw [e1, e2]
    simp only [addR, sumI]
    rw [ih1, ih2]
    have r1 : rgt b.lo b.hi n (F.u i n) c = gvR b n (F.u i n c) := rfl
    have r2 : lft b.lo b.hi n (F.u i n) c = F.u i n c - gvR b n (F.u i n c) := rfl
    rw [r1, r2]
    omega
omit hG in
theorem sumI_if (p : Prop) [Decidable p] (f : Nat → Int) (n : Nat) : sumI n (fun j => if p then f j else 0) = if p then sumI n f else 0 := by
  by_cases h : p
  · simp [h]
  · simp [h, sumI_zero (fun _ => rfl)]
set_option maxRecDepth 10000 in
theorem QQ_beam {F : Fr} {i c n : Nat} {b : Bm} {q : Int × Int} (hb : BB[i]? = some b) (hok : bmOk n i b = true) (hM : MI BB F (i + 1) c) (hz : ∀ k, F.h i k c = 0) (hw : (60 : Int) ^ dpn BB i ∣ wtR b c) (hq : qv q) :
    QQ BB (bmF b i F) i c q = QQ BB F (i + 1) c q + gq BB i 30 (wtR b c) q ∧ MI BB (bmF b i F) i c := by
  have hil := (List.getElem?_eq_some_iff.1 hb).1
  have hk := bmOk_iff.1 hok
  obtain ⟨s1, s2⟩ := QQ_put hG (F := F) (I := i + 1) (n := n) (b := i) (a := 30) (x := wtR b) (q := q) (by omega) hM (hasB_own (by omega)) hw hq
  rw [putF_nat] at s1 s2
  unfold bmF bmG
  have hz1 : ∀ k, (putU F i 30 (wtR b)).h i k c = 0 := hz
  rw [← s1]
  generalize putU F i 30 (wtR b) = F1 at *
  have hd := hG.dep i b hb
  have ho := hG.on i b hb
  obtain ⟨d, hdd⟩ : ∃ d, dpn BB i = d + 1 := ⟨dpn BB i - 1, by omega⟩
  have hdv : ∀ a : Nat, (60 : Int) ^ d ∣ gvR b a (F1.u i a c) ∧ (60 : Int) ^ d ∣ F1.u i a c - gvR b a (F1.u i a c) := fun a => by
    have := s2 i (by omega) a
    rw [hdd] at this
    obtain ⟨p1, p2, _⟩ := gvR_mul (a := a) (y := 0) (hG.sp i b hb) this
    exact ⟨p1, p2⟩
  obtain ⟨g1, g2⟩ := hg_sum b i F1 c 61
  rw [hz1, Int.zero_add] at g1 g2
  have hA := gq_sum hG (b := b.ab) (a := b.aa) (f := fun a : Nat => F1.u i a c - gvR b a (F1.u i a c)) q (by omega) 61 (fun a _ => pow_dvd (by omega) (hdv a).2)
  have hB := gq_sum hG (b := b.bb) (a := b.ba) (f := fun a : Nat => gvR b a (F1.u i a c)) q (by omega) 61 (fun a _ => pow_dvd (by omega) (hdv a).1)
  have hsum : sumI 61 (fun a => gq BB i a (F1.u i a c) q) = (if q = ((i : Int), 0) then sumI 61 (fun a : Nat => F1.u i a c - gvR b a (F1.u i a c)) else 0) + (if q = ((i : Int), 1) then sumI 61 (fun a : Nat => gvR b a (F1.u i a c)) else 0)
      + gq BB b.ab b.aa (sumI 61 (fun a : Nat => F1.u i a c - gvR b a (F1.u i a c))) q + gq BB b.bb b.ba (sumI 61 (fun a : Nat => gvR b a (F1.u i a c))) q := by
    rw [hA.1, hB.1, ← sumI_if, ← sumI_if, ← sumI_add, ← sumI_add, ← sumI_add]
    exact sumI_congr fun a _ => gq_bm hG hb a _ q
  have hQ1 : QQ BB F1 (i + 1) c q = ob F1 c q + sumI i (fun b => sumI 61 (fun a => gq BB b a (F1.u b a c) q)) + sumI 61 (fun a => gq BB i a (F1.u i a c) q) := by
    unfold QQ; rw [sumI]; omega
  rw [hsum] at hQ1
  have hGu : (hgF b i F1 61).u = F1.u := hgF_u b i F1 61
  have hGo : ob (hgF b i F1 61) c q = ob F1 c q + (if q = ((i : Int), 0) then sumI 61 (fun a : Nat => F1.u i a c - gvR b a (F1.u i a c)) else 0) + (if q = ((i : Int), 1) then sumI 61 (fun a : Nat => gvR b a (F1.u i a c)) else 0) := by
    obtain ⟨q1, q2⟩ := q
    unfold ob
    rw [hgF_p]
    dsimp only [qv] at hq ⊢
    by_cases hq1 : q1 = -1
    · rw [if_pos hq1, if_pos hq1, if_neg (fun h => by have := congrArg Prod.fst h; simp at this; omega), if_neg (fun h => by have := congrArg Prod.fst h; simp at this; omega)]; omega
    · rw [if_neg hq1, if_neg hq1]
      by_cases hqi : q1 = i
      · subst hqi
        rw [Int.toNat_natCast]
        obtain rfl | rfl : q2 = 0 ∨ q2 = 1 := by omega
        · rw [if_pos rfl, if_neg (by simp)]
          show (hgF b i F1 61).h i 0 c = F1.h i 0 c + _ + 0
          rw [g1, hz1]; omega
        · rw [if_neg (by simp), if_pos rfl]
          show (hgF b i F1 61).h i 1 c = F1.h i 1 c + 0 + _
          rw [g2, hz1]; omega
      · rw [if_neg (fun h => hqi (congrArg Prod.fst h)), if_neg (fun h => hqi (congrArg Prod.fst h)), hgF_h b i F1 (show q1.toNat ≠ i by omega)]; omega
  have hMG : MI BB (hgF b i F1 61) i c := fun j hj a => by rw [hGu]; exact s2 j (by omega) a
  have hQG : QQ BB (hgF b i F1 61) i c q = ob (hgF b i F1 61) c q + sumI i (fun b => sumI 61 (fun a => gq BB b a (F1.u b a c) q)) := by
    unfold QQ; rw [hGu]
  generalize hgF b i F1 61 = G at *
  obtain ⟨t1, t2⟩ := QQ_put hG (F := G) (I := i) (n := n) (b := b.ab) (a := b.aa) (x := G.h i 0) (q := q) (by omega) hMG hk.2.2.2.1 (by rw [g1]; exact hA.2) hq
  obtain ⟨v1, v2⟩ := QQ_put hG (F := putF G b.ab b.aa (G.h i 0)) (I := i) (n := n) (b := b.bb) (a := b.ba) (x := G.h i 1) (q := q) (by omega) t2 hk.2.2.2.2.1 (by rw [g2]; exact hB.2) hq
  refine ⟨?_, v2⟩
  rw [v1, t1, hQG, hGo, hQ1, g1, g2]
  omega
end
section
variable {f0 f1 f2 : Int} {PP : List Int} {BB : List Bm} {LL : List Ld} (hr : rigOk f0 f1 f2 PP BB LL = true)
include hr
theorem rig_G : BmsG BB := bmsG_of (rigOk_iff.1 hr).2.2.2.1
theorem ld_dvd {l : Ld} (hl : l ∈ LL) : (60 : Int) ^ dpn BB l.beam ∣ 216000 ∧ (l.beam = -1 ∨ 0 ≤ l.beam ∧ l.beam < BB.length) := by
  have hG := rig_G hr
  have hok := List.all_eq_true.1 (rigOk_iff.1 hr).2.2.2.2.2.2 l hl
  rw [ldOk_iff] at hok
  have h1 := hasB_cases hok.1
  refine ⟨?_, by omega⟩
  have : dpn BB l.beam ≤ 3 := by
    rcases h1 with h | h
    · rw [h.1]; unfold dpn; simp
    · obtain ⟨k, hk⟩ := Int.eq_ofNat_of_zero_le h.2.1.1
      rw [hk]; exact hG.d3 k
  exact pow_dvd this ⟨1, by decide⟩
theorem lds_ob {q : Int × Int} (hq : qv q) (c : Nat) : ∀ k, k ≤ LL.length → QQ BB (ldsF LL k) BB.length c q = (if c < k then (match LL[c]? with | some l => gq BB l.beam l.at' 216000 q | none => 0) else 0) ∧ MI BB (ldsF LL k) BB.length c
  | 0, _ => by
    have hG := rig_G hr
    refine ⟨?_, fun b _ a => dvd_0 _⟩
    rw [if_neg (by omega)]
    unfold QQ
    have e1 : ob (ldsF LL 0) c q = 0 := by unfold ob; split <;> rfl
    rw [e1, Int.zero_add]
    have : sumI BB.length (fun b => sumI 61 (fun a => gq BB b a ((ldsF LL 0).u b a c) q)) = sumI BB.length (fun _ => 0) := sumI_congr fun j hj => by
      have h0 : ∀ a : Nat, gq BB j a ((ldsF LL 0).u j a c) q = 0 := fun a => gq_0 hG q (by omega)
      exact sumI_zero h0 61
    rw [this, sumI_zero (fun _ => rfl)]
  | k + 1, hk => by
    have hG := rig_G hr
    obtain ⟨ih1, ih2⟩ := lds_ob hq c k (by omega)
    obtain ⟨l, hl⟩ : ∃ l, LL[k]? = some l := ⟨_, List.getElem?_eq_getElem (by omega)⟩
    have hok := List.all_eq_true.1 (rigOk_iff.1 hr).2.2.2.2.2.2 l (List.mem_of_getElem? hl)
    rw [ldOk_iff] at hok
    obtain ⟨h1, h2⟩ := ld_dvd hr (List.mem_of_getElem? hl)
    have hu : unitR k c = if c = k then 216000 else 0 := by
      unfold unitR
      by_cases h : c = k
      · subst h; simp
      · have hb : Nat.beq c k = false := by
          cases hc : Nat.beq c k with
          | false => rfl
          | true => exact absurd (Nat.eq_of_beq_eq_true hc) h
        rw [hb, if_neg h]; rfl
    obtain ⟨t1, t2⟩ := QQ_put hG (F := ldsF LL k) (I := BB.length) (c := c) (n := PP.length) (b := l.beam) (a := l.at') (x := unitR k) (q := q) (Nat.le_refl _) ih2 hok.1 (by rw [hu]; split; exact h1; exact dvd_0 _) hq
    rw [ldsF, hl]
    refine ⟨?_, t2⟩
    dsimp only
    rw [t1, ih1, hu]
    by_cases h : c = k
    · subst h
      rw [if_neg (by omega), if_pos rfl, if_pos (by omega), hl]; simp
    · rw [if_neg h, gq_0 hG q h2]
      by_cases h3 : c < k
      · rw [if_pos h3, if_pos (by omega)]; omega
      · rw [if_neg h3, if_neg (by omega)]; omega
def wsum (BB : List Bm) (c : Nat) (q : Int × Int) (n : Nat) : Int := sumI n (fun i => match BB[i]? with | some b => gq BB i 30 (wtR b c) q | none => 0)
theorem wt_dvd {i : Nat} {b : Bm} (hb : BB[i]? = some b) (c : Nat) : (60 : Int) ^ dpn BB i ∣ wtR b c := by
  have hG := rig_G hr
  refine pow_dvd (hG.d3 i) ?_
  unfold wtR
  cases Nat.beq c 20
  · exact dvd_0 _
  · exact ⟨b.wt, by show b.wt * 216000 = 60 ^ 3 * b.wt; rw [Int.mul_comm]; rfl⟩
theorem bms_ob {q : Int × Int} (hq : qv q) (c : Nat) : ∀ k, k ≤ BB.length → QQ BB (bmsF BB (ldsF LL LL.length) k) (BB.length - k) c q + wsum BB c q (BB.length - k) = QQ BB (ldsF LL LL.length) BB.length c q + wsum BB c q BB.length ∧ MI BB (bmsF BB (ldsF LL LL.length) k) (BB.length - k) c
  | 0, _ => ⟨rfl, (lds_ob hr hq c LL.length (Nat.le_refl _)).2⟩
  | k + 1, hk => by
    have hG := rig_G hr
    obtain ⟨ih1, ih2⟩ := bms_ob hq c k (by omega)
    obtain ⟨i, hi⟩ : ∃ i, i + k + 1 = BB.length := ⟨BB.length - 1 - k, by omega⟩
    obtain ⟨b, hb⟩ : ∃ b, BB[i]? = some b := ⟨_, List.getElem?_eq_getElem (by omega)⟩
    rw [show BB.length - k = i + 1 from by omega] at ih1 ih2
    obtain ⟨t1, t2⟩ := QQ_beam hG hb (bm_at hr hb) ih2 (fun c' => by rw [bms_h _ _ _ _ (by omega), lds_h]; rfl) (wt_dvd hr hb c) hq
    rw [bmsF, show BB.length - 1 - k = i from by omega, hb, show BB.length - (k + 1) = i from by omega]
    dsimp only
    refine ⟨?_, t2⟩
    rw [t1, ← ih1]
    unfold wsum
    rw [sumI, hb]
    dsimp only
    omega
/-- **WHAT A FRAME TELLS**: each load's column is what a newton of it gives; the last one is what all weights give. -/
theorem frF_ob {q : Int × Int} (hq : qv q) (c : Nat) : ob (frF BB LL) c q = (if c < LL.length then (match LL[c]? with | some l => gq BB l.beam l.at' 216000 q | none => 0) else 0) + wsum BB c q BB.length := by
  have h1 := (bms_ob hr hq c BB.length (Nat.le_refl _)).1
  rw [(lds_ob hr hq c LL.length (Nat.le_refl _)).1, Nat.sub_self] at h1
  unfold QQ wsum at h1
  simp only [sumI] at h1
  unfold wsum frF
  omega
theorem frF_ld {q : Int × Int} (hq : qv q) {c : Nat} {l : Ld} (hl : LL[c]? = some l) : ob (frF BB LL) c q = gq BB l.beam l.at' 216000 q := by
  have hG := rig_G hr
  have hc := (List.getElem?_eq_some_iff.1 hl).1
  have hl20 := (rigOk_iff.1 hr).2.2.2.2.1
  rw [frF_ob hr hq c, if_pos hc, hl]
  have : wsum BB c q BB.length = 0 := by
    unfold wsum
    rw [sumI_congr (g := fun _ => 0) fun i hi => ?_, sumI_zero fun _ => rfl]
    rw [List.getElem?_eq_getElem hi]
    dsimp only
    have hb : Nat.beq c 20 = false := by
      cases h : Nat.beq c 20 with
      | false => rfl
      | true => have := Nat.eq_of_beq_eq_true h; omega
    rw [show wtR BB[i] c = 0 from by unfold wtR; rw [hb]; rfl]
    exact gq_0 hG q (by omega)
  rw [this]; dsimp only; omega
theorem frF_wt {q : Int × Int} (hq : qv q) : ob (frF BB LL) 20 q = sumI BB.length (fun i => match BB[i]? with | some b => gq BB i 30 (b.wt * 216000) q | none => 0) := by
  have hl20 := (rigOk_iff.1 hr).2.2.2.2.1
  rw [frF_ob hr hq 20, if_neg (by omega), Int.zero_add]
  rfl
end
end Go.Proofs.Ytaciigegbgnadaa
