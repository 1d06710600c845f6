/- Part 4 of the proof: texts merged. -/
import Derived.Test.YtfbokllafdnglaaRGc
import Derived.Test.YtfbokllafdnglaaE
import Derived.Maps.AppendAt
namespace Go.Proofs.Ytfbokllafdnglaa
open Go Tx Go.RowKit
set_option linter.unusedSimpArgs false
set_option linter.unusedVariables false
theorem bear_ok (n : Int) (w : World) : Calls Try.prog 32 #[iv n] w fun e w' => e = .returned (.bool (inB n 0 1000000)) ∧ Below w.heap.size w w' := by
 refine calls_val env mixed Try.func32 has32 Try.ntmps32 [iv n] (by simp) ?_
 repeat'
  conv => whnf
  first
   | refine zA ?_ | refine zB ?_ | refine zC ?_ | refine zD ?_ | refine zE ?_ | refine zF ?_ | refine zG ?_ | refine zH ?_ | refine zI ?_ | refine splT ?_ | refine splF ?_ | refine splNot ?_
   | ((first | refine splIn ?_ ?_ | refine splD ?_ ?_ | refine splE ?_ ?_ | refine splNE ?_ ?_) <;> intro hc <;> first | (exfalso; omega) | (exfalso; dsimp only at hc; omega) | skip)
   | ((with_reducible show CallEv _ _ 31 _ _ _ _ _); refine callE (k := 31) (fun β w' hbw => In_ok _ _ _ _) ?_)
 all_goals exact ⟨fun β => congrArg Value.bool (by simp [inB, *]), fun w' h => h⟩
theorem spanR_ok (n : Int) (w : World) : Calls Try.prog 33 #[iv n] w fun e w' => e = .returned (.bool (spL.contains n)) ∧ Below w.heap.size w w' := by
 refine calls_val env mixed Try.func33 has33 Try.ntmps33 [iv n] (by simp) ?_
 have h : ∀ q : Bool, (q = true ↔ n = 10 ∨ n = 12 ∨ n = 15 ∨ n = 20 ∨ n = 30 ∨ n = 60) → q = spL.contains n := fun q hq => by
  rw [Bool.eq_iff_iff, hq, List.contains_iff_mem]
  simp [spL]
 repeat'
  conv => whnf
  first
   | refine zA ?_ | refine zB ?_ | refine zC ?_ | refine zD ?_ | refine zE ?_ | refine zF ?_ | refine zG ?_ | refine zH ?_ | refine zI ?_ | refine splT ?_ | refine splF ?_ | refine splNot ?_
   | ((first | refine splIn ?_ ?_ | refine splD ?_ ?_ | refine splE ?_ ?_ | refine splNE ?_ ?_) <;> intro hc <;> first | (exfalso; omega) | (exfalso; dsimp only at hc; omega) | skip)
 all_goals exact ⟨fun β => congrArg Value.bool (h _ (by simp <;> omega)), fun w' h => h⟩
set_option maxRecDepth 100000 in
theorem HasR_ok (r : Rig) (b a n : Int) (w : World) (hp : (r.pn : Int) ≤ 9223372036854775807) (hn : -9223372036854775807 ≤ n ∧ n ≤ 9223372036854775807) :
 Calls Try.prog 34 #[r.v, iv n, .agg #[iv b, iv a]] w fun e w' => e = .returned (.bool (hasB r.pn b a n)) ∧ Below w.heap.size w w' := by
 obtain ⟨po, pn, pc, bo, bn, bc, f0, f1, f2, lo, ln, lc⟩ := r
 dsimp only at hp ⊢
 refine calls_val env mixed Try.func34 has34 Try.ntmps34 [.agg #[.slice po pn pc, .slice bo bn bc, iv f0, iv f1, iv f2, .slice lo ln lc], iv n, .agg #[iv b, iv a]] (by simp) ?_
 unfold hasB
 by_cases hb : b = -1
 · rw [if_pos hb]
   repeat'
    conv => whnf
    first
     | refine zA ?_ | refine zB ?_ | refine zC ?_ | refine zD ?_ | refine zE ?_ | refine zF ?_ | refine zG ?_ | refine zH ?_ | refine zI ?_ | refine splT ?_ | refine splF ?_ | refine splNot ?_
     | ((first | refine splIn ?_ ?_ | refine splD ?_ ?_ | refine splE ?_ ?_ | refine splNE ?_ ?_) <;> intro hc <;> first | (exfalso; omega) | (exfalso; dsimp only at hc; omega) | skip)
     | ((with_reducible show CallEv _ _ 31 _ _ _ _ _); refine callE (k := 31) (fun β w' hbw => In_ok _ _ _ _) ?_)
   all_goals first | (exfalso; omega) | skip
   all_goals exact ⟨fun β => congrArg Value.bool (by simp [inB, *]), fun w' h => h⟩
 · rw [if_neg hb]
   repeat'
    conv => whnf
    first
     | refine zA ?_ | refine zB ?_ | refine zC ?_ | refine zD ?_ | refine zE ?_ | refine zF ?_ | refine zG ?_ | refine zH ?_ | refine zI ?_ | refine splT ?_ | refine splF ?_ | refine splNot ?_
     | ((first | refine splIn ?_ ?_ | refine splD ?_ ?_ | refine splE ?_ ?_ | refine splNE ?_ ?_) <;> intro hc <;> first | (exfalso; omega) | (exfalso; dsimp only at hc; omega) | skip)
     | ((with_reducible show CallEv _ _ 31 _ _ _ _ _); refine callE (k := 31) (fun β w' hbw => In_ok _ _ _ _) ?_)
   all_goals first | (exfalso; omega) | skip
   all_goals exact ⟨fun β => congrArg Value.bool (by simp [inB, *]), fun w' h => h⟩
def dpv (BB : List Bm) (i : Nat) : Int := match BB[i]? with | some b => dB b (dps [] (BB.take i)) | none => 0
theorem dps_get {BB : List Bm} {i j : Nat} (hj : j < i) (hi : i ≤ BB.length) : (dps [] (BB.take i))[j]? = some (dpv BB j) := by
 obtain ⟨b, hb⟩ : ∃ b, BB[j]? = some b := ⟨_, List.getElem?_eq_getElem (by omega)⟩
 obtain ⟨t, ht⟩ := dps_pre ((BB.take i).drop (j + 1)) (dps [] ((BB.take i).take (j + 1)))
 rw [← dps_append, List.take_append_drop, List.take_take, Nat.min_eq_left (by omega), dps_take hb] at ht
 have hl : (dps [] (BB.take j)).length = j := by rw [dps_len]; simp; omega
 rw [ht, List.append_assoc, List.getElem?_append_right (by omega), hl]
 simp [dpv, hb]
def bmsR (pn : Nat) (BB : List Bm) (i : Nat) : Prop := ∀ (j : Nat) b, BB[j]? = some b → j < i → hasB pn b.ab b.aa j = true ∧ hasB pn b.bb b.ba j = true ∧ dpv BB j ≤ 3
theorem bmsR_dsB {pn : Nat} {BB : List Bm} : ∀ {i : Nat}, bmsR pn BB i → i ≤ BB.length → dsB (dps [] (BB.take i))
 | 0, _, _ => fun j n h => by simp [dps] at h
 | i + 1, h, hi => by
  have ih := bmsR_dsB (i := i) (fun j b hb hj => h j b hb (by omega)) (by omega)
  obtain ⟨b, hb⟩ : ∃ b, BB[i]? = some b := ⟨_, List.getElem?_eq_getElem (by omega)⟩
  have h3 := (h i b hb (by omega)).2.2
  rw [dps_take hb]
  refine dsB_snoc ih ⟨(dB_bd ih).1, ?_⟩
  unfold dpv at h3
  rw [hb] at h3
  exact h3
set_option maxHeartbeats 4000000 in
set_option maxRecDepth 100000 in
theorem Depth_ok (r : Rig) (PP : List Int) (BB : List Bm) (LL : List Ld) : ∀ (n i : Nat), i < n → ∀ (w : World) (b : Bm), RigX r PP BB LL w → BB.length ≤ 1000000 → BB[i]? = some b → bmsR r.pn BB i → hasB r.pn b.ab b.aa i = true → hasB r.pn b.bb b.ba i = true →
 Calls Try.prog 35 #[r.v, iv i] w fun e w' => e = .returned (iv (dpv BB i)) ∧ Below w.heap.size w w'
 | n + 1, i, hin, w, b, hX, hbl, hb, hR, h1, h2 => by
  have hil := (List.getElem?_eq_some_iff.1 hb).1
  have hds := bmsR_dsB hR (by omega)
  have ih := fun (j : Nat) (c : Bm) (w' : World) (hbw : Below w.heap.size w w') (hc : BB[j]? = some c) (hj : j < i) => Depth_ok r PP BB LL n j (by omega) w' c (hX.below hbw) hbl hc (fun j' b' h h' => hR j' b' h (by omega)) (hR j c hc hj).1 (hR j c hc hj).2.1
  have g1 := hasB_cases h1
  have g2 := hasB_cases h2
  have hget := fun (j : Nat) (hj : j < i) => dps_get (BB := BB) hj (by omega)
  have hdv : dpv BB i = dB b (dps [] (BB.take i)) := by unfold dpv; rw [hb]
  have hdj : ∀ j, j < i → 1 ≤ dpv BB j ∧ dpv BB j ≤ 3 := fun j hj => hds j _ (hget j hj)
  rw [hdv]
  have hB := hX.b
  have hbn := hX.bn
  obtain ⟨po, pn, pc, bo, bn, bc, f0, f1, f2, lo, ln, lc⟩ := r
  dsimp only at ih hB hbn g1 g2
  subst hbn
  refine calls_val env mixed Try.func35 has35 Try.ntmps35 [.agg #[.slice po pn pc, .slice bo BB.length bc, iv f0, iv f1, iv f2, .slice lo ln lc], iv i] (by simp) ?_
  obtain ⟨_, ad, rfl, _⟩ := hB.ptr (by omega)
  have e1 := fun (w' : World) (hw' : Below w.heap.size w w') => rd_ati (hB.below hw') hb
  have eA := fun (w' : World) (hw' : Below w.heap.size w w') => fun j v (h : [iv b.ab, iv b.aa][j]? = some v) => (show w'.cell? (((ad.add ((i : Int).toNat * 8)).add 2).add j) = some v from by
   match j, h with
   | 0, h => rw [Addr.add_add]; exact e1 w' hw' 2 _ h
   | 1, h => rw [Addr.add_add]; exact e1 w' hw' 3 _ h)
  have eB := fun (w' : World) (hw' : Below w.heap.size w w') => fun j v (h : [iv b.bb, iv b.ba][j]? = some v) => (show w'.cell? (((ad.add ((i : Int).toNat * 8)).add 4).add j) = some v from by
   match j, h with
   | 0, h => rw [Addr.add_add]; exact e1 w' hw' 4 _ h
   | 1, h => rw [Addr.add_add]; exact e1 w' hw' 5 _ h)
  obtain ⟨b1, b2, b3, b4, b5, b6, b7, b8⟩ := b
  dsimp only at g1 g2 eA eB
  generalize hT : dps [] (BB.take i) = T at *
  have hA3 : b3 ≠ -1 → ∃ j : Nat, b3 = j ∧ j < i ∧ T[j]? = some (dpv BB j) ∧ ∃ c, BB[j]? = some c := fun hne => by
   obtain ⟨j, hj⟩ := Int.eq_ofNat_of_zero_le (show 0 ≤ b3 by omega)
   exact ⟨j, hj, by omega, hget j (by omega), _, List.getElem?_eq_getElem (by omega)⟩
  have hB3 : b5 ≠ -1 → ∃ j : Nat, b5 = j ∧ j < i ∧ T[j]? = some (dpv BB j) ∧ ∃ c, BB[j]? = some c := fun hne => by
   obtain ⟨j, hj⟩ := Int.eq_ofNat_of_zero_le (show 0 ≤ b5 by omega)
   exact ⟨j, hj, by omega, hget j (by omega), _, List.getElem?_eq_getElem (by omega)⟩
  unfold dB dA
  dsimp only
  by_cases h3 : b3 = -1 <;> by_cases h5 : b5 = -1
  · rw [if_pos h3, if_pos h5]
    repeat'
     conv => whnf
     first
      | refine zA ?_ | refine zB ?_ | refine zC ?_ | refine zD ?_ | refine zE ?_ | refine zF ?_ | refine zG ?_ | refine zH ?_ | refine zI ?_ | refine splT ?_ | refine splF ?_ | refine splNot ?_
      | ((first | refine splIn ?_ ?_ | refine splD ?_ ?_ | refine splE ?_ ?_ | refine splNE ?_ ?_) <;> intro hc <;> first | (exfalso; omega) | (exfalso; dsimp only at hc; omega) | skip)
      | refine Exists.intro (α := List Value) [iv b3, iv b4] ⟨⟨rfl, fun w' hw' => eA w' hw'⟩, ?_⟩
      | refine Exists.intro (α := List Value) [iv b5, iv b6] ⟨⟨rfl, fun w' hw' => eB w' hw'⟩, ?_⟩
    all_goals first | (exfalso; omega) | exact ⟨fun β => rfl, fun w' h => h⟩
  · obtain ⟨j, rfl, hj, hTj, c, hc⟩ := hB3 h5
    have ih1 := fun w' hbw => ih j c w' hbw hc hj
    have hd1 := hdj j hj
    rw [if_pos h3, if_neg h5, Int.toNat_natCast, List.getD_eq_getElem?_getD, hTj, Option.getD_some, Int.add_comm]
    generalize dpv BB j = x at *
    repeat'
     conv => whnf
     first
      | refine zA ?_ | refine zB ?_ | refine zC ?_ | refine zD ?_ | refine zE ?_ | refine zF ?_ | refine zG ?_ | refine zH ?_ | refine zI ?_ | refine splT ?_ | refine splF ?_ | refine splNot ?_
      | ((first | refine splIn ?_ ?_ | refine splD ?_ ?_ | refine splE ?_ ?_ | refine splNE ?_ ?_) <;> intro hc <;> first | (exfalso; omega) | (exfalso; dsimp only at hc; omega) | skip)
      | refine Exists.intro (α := List Value) [iv b3, iv b4] ⟨⟨rfl, fun w' hw' => eA w' hw'⟩, ?_⟩
      | refine Exists.intro (α := List Value) [iv j, iv b6] ⟨⟨rfl, fun w' hw' => eB w' hw'⟩, ?_⟩
      | ((with_reducible show CallEv _ _ 35 _ _ _ _ _); refine callE (k := 35) (fun β w' hbw => ih1 _ hbw) ?_)
    all_goals first | (exfalso; omega) | exact ⟨fun β => rfl, fun w' h => h⟩
  · obtain ⟨j, rfl, hj, hTj, c, hc⟩ := hA3 h3
    have ih1 := fun w' hbw => ih j c w' hbw hc hj
    have hd1 := hdj j hj
    rw [if_neg h3, if_pos h5, Int.toNat_natCast, List.getD_eq_getElem?_getD, hTj, Option.getD_some, Int.add_comm]
    generalize dpv BB j = x at *
    repeat'
     conv => whnf
     first
      | refine zA ?_ | refine zB ?_ | refine zC ?_ | refine zD ?_ | refine zE ?_ | refine zF ?_ | refine zG ?_ | refine zH ?_ | refine zI ?_ | refine splT ?_ | refine splF ?_ | refine splNot ?_
      | ((first | refine splIn ?_ ?_ | refine splD ?_ ?_ | refine splE ?_ ?_ | refine splNE ?_ ?_) <;> intro hc <;> first | (exfalso; omega) | (exfalso; dsimp only at hc; omega) | skip)
      | refine Exists.intro (α := List Value) [iv j, iv b4] ⟨⟨rfl, fun w' hw' => eA w' hw'⟩, ?_⟩
      | refine Exists.intro (α := List Value) [iv b5, iv b6] ⟨⟨rfl, fun w' hw' => eB w' hw'⟩, ?_⟩
      | ((with_reducible show CallEv _ _ 35 _ _ _ _ _); refine callE (k := 35) (fun β w' hbw => ih1 _ hbw) ?_)
    all_goals first | (exfalso; omega) | exact ⟨fun β => rfl, fun w' h => h⟩
  · obtain ⟨j, rfl, hj, hTj, c, hc⟩ := hA3 h3
    obtain ⟨k, rfl, hk, hTk, c', hc'⟩ := hB3 h5
    have ih1 := fun w' hbw => ih j c w' hbw hc hj
    have ih2 := fun w' hbw => ih k c' w' hbw hc' hk
    have hd1 := hdj j hj
    have hd2 := hdj k hk
    rw [if_neg h3, if_neg h5, Int.toNat_natCast, Int.toNat_natCast, List.getD_eq_getElem?_getD, List.getD_eq_getElem?_getD, hTj, hTk, Option.getD_some, Option.getD_some, Int.add_comm _ 1, Int.add_comm _ 1]
    generalize dpv BB j = x at *
    generalize dpv BB k = y at *
    have hmx := imax_bd (x := 1) (y := 1 + x) (by omega) (by omega)
    repeat'
     conv => whnf
     first
      | refine zA ?_ | refine zB ?_ | refine zC ?_ | refine zD ?_ | refine zE ?_ | refine zF ?_ | refine zG ?_ | refine zH ?_ | refine zI ?_ | refine splT ?_ | refine splF ?_ | refine splNot ?_
      | ((first | refine splIn ?_ ?_ | refine splD ?_ ?_ | refine splE ?_ ?_ | refine splNE ?_ ?_) <;> intro hc <;> first | (exfalso; omega) | (exfalso; dsimp only at hc; omega) | skip)
      | refine Exists.intro (α := List Value) [iv j, iv b4] ⟨⟨rfl, fun w' hw' => eA w' hw'⟩, ?_⟩
      | refine Exists.intro (α := List Value) [iv k, iv b6] ⟨⟨rfl, fun w' hw' => eB w' hw'⟩, ?_⟩
      | ((with_reducible show CallEv _ _ 35 [_, .v (iv j)] _ _ _ _); refine callE (k := 35) (fun β w' hbw => ih1 _ hbw) ?_)
      | ((with_reducible show CallEv _ _ 35 [_, .v (iv k)] _ _ _ _); refine callE (k := 35) (fun β w' hbw => ih2 _ hbw) ?_)
    all_goals first | (exfalso; omega) | exact ⟨fun β => rfl, fun w' h => h⟩
 termination_by n => n
end Go.Proofs.Ytfbokllafdnglaa
namespace Go.Proofs.Ytfbokllafdnglaa
open Go Tx Go.RowKit
set_option linter.unusedSimpArgs false
set_option linter.unusedVariables false
def gvR (m : Bm) (a f : Int) : Int := f.tdiv (m.hi - m.lo) * (a - m.lo)
def gv (BB : List Bm) : Nat → Int → Int → Int → Int × Int → Int
 | 0, _, _, _, _ => 0
 | n + 1, b, a, f, q => if b = -1 then (if q = (-1, a) then f else 0) else
  match BB[b.toNat]? with
  | some m => (if q = (b, 0) then f - gvR m a f else 0) + (if q = (b, 1) then gvR m a f else 0) + gv BB n m.ab m.aa (f - gvR m a f) q + gv BB n m.bb m.ba (gvR m a f) q
  | none => 0
section
end
end Go.Proofs.Ytfbokllafdnglaa
namespace Go.Proofs.Ytfbokllafdnglaa
open Go Tx Go.RowKit
set_option linter.unusedSimpArgs false
set_option linter.unusedVariables false
def ob (F : Fr) (c : Nat) (q : Int × Int) : Int := if q.1 = -1 then F.p q.2.toNat c else F.h q.1.toNat q.2.toNat c
section
end
section
end
end Go.Proofs.Ytfbokllafdnglaa
namespace Go.Proofs.Ytfbokllafdnglaa
open Go Tx Go.RowKit
theorem under4 : Try.prog.underlying 4 = some .bool := by kernel_rfl
theorem eqIn4 (d : Nat) (a b : Bool) (w : World) : (Op.equalIn (d + 1) 4 (.bool a) (.bool b)).run Try.prog w = .ok (a == b) w := by
 rw [Op.equalIn]
 simp [Sem.run_bind, Go.run_underlying under4 w]
theorem under3 : Try.prog.underlying 3 = some (.int .i64) := by kernel_rfl
theorem eqIn3 (d : Nat) (a b : Int) (w : World) : (Op.equalIn (d + 1) 3 (iv a) (iv b)).run Try.prog w = .ok (a == b) w := equalIn_int under3 a b
theorem eqlB (a b : Bool) (x y : Operand) : RunIs Try.prog (do eqGuard .eql 4 x y (.bool a) (.bool b); binOp .eql 4 (.bool a) (.bool b)) (.bool (a == b)) := fun w => by
 have h := eqIn4 9999 a b w
 simp [eqGuard, binOp, Op.equal, Op.maxDepth, h]
theorem eqlEB {a b : Bool} {x y : Operand} {K : Value → Prop} (h : K (.bool (a == b))) : ∃ v, (∀ _ : Nat → Nat, RunIs Try.prog (do eqGuard .eql 4 x y (.bool a) (.bool b); binOp .eql 4 (.bool a) (.bool b)) v) ∧ K v := ⟨_, fun _ => eqlB a b x y, h⟩
theorem FrIn.below {r : Rig} {n m : Nat} {F : Fr} {y : FrA} {w w' : World} (h : FrIn r n m F y w) (hb : Below w.heap.size w w') : FrIn r n m F y w' :=
 ⟨fun j v hj => ext_below hb (h.c j v hj), h.p.below hb, h.h.below hb⟩
def endV (r : Rig) (x : Int) (most : Bool) (l : Ld) : Int := if x ≠ 0 ∧ (decide (x > 0) = most) then hiP r l else l.lo
def endL (r : Rig) (x : Row) (most : Bool) (LL : List Ld) : List Int := (List.range LL.length).map fun k => match LL[k]? with | some l => endV r (x k) most l | none => 0
theorem endL_len (r : Rig) (x : Row) (most : Bool) (LL : List Ld) : (endL r x most LL).length = LL.length := by simp [endL]
theorem endL_at {r : Rig} {x : Row} {most : Bool} {LL : List Ld} {k : Nat} {l : Ld} (h : LL[k]? = some l) : (endL r x most LL)[k]? = some (endV r (x k) most l) := by
 have := (List.getElem?_eq_some_iff.1 h).1
 simp [endL, this]
 rw [List.getElem?_eq_getElem this] at h
 cases h; rfl
theorem row_at (x : Row) {k : Nat} (hk : k < 21) : (rwS x).drop k = .v (iv (x k)) :: (rwS x).drop (k + 1) := by
 rcases m22 (show k ≤ 21 by omega) with rfl | rfl | rfl | rfl | rfl | rfl | rfl | rfl | rfl | rfl | rfl | rfl | rfl | rfl | rfl | rfl | rfl | rfl | rfl | rfl | rfl | rfl
 all_goals first | rfl | (exfalso; omega)
theorem fac_bd {r : Rig} (h : [r.f0, r.f1, r.f2].all (fun n => inB n 1000 20000) = true) (k : Nat) : 1000 ≤ r.fac k ∧ r.fac k ≤ 20000 := by
 simp only [List.all_cons, List.all_nil, Bool.and_true, Bool.and_eq_true, inB_iff] at h
 unfold Rig.fac
 split <;> omega
set_option maxHeartbeats 8000000 in
set_option maxRecDepth 100000 in
theorem end_ok (r : Rig) (PP : List Int) (BB : List Bm) (LL : List Ld) (F : Fr) (y : FrA) (x : Row) (most : Bool) (w : World) (h : RigIn r PP BB LL w) (hr : rigOk r.f0 r.f1 r.f2 PP BB LL = true) (hy : FrIn r PP.length BB.length F y w) :
 Calls Try.prog 30 #[.pointer (some ⟨y.fb, 0, none⟩), .agg (rwL x).toArray, .bool most] w fun e w' => ∃ b c, e = .returned (.slice (some ⟨b, 0, none⟩) LL.length c) ∧ w.heap.size ≤ b ∧ Below w.heap.size w w' ∧
  w'.ownsRow 0 3 1 (.slice (some ⟨b, 0, none⟩) LL.length c) LL.length ((endL r x most LL).flatMap iF) := by
 obtain ⟨po, pn, pc, bo, bn, bc, f0, f1, f2, lo, ln, lc⟩ := r
 obtain ⟨hP, hB, hL, rfl, rfl, rfl, l1, l2, l3⟩ := h
 have hc := hy.c
 obtain ⟨fb, pb, pc', hb, hc', ub, uc⟩ := y
 dsimp only at hP hB hL l1 l2 l3 hr hc ⊢
 rw [rigOk_iff] at hr
 obtain ⟨q1, q2, q3, q4, q5, q6, q7⟩ := hr
 refine calls_fam2 env mixed Try.func30 has30 Try.ntmps30 [.pointer (some ⟨fb, 0, none⟩), .agg (rwL x).toArray, .bool most] (by simp) ?_
 have g5 := fun (w' : World) (hb : Below w.heap.size w w') => fun j v (h : [Value.slice lo LL.length lc][j]? = some v) => (show w'.cell? ((((⟨fb, 0, none⟩ : Addr).add 0).add 5).add j) = some v from by
  match j, h with
  | 0, h => cases h; rw [Addr.add_add, Addr.add_add]; exact ext_below hb (hc 5 _ rfl))
 repeat'
  conv => whnf
  first
   | refine zA ?_ | refine zB ?_ | refine zC ?_ | refine zD ?_ | refine zE ?_ | refine zF ?_ | refine zG ?_ | refine zH ?_ | refine zI ?_ | refine splT ?_ | refine splF ?_ | refine splNot ?_
   | ((first | refine splIn ?_ ?_ | refine splD ?_ ?_ | refine splE ?_ ?_ | refine splNE ?_ ?_) <;> intro hc <;> first | (exfalso; omega) | (exfalso; dsimp only at hc; omega) | skip)
   | refine nilX rfl rfl ?_
   | refine Exists.intro (α := List Value) [.slice lo LL.length lc] ⟨⟨rfl, fun w' hw' => g5 w' hw'⟩, ?_⟩
   | refine mkO env 1 LL.length ((List.replicate LL.length (0 : Int)).flatMap iF) rfl rfl rfl (by decide) rfl (by omega) (by decide) (by rw [List.flatMap_replicate]; rfl) rfl ?_
 refine loopN2 3 (fun (k : Nat) (D : List Int) => [(0, .v (.pointer (some ⟨fb, 0, none⟩))), (2, .v (.bool most)), (4, .ptr 0 0), (7, .os 1 2 LL.length), (18, .v (iv LL.length)), (19, .v (iv k))])
  (fun k D => [(0, .cells (rwS x) 118), (1, .own 2 LL.length 1 (D.flatMap iF) 3)])
  (fun k D => k ≤ LL.length ∧ D.length = LL.length ∧ D.take k = (endL ⟨po, PP.length, pc, bo, BB.length, bc, f0, f1, f2, lo, LL.length, lc⟩ x most LL).take k) (fun k _ => LL.length - k) 0 (List.replicate LL.length 0)
  ⟨Nat.zero_le _, by simp, rfl⟩ ⟨rfl, rfl, rfl, rfl, rfl, rfl, trivial⟩ ⟨rfl, rfl, trivial⟩ (fun _ _ _ => ⟨rfl, rfl⟩) ?_
 intro k D ⟨hk, hD, hDk⟩
 have hel := endL_len ⟨po, PP.length, pc, bo, BB.length, bc, f0, f1, f2, lo, LL.length, lc⟩ x most LL
 rcases Nat.lt_or_ge k LL.length with hkl | hkl
 · obtain ⟨l, hb⟩ : ∃ b, LL[k]? = some b := ⟨_, List.getElem?_eq_getElem hkl⟩
   have hlo := List.all_eq_true.1 q7 l (List.mem_of_getElem? hb)
   rw [ldOk_iff] at hlo
   have hnx : (endL ⟨po, PP.length, pc, bo, BB.length, bc, f0, f1, f2, lo, LL.length, lc⟩ x most LL).take (k + 1) = (endL ⟨po, PP.length, pc, bo, BB.length, bc, f0, f1, f2, lo, LL.length, lc⟩ x most LL).take k ++ [endV ⟨po, PP.length, pc, bo, BB.length, bc, f0, f1, f2, lo, LL.length, lc⟩ (x k) most l] := by
    rw [List.take_add_one, endL_at hb]; rfl
   have hfac := fac_bd (r := ⟨po, PP.length, pc, bo, BB.length, bc, f0, f1, f2, lo, LL.length, lc⟩) q6 l.kind
   have hp := fun (w' : World) (hb' : Below w.heap.size w w') => pull_ok ⟨po, PP.length, pc, bo, BB.length, bc, f0, f1, f2, lo, LL.length, lc⟩ LL k l w' (hL.below hb') rfl hb l3 (by omega) (by omega) (by omega)
   have hkD : k < D.length := by omega
   unfold endV at hnx
   have hxd := row_at x (show k < 21 by omega)
   generalize hiP ⟨po, PP.length, pc, bo, BB.length, bc, f0, f1, f2, lo, LL.length, lc⟩ l = hi at *
   have gA := fun (w' : World) (hb : Below w.heap.size w w') => fun j v (h : [Value.slice po PP.length pc, .slice bo BB.length bc, iv f0, iv f1, iv f2, .slice lo LL.length lc][j]? = some v) => (show w'.cell? (((⟨fb, 0, none⟩ : Addr).add 0).add j) = some v from by
    rw [Addr.add_add, Nat.zero_add]; exact ext_below hb (hc j _ (by
     have hj : j < 6 := (List.getElem?_eq_some_iff.1 h).1
     obtain rfl | rfl | rfl | rfl | rfl | rfl : j = 0 ∨ j = 1 ∨ j = 2 ∨ j = 3 ∨ j = 4 ∨ j = 5 := by omega
     all_goals exact h)))
   have hdr : (rwS x).drop (0 + (k : Int).toNat * ti3.size) = .v (iv (x k)) :: (rwS x).drop (k + 1) := by
    rw [Int.toNat_natCast, Nat.zero_add, show ti3.size = 1 from rfl, Nat.mul_one]; exact hxd
   cases most <;> by_cases hx0 : x k = 0
   all_goals skip
   repeat'
    conv => whnf
    first
     | refine zA ?_ | refine zB ?_ | refine zC ?_ | refine zD ?_ | refine zE ?_ | refine zF ?_ | refine zG ?_ | refine zH ?_ | refine zI ?_ | refine splT ?_ | refine splF ?_ | refine splNot ?_
     | ((first | refine splIn ?_ ?_ | refine splD ?_ ?_ | refine splE ?_ ?_ | refine splNE ?_ ?_) <;> intro hc <;> first | (exfalso; omega) | (exfalso; dsimp only at hc; omega) | skip)
     | refine nilX rfl rfl ?_
     | refine Exists.intro (α := List Value) [.slice po PP.length pc, .slice bo BB.length bc, iv f0, iv f1, iv f2, .slice lo LL.length lc] ⟨⟨rfl, fun w' hw' => gA w' hw'⟩, ?_⟩
     | ((with_reducible show CallEv _ _ 72 _ _ _ _ _); refine callE (k := 72) (fun β w' hbw => hp _ hbw) ?_)
     | refine dropK_to hdr ?_
     | refine eqlEB ?_
     | ((with_reducible show CallEv _ _ 73 _ _ _ _ _); refine callE (k := 73) (fun β w' hbw => choose_ok _ _ _ _) ?_)
     | (refine And.intro (a := _ + _ ≤ List.length _) (stS' hkD _) ?_; rw [stE hkD])
   all_goals first | (exfalso; omega) | skip
   all_goals first
    | exact ⟨k + 1, D.set k (if false = true then hi else l.lo), ⟨by omega, by rw [List.length_set]; exact hD, by rw [set_take hkD, hDk, hnx]; congr 2; by_cases hx1 : x k > 0 <;> simp [hx0, hx1]⟩, by omega, Ent.weak rfl ⟨rfl, rfl, rfl, rfl, rfl, rfl, trivial⟩ ⟨rfl, rfl, trivial⟩ fun _ h => h⟩
    | exact ⟨k + 1, D.set k (if (decide (x k > 0) == false) = true then hi else l.lo), ⟨by omega, by rw [List.length_set]; exact hD, by rw [set_take hkD, hDk, hnx]; congr 2; by_cases hx1 : x k > 0 <;> simp [hx0, hx1]⟩, by omega, Ent.weak rfl ⟨rfl, rfl, rfl, rfl, rfl, rfl, trivial⟩ ⟨rfl, rfl, trivial⟩ fun _ h => h⟩
    | exact ⟨k + 1, D.set k (if (decide (x k > 0) == true) = true then hi else l.lo), ⟨by omega, by rw [List.length_set]; exact hD, by rw [set_take hkD, hDk, hnx]; congr 2; by_cases hx1 : x k > 0 <;> simp [hx0, hx1]⟩, by omega, Ent.weak rfl ⟨rfl, rfl, rfl, rfl, rfl, rfl, trivial⟩ ⟨rfl, rfl, trivial⟩ fun _ h => h⟩
 · rw [List.take_of_length_le (by omega), List.take_of_length_le (by omega)] at hDk
   subst hDk
   repeat'
    conv => whnf
    first
     | refine zA ?_ | refine zB ?_ | refine zC ?_ | refine zD ?_ | refine zE ?_ | refine zF ?_ | refine zG ?_ | refine zH ?_ | refine zI ?_ | refine splT ?_ | refine splF ?_ | refine splNot ?_
     | ((first | refine splIn ?_ ?_ | refine splD ?_ ?_ | refine splE ?_ ?_ | refine splNE ?_ ?_) <;> intro hc <;> first | (exfalso; omega) | (exfalso; dsimp only at hc; omega) | skip)
   exact ⟨fun w' h => h, fun β w' hB hB2 hblk => ⟨β 1, β 2, rfl, (hblk 1 _ rfl rfl).1, hB2, (hblk 1 _ rfl rfl).2⟩⟩
end Go.Proofs.Ytfbokllafdnglaa
namespace Go.Proofs.Ytfbokllafdnglaa
open Go Tx Go.RowKit
set_option linter.unusedSimpArgs false
set_option linter.unusedVariables false
def rowQ (x : Row) : Prop := ∀ c, (x c).natAbs ≤ Bb c 12
theorem Bb_mono {c k : Nat} (h : k ≤ 12) : Bb c k ≤ Bb c 12 := by
 unfold Bb
 split
 · have := Nat.mul_le_mul_right 474552000000000 h; omega
 · omega
theorem hiP_bd {r : Rig} {l : Ld} (hf : 1000 ≤ r.fac l.kind ∧ r.fac l.kind ≤ 20000) (hl : 0 ≤ l.hi ∧ l.hi ≤ 1000000) : l.hi ≤ hiP r l ∧ hiP r l ≤ 20000000 := by
 unfold hiP
 have h0 : 0 ≤ l.hi * r.fac l.kind := Int.mul_nonneg hl.1 (by omega)
 have h1 : l.hi * r.fac l.kind ≤ 1000000 * 20000 := Int.mul_le_mul hl.2 hf.2 (by omega) (by omega)
 have h2 : l.hi * 1000 ≤ l.hi * r.fac l.kind := Int.mul_le_mul_of_nonneg_left hf.1 hl.1
 omega
theorem mul_q {a p : Int} (h1 : a.natAbs ≤ 474552000) (h2 : p.natAbs ≤ 20000000) : -9491040000000000 ≤ a * p ∧ a * p ≤ 9491040000000000 := by
 have h := Int.natAbs_mul a p
 have h3 : a.natAbs * p.natAbs ≤ 474552000 * 20000000 := Nat.mul_le_mul h1 h2
 omega
def pullsB (P : List Int) : Prop := P.length ≤ 20 ∧ ∀ n ∈ P, 0 ≤ n ∧ n ≤ 20000000
theorem dotB_of {x : Row} {P : List Int} (hx : rowQ x) (hP : pullsB P) : dotB x P := by
 refine ⟨hP.1, ?_, fun i hi => ?_⟩
 · have := hx 20
   unfold Bb at this
   rw [if_pos rfl] at this
   omega
 · have h1 := hx i
   have hi20 : i ≠ 20 := by have := hP.1; omega
   unfold Bb at h1
   rw [if_neg hi20] at h1
   have h2 : (P.getD i 0).natAbs ≤ 20000000 := by
    rw [List.getD_eq_getElem?_getD, List.getElem?_eq_getElem hi]
    have := hP.2 _ (List.getElem_mem hi)
    simp only [Option.getD_some]
    omega
   have := mul_q h1 h2
   omega
theorem endL_B {r : Rig} {PP : List Int} {BB : List Bm} {LL : List Ld} (hr : rigOk r.f0 r.f1 r.f2 PP BB LL = true) (x : Row) (most : Bool) : pullsB (endL r x most LL) := by
 rw [rigOk_iff] at hr
 obtain ⟨q1, q2, q3, q4, q5, q6, q7⟩ := hr
 refine ⟨by rw [endL_len]; exact q5, fun n hn => ?_⟩
 obtain ⟨k, hk⟩ := List.getElem?_of_mem hn
 have hkl : k < LL.length := by rw [← endL_len r x most LL]; exact (List.getElem?_eq_some_iff.1 hk).1
 rw [endL_at (List.getElem?_eq_getElem hkl), Option.some.injEq] at hk
 have hlo := List.all_eq_true.1 q7 _ (List.getElem_mem hkl)
 rw [ldOk_iff] at hlo
 have := hiP_bd (fac_bd (r := r) q6 LL[k].kind) hlo.2.2.2.1
 unfold endV at hk
 split at hk <;> omega
def endD (r : Rig) (LL : List Ld) (x : Row) (most : Bool) : Int := dotR x (endL r x most LL) LL.length
set_option maxHeartbeats 4000000 in
set_option maxRecDepth 100000 in
theorem least_ok (r : Rig) (PP : List Int) (BB : List Bm) (LL : List Ld) (F : Fr) (y : FrA) (x : Row) (w : World) (h : RigIn r PP BB LL w) (hr : rigOk r.f0 r.f1 r.f2 PP BB LL = true) (hy : FrIn r PP.length BB.length F y w) (hx : rowQ x) :
 Calls Try.prog 76 #[.pointer (some ⟨y.fb, 0, none⟩), .agg (rwL x).toArray] w fun e w' => e = .returned (iv (endD r LL x false)) ∧ Below w.heap.size w w' := by
 refine calls_val env mixed Try.func76 has76 Try.ntmps76 [.pointer (some ⟨y.fb, 0, none⟩), .agg (rwL x).toArray] (by simp) ?_
 have he := fun (w' : World) (hb : Below w.heap.size w w') => end_ok r PP BB LL F y x false w' (h.below hb) hr (hy.below hb)
 have hd := fun (o : Option Addr) (c : Nat) (w' : World) (hrd : Rd 1 iF (.slice o (endL r x false LL).length c) (endL r x false LL) w') => bears_ok x (endL r x false LL) o c w' hrd (dotB_of hx (endL_B hr x false))
 rw [endL_len] at hd
 have hl := endL_len r x false LL
 unfold endD
 generalize endL r x false LL = E at *
 generalize y.fb = fb at *
 repeat'
  conv => whnf
  first
   | refine zA ?_ | refine zB ?_ | refine zC ?_ | refine zD ?_ | refine zE ?_ | refine zF ?_ | refine zG ?_ | refine zH ?_ | refine zI ?_ | refine splT ?_ | refine splF ?_ | refine splNot ?_
   | ((first | refine splIn ?_ ?_ | refine splD ?_ ?_ | refine splE ?_ ?_ | refine splNE ?_ ?_) <;> intro hc <;> first | (exfalso; omega) | (exfalso; dsimp only at hc; omega) | skip)
   | ((with_reducible show CallEv _ _ 30 _ _ _ _ _); refine callO 1 [] (.os 1 2 LL.length) LL.length 1 (E.flatMap iF) 3 rfl (fun β w' _ hbw => (he w' hbw).mono fun _ _ ⟨b, c, h1, h2, h3, h4⟩ => ⟨b, c, h1, h2, h3, h4⟩) ?_)
   | ((with_reducible show CallEv _ _ 97 _ _ _ _ _); refine callM (k := 97) [1] (fun β w' hbk hbw => hd _ _ w' (Rd.of_owns (sz := 1) (f := iF) (bs := E) (fun _ => rfl) rfl hl.symm (hbk 1 (by simp) _ rfl))) ?_)
 all_goals first | exact ⟨fun β => rfl, fun w' h => h⟩
set_option maxHeartbeats 4000000 in
set_option maxRecDepth 100000 in
theorem most_ok (r : Rig) (PP : List Int) (BB : List Bm) (LL : List Ld) (F : Fr) (y : FrA) (x : Row) (w : World) (h : RigIn r PP BB LL w) (hr : rigOk r.f0 r.f1 r.f2 PP BB LL = true) (hy : FrIn r PP.length BB.length F y w) (hx : rowQ x) :
 Calls Try.prog 69 #[.pointer (some ⟨y.fb, 0, none⟩), .agg (rwL x).toArray] w fun e w' => e = .returned (iv (endD r LL x true)) ∧ Below w.heap.size w w' := by
 refine calls_val env mixed Try.func69 has69 Try.ntmps69 [.pointer (some ⟨y.fb, 0, none⟩), .agg (rwL x).toArray] (by simp) ?_
 have he := fun (w' : World) (hb : Below w.heap.size w w') => end_ok r PP BB LL F y x true w' (h.below hb) hr (hy.below hb)
 have hd := fun (o : Option Addr) (c : Nat) (w' : World) (hrd : Rd 1 iF (.slice o (endL r x true LL).length c) (endL r x true LL) w') => bears_ok x (endL r x true LL) o c w' hrd (dotB_of hx (endL_B hr x true))
 rw [endL_len] at hd
 have hl := endL_len r x true LL
 unfold endD
 generalize endL r x true LL = E at *
 generalize y.fb = fb at *
 repeat'
  conv => whnf
  first
   | refine zA ?_ | refine zB ?_ | refine zC ?_ | refine zD ?_ | refine zE ?_ | refine zF ?_ | refine zG ?_ | refine zH ?_ | refine zI ?_ | refine splT ?_ | refine splF ?_ | refine splNot ?_
   | ((first | refine splIn ?_ ?_ | refine splD ?_ ?_ | refine splE ?_ ?_ | refine splNE ?_ ?_) <;> intro hc <;> first | (exfalso; omega) | (exfalso; dsimp only at hc; omega) | skip)
   | ((with_reducible show CallEv _ _ 30 _ _ _ _ _); refine callO 1 [] (.os 1 2 LL.length) LL.length 1 (E.flatMap iF) 3 rfl (fun β w' _ hbw => (he w' hbw).mono fun _ _ ⟨b, c, h1, h2, h3, h4⟩ => ⟨b, c, h1, h2, h3, h4⟩) ?_)
   | ((with_reducible show CallEv _ _ 97 _ _ _ _ _); refine callM (k := 97) [1] (fun β w' hbk hbw => hd _ _ w' (Rd.of_owns (sz := 1) (f := iF) (bs := E) (fun _ => rfl) rfl hl.symm (hbk 1 (by simp) _ rfl))) ?_)
 all_goals first | exact ⟨fun β => rfl, fun w' h => h⟩
set_option maxHeartbeats 4000000 in
set_option maxRecDepth 100000 in
theorem of_ok (r : Rig) (PP : List Int) (BB : List Bm) (LL : List Ld) (F : Fr) (y : FrA) (x : Row) (w : World) (h : RigIn r PP BB LL w) (hr : rigOk r.f0 r.f1 r.f2 PP BB LL = true) (hy : FrIn r PP.length BB.length F y w) (hx : rowQ x) :
 Calls Try.prog 54 #[.pointer (some ⟨y.fb, 0, none⟩), .agg (rwL x).toArray] w fun e w' => e = .returned (.agg #[iv (endD r LL x false), iv (endD r LL x true)]) ∧ Below w.heap.size w w' := by
 refine calls_val env mixed Try.func54 has54 Try.ntmps54 [.pointer (some ⟨y.fb, 0, none⟩), .agg (rwL x).toArray] (by simp) ?_
 have h1 := fun (w' : World) (hb : Below w.heap.size w w') => least_ok r PP BB LL F y x w' (h.below hb) hr (hy.below hb) hx
 have h2 := fun (w' : World) (hb : Below w.heap.size w w') => most_ok r PP BB LL F y x w' (h.below hb) hr (hy.below hb) hx
 generalize endD r LL x false = e0 at *
 generalize endD r LL x true = e1 at *
 generalize y.fb = fb at *
 repeat'
  conv => whnf
  first
   | refine zA ?_ | refine zB ?_ | refine zC ?_ | refine zD ?_ | refine zE ?_ | refine zF ?_ | refine zG ?_ | refine zH ?_ | refine zI ?_ | refine splT ?_ | refine splF ?_ | refine splNot ?_
   | ((first | refine splIn ?_ ?_ | refine splD ?_ ?_ | refine splE ?_ ?_ | refine splNE ?_ ?_) <;> intro hc <;> first | (exfalso; omega) | (exfalso; dsimp only at hc; omega) | skip)
   | ((with_reducible show CallEv _ _ 76 _ _ _ _ _); refine callE (k := 76) (fun β w' hbw => h1 _ hbw) ?_)
   | ((with_reducible show CallEv _ _ 69 _ _ _ _ _); refine callE (k := 69) (fun β w' hbw => h2 _ hbw) ?_)
 all_goals first | exact ⟨fun β => rfl, fun w' h => h⟩
end Go.Proofs.Ytfbokllafdnglaa
namespace Go.Proofs.Ytfbokllafdnglaa
open Go Tx Go.RowKit
set_option linter.unusedSimpArgs false
set_option linter.unusedVariables false
def pulB (r : Rig) : List Ld → List Int → Bool
 | [], [] => true
 | l :: L, n :: P => inB n l.lo (hiP r l) && pulB r L P
 | _, _ => false
theorem pulB_at {r : Rig} : ∀ {L : List Ld} {P : List Int}, pulB r L P = true → ∀ (k : Nat) n, P[k]? = some n → ∃ l, L[k]? = some l ∧ l.lo ≤ n ∧ n ≤ hiP r l
 | [], [], _, k, n, h => by simp at h
 | l :: L, n :: P, h, 0, m, hm => by
  rw [pulB, Bool.and_eq_true, inB_iff] at h
  simp only [List.getElem?_cons_zero, Option.some.injEq] at hm
  subst hm
  exact ⟨l, rfl, h.1⟩
 | l :: L, n :: P, h, k + 1, m, hm => by
  rw [pulB, Bool.and_eq_true] at h
  simpa using pulB_at h.2 k m (by simpa using hm)
theorem rng_at {α : Type} (f : Nat → α) {n k : Nat} (h : k < n) : ((List.range n).map f)[k]? = some (f k) := by
 rw [List.getElem?_map, List.getElem?_range h]; rfl
theorem rng_take {α : Type} (f : Nat → α) {n k : Nat} (h : k < n) : ((List.range n).map f).take (k + 1) = ((List.range n).map f).take k ++ [f k] := by
 rw [List.take_add_one, rng_at f h]; rfl
theorem frF_Q {f0 f1 f2 : Int} {PP : List Int} {BB : List Bm} {LL : List Ld} (hr : rigOk f0 f1 f2 PP BB LL = true) : (∀ j, rowQ ((frF BB LL).p j)) ∧ ∀ j k, rowQ ((frF BB LL).h j k) := by
 have hm : BB.length ≤ 12 := (rigOk_iff.1 hr).2.2.1
 exact ⟨fun j c => Nat.le_trans ((frF_bnd hr c).1 j) (Bb_mono hm), fun j k c => Nat.le_trans ((frF_bnd hr c).2.1 j k) (Bb_mono hm)⟩
end Go.Proofs.Ytfbokllafdnglaa
namespace Go.Proofs.Ytfbokllafdnglaa
open Go Tx Go.RowKit
set_option linter.unusedSimpArgs false
set_option linter.unusedVariables false
set_option maxHeartbeats 8000000 in
set_option maxRecDepth 100000 in
theorem Right_ok (r : Rig) (PP : List Int) (BB : List Bm) (LL : List Ld) (w : World) (h : RigX r PP BB LL w) :
 Calls Try.prog 12 #[r.v] w fun e w' => e = .returned (.bool (rigOk r.f0 r.f1 r.f2 PP BB LL)) ∧ Below w.heap.size w w' := by
 have hDp := fun (k : Nat) (b : Bm) (w' : World) (hb' : Below w.heap.size w w') (hm : BB.length ≤ 12) (hb : BB[k]? = some b) (hR : bmsR r.pn BB k) (h1 : hasB r.pn b.ab b.aa k = true) (h2 : hasB r.pn b.bb b.ba k = true) => Depth_ok r PP BB LL BB.length k (List.getElem?_eq_some_iff.1 hb).1 w' b (h.below hb') (by omega) hb hR h1 h2
 obtain ⟨po, pn, pc, bo, bn, bc, f0, f1, f2, lo, ln, lc⟩ := r
 obtain ⟨hP, hB, hL, rfl, rfl, rfl, l1, l2, l3, iP, iB, iL, i0, i1, i2⟩ := h
 dsimp only at hP hB hL l1 l2 l3 hDp i0 i1 i2 ⊢
 refine calls_val env mixed Try.func12 has12 Try.ntmps12 [.agg #[.slice po PP.length pc, .slice bo BB.length bc, iv f0, iv f1, iv f2, .slice lo LL.length lc]] (by simp) ?_
 have hF : rigOk f0 f1 f2 PP BB LL = false → false = rigOk f0 f1 f2 PP BB LL := fun h => h.symm
 repeat'
  conv => whnf
  first
   | refine zA ?_ | refine zB ?_ | refine zC ?_ | refine zD ?_ | refine zE ?_ | refine zF ?_ | refine zG ?_ | refine zH ?_ | refine zI ?_ | refine splT ?_ | refine splF ?_ | refine splNot ?_
   | ((first | refine splIn ?_ ?_ | refine splD ?_ ?_ | refine splE ?_ ?_ | refine splNE ?_ ?_) <;> intro hc <;> first | (exfalso; omega) | (exfalso; dsimp only at hc; omega) | skip)
   | ((with_reducible show CallEv _ _ 31 _ _ _ _ _); refine callE (k := 31) (fun β w' hbw => In_ok _ _ _ _) ?_)
 all_goals first | exact ⟨fun β => congrArg Value.bool (hF (by rw [Bool.eq_false_iff]; intro hc; rw [rigOk_iff] at hc; omega)), fun w' h => h⟩ | skip
 have b12 : BB.length ≤ 12 := by omega
 have l20 : LL.length ≤ 20 := by omega
 refine loopN 1 (fun k : Nat => [(1, .ptr 0 0), (3, .v (iv k))]) (fun _ => [(0, .cells [.v (.slice po PP.length pc), .v (.slice bo BB.length bc), .v (iv f0), .v (iv f1), .v (iv f2), .v (.slice lo LL.length lc)] 54)])
  (fun k => k ≤ PP.length ∧ (PP.take k).all (fun n => inB n 0 1000000) = true) (fun k => PP.length - k) 0 ⟨Nat.zero_le _, rfl⟩ ⟨rfl, rfl, trivial⟩ ⟨rfl, trivial⟩ (fun _ _ => ⟨rfl, rfl⟩) ?_
 intro k ⟨hk, hall⟩
 rcases Nat.lt_or_ge k PP.length with hkl | hkl
 · obtain ⟨n, hb⟩ : ∃ b, PP[k]? = some b := ⟨_, List.getElem?_eq_getElem hkl⟩
   obtain ⟨_, ad, rfl, _⟩ := hP.ptr (by omega)
   have ht : (PP.take (k + 1)).all (fun n => inB n 0 1000000) = inB n 0 1000000 := by rw [List.take_add_one, hb]; simp [hall]
   have e0 := fun (w' : World) hw' => rd_ati (hP.below (w' := w') hw') hb
   have hno : inB n 0 1000000 = false → rigOk f0 f1 f2 PP BB LL = false := fun h => by
    rw [Bool.eq_false_iff]; intro hc; rw [rigOk_iff, List.all_eq_true (l := PP)] at hc
    rw [hc.2.1 n (List.mem_of_getElem? hb)] at h; cases h
   repeat'
    conv => whnf
    first
     | refine zA ?_ | refine zB ?_ | refine zC ?_ | refine zD ?_ | refine zE ?_ | refine zF ?_ | refine zG ?_ | refine zH ?_ | refine zI ?_ | refine splT ?_ | refine splF ?_ | refine splNot ?_
     | ((first | refine splIn ?_ ?_ | refine splD ?_ ?_ | refine splE ?_ ?_ | refine splNE ?_ ?_) <;> intro hc <;> first | (exfalso; omega) | (exfalso; dsimp only at hc; omega) | skip)
     | refine Exists.intro (α := List Value) [iv n] ⟨⟨rfl, fun w' hw' => e0 w' hw'⟩, ?_⟩
     | ((with_reducible show CallEv _ _ 32 _ _ _ _ _); refine callE (k := 32) (fun β w' hbw => bear_ok _ _) ?_)
   all_goals first
    | (exfalso; omega)
    | exact ⟨k + 1, ⟨by omega, by rw [ht, inB_iff]; omega⟩, by omega, Ent.weak rfl ⟨rfl, rfl, trivial⟩ ⟨rfl, trivial⟩ fun _ h => h⟩
    | exact ⟨fun β => congrArg Value.bool (hF (hno (by rw [Bool.eq_false_iff]; intro hc; rw [inB_iff] at hc; omega))), fun w' h => h⟩
 rw [List.take_of_length_le hkl] at hall
 repeat'
  conv => whnf
  first
   | refine zA ?_ | refine zB ?_ | refine zC ?_ | refine zD ?_ | refine zE ?_ | refine zF ?_ | refine zG ?_ | refine zH ?_ | refine zI ?_ | refine splT ?_ | refine splF ?_ | refine splNot ?_
   | ((first | refine splIn ?_ ?_ | refine splD ?_ ?_ | refine splE ?_ ?_ | refine splNE ?_ ?_) <;> intro hc <;> first | (exfalso; omega) | (exfalso; dsimp only at hc; omega) | skip)
 all_goals first | (exfalso; omega) | skip
 refine loopN 1 (fun k : Nat => [(1, .ptr 0 0), (4, .v (iv k))]) (fun _ => [(0, .cells [.v (.slice po PP.length pc), .v (.slice bo BB.length bc), .v (iv f0), .v (iv f1), .v (iv f2), .v (.slice lo LL.length lc)] 54)])
  (fun k => k ≤ 3 ∧ (1 ≤ k → inB f0 1000 20000 = true) ∧ (2 ≤ k → inB f1 1000 20000 = true) ∧ (3 ≤ k → inB f2 1000 20000 = true)) (fun k => 3 - k) 0 ⟨by omega, fun h => absurd h (by omega), fun h => absurd h (by omega), fun h => absurd h (by omega)⟩ ⟨rfl, rfl, trivial⟩ ⟨rfl, trivial⟩ (fun _ _ => ⟨rfl, rfl⟩) ?_
 clear hk hkl
 intro k ⟨hk, p0, p1, p2⟩
 have hno : inB f0 1000 20000 = false ∨ inB f1 1000 20000 = false ∨ inB f2 1000 20000 = false → rigOk f0 f1 f2 PP BB LL = false := fun h => by
  rw [Bool.eq_false_iff]; intro hc; rw [rigOk_iff] at hc
  have := hc.2.2.2.2.2.1
  simp only [List.all_cons, List.all_nil, Bool.and_true, Bool.and_eq_true] at this
  rw [this.1, this.2.1, this.2.2] at h
  simp at h
 obtain rfl | rfl | rfl | rfl : k = 0 ∨ k = 1 ∨ k = 2 ∨ k = 3 := by omega
 · skip
   repeat'
    conv => whnf
    first
     | refine zA ?_ | refine zB ?_ | refine zC ?_ | refine zD ?_ | refine zE ?_ | refine zF ?_ | refine zG ?_ | refine zH ?_ | refine zI ?_ | refine splT ?_ | refine splF ?_ | refine splNot ?_
     | ((first | refine splIn ?_ ?_ | refine splD ?_ ?_ | refine splE ?_ ?_ | refine splNE ?_ ?_) <;> intro hc <;> first | (exfalso; omega) | (exfalso; dsimp only at hc; omega) | skip)
     | ((with_reducible show CallEv _ _ 31 _ _ _ _ _); refine callE (k := 31) (fun β w' hbw => In_ok _ _ _ _) ?_)
   all_goals first
    | (exfalso; omega)
    | exact ⟨1, ⟨by omega, fun _ => inB_iff.2 (by omega), fun h => absurd h (by omega), fun h => absurd h (by omega)⟩, by omega, Ent.weak rfl ⟨rfl, rfl, trivial⟩ ⟨rfl, trivial⟩ fun _ h => h⟩
    | exact ⟨fun β => congrArg Value.bool (hF (hno (.inl (by rw [Bool.eq_false_iff]; intro hc; rw [inB_iff] at hc; omega)))), fun w' h => h⟩
 · have p0 := p0 (by omega)
   repeat'
    conv => whnf
    first
     | refine zA ?_ | refine zB ?_ | refine zC ?_ | refine zD ?_ | refine zE ?_ | refine zF ?_ | refine zG ?_ | refine zH ?_ | refine zI ?_ | refine splT ?_ | refine splF ?_ | refine splNot ?_
     | ((first | refine splIn ?_ ?_ | refine splD ?_ ?_ | refine splE ?_ ?_ | refine splNE ?_ ?_) <;> intro hc <;> first | (exfalso; omega) | (exfalso; dsimp only at hc; omega) | skip)
     | ((with_reducible show CallEv _ _ 31 _ _ _ _ _); refine callE (k := 31) (fun β w' hbw => In_ok _ _ _ _) ?_)
   all_goals first
    | (exfalso; omega)
    | exact ⟨2, ⟨by omega, fun _ => p0, fun _ => inB_iff.2 (by omega), fun h => absurd h (by omega)⟩, by omega, Ent.weak rfl ⟨rfl, rfl, trivial⟩ ⟨rfl, trivial⟩ fun _ h => h⟩
    | exact ⟨fun β => congrArg Value.bool (hF (hno (.inr (.inl (by rw [Bool.eq_false_iff]; intro hc; rw [inB_iff] at hc; omega))))), fun w' h => h⟩
 · have p0 := p0 (by omega)
   have p1 := p1 (by omega)
   repeat'
    conv => whnf
    first
     | refine zA ?_ | refine zB ?_ | refine zC ?_ | refine zD ?_ | refine zE ?_ | refine zF ?_ | refine zG ?_ | refine zH ?_ | refine zI ?_ | refine splT ?_ | refine splF ?_ | refine splNot ?_
     | ((first | refine splIn ?_ ?_ | refine splD ?_ ?_ | refine splE ?_ ?_ | refine splNE ?_ ?_) <;> intro hc <;> first | (exfalso; omega) | (exfalso; dsimp only at hc; omega) | skip)
     | ((with_reducible show CallEv _ _ 31 _ _ _ _ _); refine callE (k := 31) (fun β w' hbw => In_ok _ _ _ _) ?_)
   all_goals first
    | (exfalso; omega)
    | exact ⟨3, ⟨by omega, fun _ => p0, fun _ => p1, fun _ => inB_iff.2 (by omega)⟩, by omega, Ent.weak rfl ⟨rfl, rfl, trivial⟩ ⟨rfl, trivial⟩ fun _ h => h⟩
    | exact ⟨fun β => congrArg Value.bool (hF (hno (.inr (.inr (by rw [Bool.eq_false_iff]; intro hc; rw [inB_iff] at hc; omega))))), fun w' h => h⟩
 have hfac : [f0, f1, f2].all (fun n => inB n 1000 20000) = true := by simp [p0 (by omega), p1 (by omega), p2 (by omega)]
 clear p0 p1 p2 hno
 repeat'
  conv => whnf
  first
   | refine zA ?_ | refine zB ?_ | refine zC ?_ | refine zD ?_ | refine zE ?_ | refine zF ?_ | refine zG ?_ | refine zH ?_ | refine zI ?_ | refine splT ?_ | refine splF ?_ | refine splNot ?_
   | ((first | refine splIn ?_ ?_ | refine splD ?_ ?_ | refine splE ?_ ?_ | refine splNE ?_ ?_) <;> intro hc <;> first | (exfalso; omega) | (exfalso; dsimp only at hc; omega) | skip)
 all_goals first | (exfalso; omega) | skip
 refine loopN 1 (fun k : Nat => [(1, .ptr 0 0), (5, .v (iv k))]) (fun _ => [(0, .cells [.v (.slice po PP.length pc), .v (.slice bo BB.length bc), .v (iv f0), .v (iv f1), .v (iv f2), .v (.slice lo LL.length lc)] 54)])
  (fun k => k ≤ BB.length ∧ bmsOk PP.length [] BB = bmsOk PP.length (dps [] (BB.take k)) (BB.drop k) ∧ bmsR PP.length BB k) (fun k => BB.length - k) 0 ⟨Nat.zero_le _, rfl, fun j b _ h => absurd h (by omega)⟩ ⟨rfl, rfl, trivial⟩ ⟨rfl, trivial⟩ (fun _ _ => ⟨rfl, rfl⟩) ?_
 clear hk
 intro k ⟨hk, hen, hR⟩
 rcases Nat.lt_or_ge k BB.length with hkl | hkl
 · obtain ⟨b, hb⟩ : ∃ b, BB[k]? = some b := ⟨_, List.getElem?_eq_getElem hkl⟩
   obtain ⟨_, ad, rfl, _⟩ := hB.ptr (by omega)
   have e0 := fun (w' : World) hw' => rd_ati (hB.below (w' := w') hw') hb
   have hdl : (dps [] (BB.take k)).length = k := by rw [dps_len]; simp; omega
   rw [bmsOk_drop hb, hdl] at hen
   have hnx := dps_take hb []
   have hdv : dpv BB k = dB b (dps [] (BB.take k)) := by unfold dpv; rw [hb]
   have hdp := fun (w' : World) (hb' : Below w.heap.size w w') => hDp k b w' hb' b12 hb hR
   have hR' : hasB PP.length b.ab b.aa k = true → hasB PP.length b.bb b.ba k = true → dpv BB k ≤ 3 → bmsR PP.length BB (k + 1) := fun q1 q2 q3 j c hc hj => by
    by_cases hjk : j = k
    · subst hjk
      rw [hb] at hc; cases hc
      exact ⟨q1, q2, q3⟩
    · exact hR j c hc (by omega)
   rw [← hdv] at hen hnx
   have hno : bmsOk PP.length [] BB = false → rigOk f0 f1 f2 PP BB LL = false := fun h => by
    rw [Bool.eq_false_iff]; intro hc; rw [rigOk_iff, h] at hc; exact absurd hc.2.2.2.1 (by simp)
   have hn1 : bmOk PP.length k b = false → rigOk f0 f1 f2 PP BB LL = false := fun h => hno (by rw [hen, h]; rfl)
   have hn2 : ¬ dpv BB k ≤ 3 → rigOk f0 f1 f2 PP BB LL = false := fun h => hno (by rw [hen, decide_eq_false h, Bool.and_false]; rfl)
   have hy : bmOk PP.length k b = true → dpv BB k ≤ 3 → bmsOk PP.length [] BB = bmsOk PP.length (dps [] (BB.take (k + 1))) (BB.drop (k + 1)) := fun h h3 => by rw [hen, h, decide_eq_true h3, hnx]; rfl
   clear hen hDp hnx hdv
   have hsp : spanB b = spL.contains (b.hi - b.lo) := rfl
   obtain ⟨b1, b2, b3, b4, b5, b6, b7, b8⟩ := b
   dsimp only at hdp hR' hsp
   generalize dpv BB k = z at *
   have hz4 : z ≤ 3 ∨ ¬ z ≤ 3 := by omega
   repeat'
    conv => whnf
    first
     | refine zA ?_ | refine zB ?_ | refine zC ?_ | refine zD ?_ | refine zE ?_ | refine zF ?_ | refine zG ?_ | refine zH ?_ | refine zI ?_ | refine splT ?_ | refine splF ?_ | refine splNot ?_
     | ((first | refine splIn ?_ ?_ | refine splD ?_ ?_ | refine splE ?_ ?_ | refine splNE ?_ ?_) <;> intro hc <;> first | (exfalso; omega) | (exfalso; dsimp only at hc; omega) | skip)
     | refine Exists.intro (α := List Value) [iv b1, iv b2, iv b3, iv b4, iv b5, iv b6, iv b7, iv b8] ⟨⟨rfl, fun w' hw' => e0 w' hw'⟩, ?_⟩
     | ((with_reducible show CallEv _ _ 31 _ _ _ _ _); refine callE (k := 31) (fun β w' hbw => In_ok _ _ _ _) ?_)
     | ((with_reducible show CallEv _ _ 33 _ _ _ _ _); refine callE (k := 33) (fun β w' hbw => spanR_ok _ _) ?_)
     | ((with_reducible show CallEv _ _ 34 _ _ _ _ _); refine callE (k := 34) (fun β w' hbw => HasR_ok ⟨po, PP.length, pc, some ad, BB.length, bc, f0, f1, f2, lo, LL.length, lc⟩ _ _ _ _ (by dsimp only; omega) (by omega)) ?_)
     | ((with_reducible show CallEv _ _ 32 _ _ _ _ _); refine callE (k := 32) (fun β w' hbw => bear_ok _ _) ?_)
     | refine splB (fun hb => ?_) (fun hb => ?_)
     | ((with_reducible show CallEv _ _ 35 _ _ _ _ _); refine callE (k := 35) (fun β w' hbw => hdp _ hbw (by assumption) (by assumption)) ?_)
   all_goals first
    | (exfalso; omega)
    | exact ⟨fun β => congrArg Value.bool (hF (hn1 (by rw [Bool.eq_false_iff]; intro hc; rw [bmOk_iff] at hc; dsimp only at hc; first | omega | exact absurd ((hsp.symm.trans hc.2.2.1).symm.trans hb) (by decide) | exact absurd (hc.2.2.2.1.symm.trans hb) (by decide) | exact absurd (hc.2.2.2.2.1.symm.trans hb) (by decide)))), fun w' h => h⟩
    | exact ⟨fun β => congrArg Value.bool (hF (hn2 (by omega))), fun w' h => h⟩
    | exact ⟨k + 1, ⟨by omega, hy (by rw [bmOk_iff]; exact ⟨by assumption, by assumption, by assumption, by assumption, by assumption, by assumption, by assumption⟩) (by omega), hR' (by assumption) (by assumption) (by omega)⟩, by omega, Ent.weak rfl ⟨rfl, rfl, trivial⟩ ⟨rfl, trivial⟩ fun _ h => h⟩
 rw [List.drop_eq_nil_of_le hkl] at hen
 have hbm : bmsOk PP.length [] BB = true := hen
 clear hen hR hDp hk
 repeat'
  conv => whnf
  first
   | refine zA ?_ | refine zB ?_ | refine zC ?_ | refine zD ?_ | refine zE ?_ | refine zF ?_ | refine zG ?_ | refine zH ?_ | refine zI ?_ | refine splT ?_ | refine splF ?_ | refine splNot ?_
   | ((first | refine splIn ?_ ?_ | refine splD ?_ ?_ | refine splE ?_ ?_ | refine splNE ?_ ?_) <;> intro hc <;> first | (exfalso; omega) | (exfalso; dsimp only at hc; omega) | skip)
 all_goals first | (exfalso; omega) | skip
 refine loopN 1 (fun k : Nat => [(1, .ptr 0 0), (7, .v (iv k))]) (fun _ => [(0, .cells [.v (.slice po PP.length pc), .v (.slice bo BB.length bc), .v (iv f0), .v (iv f1), .v (iv f2), .v (.slice lo LL.length lc)] 54)])
  (fun k => k ≤ LL.length ∧ (LL.take k).all (ldOk PP.length BB.length) = true) (fun k => LL.length - k) 0 ⟨Nat.zero_le _, rfl⟩ ⟨rfl, rfl, trivial⟩ ⟨rfl, trivial⟩ (fun _ _ => ⟨rfl, rfl⟩) ?_
 clear hkl
 intro k ⟨hk, hal⟩
 rcases Nat.lt_or_ge k LL.length with hkl | hkl
 · obtain ⟨l, hb⟩ : ∃ b, LL[k]? = some b := ⟨_, List.getElem?_eq_getElem hkl⟩
   obtain ⟨_, ad, rfl, _⟩ := hL.ptr (by omega)
   have ht : (LL.take (k + 1)).all (ldOk PP.length BB.length) = ldOk PP.length BB.length l := by rw [List.take_add_one, hb]; simp [hal]
   have e0 := fun (w' : World) hw' => rd_ati (hL.below (w' := w') hw') hb
   have hno : ldOk PP.length BB.length l = false → rigOk f0 f1 f2 PP BB LL = false := fun h => by
    rw [Bool.eq_false_iff]; intro hc; rw [rigOk_iff, List.all_eq_true (l := LL)] at hc
    rw [hc.2.2.2.2.2.2 l (List.mem_of_getElem? hb)] at h; cases h
   obtain ⟨l1, l2, l3, l4, l5⟩ := l
   repeat'
    conv => whnf
    first
     | refine zA ?_ | refine zB ?_ | refine zC ?_ | refine zD ?_ | refine zE ?_ | refine zF ?_ | refine zG ?_ | refine zH ?_ | refine zI ?_ | refine splT ?_ | refine splF ?_ | refine splNot ?_
     | ((first | refine splIn ?_ ?_ | refine splD ?_ ?_ | refine splE ?_ ?_ | refine splNE ?_ ?_) <;> intro hc <;> first | (exfalso; omega) | (exfalso; dsimp only at hc; omega) | skip)
     | refine Exists.intro (α := List Value) [iv l1, iv l2, .int .u8 l3, iv l4, iv l5] ⟨⟨rfl, fun w' hw' => e0 w' hw'⟩, ?_⟩
     | ((with_reducible show CallEv _ _ 34 _ _ _ _ _); refine callE (k := 34) (fun β w' hbw => HasR_ok ⟨po, PP.length, pc, bo, BB.length, bc, f0, f1, f2, some ad, LL.length, lc⟩ _ _ _ _ (by dsimp only; omega) (by omega)) ?_)
     | ((with_reducible show CallEv _ _ 32 _ _ _ _ _); refine callE (k := 32) (fun β w' hbw => bear_ok _ _) ?_)
     | refine splB (fun hb => ?_) (fun hb => ?_)
   all_goals first
    | (exfalso; omega)
    | exact ⟨k + 1, ⟨by omega, by rw [ht, ldOk_iff]; refine ⟨by assumption, ?_⟩; dsimp only; omega⟩, by omega, Ent.weak rfl ⟨rfl, rfl, trivial⟩ ⟨rfl, trivial⟩ fun _ h => h⟩
    | exact ⟨fun β => congrArg Value.bool (hF (hno (by rw [Bool.eq_false_iff]; intro hc; rw [ldOk_iff] at hc; dsimp only at hc; first | omega | simp_all))), fun w' h => h⟩
 rw [List.take_of_length_le hkl] at hal
 have hy : rigOk f0 f1 f2 PP BB LL = true := by
  rw [rigOk_iff]; exact ⟨by assumption, hall, by omega, hbm, by omega, hfac, hal⟩
 rw [hy]
 repeat'
  conv => whnf
  first
   | refine zA ?_ | refine zB ?_ | refine zC ?_ | refine zD ?_ | refine zE ?_ | refine zF ?_ | refine zG ?_ | refine zH ?_ | refine zI ?_ | refine splT ?_ | refine splF ?_ | refine splNot ?_
   | ((first | refine splIn ?_ ?_ | refine splD ?_ ?_ | refine splE ?_ ?_ | refine splNE ?_ ?_) <;> intro hc <;> first | (exfalso; omega) | (exfalso; dsimp only at hc; omega) | skip)
 all_goals first | (exfalso; omega) | exact ⟨fun β => rfl, fun w' h => h⟩
end Go.Proofs.Ytfbokllafdnglaa
namespace Go.Proofs.Ytfbokllafdnglaa
open Go Tx Go.RowKit
set_option linter.unusedSimpArgs false
set_option linter.unusedVariables false
theorem place_ok (b a : Int) (w : World) : Calls Try.prog 44 #[.agg #[iv b, iv a]] w fun e w' => e = .returned (.agg #[iv b, iv a]) ∧ Below w.heap.size w w' := by
 refine calls_val env mixed Try.func44 has44 Try.ntmps44 [.agg #[iv b, iv a]] (by simp) ?_
 repeat'
  conv => whnf
  first
   | refine zA ?_ | refine zB ?_ | refine zC ?_ | refine zD ?_ | refine zE ?_ | refine zF ?_ | refine zG ?_ | refine zH ?_ | refine zI ?_ | refine splT ?_ | refine splF ?_ | refine splNot ?_
   | ((first | refine splIn ?_ ?_ | refine splD ?_ ?_ | refine splE ?_ ?_ | refine splNE ?_ ?_) <;> intro hc <;> first | (exfalso; omega) | (exfalso; dsimp only at hc; omega) | skip)
 all_goals exact ⟨fun β => rfl, fun w' h => h⟩
set_option maxRecDepth 100000 in
theorem list_own (A : List Int) (o : Option Addr) (c : Nat) (w : World) (hrd : Rd 1 iF (.slice o A.length c) A w) (h0 : A ≠ []) (hl : A.length ≤ 1000000) :
 Calls Try.prog 43 #[.slice o A.length c] w fun e w' => ∃ b d, e = .returned (.slice (some ⟨b, 0, none⟩) A.length d) ∧ w.heap.size ≤ b ∧ Below w.heap.size w w' ∧ w'.ownsRow 0 3 1 (.slice (some ⟨b, 0, none⟩) A.length d) A.length (A.flatMap iF) := by
 refine calls_fam2 env mixed Try.func43 has43 Try.ntmps43 [.slice o A.length c] (by simp) ?_
 have hp : 1 ≤ A.length := by cases A with | nil => exact absurd rfl h0 | cons a A => simp
 obtain ⟨_, ad, rfl, _⟩ := hrd.ptr hp
 have he := fun (w' : World) (hb : Below w.heap.size w w') => Rd.ext (f := iF) (sz := 1) (fun _ => rfl) (hrd.below hb)
 have hln : (A.flatMap iF).length = A.length * 1 := by rw [lenF, Nat.mul_one]
 have hon := one1 A
 generalize A.flatMap iF = X at *
 generalize A.length = n at *
 repeat'
  conv => whnf
  first
   | refine zA ?_ | refine zB ?_ | refine zC ?_ | refine zD ?_ | refine zE ?_ | refine zF ?_ | refine zG ?_ | refine zH ?_ | refine zI ?_ | refine splT ?_ | refine splF ?_ | refine splNot ?_
   | ((first | refine splIn ?_ ?_ | refine splD ?_ ?_ | refine splE ?_ ?_ | refine splNE ?_ ?_) <;> intro hc <;> first | (exfalso; omega) | (exfalso; dsimp only at hc; omega) | skip)
   | refine Exists.intro (α := List Value) X ⟨⟨hln, fun w' hw' => he w' hw', hon⟩, ?_⟩
 have hz : 0 + n = n := Nat.zero_add n
 exact ⟨fun w' h => h, fun β w' hB hB2 hblk => ⟨β 0, β 1, congrArg (fun z => Ending.returned (.slice (some ⟨β 0, 0, none⟩) z (β 1))) hz, (hblk 0 _ rfl rfl).1, hB2, by have := (hblk 0 _ rfl rfl).2; simp only [Blk.ok, List.nil_append, hz] at this; exact this⟩⟩
end Go.Proofs.Ytfbokllafdnglaa
namespace Go.Proofs.Ytfbokllafdnglaa
open Go Tx Go.RowKit
set_option linter.unusedSimpArgs false
set_option linter.unusedVariables false
set_option maxHeartbeats 1000000 in
set_option maxRecDepth 100000 in
theorem PullR_ok (r : Rig) (LL : List Ld) (k : Nat) (l : Ld) (w : World) (hrd : Rd 5 Ld.cs (.slice r.lo LL.length r.lc) LL w) (hn : r.ln = LL.length) (hk : LL[k]? = some l) (hl : LL.length ≤ 1000000)
 (hkind : l.kind ≤ 2) (hhi : 0 ≤ l.hi ∧ l.hi ≤ 1000000000) (hf : 0 ≤ r.fac l.kind ∧ r.fac l.kind ≤ 1000000) :
 Calls Try.prog 20 #[r.v, iv k] w fun e w' => e = .returned (.agg #[iv l.lo, iv (hiP r l)]) ∧ Below w.heap.size w w' := by
 obtain ⟨po, pn, pc, bo, bn, bc, f0, f1, f2, lo, ln, lc⟩ := r
 dsimp only at hrd hn
 subst hn
 refine calls_val env mixed Try.func20 has20 Try.ntmps20 [.agg #[.slice po pn pc, .slice bo bn bc, iv f0, iv f1, iv f2, .slice lo LL.length lc], iv k] (by simp) ?_
 have hkl := (List.getElem?_eq_some_iff.1 hk).1
 obtain ⟨_, ad, rfl, _⟩ := hrd.ptr (by omega)
 have e1 := fun (w' : World) hw' => rd_fld (hrd.below (w' := w') hw') hk
 obtain ⟨lb, la, lk, ll, lh⟩ := l
 dsimp only at *
 unfold hiP
 have hm0 : 0 ≤ lh * Rig.fac ⟨po, pn, pc, bo, bn, bc, f0, f1, f2, some ad, LL.length, lc⟩ lk := Int.mul_nonneg hhi.1 hf.1
 have hm1 : lh * Rig.fac ⟨po, pn, pc, bo, bn, bc, f0, f1, f2, some ad, LL.length, lc⟩ lk ≤ 1000000000 * 1000000 := Int.mul_le_mul hhi.2 hf.2 hf.1 (by omega)
 dsimp only
 obtain rfl | rfl | rfl : lk = 0 ∨ lk = 1 ∨ lk = 2 := by omega
 all_goals simp only [Rig.fac] at hf hm0 hm1
 all_goals skip
 repeat'
  conv => whnf
  first
   | refine zA ?_ | refine zB ?_ | refine zC ?_ | refine zD ?_ | refine zE ?_ | refine zF ?_ | refine zG ?_ | refine zH ?_ | refine zI ?_ | refine splT ?_ | refine splF ?_ | refine splNot ?_
   | ((first | refine splIn ?_ ?_ | refine splD ?_ ?_ | refine splE ?_ ?_ | refine splNE ?_ ?_) <;> intro hc <;> first | (exfalso; omega) | (exfalso; dsimp only at hc; omega) | skip)
   | refine Exists.intro (α := List Value) [iv ll] ⟨⟨rfl, fun w' hw' => e1 w' hw' 3 _ rfl⟩, ?_⟩
   | refine Exists.intro (α := List Value) [iv lh] ⟨⟨rfl, fun w' hw' => e1 w' hw' 4 _ rfl⟩, ?_⟩
   | refine Exists.intro (α := List Value) [.int .u8 0] ⟨⟨rfl, fun w' hw' => e1 w' hw' 2 _ rfl⟩, ?_⟩
   | refine Exists.intro (α := List Value) [.int .u8 1] ⟨⟨rfl, fun w' hw' => e1 w' hw' 2 _ rfl⟩, ?_⟩
   | refine Exists.intro (α := List Value) [.int .u8 2] ⟨⟨rfl, fun w' hw' => e1 w' hw' 2 _ rfl⟩, ?_⟩
   | refine quoE (by omega) (by omega) (And.intro (by omega) (by omega)) ?_
 all_goals conv => whnf
 all_goals exact ⟨fun β => rfl, fun w' h => h⟩
theorem pulB_of {r : Rig} : ∀ {L : List Ld} {P : List Int}, P.length = L.length → (∀ (k : Nat) n l, P[k]? = some n → L[k]? = some l → l.lo ≤ n ∧ n ≤ hiP r l) → pulB r L P = true
 | [], [], _, _ => rfl
 | [], n :: P, h, _ => by simp at h
 | l :: L, [], h, _ => by simp at h
 | l :: L, n :: P, h, hp => by
  rw [pulB, Bool.and_eq_true, inB_iff]
  exact ⟨hp 0 n l rfl rfl, pulB_of (by simpa using h) fun k n' l' h1 h2 => hp (k + 1) n' l' (by simpa using h1) (by simpa using h2)⟩
end Go.Proofs.Ytfbokllafdnglaa
