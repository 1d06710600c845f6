/- Part 5 of the proof: texts merged. -/
import Derived.Test.YtfbokllafdnglaaRGd
import Derived.ChangeKeysEq
namespace Go.Proofs.Ytfbokllafdnglaa
open Go Tx Go.RowKit
set_option linter.unusedSimpArgs false
set_option linter.unusedVariables false
def hgS (is : Nat → Nat → Bool) : Nat → Nat → Option (Nat × Nat)
 | 0, _ => none
 | n + 1, i => if is i 0 = true then some (i, 0) else if is i 1 = true then some (i, 1) else hgS is n (i + 1)
def hgO (is : Nat → Nat → Bool) (m : Nat) : Option (Nat × Nat) := hgS is m 0
theorem hgS_at (is : Nat → Nat → Bool) {m i : Nat} (h : i < m) : hgS is (m - i) i = if is i 0 = true then some (i, 0) else if is i 1 = true then some (i, 1) else hgS is (m - (i + 1)) (i + 1) := by
 rw [show m - i = (m - (i + 1)) + 1 from by omega, hgS]
def ptV (F : Fr) : Option (Nat × Nat) → Value
 | none => .tuple #[.agg #[iv 0, iv 0], .agg (rwL zr).toArray, .bool false]
 | some (i, k) => .tuple #[.agg #[iv i, iv k], .agg (rwL (F.h i k)).toArray, .bool true]
set_option maxHeartbeats 8000000 in
set_option maxRecDepth 100000 in
theorem slack_ok (r : Rig) (PP : List Int) (BB : List Bm) (LL : List Ld) (F : Fr) (y : FrA) (w : World) (h : RigIn r PP BB LL w) (hr : rigOk r.f0 r.f1 r.f2 PP BB LL = true) (hy : FrIn r PP.length BB.length F y w) (hQ : ∀ j k, rowQ (F.h j k)) :
 Calls Try.prog 42 #[.pointer (some ⟨y.fb, 0, none⟩)] w fun e w' => e = .returned (ptV F (hgO (fun i k => decide (endD r LL (F.h i k) false < 0)) BB.length)) ∧ Below w.heap.size w w' := by
 refine calls_val env mixed Try.func42 has42 Try.ntmps42 [.pointer (some ⟨y.fb, 0, none⟩)] (by simp) ?_
 have hB := h.b
 have hbn := h.bn
 have hm := (rigOk_iff.1 hr).2.2.1
 have h95 := fun (i k : Nat) (w' : World) (hb : Below w.heap.size w w') => least_ok r PP BB LL F y (F.h i k) w' (h.below hb) hr (hy.below hb) (hQ i k)
 have hc := hy.c
 have hh := hy.h
 obtain ⟨po, pn, pc, bo, bn, bc, f0, f1, f2, lo, ln, lc⟩ := r
 obtain ⟨fb, pb, qc, gb, gc, ub, uc⟩ := y
 dsimp only at hB hbn h95 hc hh ⊢
 subst hbn
 generalize hD : (fun i k => endD ⟨po, pn, pc, bo, BB.length, bc, f0, f1, f2, lo, ln, lc⟩ LL (F.h i k) false) = D at *
 have hDi : ∀ i k, endD ⟨po, pn, pc, bo, BB.length, bc, f0, f1, f2, lo, ln, lc⟩ LL (F.h i k) false = D i k := fun i k => by rw [← hD]
 simp only [hDi] at h95 ⊢
 have g1 := fun (w' : World) (hb : Below w.heap.size w w') => fun j v (h : [Value.slice bo BB.length bc][j]? = some v) => (show w'.cell? ((((⟨fb, 0, none⟩ : Addr).add 0).add 1).add j) = some v from by
  match j, h with
  | 0, h => cases h; rw [Addr.add_add, Addr.add_add]; exact ext_below hb (hc 1 _ rfl))
 have g7 := fun (w' : World) (hb : Below w.heap.size w w') => fun j v (h : [Value.slice (some ⟨gb, 0, none⟩) BB.length gc][j]? = some v) => (show w'.cell? (((⟨fb, 0, none⟩ : Addr).add 7).add j) = some v from by
  match j, h with
  | 0, h => cases h; rw [Addr.add_add]; exact ext_below hb (hc 7 _ rfl))
 repeat'
  conv => whnf
  first
   | refine zA ?_ | refine zB ?_ | refine zC ?_ | refine zD ?_ | refine zE ?_ | refine zF ?_ | refine zG ?_ | refine zH ?_ | refine zI ?_ | refine splT ?_ | refine splF ?_ | refine splNot ?_
   | ((first | refine splIn ?_ ?_ | refine splD ?_ ?_ | refine splE ?_ ?_ | refine splNE ?_ ?_) <;> intro hc <;> first | (exfalso; omega) | (exfalso; dsimp only at hc; omega) | skip)
   | ((with_reducible show CallEv _ _ 70 _ _ _ _ _); refine callI env mixed 1000 [2, 3] Try.func70 has70 Try.ntmps70 (Nat.le_of_ble_eq_true rfl) rfl rfl rfl ?_)
   | refine nilX rfl rfl ?_
   | refine Exists.intro (α := List Value) [.slice bo BB.length bc] ⟨⟨rfl, fun w' hw' => g1 w' hw'⟩, ?_⟩
 conv => whnf
 refine loopN 5 (fun i : Nat => [(0, .v (.pointer (some ⟨fb, 0, none⟩))), (1, .fn (.func 75) [.ptr 0 0]), (4, .ptr 3 0), (5, .ptr 4 0), (6, .v (.bool false)), (15, .v (.slice bo BB.length bc)), (16, .v (iv BB.length)), (17, .v (iv i))])
  (fun _ => [(0, .cells [.v (.pointer (some ⟨fb, 0, none⟩))] 115), (1, .cells [.v (iv 0), .v (iv 0)] 48), (2, .cells (rwS zr) 118), (3, .cells [.v (iv 0), .v (iv 0)] 48), (4, .cells (rwS zr) 118)])
  (fun i => i ≤ BB.length ∧ hgO (fun i k => decide (D i k < 0)) BB.length = hgS (fun i k => decide (D i k < 0)) (BB.length - i) i) (fun i => BB.length - i) 0 ⟨Nat.zero_le _, rfl⟩ ⟨rfl, rfl, rfl, rfl, rfl, rfl, rfl, rfl, trivial⟩ ⟨rfl, rfl, rfl, rfl, rfl, trivial⟩ (fun _ _ => ⟨rfl, rfl⟩) ?_
 intro i ⟨hi, hO⟩
 rcases Nat.lt_or_ge i BB.length with hil | hil
 · obtain ⟨b, hb⟩ : ∃ b, BB[i]? = some b := ⟨_, List.getElem?_eq_getElem hil⟩
   obtain ⟨_, ad, rfl, _⟩ := hB.ptr (by omega)
   have e0 := fun (w' : World) hw' => rd_ati (hB.below (w' := w') hw') hb
   have e1 := fun (w' : World) hw' => rd_ati (hh.below (w' := w') hw') (rng_at (fun j => (F.h j 0, F.h j 1)) hil)
   rw [hgS_at _ hil] at hO
   have h0 := h95 i 0
   have h1 := h95 i 1
   obtain ⟨b1, b2, b3, b4, b5, b6, b7, b8⟩ := b
   have hV : ∀ k, ptV F (some (i, k)) = .tuple #[.agg #[iv i, iv k], .agg (rwL (F.h i k)).toArray, .bool true] := fun k => rfl
   generalize D i 0 = D0 at *
   generalize D i 1 = D1 at *
   have hV0 := hV 0
   have hV1 := hV 1
   generalize F.h i 0 = X0 at *
   generalize F.h i 1 = X1 at *
   repeat'
    conv => whnf
    first
     | refine zA ?_ | refine zB ?_ | refine zC ?_ | refine zD ?_ | refine zE ?_ | refine zF ?_ | refine zG ?_ | refine zH ?_ | refine zI ?_ | refine splT ?_ | refine splF ?_ | refine splNot ?_
     | ((first | refine splIn ?_ ?_ | refine splD ?_ ?_ | refine splE ?_ ?_ | refine splNE ?_ ?_) <;> intro hc <;> first | (exfalso; omega) | (exfalso; dsimp only at hc; omega) | skip)
     | refine nilX rfl rfl ?_
     | refine Exists.intro (α := List Value) [iv b1, iv b2, iv b3, iv b4, iv b5, iv b6, iv b7, iv b8] ⟨⟨rfl, fun w' hw' => e0 w' hw'⟩, ?_⟩
     | refine Exists.intro (α := List Value) [.slice (some ⟨gb, 0, none⟩) BB.length gc] ⟨⟨rfl, fun w' hw' => g7 w' hw'⟩, ?_⟩
     | refine Exists.intro (α := List Value) (hgV (X0, X1)) ⟨⟨rfl, fun w' hw' => e1 w' hw'⟩, ?_⟩
   conv => whnf
   refine loopN 6 (fun k : Nat => [(0, .v (.pointer (some ⟨fb, 0, none⟩))), (1, .fn (.func 75) [.ptr 0 0]), (4, .ptr 3 0), (5, .ptr 4 0), (6, .v (.bool false)), (7, .v (iv i)), (8, .ptr 5 0), (15, .v (.slice (some ad) BB.length bc)), (16, .v (iv BB.length)), (17, .v (iv i)), (28, .agg ((hgV (X0, X1)).map .v)), (29, .v (iv k))])
    (fun _ => [(0, .cells [.v (.pointer (some ⟨fb, 0, none⟩))] 115), (1, .cells [.v (iv 0), .v (iv 0)] 48), (2, .cells (rwS zr) 118), (3, .cells [.v (iv 0), .v (iv 0)] 48), (4, .cells (rwS zr) 118), (5, .cells [.v (iv b1), .v (iv b2), .v (iv b3), .v (iv b4), .v (iv b5), .v (iv b6), .v (iv b7), .v (iv b8)] 134)])
    (fun k => k ≤ 2 ∧ (1 ≤ k → ¬ D0 < 0) ∧ (2 ≤ k → ¬ D1 < 0)) (fun k => 2 - k) 0 ⟨by omega, fun h => absurd h (by omega), fun h => absurd h (by omega)⟩ ⟨rfl, rfl, rfl, rfl, rfl, rfl, rfl, rfl, rfl, rfl, rfl, rfl, trivial⟩ ⟨rfl, rfl, rfl, rfl, rfl, rfl, trivial⟩ (fun _ _ => ⟨rfl, rfl⟩) ?_
   intro k ⟨hk, hk0, hk1⟩
   obtain rfl | rfl | rfl : k = 0 ∨ k = 1 ∨ k = 2 := by omega
   · by_cases hd : D0 < 0
     · rw [if_pos (decide_eq_true hd)] at hO
       rw [hO, hV0]
       repeat'
        conv => whnf
        first
         | refine zA ?_ | refine zB ?_ | refine zC ?_ | refine zD ?_ | refine zE ?_ | refine zF ?_ | refine zG ?_ | refine zH ?_ | refine zI ?_ | refine splT ?_ | refine splF ?_ | refine splNot ?_
         | ((first | refine splIn ?_ ?_ | refine splD ?_ ?_ | refine splE ?_ ?_ | refine splNE ?_ ?_) <;> intro hc <;> first | (exfalso; omega) | (exfalso; dsimp only at hc; omega) | skip)
         | refine idxL env (rwS X0) rfl rfl rfl rfl (And.intro (by omega) (by omega)) rfl rfl rfl rfl rfl ?_
         | ((with_reducible show CallEv _ _ 75 _ _ _ _ _); refine callI env mixed 2000 [0, 1, 4, 5, 6, 7, 8, 9, 10, 15, 16, 17, 28, 29] Try.func75 has75 Try.ntmps75 (Nat.le_of_ble_eq_true rfl) rfl rfl rfl ?_)
         | ((with_reducible show CallEv _ _ 76 _ _ _ _ _); refine callE (k := 76) (fun β w' hbw => h0 _ hbw) ?_)
       all_goals first | exact ⟨fun β => rfl, fun w' h => h⟩ | (exfalso; omega)
     · skip
       repeat'
        conv => whnf
        first
         | refine zA ?_ | refine zB ?_ | refine zC ?_ | refine zD ?_ | refine zE ?_ | refine zF ?_ | refine zG ?_ | refine zH ?_ | refine zI ?_ | refine splT ?_ | refine splF ?_ | refine splNot ?_
         | ((first | refine splIn ?_ ?_ | refine splD ?_ ?_ | refine splE ?_ ?_ | refine splNE ?_ ?_) <;> intro hc <;> first | (exfalso; omega) | (exfalso; dsimp only at hc; omega) | skip)
         | refine idxL env (rwS X0) rfl rfl rfl rfl (And.intro (by omega) (by omega)) rfl rfl rfl rfl rfl ?_
         | ((with_reducible show CallEv _ _ 75 _ _ _ _ _); refine callI env mixed 2000 [0, 1, 4, 5, 6, 7, 8, 9, 10, 15, 16, 17, 28, 29] Try.func75 has75 Try.ntmps75 (Nat.le_of_ble_eq_true rfl) rfl rfl rfl ?_)
         | ((with_reducible show CallEv _ _ 76 _ _ _ _ _); refine callE (k := 76) (fun β w' hbw => h0 _ hbw) ?_)
       all_goals first | exact ⟨1, ⟨by omega, fun _ => hd, fun h => absurd h (by omega)⟩, by omega, Ent.weak rfl ⟨rfl, rfl, rfl, rfl, rfl, rfl, rfl, rfl, rfl, rfl, rfl, rfl, trivial⟩ ⟨rfl, rfl, rfl, rfl, rfl, rfl, trivial⟩ fun _ h => h⟩ | (exfalso; omega)
   · have hd0 := hk0 (by omega)
     by_cases hd : D1 < 0
     · rw [if_neg (by simpa using hd0), if_pos (decide_eq_true hd)] at hO
       rw [hO, hV1]
       repeat'
        conv => whnf
        first
         | refine zA ?_ | refine zB ?_ | refine zC ?_ | refine zD ?_ | refine zE ?_ | refine zF ?_ | refine zG ?_ | refine zH ?_ | refine zI ?_ | refine splT ?_ | refine splF ?_ | refine splNot ?_
         | ((first | refine splIn ?_ ?_ | refine splD ?_ ?_ | refine splE ?_ ?_ | refine splNE ?_ ?_) <;> intro hc <;> first | (exfalso; omega) | (exfalso; dsimp only at hc; omega) | skip)
         | refine idxL env (rwS X1) rfl rfl rfl rfl (And.intro (by omega) (by omega)) rfl rfl rfl rfl rfl ?_
         | ((with_reducible show CallEv _ _ 75 _ _ _ _ _); refine callI env mixed 2000 [0, 1, 4, 5, 6, 7, 8, 9, 10, 15, 16, 17, 28, 29] Try.func75 has75 Try.ntmps75 (Nat.le_of_ble_eq_true rfl) rfl rfl rfl ?_)
         | ((with_reducible show CallEv _ _ 76 _ _ _ _ _); refine callE (k := 76) (fun β w' hbw => h1 _ hbw) ?_)
       all_goals first | exact ⟨fun β => rfl, fun w' h => h⟩ | (exfalso; omega)
     · skip
       repeat'
        conv => whnf
        first
         | refine zA ?_ | refine zB ?_ | refine zC ?_ | refine zD ?_ | refine zE ?_ | refine zF ?_ | refine zG ?_ | refine zH ?_ | refine zI ?_ | refine splT ?_ | refine splF ?_ | refine splNot ?_
         | ((first | refine splIn ?_ ?_ | refine splD ?_ ?_ | refine splE ?_ ?_ | refine splNE ?_ ?_) <;> intro hc <;> first | (exfalso; omega) | (exfalso; dsimp only at hc; omega) | skip)
         | refine idxL env (rwS X1) rfl rfl rfl rfl (And.intro (by omega) (by omega)) rfl rfl rfl rfl rfl ?_
         | ((with_reducible show CallEv _ _ 75 _ _ _ _ _); refine callI env mixed 2000 [0, 1, 4, 5, 6, 7, 8, 9, 10, 15, 16, 17, 28, 29] Try.func75 has75 Try.ntmps75 (Nat.le_of_ble_eq_true rfl) rfl rfl rfl ?_)
         | ((with_reducible show CallEv _ _ 76 _ _ _ _ _); refine callE (k := 76) (fun β w' hbw => h1 _ hbw) ?_)
       all_goals first | exact ⟨2, ⟨by omega, fun _ => hd0, fun _ => hd⟩, by omega, Ent.weak rfl ⟨rfl, rfl, rfl, rfl, rfl, rfl, rfl, rfl, rfl, rfl, rfl, rfl, trivial⟩ ⟨rfl, rfl, rfl, rfl, rfl, rfl, trivial⟩ fun _ h => h⟩ | (exfalso; omega)
   · have hd0 := hk0 (by omega)
     have hd1 := hk1 (by omega)
     rw [if_neg (by simpa using hd0), if_neg (by simpa using hd1)] at hO
     repeat'
      conv => whnf
      first
       | refine zA ?_ | refine zB ?_ | refine zC ?_ | refine zD ?_ | refine zE ?_ | refine zF ?_ | refine zG ?_ | refine zH ?_ | refine zI ?_ | refine splT ?_ | refine splF ?_ | refine splNot ?_
       | ((first | refine splIn ?_ ?_ | refine splD ?_ ?_ | refine splE ?_ ?_ | refine splNE ?_ ?_) <;> intro hc <;> first | (exfalso; omega) | (exfalso; dsimp only at hc; omega) | skip)
     all_goals first | exact ⟨i + 1, ⟨by omega, hO⟩, by omega, Ent.weak rfl ⟨rfl, rfl, rfl, rfl, rfl, rfl, rfl, rfl, trivial⟩ ⟨rfl, rfl, rfl, rfl, rfl, trivial⟩ fun _ h => h⟩ | (exfalso; omega)
 · rw [show BB.length - i = 0 from by omega, hgS] at hO
   rw [hO]
   repeat'
    conv => whnf
    first
     | refine zA ?_ | refine zB ?_ | refine zC ?_ | refine zD ?_ | refine zE ?_ | refine zF ?_ | refine zG ?_ | refine zH ?_ | refine zI ?_ | refine splT ?_ | refine splF ?_ | refine splNot ?_
     | ((first | refine splIn ?_ ?_ | refine splD ?_ ?_ | refine splE ?_ ?_ | refine splNE ?_ ?_) <;> intro hc <;> first | (exfalso; omega) | (exfalso; dsimp only at hc; omega) | skip)
   all_goals first | exact ⟨fun β => rfl, fun w' h => h⟩ | (exfalso; omega)
end Go.Proofs.Ytfbokllafdnglaa
namespace Go.Proofs.Ytfbokllafdnglaa
open Go Tx Go.RowKit
set_option linter.unusedSimpArgs false
set_option linter.unusedVariables false
def capN (BB : List Bm) (i : Nat) : Int := match BB[i]? with | some b => b.cap | none => 0
def ovV (r : Rig) (PP : List Int) (BB : List Bm) (LL : List Ld) (F : Fr) : Value :=
 if fstN (fun j => decide (endD r LL (F.p j) true > PP.getD j 0 * 216000)) PP.length 0 < PP.length then
  .tuple #[.agg #[iv (-1), iv (fstN (fun j => decide (endD r LL (F.p j) true > PP.getD j 0 * 216000)) PP.length 0)], .agg (rwL (F.p (fstN (fun j => decide (endD r LL (F.p j) true > PP.getD j 0 * 216000)) PP.length 0))).toArray, .bool true]
 else ptV F (hgO (fun i k => decide (endD r LL (F.h i k) true > capN BB i * 216000)) BB.length)
set_option maxHeartbeats 8000000 in
set_option maxRecDepth 100000 in
theorem over_ok (r : Rig) (PP : List Int) (BB : List Bm) (LL : List Ld) (F : Fr) (y : FrA) (w : World) (h : RigIn r PP BB LL w) (hr : rigOk r.f0 r.f1 r.f2 PP BB LL = true) (hy : FrIn r PP.length BB.length F y w) (hQ : ∀ j k, rowQ (F.h j k)) (hQ1 : ∀ j, rowQ (F.p j)) :
 Calls Try.prog 29 #[.pointer (some ⟨y.fb, 0, none⟩)] w fun e w' => e = .returned (ovV r PP BB LL F) ∧ Below w.heap.size w w' := by
 refine calls_val env mixed Try.func29 has29 Try.ntmps29 [.pointer (some ⟨y.fb, 0, none⟩)] (by simp) ?_
 have hB := h.b
 have hP := h.p
 have hpn := h.pn
 have hpl := h.pl
 have hq2 := (rigOk_iff.1 hr).2.1
 have hm1 := (rigOk_iff.1 hr).1
 have hp96 := fun (k : Nat) (w' : World) (hb : Below w.heap.size w w') => most_ok r PP BB LL F y (F.p k) w' (h.below hb) hr (hy.below hb) (hQ1 k)
 have hhp := hy.p
 have hbb := fun (i : Nat) (b : Bm) (hb : BB[i]? = some b) => bm_at hr hb
 have hbn := h.bn
 have hm := (rigOk_iff.1 hr).2.2.1
 have h96 := fun (i k : Nat) (w' : World) (hb : Below w.heap.size w w') => most_ok r PP BB LL F y (F.h i k) w' (h.below hb) hr (hy.below hb) (hQ i k)
 have hc := hy.c
 have hh := hy.h
 obtain ⟨po, pn, pc, bo, bn, bc, f0, f1, f2, lo, ln, lc⟩ := r
 obtain ⟨fb, pb, qc, gb, gc, ub, uc⟩ := y
 dsimp only at hB hbn h96 hc hh hP hpn hp96 hhp ⊢
 subst hbn
 subst hpn
 unfold ovV
 generalize hD : (fun i k => endD ⟨po, PP.length, pc, bo, BB.length, bc, f0, f1, f2, lo, ln, lc⟩ LL (F.h i k) true) = D at *
 have hDi : ∀ i k, endD ⟨po, PP.length, pc, bo, BB.length, bc, f0, f1, f2, lo, ln, lc⟩ LL (F.h i k) true = D i k := fun i k => by rw [← hD]
 simp only [hDi] at h96 ⊢
 generalize hE : (fun j => endD ⟨po, PP.length, pc, bo, BB.length, bc, f0, f1, f2, lo, ln, lc⟩ LL (F.p j) true) = E at *
 have hEj : ∀ j, endD ⟨po, PP.length, pc, bo, BB.length, bc, f0, f1, f2, lo, ln, lc⟩ LL (F.p j) true = E j := fun j => by rw [← hE]
 simp only [hEj] at hp96 ⊢
 have g0 := fun (w' : World) (hb : Below w.heap.size w w') => fun j v (h : [Value.slice po PP.length pc][j]? = some v) => (show w'.cell? ((((⟨fb, 0, none⟩ : Addr).add 0).add 0).add j) = some v from by
  match j, h with
  | 0, h => cases h; rw [Addr.add_add, Addr.add_add]; exact ext_below hb (hc 0 _ rfl))
 have g6 := fun (w' : World) (hb : Below w.heap.size w w') => fun j v (h : [Value.slice (some ⟨pb, 0, none⟩) PP.length qc][j]? = some v) => (show w'.cell? (((⟨fb, 0, none⟩ : Addr).add 6).add j) = some v from by
  match j, h with
  | 0, h => cases h; rw [Addr.add_add]; exact ext_below hb (hc 6 _ rfl))
 have g1 := fun (w' : World) (hb : Below w.heap.size w w') => fun j v (h : [Value.slice bo BB.length bc][j]? = some v) => (show w'.cell? ((((⟨fb, 0, none⟩ : Addr).add 0).add 1).add j) = some v from by
  match j, h with
  | 0, h => cases h; rw [Addr.add_add, Addr.add_add]; exact ext_below hb (hc 1 _ rfl))
 have g7 := fun (w' : World) (hb : Below w.heap.size w w') => fun j v (h : [Value.slice (some ⟨gb, 0, none⟩) BB.length gc][j]? = some v) => (show w'.cell? (((⟨fb, 0, none⟩ : Addr).add 7).add j) = some v from by
  match j, h with
  | 0, h => cases h; rw [Addr.add_add]; exact ext_below hb (hc 7 _ rfl))
 obtain ⟨_, hf2, hf3, hf4⟩ := fstN_spec (p := fun j => decide (E j > PP.getD j 0 * 216000)) PP.length 0
 generalize fstN (fun j => decide (E j > PP.getD j 0 * 216000)) PP.length 0 = N at *
 repeat'
  conv => whnf
  first
   | refine zA ?_ | refine zB ?_ | refine zC ?_ | refine zD ?_ | refine zE ?_ | refine zF ?_ | refine zG ?_ | refine zH ?_ | refine zI ?_ | refine splT ?_ | refine splF ?_ | refine splNot ?_
   | ((first | refine splIn ?_ ?_ | refine splD ?_ ?_ | refine splE ?_ ?_ | refine splNE ?_ ?_) <;> intro hc <;> first | (exfalso; omega) | (exfalso; dsimp only at hc; omega) | skip)
   | refine nilX rfl rfl ?_
   | refine Exists.intro (α := List Value) [.slice (some ⟨pb, 0, none⟩) PP.length qc] ⟨⟨rfl, fun w' hw' => g6 w' hw'⟩, ?_⟩
 conv => whnf
 refine loopN 3 (fun k : Nat => [(1, .ptr 0 0), (2, .ptr 1 0), (3, .ptr 2 0), (4, .v (.bool false)), (10, .v (.slice (some ⟨pb, 0, none⟩) PP.length qc)), (11, .v (iv PP.length)), (12, .v (iv k))])
  (fun _ => [(0, .cells [.v (.pointer (some ⟨fb, 0, none⟩))] 115), (1, .cells [.v (iv 0), .v (iv 0)] 48), (2, .cells (rwS zr) 118)])
  (fun k => k ≤ PP.length ∧ k ≤ N) (fun k => PP.length - k) 0 ⟨Nat.zero_le _, Nat.zero_le _⟩ ⟨rfl, rfl, rfl, rfl, rfl, rfl, rfl, trivial⟩ ⟨rfl, rfl, rfl, trivial⟩ (fun _ _ => ⟨rfl, rfl⟩) ?_
 intro k ⟨hk, hkN⟩
 rcases Nat.lt_or_ge k PP.length with hkl | hkl
 · obtain ⟨p, hp⟩ : ∃ b, PP[k]? = some b := ⟨_, List.getElem?_eq_getElem hkl⟩
   obtain ⟨_, ad, rfl, _⟩ := hP.ptr (by omega)
   have e0 := fun (w' : World) hw' => rd_ati (hP.below (w' := w') hw') hp
   have e1 := fun (w' : World) hw' => rd_ati (hhp.below (w' := w') hw') (rng_at F.p hkl)
   have hpb := List.all_eq_true.1 hq2 p (List.mem_of_getElem? hp)
   rw [inB_iff] at hpb
   have h0 := hp96 k
   have hgd : PP.getD k 0 = p := by rw [List.getD_eq_getElem?_getD, hp]; rfl
   have hf3k := hf3 k (Nat.zero_le _)
   have hf4k : N = k → N < PP.length → decide (E N > PP.getD N 0 * 216000) = true := fun _ h => hf4 (by omega)
   clear hp96 h96 hbb
   by_cases hd : E k > p * 216000
   · have hNk : N = k := by
      rcases Nat.lt_or_ge k N with h | h
      · have := hf3k h
        rw [hgd, decide_eq_false_iff_not] at this
        exact absurd hd this
      · omega
     subst hNk
     rw [if_pos hkl]
     generalize E N = e at *
     generalize F.p N = X at *
     repeat'
      conv => whnf
      first
       | refine zA ?_ | refine zB ?_ | refine zC ?_ | refine zD ?_ | refine zE ?_ | refine zF ?_ | refine zG ?_ | refine zH ?_ | refine zI ?_ | refine splT ?_ | refine splF ?_ | refine splNot ?_
       | ((first | refine splIn ?_ ?_ | refine splD ?_ ?_ | refine splE ?_ ?_ | refine splNE ?_ ?_) <;> intro hc <;> first | (exfalso; omega) | (exfalso; dsimp only at hc; omega) | skip)
       | refine nilX rfl rfl ?_
       | refine Exists.intro (α := List Value) (rwL X) ⟨⟨rfl, fun w' hw' => e1 w' hw'⟩, ?_⟩
       | ((with_reducible show CallEv _ _ 69 _ _ _ _ _); refine callE (k := 69) (fun β w' hbw => h0 _ hbw) ?_)
       | refine Exists.intro (α := List Value) [.slice (some ad) PP.length pc] ⟨⟨rfl, fun w' hw' => g0 w' hw'⟩, ?_⟩
       | refine Exists.intro (α := List Value) [iv p] ⟨⟨rfl, fun w' hw' => e0 w' hw'⟩, ?_⟩
     all_goals first | exact ⟨fun β => rfl, fun w' h => h⟩ | (exfalso; omega)
   · have hNk : k + 1 ≤ N := by
      rcases Nat.lt_or_ge k N with h | h
      · exact h
      · have hNk : N = k := by omega
        have := hf4k hNk (by omega)
        rw [hNk, hgd, decide_eq_true_eq] at this
        exact absurd this hd
     generalize E k = e at *
     generalize F.p k = X at *
     repeat'
      conv => whnf
      first
       | refine zA ?_ | refine zB ?_ | refine zC ?_ | refine zD ?_ | refine zE ?_ | refine zF ?_ | refine zG ?_ | refine zH ?_ | refine zI ?_ | refine splT ?_ | refine splF ?_ | refine splNot ?_
       | ((first | refine splIn ?_ ?_ | refine splD ?_ ?_ | refine splE ?_ ?_ | refine splNE ?_ ?_) <;> intro hc <;> first | (exfalso; omega) | (exfalso; dsimp only at hc; omega) | skip)
       | refine nilX rfl rfl ?_
       | refine Exists.intro (α := List Value) (rwL X) ⟨⟨rfl, fun w' hw' => e1 w' hw'⟩, ?_⟩
       | ((with_reducible show CallEv _ _ 69 _ _ _ _ _); refine callE (k := 69) (fun β w' hbw => h0 _ hbw) ?_)
       | refine Exists.intro (α := List Value) [.slice (some ad) PP.length pc] ⟨⟨rfl, fun w' hw' => g0 w' hw'⟩, ?_⟩
       | refine Exists.intro (α := List Value) [iv p] ⟨⟨rfl, fun w' hw' => e0 w' hw'⟩, ?_⟩
     all_goals first | exact ⟨k + 1, ⟨by omega, hNk⟩, by omega, Ent.weak rfl ⟨rfl, rfl, rfl, rfl, rfl, rfl, rfl, trivial⟩ ⟨rfl, rfl, rfl, trivial⟩ fun _ h => h⟩ | (exfalso; omega)
 rw [if_neg (by omega)]
 clear hf2 hf3 hf4 hp96
 repeat'
  conv => whnf
  first
   | refine zA ?_ | refine zB ?_ | refine zC ?_ | refine zD ?_ | refine zE ?_ | refine zF ?_ | refine zG ?_ | refine zH ?_ | refine zI ?_ | refine splT ?_ | refine splF ?_ | refine splNot ?_
   | ((first | refine splIn ?_ ?_ | refine splD ?_ ?_ | refine splE ?_ ?_ | refine splNE ?_ ?_) <;> intro hc <;> first | (exfalso; omega) | (exfalso; dsimp only at hc; omega) | skip)
   | ((with_reducible show CallEv _ _ 70 _ _ _ _ _); refine callI env mixed 1000 [2, 3] Try.func70 has70 Try.ntmps70 (Nat.le_of_ble_eq_true rfl) rfl rfl rfl ?_)
   | refine nilX rfl rfl ?_
   | refine Exists.intro (α := List Value) [.slice bo BB.length bc] ⟨⟨rfl, fun w' hw' => g1 w' hw'⟩, ?_⟩
 all_goals first | (exfalso; omega) | skip
 conv => whnf
 refine loopN 5 (fun i : Nat => [(0, .v (.pointer (some ⟨fb, 0, none⟩))), (1, .fn (.func 71) [.ptr 0 0]), (4, .ptr 3 0), (5, .ptr 4 0), (6, .v (.bool false)), (15, .v (.slice bo BB.length bc)), (16, .v (iv BB.length)), (17, .v (iv i))])
  (fun _ => [(0, .cells [.v (.pointer (some ⟨fb, 0, none⟩))] 115), (1, .cells [.v (iv 0), .v (iv 0)] 48), (2, .cells (rwS zr) 118), (3, .cells [.v (iv 0), .v (iv 0)] 48), (4, .cells (rwS zr) 118)])
  (fun i => i ≤ BB.length ∧ hgO (fun i k => decide (D i k > capN BB i * 216000)) BB.length = hgS (fun i k => decide (D i k > capN BB i * 216000)) (BB.length - i) i) (fun i => BB.length - i) 0 ⟨Nat.zero_le _, rfl⟩ ⟨rfl, rfl, rfl, rfl, rfl, rfl, rfl, rfl, trivial⟩ ⟨rfl, rfl, rfl, rfl, rfl, trivial⟩ (fun _ _ => ⟨rfl, rfl⟩) ?_
 intro i ⟨hi, hO⟩
 rcases Nat.lt_or_ge i BB.length with hil | hil
 · obtain ⟨b, hb⟩ : ∃ b, BB[i]? = some b := ⟨_, List.getElem?_eq_getElem hil⟩
   obtain ⟨_, ad, rfl, _⟩ := hB.ptr (by omega)
   have e0 := fun (w' : World) hw' => rd_ati (hB.below (w' := w') hw') hb
   have e1 := fun (w' : World) hw' => rd_ati (hh.below (w' := w') hw') (rng_at (fun j => (F.h j 0, F.h j 1)) hil)
   rw [hgS_at _ hil] at hO
   have h0 := h96 i 0
   have h1 := h96 i 1
   have hcap : capN BB i = b.cap := by unfold capN; rw [hb]
   have hbk := hbb _ _ hb
   rw [bmOk_iff] at hbk
   rw [hcap] at hO
   obtain ⟨b1, b2, b3, b4, b5, b6, b7, b8⟩ := b
   dsimp only at hO hbk
   have hV : ∀ k, ptV F (some (i, k)) = .tuple #[.agg #[iv i, iv k], .agg (rwL (F.h i k)).toArray, .bool true] := fun k => rfl
   generalize D i 0 = D0 at *
   generalize D i 1 = D1 at *
   have hV0 := hV 0
   have hV1 := hV 1
   generalize F.h i 0 = X0 at *
   generalize F.h i 1 = X1 at *
   repeat'
    conv => whnf
    first
     | refine zA ?_ | refine zB ?_ | refine zC ?_ | refine zD ?_ | refine zE ?_ | refine zF ?_ | refine zG ?_ | refine zH ?_ | refine zI ?_ | refine splT ?_ | refine splF ?_ | refine splNot ?_
     | ((first | refine splIn ?_ ?_ | refine splD ?_ ?_ | refine splE ?_ ?_ | refine splNE ?_ ?_) <;> intro hc <;> first | (exfalso; omega) | (exfalso; dsimp only at hc; omega) | skip)
     | refine nilX rfl rfl ?_
     | refine Exists.intro (α := List Value) [iv b1, iv b2, iv b3, iv b4, iv b5, iv b6, iv b7, iv b8] ⟨⟨rfl, fun w' hw' => e0 w' hw'⟩, ?_⟩
     | refine Exists.intro (α := List Value) [.slice (some ⟨gb, 0, none⟩) BB.length gc] ⟨⟨rfl, fun w' hw' => g7 w' hw'⟩, ?_⟩
     | refine Exists.intro (α := List Value) (hgV (X0, X1)) ⟨⟨rfl, fun w' hw' => e1 w' hw'⟩, ?_⟩
   conv => whnf
   refine loopN 6 (fun k : Nat => [(0, .v (.pointer (some ⟨fb, 0, none⟩))), (1, .fn (.func 71) [.ptr 0 0]), (4, .ptr 3 0), (5, .ptr 4 0), (6, .v (.bool false)), (7, .v (iv i)), (8, .ptr 5 0), (15, .v (.slice (some ad) BB.length bc)), (16, .v (iv BB.length)), (17, .v (iv i)), (28, .agg ((hgV (X0, X1)).map .v)), (29, .v (iv k))])
    (fun _ => [(0, .cells [.v (.pointer (some ⟨fb, 0, none⟩))] 115), (1, .cells [.v (iv 0), .v (iv 0)] 48), (2, .cells (rwS zr) 118), (3, .cells [.v (iv 0), .v (iv 0)] 48), (4, .cells (rwS zr) 118), (5, .cells [.v (iv b1), .v (iv b2), .v (iv b3), .v (iv b4), .v (iv b5), .v (iv b6), .v (iv b7), .v (iv b8)] 134)])
    (fun k => k ≤ 2 ∧ (1 ≤ k → ¬ D0 > b8 * 216000) ∧ (2 ≤ k → ¬ D1 > b8 * 216000)) (fun k => 2 - k) 0 ⟨by omega, fun h => absurd h (by omega), fun h => absurd h (by omega)⟩ ⟨rfl, rfl, rfl, rfl, rfl, rfl, rfl, rfl, rfl, rfl, rfl, rfl, trivial⟩ ⟨rfl, rfl, rfl, rfl, rfl, rfl, trivial⟩ (fun _ _ => ⟨rfl, rfl⟩) ?_
   intro k ⟨hk, hk0, hk1⟩
   obtain rfl | rfl | rfl : k = 0 ∨ k = 1 ∨ k = 2 := by omega
   · by_cases hd : D0 > b8 * 216000
     · rw [if_pos (decide_eq_true hd)] at hO
       rw [hO, hV0]
       repeat'
        conv => whnf
        first
         | refine zA ?_ | refine zB ?_ | refine zC ?_ | refine zD ?_ | refine zE ?_ | refine zF ?_ | refine zG ?_ | refine zH ?_ | refine zI ?_ | refine splT ?_ | refine splF ?_ | refine splNot ?_
         | ((first | refine splIn ?_ ?_ | refine splD ?_ ?_ | refine splE ?_ ?_ | refine splNE ?_ ?_) <;> intro hc <;> first | (exfalso; omega) | (exfalso; dsimp only at hc; omega) | skip)
         | refine idxL env (rwS X0) rfl rfl rfl rfl (And.intro (by omega) (by omega)) rfl rfl rfl rfl rfl ?_
         | ((with_reducible show CallEv _ _ 71 _ _ _ _ _); refine callI env mixed 2000 [0, 1, 4, 5, 6, 7, 8, 9, 10, 15, 16, 17, 28, 29] Try.func71 has71 Try.ntmps71 (Nat.le_of_ble_eq_true rfl) rfl rfl rfl ?_)
         | ((with_reducible show CallEv _ _ 69 _ _ _ _ _); refine callE (k := 69) (fun β w' hbw => h0 _ hbw) ?_)
       all_goals first | exact ⟨fun β => rfl, fun w' h => h⟩ | (exfalso; omega)
     · skip
       repeat'
        conv => whnf
        first
         | refine zA ?_ | refine zB ?_ | refine zC ?_ | refine zD ?_ | refine zE ?_ | refine zF ?_ | refine zG ?_ | refine zH ?_ | refine zI ?_ | refine splT ?_ | refine splF ?_ | refine splNot ?_
         | ((first | refine splIn ?_ ?_ | refine splD ?_ ?_ | refine splE ?_ ?_ | refine splNE ?_ ?_) <;> intro hc <;> first | (exfalso; omega) | (exfalso; dsimp only at hc; omega) | skip)
         | refine idxL env (rwS X0) rfl rfl rfl rfl (And.intro (by omega) (by omega)) rfl rfl rfl rfl rfl ?_
         | ((with_reducible show CallEv _ _ 71 _ _ _ _ _); refine callI env mixed 2000 [0, 1, 4, 5, 6, 7, 8, 9, 10, 15, 16, 17, 28, 29] Try.func71 has71 Try.ntmps71 (Nat.le_of_ble_eq_true rfl) rfl rfl rfl ?_)
         | ((with_reducible show CallEv _ _ 69 _ _ _ _ _); refine callE (k := 69) (fun β w' hbw => h0 _ hbw) ?_)
       all_goals first | exact ⟨1, ⟨by omega, fun _ => hd, fun h => absurd h (by omega)⟩, by omega, Ent.weak rfl ⟨rfl, rfl, rfl, rfl, rfl, rfl, rfl, rfl, rfl, rfl, rfl, rfl, trivial⟩ ⟨rfl, rfl, rfl, rfl, rfl, rfl, trivial⟩ fun _ h => h⟩ | (exfalso; omega)
   · have hd0 := hk0 (by omega)
     by_cases hd : D1 > b8 * 216000
     · rw [if_neg (by simpa using hd0), if_pos (decide_eq_true hd)] at hO
       rw [hO, hV1]
       repeat'
        conv => whnf
        first
         | refine zA ?_ | refine zB ?_ | refine zC ?_ | refine zD ?_ | refine zE ?_ | refine zF ?_ | refine zG ?_ | refine zH ?_ | refine zI ?_ | refine splT ?_ | refine splF ?_ | refine splNot ?_
         | ((first | refine splIn ?_ ?_ | refine splD ?_ ?_ | refine splE ?_ ?_ | refine splNE ?_ ?_) <;> intro hc <;> first | (exfalso; omega) | (exfalso; dsimp only at hc; omega) | skip)
         | refine idxL env (rwS X1) rfl rfl rfl rfl (And.intro (by omega) (by omega)) rfl rfl rfl rfl rfl ?_
         | ((with_reducible show CallEv _ _ 71 _ _ _ _ _); refine callI env mixed 2000 [0, 1, 4, 5, 6, 7, 8, 9, 10, 15, 16, 17, 28, 29] Try.func71 has71 Try.ntmps71 (Nat.le_of_ble_eq_true rfl) rfl rfl rfl ?_)
         | ((with_reducible show CallEv _ _ 69 _ _ _ _ _); refine callE (k := 69) (fun β w' hbw => h1 _ hbw) ?_)
       all_goals first | exact ⟨fun β => rfl, fun w' h => h⟩ | (exfalso; omega)
     · skip
       repeat'
        conv => whnf
        first
         | refine zA ?_ | refine zB ?_ | refine zC ?_ | refine zD ?_ | refine zE ?_ | refine zF ?_ | refine zG ?_ | refine zH ?_ | refine zI ?_ | refine splT ?_ | refine splF ?_ | refine splNot ?_
         | ((first | refine splIn ?_ ?_ | refine splD ?_ ?_ | refine splE ?_ ?_ | refine splNE ?_ ?_) <;> intro hc <;> first | (exfalso; omega) | (exfalso; dsimp only at hc; omega) | skip)
         | refine idxL env (rwS X1) rfl rfl rfl rfl (And.intro (by omega) (by omega)) rfl rfl rfl rfl rfl ?_
         | ((with_reducible show CallEv _ _ 71 _ _ _ _ _); refine callI env mixed 2000 [0, 1, 4, 5, 6, 7, 8, 9, 10, 15, 16, 17, 28, 29] Try.func71 has71 Try.ntmps71 (Nat.le_of_ble_eq_true rfl) rfl rfl rfl ?_)
         | ((with_reducible show CallEv _ _ 69 _ _ _ _ _); refine callE (k := 69) (fun β w' hbw => h1 _ hbw) ?_)
       all_goals first | exact ⟨2, ⟨by omega, fun _ => hd0, fun _ => hd⟩, by omega, Ent.weak rfl ⟨rfl, rfl, rfl, rfl, rfl, rfl, rfl, rfl, rfl, rfl, rfl, rfl, trivial⟩ ⟨rfl, rfl, rfl, rfl, rfl, rfl, trivial⟩ fun _ h => h⟩ | (exfalso; omega)
   · have hd0 := hk0 (by omega)
     have hd1 := hk1 (by omega)
     rw [if_neg (by simpa using hd0), if_neg (by simpa using hd1)] at hO
     repeat'
      conv => whnf
      first
       | refine zA ?_ | refine zB ?_ | refine zC ?_ | refine zD ?_ | refine zE ?_ | refine zF ?_ | refine zG ?_ | refine zH ?_ | refine zI ?_ | refine splT ?_ | refine splF ?_ | refine splNot ?_
       | ((first | refine splIn ?_ ?_ | refine splD ?_ ?_ | refine splE ?_ ?_ | refine splNE ?_ ?_) <;> intro hc <;> first | (exfalso; omega) | (exfalso; dsimp only at hc; omega) | skip)
     all_goals first | exact ⟨i + 1, ⟨by omega, hO⟩, by omega, Ent.weak rfl ⟨rfl, rfl, rfl, rfl, rfl, rfl, rfl, rfl, trivial⟩ ⟨rfl, rfl, rfl, rfl, rfl, trivial⟩ fun _ h => h⟩ | (exfalso; omega)
 · rw [show BB.length - i = 0 from by omega, hgS] at hO
   rw [hO]
   repeat'
    conv => whnf
    first
     | refine zA ?_ | refine zB ?_ | refine zC ?_ | refine zD ?_ | refine zE ?_ | refine zF ?_ | refine zG ?_ | refine zH ?_ | refine zI ?_ | refine splT ?_ | refine splF ?_ | refine splNot ?_
     | ((first | refine splIn ?_ ?_ | refine splD ?_ ?_ | refine splE ?_ ?_ | refine splNE ?_ ?_) <;> intro hc <;> first | (exfalso; omega) | (exfalso; dsimp only at hc; omega) | skip)
   all_goals first | exact ⟨fun β => rfl, fun w' h => h⟩ | (exfalso; omega)
end Go.Proofs.Ytfbokllafdnglaa
namespace Go.Proofs.Ytfbokllafdnglaa
open Go Tx Go.RowKit
set_option linter.unusedSimpArgs false
set_option linter.unusedVariables false
abbrev Wk := Option (Int × Int × Row)
def Wk.b : Wk → Int
 | some (b, _, _) => b
 | none => 0
def Wk.a : Wk → Int
 | some (_, a, _) => a
 | none => 0
def Wk.pl (r : Rig) (LL : List Ld) (most : Bool) : Wk → List Int
 | some (_, _, x) => endL r x most LL
 | none => []
def Wk.v : Wk → Value
 | some (b, a, x) => .tuple #[.agg #[iv b, iv a], .agg (rwL x).toArray, .bool true]
 | none => .tuple #[.agg #[iv 0, iv 0], .agg (rwL zr).toArray, .bool false]
def Wk.e (rok : Bool) : Wk → Int
 | some _ => 0
 | none => if rok = true then 7 else 1
def hgW (F : Fr) (o : Option (Nat × Nat)) : Wk := o.map fun q => ((q.1 : Int), (q.2 : Int), F.h q.1 q.2)
def ovF (r : Rig) (PP : List Int) (LL : List Ld) (F : Fr) : Nat := fstN (fun j => decide (endD r LL (F.p j) true > PP.getD j 0 * 216000)) PP.length 0
def ovO (r : Rig) (PP : List Int) (BB : List Bm) (LL : List Ld) (F : Fr) : Wk :=
 if ovF r PP LL F < PP.length then some (-1, (ovF r PP LL F : Int), F.p (ovF r PP LL F)) else hgW F (hgO (fun i k => decide (endD r LL (F.h i k) true > capN BB i * 216000)) BB.length)
def slO (r : Rig) (BB : List Bm) (LL : List Ld) (F : Fr) : Wk := hgW F (hgO (fun i k => decide (endD r LL (F.h i k) false < 0)) BB.length)
theorem ptV_eq (F : Fr) (o : Option (Nat × Nat)) : ptV F o = (hgW F o).v := by cases o <;> rfl
theorem ovV_eq (r : Rig) (PP : List Int) (BB : List Bm) (LL : List Ld) (F : Fr) : ovV r PP BB LL F = (ovO r PP BB LL F).v := by
 unfold ovV ovO
 show (if ovF r PP LL F < PP.length then _ else _) = _
 split
 · rfl
 · exact ptV_eq _ _
def ovR (r : Rig) (PP : List Int) (BB : List Bm) (LL : List Ld) : Wk := if rigOk r.f0 r.f1 r.f2 PP BB LL = true then ovO r PP BB LL (frF BB LL) else none
def slR (r : Rig) (PP : List Int) (BB : List Bm) (LL : List Ld) : Wk := if rigOk r.f0 r.f1 r.f2 PP BB LL = true then slO r BB LL (frF BB LL) else none
set_option maxHeartbeats 8000000 in
set_option maxRecDepth 100000 in
theorem Over_ok (r : Rig) (PP : List Int) (BB : List Bm) (LL : List Ld) (w : World) (h : RigIn r PP BB LL w) :
 Calls Try.prog 11 #[r.v] w fun e w' => ∃ y : Option Addr × Nat, e = .returned (.tuple #[.agg #[iv (ovR r PP BB LL).b, iv (ovR r PP BB LL).a], sV ((ovR r PP BB LL).pl r LL true).length y, iv ((ovR r PP BB LL).e (rigOk r.f0 r.f1 r.f2 PP BB LL))]) ∧ Below w.heap.size w w' ∧
  St w.heap.size (Rd 1 iF (sV ((ovR r PP BB LL).pl r LL true).length y) ((ovR r PP BB LL).pl r LL true)) w' := by
 have hv := fun (w' : World) (hb : Below w.heap.size w w') => valid_ok r PP BB LL w' (h.below hb)
 have hfr := fun (w' : World) (hb : Below w.heap.size w w') (hr : rigOk r.f0 r.f1 r.f2 PP BB LL = true) => frame_ok r PP BB LL w' (h.below hb) hr (frB_of hr)
 unfold ovR
 cases hr : rigOk r.f0 r.f1 r.f2 PP BB LL with
 | false =>
  rw [hr] at hv
  obtain ⟨r1, r2, r3, r4, r5, r6, f0, f1, f2, lo, ln, lc⟩ := r
  dsimp only at hv hfr
  refine calls_fam env mixed Try.func11 has11 Try.ntmps11 [.agg #[.slice r1 r2 r3, .slice r4 r5 r6, iv f0, iv f1, iv f2, .slice lo ln lc]] (by simp) ?_
  rw [if_neg (by simp)]
  repeat'
   conv => whnf
   first
    | refine zA ?_ | refine zB ?_ | refine zC ?_ | refine zD ?_ | refine zE ?_ | refine zF ?_ | refine zG ?_ | refine zH ?_ | refine zI ?_ | refine splT ?_ | refine splF ?_ | refine splNot ?_
    | ((first | refine splIn ?_ ?_ | refine splD ?_ ?_ | refine splE ?_ ?_ | refine splNE ?_ ?_) <;> intro hc <;> first | (exfalso; omega) | (exfalso; dsimp only at hc; omega) | skip)
    | ((with_reducible show CallEv _ _ 27 _ _ _ _ _); refine callE (k := 27) (fun β w' hbw => hv _ hbw) ?_)
  all_goals exact ⟨fun w' h => h, fun β w' h _ => ⟨(none, 0), rfl, fun _ _ => .inl ⟨rfl, rfl⟩⟩⟩
 | true =>
  rw [hr] at hv
  have hfr := fun w' hb => hfr w' hb hr
  rw [if_pos rfl]
  obtain ⟨hQ1, hQ2⟩ := frF_Q hr
  generalize frF BB LL = F at *
  have hin := fun (y : FrA) (w' : World) (hb : Below w.heap.size w w' ∧ FrIn r PP.length BB.length F y w') => over_ok r PP BB LL F y w' (h.below hb.1) hr hb.2 hQ2 hQ1
  have hend := fun (y : FrA) (x : Row) (w' : World) (hb : Below w.heap.size w w' ∧ FrIn r PP.length BB.length F y w') => end_ok r PP BB LL F y x true w' (h.below hb.1) hr hb.2
  simp only [ovV_eq] at hin
  skip
  generalize ovO r PP BB LL F = o at *
  cases o with
  | none =>
   obtain ⟨r1, r2, r3, r4, r5, r6, f0, f1, f2, lo, ln, lc⟩ := r
   refine calls_fam env mixed Try.func11 has11 Try.ntmps11 [.agg #[.slice r1 r2 r3, .slice r4 r5 r6, iv f0, iv f1, iv f2, .slice lo ln lc]] (by simp) ?_
   repeat'
    conv => whnf
    first
     | refine zA ?_ | refine zB ?_ | refine zC ?_ | refine zD ?_ | refine zE ?_ | refine zF ?_ | refine zG ?_ | refine zH ?_ | refine zI ?_ | refine splT ?_ | refine splF ?_ | refine splNot ?_
     | ((first | refine splIn ?_ ?_ | refine splD ?_ ?_ | refine splE ?_ ?_ | refine splNE ?_ ?_) <;> intro hc <;> first | (exfalso; omega) | (exfalso; dsimp only at hc; omega) | skip)
     | ((with_reducible show CallEv _ _ 27 _ _ _ _ _); refine callE (k := 27) (fun β w' hbw => hv _ hbw) ?_)
     | ((with_reducible show CallEv _ _ 28 _ _ _ _ _); refine callF [] (fun y : FrA => .pointer (some ⟨y.fb, 0, none⟩)) (fun y => FrIn ⟨r1, r2, r3, r4, r5, r6, f0, f1, f2, lo, ln, lc⟩ PP.length BB.length F y) (fun β w' _ hbw => hfr w' hbw) ?_; intro y; have hin := hin y; have hend := hend y; obtain ⟨fb, pb, qc, gb, gc, ub, uc⟩ := y; dsimp only at hin hend ⊢)
     | ((with_reducible show CallEv _ _ 29 _ _ _ _ _); refine callE (k := 29) (fun β w' hbw => hin _ hbw) ?_)
   all_goals first | exact ⟨fun w' h => h.1, fun β w' h _ => ⟨(none, 0), rfl, fun _ _ => .inl ⟨rfl, rfl⟩⟩⟩
  | some q =>
   obtain ⟨b, a, x⟩ := q
   have hend := fun y => hend y x
   show Calls _ _ _ _ fun e w' => ∃ y : Option Addr × Nat, e = .returned (.tuple #[.agg #[iv b, iv a], sV (endL r x true LL).length y, iv 0]) ∧ Below w.heap.size w w' ∧ St w.heap.size (Rd 1 iF (sV (endL r x true LL).length y) (endL r x true LL)) w'
   have hl := endL_len r x true LL
   generalize endL r x true LL = E at *
   rw [hl]
   obtain ⟨r1, r2, r3, r4, r5, r6, f0, f1, f2, lo, ln, lc⟩ := r
   refine calls_fam env mixed Try.func11 has11 Try.ntmps11 [.agg #[.slice r1 r2 r3, .slice r4 r5 r6, iv f0, iv f1, iv f2, .slice lo ln lc]] (by simp) ?_
   repeat'
    conv => whnf
    first
     | refine zA ?_ | refine zB ?_ | refine zC ?_ | refine zD ?_ | refine zE ?_ | refine zF ?_ | refine zG ?_ | refine zH ?_ | refine zI ?_ | refine splT ?_ | refine splF ?_ | refine splNot ?_
     | ((first | refine splIn ?_ ?_ | refine splD ?_ ?_ | refine splE ?_ ?_ | refine splNE ?_ ?_) <;> intro hc <;> first | (exfalso; omega) | (exfalso; dsimp only at hc; omega) | skip)
     | ((with_reducible show CallEv _ _ 27 _ _ _ _ _); refine callE (k := 27) (fun β w' hbw => hv _ hbw) ?_)
     | ((with_reducible show CallEv _ _ 28 _ _ _ _ _); refine callF [] (fun y : FrA => .pointer (some ⟨y.fb, 0, none⟩)) (fun y => FrIn ⟨r1, r2, r3, r4, r5, r6, f0, f1, f2, lo, ln, lc⟩ PP.length BB.length F y) (fun β w' _ hbw => hfr w' hbw) ?_; intro y; have hin := hin y; have hend := hend y; obtain ⟨fb, pb, qc, gb, gc, ub, uc⟩ := y; dsimp only at hin hend ⊢)
     | ((with_reducible show CallEv _ _ 29 _ _ _ _ _); refine callE (k := 29) (fun β w' hbw => hin _ hbw) ?_)
     | ((with_reducible show CallEv _ _ 30 _ _ _ _ _); refine callO 4 [] (.os 4 5 LL.length) LL.length 1 (E.flatMap iF) 3 rfl (fun β w' _ hbw => (hend w' hbw).mono fun _ _ ⟨b, c, h1, h2, h3, h4⟩ => ⟨b, c, h1, h2, h3, h4⟩) ?_)
   all_goals first | exact ⟨fun w' h => h.1, fun β w' h hblk => ⟨(some ⟨β 4, 0, none⟩, β 5), rfl, (hblk 4 _ rfl rfl).imp fun _ q => Rd.of_owns (sz := 1) (f := iF) (fun _ => rfl) rfl hl.symm q⟩⟩
set_option maxHeartbeats 8000000 in
set_option maxRecDepth 100000 in
theorem Slack_ok (r : Rig) (PP : List Int) (BB : List Bm) (LL : List Ld) (w : World) (h : RigIn r PP BB LL w) :
 Calls Try.prog 18 #[r.v] w fun e w' => ∃ y : Option Addr × Nat, e = .returned (.tuple #[.agg #[iv (slR r PP BB LL).b, iv (slR r PP BB LL).a], sV ((slR r PP BB LL).pl r LL false).length y, iv ((slR r PP BB LL).e (rigOk r.f0 r.f1 r.f2 PP BB LL))]) ∧ Below w.heap.size w w' ∧
  St w.heap.size (Rd 1 iF (sV ((slR r PP BB LL).pl r LL false).length y) ((slR r PP BB LL).pl r LL false)) w' := by
 have hv := fun (w' : World) (hb : Below w.heap.size w w') => valid_ok r PP BB LL w' (h.below hb)
 have hfr := fun (w' : World) (hb : Below w.heap.size w w') (hr : rigOk r.f0 r.f1 r.f2 PP BB LL = true) => frame_ok r PP BB LL w' (h.below hb) hr (frB_of hr)
 unfold slR
 cases hr : rigOk r.f0 r.f1 r.f2 PP BB LL with
 | false =>
  rw [hr] at hv
  obtain ⟨r1, r2, r3, r4, r5, r6, f0, f1, f2, lo, ln, lc⟩ := r
  dsimp only at hv hfr
  refine calls_fam env mixed Try.func18 has18 Try.ntmps18 [.agg #[.slice r1 r2 r3, .slice r4 r5 r6, iv f0, iv f1, iv f2, .slice lo ln lc]] (by simp) ?_
  rw [if_neg (by simp)]
  repeat'
   conv => whnf
   first
    | refine zA ?_ | refine zB ?_ | refine zC ?_ | refine zD ?_ | refine zE ?_ | refine zF ?_ | refine zG ?_ | refine zH ?_ | refine zI ?_ | refine splT ?_ | refine splF ?_ | refine splNot ?_
    | ((first | refine splIn ?_ ?_ | refine splD ?_ ?_ | refine splE ?_ ?_ | refine splNE ?_ ?_) <;> intro hc <;> first | (exfalso; omega) | (exfalso; dsimp only at hc; omega) | skip)
    | ((with_reducible show CallEv _ _ 27 _ _ _ _ _); refine callE (k := 27) (fun β w' hbw => hv _ hbw) ?_)
  all_goals exact ⟨fun w' h => h, fun β w' h _ => ⟨(none, 0), rfl, fun _ _ => .inl ⟨rfl, rfl⟩⟩⟩
 | true =>
  rw [hr] at hv
  have hfr := fun w' hb => hfr w' hb hr
  rw [if_pos rfl]
  obtain ⟨hQ1, hQ2⟩ := frF_Q hr
  generalize frF BB LL = F at *
  have hin := fun (y : FrA) (w' : World) (hb : Below w.heap.size w w' ∧ FrIn r PP.length BB.length F y w') => slack_ok r PP BB LL F y w' (h.below hb.1) hr hb.2 hQ2
  have hend := fun (y : FrA) (x : Row) (w' : World) (hb : Below w.heap.size w w' ∧ FrIn r PP.length BB.length F y w') => end_ok r PP BB LL F y x false w' (h.below hb.1) hr hb.2
  simp only [ptV_eq] at hin
  change ∀ (y : FrA) (w_1 : World) (hb : Below w.heap.size w w_1 ∧ FrIn r PP.length BB.length F y w_1), Calls Try.prog 42 #[Value.pointer (some ⟨y.fb, 0, none⟩)] w_1 fun e w2 => e = .returned (slO r BB LL F).v ∧ Below w_1.heap.size w_1 w2 at hin
  generalize slO r BB LL F = o at *
  cases o with
  | none =>
   obtain ⟨r1, r2, r3, r4, r5, r6, f0, f1, f2, lo, ln, lc⟩ := r
   refine calls_fam env mixed Try.func18 has18 Try.ntmps18 [.agg #[.slice r1 r2 r3, .slice r4 r5 r6, iv f0, iv f1, iv f2, .slice lo ln lc]] (by simp) ?_
   repeat'
    conv => whnf
    first
     | refine zA ?_ | refine zB ?_ | refine zC ?_ | refine zD ?_ | refine zE ?_ | refine zF ?_ | refine zG ?_ | refine zH ?_ | refine zI ?_ | refine splT ?_ | refine splF ?_ | refine splNot ?_
     | ((first | refine splIn ?_ ?_ | refine splD ?_ ?_ | refine splE ?_ ?_ | refine splNE ?_ ?_) <;> intro hc <;> first | (exfalso; omega) | (exfalso; dsimp only at hc; omega) | skip)
     | ((with_reducible show CallEv _ _ 27 _ _ _ _ _); refine callE (k := 27) (fun β w' hbw => hv _ hbw) ?_)
     | ((with_reducible show CallEv _ _ 28 _ _ _ _ _); refine callF [] (fun y : FrA => .pointer (some ⟨y.fb, 0, none⟩)) (fun y => FrIn ⟨r1, r2, r3, r4, r5, r6, f0, f1, f2, lo, ln, lc⟩ PP.length BB.length F y) (fun β w' _ hbw => hfr w' hbw) ?_; intro y; have hin := hin y; have hend := hend y; obtain ⟨fb, pb, qc, gb, gc, ub, uc⟩ := y; dsimp only at hin hend ⊢)
     | ((with_reducible show CallEv _ _ 42 _ _ _ _ _); refine callE (k := 42) (fun β w' hbw => hin _ hbw) ?_)
   all_goals first | exact ⟨fun w' h => h.1, fun β w' h _ => ⟨(none, 0), rfl, fun _ _ => .inl ⟨rfl, rfl⟩⟩⟩
  | some q =>
   obtain ⟨b, a, x⟩ := q
   have hend := fun y => hend y x
   show Calls _ _ _ _ fun e w' => ∃ y : Option Addr × Nat, e = .returned (.tuple #[.agg #[iv b, iv a], sV (endL r x false LL).length y, iv 0]) ∧ Below w.heap.size w w' ∧ St w.heap.size (Rd 1 iF (sV (endL r x false LL).length y) (endL r x false LL)) w'
   have hl := endL_len r x false LL
   generalize endL r x false LL = E at *
   rw [hl]
   obtain ⟨r1, r2, r3, r4, r5, r6, f0, f1, f2, lo, ln, lc⟩ := r
   refine calls_fam env mixed Try.func18 has18 Try.ntmps18 [.agg #[.slice r1 r2 r3, .slice r4 r5 r6, iv f0, iv f1, iv f2, .slice lo ln lc]] (by simp) ?_
   repeat'
    conv => whnf
    first
     | refine zA ?_ | refine zB ?_ | refine zC ?_ | refine zD ?_ | refine zE ?_ | refine zF ?_ | refine zG ?_ | refine zH ?_ | refine zI ?_ | refine splT ?_ | refine splF ?_ | refine splNot ?_
     | ((first | refine splIn ?_ ?_ | refine splD ?_ ?_ | refine splE ?_ ?_ | refine splNE ?_ ?_) <;> intro hc <;> first | (exfalso; omega) | (exfalso; dsimp only at hc; omega) | skip)
     | ((with_reducible show CallEv _ _ 27 _ _ _ _ _); refine callE (k := 27) (fun β w' hbw => hv _ hbw) ?_)
     | ((with_reducible show CallEv _ _ 28 _ _ _ _ _); refine callF [] (fun y : FrA => .pointer (some ⟨y.fb, 0, none⟩)) (fun y => FrIn ⟨r1, r2, r3, r4, r5, r6, f0, f1, f2, lo, ln, lc⟩ PP.length BB.length F y) (fun β w' _ hbw => hfr w' hbw) ?_; intro y; have hin := hin y; have hend := hend y; obtain ⟨fb, pb, qc, gb, gc, ub, uc⟩ := y; dsimp only at hin hend ⊢)
     | ((with_reducible show CallEv _ _ 42 _ _ _ _ _); refine callE (k := 42) (fun β w' hbw => hin _ hbw) ?_)
     | ((with_reducible show CallEv _ _ 30 _ _ _ _ _); refine callO 4 [] (.os 4 5 LL.length) LL.length 1 (E.flatMap iF) 3 rfl (fun β w' _ hbw => (hend w' hbw).mono fun _ _ ⟨b, c, h1, h2, h3, h4⟩ => ⟨b, c, h1, h2, h3, h4⟩) ?_)
   all_goals first | exact ⟨fun w' h => h.1, fun β w' h hblk => ⟨(some ⟨β 4, 0, none⟩, β 5), rfl, (hblk 4 _ rfl rfl).imp fun _ q => Rd.of_owns (sz := 1) (f := iF) (fun _ => rfl) rfl hl.symm q⟩⟩
end Go.Proofs.Ytfbokllafdnglaa
namespace Go.Proofs.Ytfbokllafdnglaa
open Go Tx Go.RowKit
set_option linter.unusedSimpArgs false
set_option linter.unusedVariables false
theorem part3 (cs : List Value) (o : Nat) (v : Value) (w : World) (h : cs[o]? = some v) : (part 3 cs.toArray o).run Try.prog w = .ok v w :=
 run_part (β := fun _ => 0) (l := [.v v]) (s := .v v) tok3 (by
  obtain ⟨h1, h2⟩ := List.getElem?_eq_some_iff.1 h
  show List.take 1 (List.drop o cs) = [v]
  rw [List.drop_eq_getElem_cons h1, h2]; rfl) rfl (.inr ⟨rfl, rfl⟩)
theorem names95 : namesB Try.prog 48 = true := by kernel_rfl
theorem guard95 : Try.prog.eqGuardType Try.prog.depth 48 = false := by kernel_rfl
theorem eqInS {t o1 o2 : Nat} {ti : TI} (ht : TOK Try.prog t ti) (hk : ti.kind = .struct [(0, 3), (1, 3)]) (hn : namesB Try.prog t = true) (d : Nat) (a b c e : Int) (w : World) : (Op.equalIn (d + 2) t (.agg #[iv a, iv b]) (.agg #[iv c, iv e])).run Try.prog w = .ok (a == c && b == e) w :=
 equalIn_two ht hk (by decide) hn (part3 _ 0 _ w rfl) (part3 _ 1 _ w rfl) (part3 _ 0 _ w rfl) (part3 _ 1 _ w rfl) (eqIn3 d _ _ w) (eqIn3 d _ _ w)
theorem eqlE95 {a b c e : Int} {q : Bool} {x y : Operand} {K : Value → Prop} (hq : (a == c && b == e) = q) (h : K (.bool q)) : ∃ v, (∀ _ : Nat → Nat, RunIs Try.prog (do eqGuard .eql 48 x y (.agg #[iv a, iv b]) (.agg #[iv c, iv e]); binOp .eql 48 (.agg #[iv a, iv b]) (.agg #[iv c, iv e])) v) ∧ K v :=
 ⟨_, fun _ => runIs_eql guard95 fun w => eqInS (o1 := 0) (o2 := 0) tok48 rfl names95 9998 _ _ _ _ w, by rw [hq]; exact h⟩
theorem neqE95 {a b c e : Int} {q : Bool} {x y : Operand} {K : Value → Prop} (hq : (!(a == c && b == e)) = q) (h : K (.bool q)) : ∃ v, (∀ _ : Nat → Nat, RunIs Try.prog (do eqGuard .neq 48 x y (.agg #[iv a, iv b]) (.agg #[iv c, iv e]); binOp .neq 48 (.agg #[iv a, iv b]) (.agg #[iv c, iv e])) v) ∧ K v :=
 ⟨_, fun _ => runIs_neq guard95 fun w => eqInS (o1 := 0) (o2 := 0) tok48 rfl names95 9998 _ _ _ _ w, by rw [hq]; exact h⟩
end Go.Proofs.Ytfbokllafdnglaa
namespace Go.Proofs.Ytfbokllafdnglaa
open Go Tx Go.RowKit
set_option linter.unusedSimpArgs false
set_option linter.unusedVariables false
section
variable {f0 f1 f2 : Int} {PP : List Int} {BB : List Bm} {LL : List Ld} (hr : rigOk f0 f1 f2 PP BB LL = true)
include hr
end
theorem fac_eq {r r' : Rig} (h0 : r.f0 = r'.f0) (h1 : r.f1 = r'.f1) (h2 : r.f2 = r'.f2) (k : Nat) : r.fac k = r'.fac k := by
 unfold Rig.fac
 split <;> assumption
abbrev nrV (PP : List Int) (BB : List Bm) (LL : List Ld) (f0 f1 f2 : Int) (y : (Option Addr × Nat) × (Option Addr × Nat) × (Option Addr × Nat)) : Value := .agg #[sV PP.length y.1, sV BB.length y.2.1, iv f0, iv f1, iv f2, sV LL.length y.2.2]
abbrev nrR (PP : List Int) (BB : List Bm) (LL : List Ld) (f0 f1 f2 : Int) (y : (Option Addr × Nat) × (Option Addr × Nat) × (Option Addr × Nat)) : Rig := ⟨y.1.1, PP.length, y.1.2, y.2.1.1, BB.length, y.2.1.2, f0, f1, f2, y.2.2.1, LL.length, y.2.2.2⟩
def nrH (PP : List Int) (BB : List Bm) (LL : List Ld) (y : (Option Addr × Nat) × (Option Addr × Nat) × (Option Addr × Nat)) (w2 : World) : Prop := Rd 1 iF (sV PP.length y.1) PP w2 ∧ Rd 8 Bm.cs (sV BB.length y.2.1) BB w2 ∧ Rd 5 Ld.cs (sV LL.length y.2.2) LL w2
theorem nrH.rin {PP : List Int} {BB : List Bm} {LL : List Ld} {f0 f1 f2 : Int} {y : (Option Addr × Nat) × (Option Addr × Nat) × (Option Addr × Nat)} {w2 : World} (h : nrH PP BB LL y w2) (h1 : PP.length ≤ 1000000) (h2 : BB.length ≤ 1000000) (h3 : LL.length ≤ 1000000) : RigIn (nrR PP BB LL f0 f1 f2 y) PP BB LL w2 :=
 ⟨h.1, h.2.1, h.2.2, rfl, rfl, rfl, h1, h2, h3⟩
end Go.Proofs.Ytfbokllafdnglaa
namespace Go.Proofs.Ytfbokllafdnglaa
open Go Tx Go.RowKit
set_option linter.unusedSimpArgs false
set_option linter.unusedVariables false
section
variable {f0 f1 f2 : Int} {PP : List Int} {BB : List Bm} {LL : List Ld} (hr : rigOk f0 f1 f2 PP BB LL = true)
include hr
end
theorem ob_p (F : Fr) (c j : Nat) : ob F c (-1, (j : Int)) = F.p j c := by unfold ob; rw [if_pos rfl, Int.toNat_natCast]
theorem ob_h (F : Fr) (c j k : Nat) : ob F c ((j : Int), (k : Int)) = F.h j k c := by unfold ob; rw [if_neg (by show ¬ (j : Int) = -1; omega), Int.toNat_natCast, Int.toNat_natCast]
section
end
end Go.Proofs.Ytfbokllafdnglaa
namespace Go.Proofs.Ytfbokllafdnglaa
open Go Tx Go.RowKit
set_option linter.unusedSimpArgs false
set_option linter.unusedVariables false
def thB (pn bn ln : Nat) : Bool := decide (pn ≤ 16) && decide (bn ≤ 16) && decide (ln ≤ 24)
theorem Thin_ok (r : Rig) (w : World) (h1 : r.pn ≤ 9223372036854775807) (h2 : r.bn ≤ 9223372036854775807) (h3 : r.ln ≤ 9223372036854775807) : Calls Try.prog 19 #[r.v] w fun e w' => e = .returned (.bool (thB r.pn r.bn r.ln)) ∧ Below w.heap.size w w' := by
 obtain ⟨po, pn, pc, bo, bn, bc, f0, f1, f2, lo, ln, lc⟩ := r
 dsimp only at h1 h2 h3 ⊢
 refine calls_val env mixed Try.func19 has19 Try.ntmps19 [.agg #[.slice po pn pc, .slice bo bn bc, iv f0, iv f1, iv f2, .slice lo ln lc]] (by simp) ?_
 have hq : ∀ q : Bool, (q = true ↔ pn ≤ 16 ∧ bn ≤ 16 ∧ ln ≤ 24) → q = thB pn bn ln := fun q hq => by
  rw [Bool.eq_iff_iff, hq]
  simp [thB, and_assoc]
 repeat'
  conv => whnf
  first
   | refine zA ?_ | refine zB ?_ | refine zC ?_ | refine zD ?_ | refine zE ?_ | refine zF ?_ | refine zG ?_ | refine zH ?_ | refine zI ?_ | refine splT ?_ | refine splF ?_ | refine splNot ?_
   | ((first | refine splIn ?_ ?_ | refine splD ?_ ?_ | refine splE ?_ ?_ | refine splNE ?_ ?_) <;> intro hc <;> first | (exfalso; omega) | (exfalso; dsimp only at hc; omega) | skip)
 all_goals exact ⟨fun β => congrArg Value.bool (hq _ (by simp <;> omega)), fun w' h => h⟩
end Go.Proofs.Ytfbokllafdnglaa
namespace Go.Proofs.Ytfbokllafdnglaa
open Go Tx Go.RowKit
set_option linter.unusedSimpArgs false
set_option linter.unusedVariables false
def rowP (F : Fr) (b a : Int) : Row := fun c => ob F c (b, a)
end Go.Proofs.Ytfbokllafdnglaa
namespace Go.Proofs.Ytfbokllafdnglaa
open Go Tx Go.RowKit
set_option linter.unusedSimpArgs false
set_option linter.unusedVariables false
def prP (k : Nat) : List (Int × Int) := (List.range k).map fun j : Nat => (-1, (j : Int))
def prH (k : Nat) : List (Int × Int) := (List.range k).flatMap fun i : Nat => [((i : Int), 0), ((i : Int), 1)]
def prL (n m : Nat) : List (Int × Int) := prP n ++ prH m
end Go.Proofs.Ytfbokllafdnglaa
