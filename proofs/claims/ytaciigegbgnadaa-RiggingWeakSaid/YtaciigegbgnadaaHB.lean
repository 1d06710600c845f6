/- The first hanger that may be slack: what slack returns. -/
import Derived.Test.YtaciigegbgnadaaHA
namespace Go.Proofs.Ytaciigegbgnadaa
open Go Tx Go.RowKit
set_option linter.unusedSimpArgs false
set_option linter.unusedVariables false

/-- The first hanger, from a beam on, of which something holds. -/
def hgS (is : Nat → Nat → Bool) : Nat → Nat → Option (Nat × Nat)
  | 0, _ => none
  | n + 1, i => if is i 0 = true then some (i, 0) else if is i 1 = true then some (i, 1) else hgS is n (i + 1)
def hgO (is : Nat → Nat → Bool) (m : Nat) : Option (Nat × Nat) := hgS is m 0
theorem hgS_at (is : Nat → Nat → Bool) {m i : Nat} (h : i < m) : hgS is (m - i) i = if is i 0 = true then some (i, 0) else if is i 1 = true then some (i, 1) else hgS is (m - (i + 1)) (i + 1) := by
  rw [show m - i = (m - (i + 1)) + 1 from by omega, hgS]
/-- A part, its row, and whether there is one. -/
def ptV (F : Fr) : Option (Nat × Nat) → Value
  | none => .tuple #[.agg #[iv 0, iv 0], .agg (rwL zr).toArray, .bool false]
  | some (i, k) => .tuple #[.agg #[iv i, iv k], .agg (rwL (F.h i k)).toArray, .bool true]

set_option maxHeartbeats 8000000 in
set_option maxRecDepth 100000 in
theorem slack_ok (r : Rig) (PP : List Int) (BB : List Bm) (LL : List Ld) (F : Fr) (y : FrA) (w : World) (h : RigIn r PP BB LL w) (hr : rigOk r.f0 r.f1 r.f2 PP BB LL = true) (hy : FrIn r PP.length BB.length F y w) (hQ : ∀ j k, rowQ (F.h j k)) :
    Calls Try.prog 77 #[.pointer (some ⟨y.fb, 0, none⟩)] w fun e w' => e = .returned (ptV F (hgO (fun i k => decide (endD r LL (F.h i k) false < 0)) BB.length)) ∧ Below w.heap.size w w' := by
  refine calls_val env mixed Try.func77 has77 Try.ntmps77 [.pointer (some ⟨y.fb, 0, none⟩)] (by simp) ?_
  have hB := h.b
  have hbn := h.bn
  have hm := (rigOk_iff.1 hr).2.2.1
  have h95 := fun (i k : Nat) (w' : World) (hb : Below w.heap.size w w') => least_ok r PP BB LL F y (F.h i k) w' (h.below hb) hr (hy.below hb) (hQ i k)
  have hc := hy.c
  have hh := hy.h
  obtain ⟨po, pn, pc, bo, bn, bc, f0, f1, f2, lo, ln, lc⟩ := r
  obtain ⟨fb, pb, qc, gb, gc, ub, uc⟩ := y
  dsimp only at hB hbn h95 hc hh ⊢
  subst hbn
  generalize hD : (fun i k => endD ⟨po, pn, pc, bo, BB.length, bc, f0, f1, f2, lo, ln, lc⟩ LL (F.h i k) false) = D at *
  have hDi : ∀ i k, endD ⟨po, pn, pc, bo, BB.length, bc, f0, f1, f2, lo, ln, lc⟩ LL (F.h i k) false = D i k := fun i k => by rw [← hD]
  simp only [hDi] at h95 ⊢
  have g1 := fun (w' : World) (hb : Below w.heap.size w w') => fun j v (h : [Value.slice bo BB.length bc][j]? = some v) => (show w'.cell? ((((⟨fb, 0, none⟩ : Addr).add 0).add 1).add j) = some v from by
    match j, h with
    | 0, h => cases h; rw [Addr.add_add, Addr.add_add]; exact ext_below hb (hc 1 _ rfl))
  have g7 := fun (w' : World) (hb : Below w.heap.size w w') => fun j v (h : [Value.slice (some ⟨gb, 0, none⟩) BB.length gc][j]? = some v) => (show w'.cell? (((⟨fb, 0, none⟩ : Addr).add 7).add j) = some v from by
    match j, h with
    | 0, h => cases h; rw [Addr.add_add]; exact ext_below hb (hc 7 _ rfl))
  repeat'
    conv => whnf
    first
      | refine And.intro (a := drawB _ = true) (by kernel_rfl) ?_
      | refine And.intro (a := (_ : Bool) = true) rfl ?_
      | refine And.intro (a := (_ : Bool) = true ∧ (_ : Bool) = true) ⟨rfl, rfl⟩ ?_
      | refine And.intro (a := (_ : Bool) = true ∧ (_ : List _) = []) ⟨rfl, rfl⟩ ?_
      | refine And.intro (a := IR _ _) (And.intro (by omega) (by omega)) ?_
      | refine wrapE (And.intro (by omega) (by omega)) ?_
      | refine And.intro (a := (0 : Int) ≤ _ ∧ _ < _) (And.intro (by omega) (by omega)) ?_
      | refine And.intro (a := (_ : Bool) = true) (by simp only [Nat.beq_refl]; rfl) ?_
      | refine And.intro (a := ((_ : Bool) = true → 1 ≤ _) ∧ _ ≤ 9223372036854775807 ∧ _ ≤ 140737488355328) ⟨fun h => (by first | omega | cases h), by omega, by omega⟩ ?_
      | refine splT ?_
      | refine splF ?_
      | refine splNot ?_
      | (refine splIn (fun hc => ?_) (fun hc => ?_) <;> first | (exfalso; omega) | (exfalso; dsimp only at hc; omega) | skip)
      | (refine splD (fun hc => ?_) (fun hc => ?_) <;> first | (exfalso; omega) | (exfalso; dsimp only at hc; omega) | skip)
      | (refine splE (fun hc => ?_) (fun hc => ?_) <;> first | (exfalso; omega) | (exfalso; dsimp only at hc; omega) | skip)
      | (refine splNE (fun hc => ?_) (fun hc => ?_) <;> first | (exfalso; omega) | (exfalso; dsimp only at hc; omega) | skip)
      | ((with_reducible show CallEv _ _ 97 _ _ _ _ _); refine callI env mixed 1000 [2, 3] Try.func97 has97 Try.ntmps97 (Nat.le_of_ble_eq_true rfl) rfl rfl rfl ?_)
      | refine nilX rfl rfl ?_
      | refine Exists.intro (α := List Value) [.slice bo BB.length bc] ⟨⟨rfl, fun w' hw' => g1 w' hw'⟩, ?_⟩
  conv => whnf
  refine loopN 5 (fun i : Nat => [(0, .v (.pointer (some ⟨fb, 0, none⟩))), (1, .fn (.func 100) [.ptr 0 0]), (4, .ptr 3 0), (5, .ptr 4 0), (6, .v (.bool false)), (15, .v (.slice bo BB.length bc)), (16, .v (iv BB.length)), (17, .v (iv i))])
    (fun _ => [(0, .cells [.v (.pointer (some ⟨fb, 0, none⟩))] 134), (1, .cells [.v (iv 0), .v (iv 0)] 95), (2, .cells (rwS zr) 142), (3, .cells [.v (iv 0), .v (iv 0)] 95), (4, .cells (rwS zr) 142)])
    (fun i => i ≤ BB.length ∧ hgO (fun i k => decide (D i k < 0)) BB.length = hgS (fun i k => decide (D i k < 0)) (BB.length - i) i) (fun i => BB.length - i) 0 ⟨Nat.zero_le _, rfl⟩ ⟨rfl, rfl, rfl, rfl, rfl, rfl, rfl, rfl, trivial⟩ ⟨rfl, rfl, rfl, rfl, rfl, trivial⟩ (fun _ _ => ⟨rfl, rfl⟩) ?_
  intro i ⟨hi, hO⟩
  rcases Nat.lt_or_ge i BB.length with hil | hil
  · obtain ⟨b, hb⟩ : ∃ b, BB[i]? = some b := ⟨_, List.getElem?_eq_getElem hil⟩
    obtain ⟨_, ad, rfl, _⟩ := hB.ptr (by omega)
    have e0 := fun (w' : World) hw' => rd_ati (hB.below (w' := w') hw') hb
    have e1 := fun (w' : World) hw' => rd_ati (hh.below (w' := w') hw') (rng_at (fun j => (F.h j 0, F.h j 1)) hil)
    rw [hgS_at _ hil] at hO
    have h0 := h95 i 0
    have h1 := h95 i 1
    obtain ⟨b1, b2, b3, b4, b5, b6, b7, b8⟩ := b
    have hV : ∀ k, ptV F (some (i, k)) = .tuple #[.agg #[iv i, iv k], .agg (rwL (F.h i k)).toArray, .bool true] := fun k => rfl
    generalize D i 0 = D0 at *
    generalize D i 1 = D1 at *
    have hV0 := hV 0
    have hV1 := hV 1
    generalize F.h i 0 = X0 at *
    generalize F.h i 1 = X1 at *
    repeat'
      conv => whnf
      first
        | refine And.intro (a := drawB _ = true) (by kernel_rfl) ?_
        | refine And.intro (a := (_ : Bool) = true) rfl ?_
        | refine And.intro (a := (_ : Bool) = true ∧ (_ : Bool) = true) ⟨rfl, rfl⟩ ?_
        | refine And.intro (a := (_ : Bool) = true ∧ (_ : List _) = []) ⟨rfl, rfl⟩ ?_
        | refine And.intro (a := IR _ _) (And.intro (by omega) (by omega)) ?_
        | refine wrapE (And.intro (by omega) (by omega)) ?_
        | refine And.intro (a := (0 : Int) ≤ _ ∧ _ < _) (And.intro (by omega) (by omega)) ?_
        | refine And.intro (a := (_ : Bool) = true) (by simp only [Nat.beq_refl]; rfl) ?_
        | refine And.intro (a := ((_ : Bool) = true → 1 ≤ _) ∧ _ ≤ 9223372036854775807 ∧ _ ≤ 140737488355328) ⟨fun h => (by first | omega | cases h), by omega, by omega⟩ ?_
        | refine splT ?_
        | refine splF ?_
        | refine splNot ?_
        | (refine splIn (fun hc => ?_) (fun hc => ?_) <;> first | (exfalso; omega) | (exfalso; dsimp only at hc; omega) | skip)
        | (refine splD (fun hc => ?_) (fun hc => ?_) <;> first | (exfalso; omega) | (exfalso; dsimp only at hc; omega) | skip)
        | (refine splE (fun hc => ?_) (fun hc => ?_) <;> first | (exfalso; omega) | (exfalso; dsimp only at hc; omega) | skip)
        | (refine splNE (fun hc => ?_) (fun hc => ?_) <;> first | (exfalso; omega) | (exfalso; dsimp only at hc; omega) | skip)
        | refine nilX rfl rfl ?_
        | refine Exists.intro (α := List Value) [iv b1, iv b2, iv b3, iv b4, iv b5, iv b6, iv b7, iv b8] ⟨⟨rfl, fun w' hw' => e0 w' hw'⟩, ?_⟩
        | refine Exists.intro (α := List Value) [.slice (some ⟨gb, 0, none⟩) BB.length gc] ⟨⟨rfl, fun w' hw' => g7 w' hw'⟩, ?_⟩
        | refine Exists.intro (α := List Value) (hgV (X0, X1)) ⟨⟨rfl, fun w' hw' => e1 w' hw'⟩, ?_⟩
    conv => whnf
    refine loopN 6 (fun k : Nat => [(0, .v (.pointer (some ⟨fb, 0, none⟩))), (1, .fn (.func 100) [.ptr 0 0]), (4, .ptr 3 0), (5, .ptr 4 0), (6, .v (.bool false)), (7, .v (iv i)), (8, .ptr 5 0), (15, .v (.slice (some ad) BB.length bc)), (16, .v (iv BB.length)), (17, .v (iv i)), (28, .agg ((hgV (X0, X1)).map .v)), (29, .v (iv k))])
      (fun _ => [(0, .cells [.v (.pointer (some ⟨fb, 0, none⟩))] 134), (1, .cells [.v (iv 0), .v (iv 0)] 95), (2, .cells (rwS zr) 142), (3, .cells [.v (iv 0), .v (iv 0)] 95), (4, .cells (rwS zr) 142), (5, .cells [.v (iv b1), .v (iv b2), .v (iv b3), .v (iv b4), .v (iv b5), .v (iv b6), .v (iv b7), .v (iv b8)] 107)])
      (fun k => k ≤ 2 ∧ (1 ≤ k → ¬ D0 < 0) ∧ (2 ≤ k → ¬ D1 < 0)) (fun k => 2 - k) 0 ⟨by omega, fun h => absurd h (by omega), fun h => absurd h (by omega)⟩ ⟨rfl, rfl, rfl, rfl, rfl, rfl, rfl, rfl, rfl, rfl, rfl, rfl, trivial⟩ ⟨rfl, rfl, rfl, rfl, rfl, rfl, trivial⟩ (fun _ _ => ⟨rfl, rfl⟩) ?_
    intro k ⟨hk, hk0, hk1⟩
    obtain rfl | rfl | rfl : k = 0 ∨ k = 1 ∨ k = 2 := by omega
    · by_cases hd : D0 < 0
      · rw [if_pos (decide_eq_true hd)] at hO
        rw [hO, hV0]
        repeat'
          conv => whnf
          first
            | refine And.intro (a := drawB _ = true) (by kernel_rfl) ?_
            | refine And.intro (a := (_ : Bool) = true) rfl ?_
            | refine And.intro (a := (_ : Bool) = true ∧ (_ : Bool) = true) ⟨rfl, rfl⟩ ?_
            | refine And.intro (a := (_ : Bool) = true ∧ (_ : List _) = []) ⟨rfl, rfl⟩ ?_
            | refine And.intro (a := IR _ _) (And.intro (by omega) (by omega)) ?_
            | refine wrapE (And.intro (by omega) (by omega)) ?_
            | refine And.intro (a := (0 : Int) ≤ _ ∧ _ < _) (And.intro (by omega) (by omega)) ?_
            | refine And.intro (a := (_ : Bool) = true) (by simp only [Nat.beq_refl]; rfl) ?_
            | refine And.intro (a := ((_ : Bool) = true → 1 ≤ _) ∧ _ ≤ 9223372036854775807 ∧ _ ≤ 140737488355328) ⟨fun h => (by first | omega | cases h), by omega, by omega⟩ ?_
            | refine splT ?_
            | refine splF ?_
            | refine splNot ?_
            | (refine splIn (fun hc => ?_) (fun hc => ?_) <;> first | (exfalso; omega) | (exfalso; dsimp only at hc; omega) | skip)
            | (refine splD (fun hc => ?_) (fun hc => ?_) <;> first | (exfalso; omega) | (exfalso; dsimp only at hc; omega) | skip)
            | (refine splE (fun hc => ?_) (fun hc => ?_) <;> first | (exfalso; omega) | (exfalso; dsimp only at hc; omega) | skip)
            | (refine splNE (fun hc => ?_) (fun hc => ?_) <;> first | (exfalso; omega) | (exfalso; dsimp only at hc; omega) | skip)
            | refine idxL env (rwS X0) rfl rfl rfl rfl (And.intro (by omega) (by omega)) rfl rfl rfl rfl rfl ?_
            | ((with_reducible show CallEv _ _ 100 _ _ _ _ _); refine callI env mixed 2000 [0, 1, 4, 5, 6, 7, 8, 9, 10, 15, 16, 17, 28, 29] Try.func100 has100 Try.ntmps100 (Nat.le_of_ble_eq_true rfl) rfl rfl rfl ?_)
            | ((with_reducible show CallEv _ _ 95 _ _ _ _ _); refine callE (k := 95) (fun β w' hbw => h0 _ hbw) ?_)
        all_goals first | exact ⟨fun β => rfl, fun w' h => h⟩ | (exfalso; omega) | (trace_state; sorry)
      · skip
        repeat'
          conv => whnf
          first
            | refine And.intro (a := drawB _ = true) (by kernel_rfl) ?_
            | refine And.intro (a := (_ : Bool) = true) rfl ?_
            | refine And.intro (a := (_ : Bool) = true ∧ (_ : Bool) = true) ⟨rfl, rfl⟩ ?_
            | refine And.intro (a := (_ : Bool) = true ∧ (_ : List _) = []) ⟨rfl, rfl⟩ ?_
            | refine And.intro (a := IR _ _) (And.intro (by omega) (by omega)) ?_
            | refine wrapE (And.intro (by omega) (by omega)) ?_
            | refine And.intro (a := (0 : Int) ≤ _ ∧ _ < _) (And.intro (by omega) (by omega)) ?_
            | refine And.intro (a := (_ : Bool) = true) (by simp only [Nat.beq_refl]; rfl) ?_
            | refine And.intro (a := ((_ : Bool) = true → 1 ≤ _) ∧ _ ≤ 9223372036854775807 ∧ _ ≤ 140737488355328) ⟨fun h => (by first | omega | cases h), by omega, by omega⟩ ?_
            | refine splT ?_
            | refine splF ?_
            | refine splNot ?_
            | (refine splIn (fun hc => ?_) (fun hc => ?_) <;> first | (exfalso; omega) | (exfalso; dsimp only at hc; omega) | skip)
            | (refine splD (fun hc => ?_) (fun hc => ?_) <;> first | (exfalso; omega) | (exfalso; dsimp only at hc; omega) | skip)
            | (refine splE (fun hc => ?_) (fun hc => ?_) <;> first | (exfalso; omega) | (exfalso; dsimp only at hc; omega) | skip)
            | (refine splNE (fun hc => ?_) (fun hc => ?_) <;> first | (exfalso; omega) | (exfalso; dsimp only at hc; omega) | skip)
            | refine idxL env (rwS X0) rfl rfl rfl rfl (And.intro (by omega) (by omega)) rfl rfl rfl rfl rfl ?_
            | ((with_reducible show CallEv _ _ 100 _ _ _ _ _); refine callI env mixed 2000 [0, 1, 4, 5, 6, 7, 8, 9, 10, 15, 16, 17, 28, 29] Try.func100 has100 Try.ntmps100 (Nat.le_of_ble_eq_true rfl) rfl rfl rfl ?_)
            | ((with_reducible show CallEv _ _ 95 _ _ _ _ _); refine callE (k := 95) (fun β w' hbw => h0 _ hbw) ?_)
        all_goals first | exact ⟨1, ⟨by omega, fun _ => hd, fun h => absurd h (by omega)⟩, by omega, Ent.weak rfl ⟨rfl, rfl, rfl, rfl, rfl, rfl, rfl, rfl, rfl, rfl, rfl, rfl, trivial⟩ ⟨rfl, rfl, rfl, rfl, rfl, rfl, trivial⟩ fun _ h => h⟩ | (exfalso; omega) | (trace_state; sorry)
    · have hd0 := hk0 (by omega)
      by_cases hd : D1 < 0
      · rw [if_neg (by simpa using hd0), if_pos (decide_eq_true hd)] at hO
        rw [hO, hV1]
        repeat'
          conv => whnf
          first
            | refine And.intro (a := drawB _ = true) (by kernel_rfl) ?_
            | refine And.intro (a := (_ : Bool) = true) rfl ?_
            | refine And.intro (a := (_ : Bool) = true ∧ (_ : Bool) = true) ⟨rfl, rfl⟩ ?_
            | refine And.intro (a := (_ : Bool) = true ∧ (_ : List _) = []) ⟨rfl, rfl⟩ ?_
            | refine And.intro (a := IR _ _) (And.intro (by omega) (by omega)) ?_
            | refine wrapE (And.intro (by omega) (by omega)) ?_
            | refine And.intro (a := (0 : Int) ≤ _ ∧ _ < _) (And.intro (by omega) (by omega)) ?_
            | refine And.intro (a := (_ : Bool) = true) (by simp only [Nat.beq_refl]; rfl) ?_
            | refine And.intro (a := ((_ : Bool) = true → 1 ≤ _) ∧ _ ≤ 9223372036854775807 ∧ _ ≤ 140737488355328) ⟨fun h => (by first | omega | cases h), by omega, by omega⟩ ?_
            | refine splT ?_
            | refine splF ?_
            | refine splNot ?_
            | (refine splIn (fun hc => ?_) (fun hc => ?_) <;> first | (exfalso; omega) | (exfalso; dsimp only at hc; omega) | skip)
            | (refine splD (fun hc => ?_) (fun hc => ?_) <;> first | (exfalso; omega) | (exfalso; dsimp only at hc; omega) | skip)
            | (refine splE (fun hc => ?_) (fun hc => ?_) <;> first | (exfalso; omega) | (exfalso; dsimp only at hc; omega) | skip)
            | (refine splNE (fun hc => ?_) (fun hc => ?_) <;> first | (exfalso; omega) | (exfalso; dsimp only at hc; omega) | skip)
            | refine idxL env (rwS X1) rfl rfl rfl rfl (And.intro (by omega) (by omega)) rfl rfl rfl rfl rfl ?_
            | ((with_reducible show CallEv _ _ 100 _ _ _ _ _); refine callI env mixed 2000 [0, 1, 4, 5, 6, 7, 8, 9, 10, 15, 16, 17, 28, 29] Try.func100 has100 Try.ntmps100 (Nat.le_of_ble_eq_true rfl) rfl rfl rfl ?_)
            | ((with_reducible show CallEv _ _ 95 _ _ _ _ _); refine callE (k := 95) (fun β w' hbw => h1 _ hbw) ?_)
        all_goals first | exact ⟨fun β => rfl, fun w' h => h⟩ | (exfalso; omega) | (trace_state; sorry)
      · skip
        repeat'
          conv => whnf
          first
            | refine And.intro (a := drawB _ = true) (by kernel_rfl) ?_
            | refine And.intro (a := (_ : Bool) = true) rfl ?_
            | refine And.intro (a := (_ : Bool) = true ∧ (_ : Bool) = true) ⟨rfl, rfl⟩ ?_
            | refine And.intro (a := (_ : Bool) = true ∧ (_ : List _) = []) ⟨rfl, rfl⟩ ?_
            | refine And.intro (a := IR _ _) (And.intro (by omega) (by omega)) ?_
            | refine wrapE (And.intro (by omega) (by omega)) ?_
            | refine And.intro (a := (0 : Int) ≤ _ ∧ _ < _) (And.intro (by omega) (by omega)) ?_
            | refine And.intro (a := (_ : Bool) = true) (by simp only [Nat.beq_refl]; rfl) ?_
            | refine And.intro (a := ((_ : Bool) = true → 1 ≤ _) ∧ _ ≤ 9223372036854775807 ∧ _ ≤ 140737488355328) ⟨fun h => (by first | omega | cases h), by omega, by omega⟩ ?_
            | refine splT ?_
            | refine splF ?_
            | refine splNot ?_
            | (refine splIn (fun hc => ?_) (fun hc => ?_) <;> first | (exfalso; omega) | (exfalso; dsimp only at hc; omega) | skip)
            | (refine splD (fun hc => ?_) (fun hc => ?_) <;> first | (exfalso; omega) | (exfalso; dsimp only at hc; omega) | skip)
            | (refine splE (fun hc => ?_) (fun hc => ?_) <;> first | (exfalso; omega) | (exfalso; dsimp only at hc; omega) | skip)
            | (refine splNE (fun hc => ?_) (fun hc => ?_) <;> first | (exfalso; omega) | (exfalso; dsimp only at hc; omega) | skip)
            | refine idxL env (rwS X1) rfl rfl rfl rfl (And.intro (by omega) (by omega)) rfl rfl rfl rfl rfl ?_
            | ((with_reducible show CallEv _ _ 100 _ _ _ _ _); refine callI env mixed 2000 [0, 1, 4, 5, 6, 7, 8, 9, 10, 15, 16, 17, 28, 29] Try.func100 has100 Try.ntmps100 (Nat.le_of_ble_eq_true rfl) rfl rfl rfl ?_)
            | ((with_reducible show CallEv _ _ 95 _ _ _ _ _); refine callE (k := 95) (fun β w' hbw => h1 _ hbw) ?_)
        all_goals first | exact ⟨2, ⟨by omega, fun _ => hd0, fun _ => hd⟩, by omega, Ent.weak rfl ⟨rfl, rfl, rfl, rfl, rfl, rfl, rfl, rfl, rfl, rfl, rfl, rfl, trivial⟩ ⟨rfl, rfl, rfl, rfl, rfl, rfl, trivial⟩ fun _ h => h⟩ | (exfalso; omega) | (trace_state; sorry)
    · have hd0 := hk0 (by omega)
      have hd1 := hk1 (by omega)
      rw [if_neg (by simpa using hd0), if_neg (by simpa using hd1)] at hO
      repeat'
        conv => whnf
        first
          | refine And.intro (a := drawB _ = true) (by kernel_rfl) ?_
          | refine And.intro (a := (_ : Bool) = true) rfl ?_
          | refine And.intro (a := (_ : Bool) = true ∧ (_ : Bool) = true) ⟨rfl, rfl⟩ ?_
          | refine And.intro (a := (_ : Bool) = true ∧ (_ : List _) = []) ⟨rfl, rfl⟩ ?_
          | refine And.intro (a := IR _ _) (And.intro (by omega) (by omega)) ?_
          | refine wrapE (And.intro (by omega) (by omega)) ?_
          | refine And.intro (a := (0 : Int) ≤ _ ∧ _ < _) (And.intro (by omega) (by omega)) ?_
          | refine And.intro (a := (_ : Bool) = true) (by simp only [Nat.beq_refl]; rfl) ?_
          | refine And.intro (a := ((_ : Bool) = true → 1 ≤ _) ∧ _ ≤ 9223372036854775807 ∧ _ ≤ 140737488355328) ⟨fun h => (by first | omega | cases h), by omega, by omega⟩ ?_
          | refine splT ?_
          | refine splF ?_
          | refine splNot ?_
          | (refine splIn (fun hc => ?_) (fun hc => ?_) <;> first | (exfalso; omega) | (exfalso; dsimp only at hc; omega) | skip)
          | (refine splD (fun hc => ?_) (fun hc => ?_) <;> first | (exfalso; omega) | (exfalso; dsimp only at hc; omega) | skip)
          | (refine splE (fun hc => ?_) (fun hc => ?_) <;> first | (exfalso; omega) | (exfalso; dsimp only at hc; omega) | skip)
          | (refine splNE (fun hc => ?_) (fun hc => ?_) <;> first | (exfalso; omega) | (exfalso; dsimp only at hc; omega) | skip)
      all_goals first | exact ⟨i + 1, ⟨by omega, hO⟩, by omega, Ent.weak rfl ⟨rfl, rfl, rfl, rfl, rfl, rfl, rfl, rfl, trivial⟩ ⟨rfl, rfl, rfl, rfl, rfl, trivial⟩ fun _ h => h⟩ | (exfalso; omega) | (trace_state; sorry)
  · rw [show BB.length - i = 0 from by omega, hgS] at hO
    rw [hO]
    repeat'
      conv => whnf
      first
        | refine And.intro (a := drawB _ = true) (by kernel_rfl) ?_
        | refine And.intro (a := (_ : Bool) = true) rfl ?_
        | refine And.intro (a := (_ : Bool) = true ∧ (_ : Bool) = true) ⟨rfl, rfl⟩ ?_
        | refine And.intro (a := (_ : Bool) = true ∧ (_ : List _) = []) ⟨rfl, rfl⟩ ?_
        | refine And.intro (a := IR _ _) (And.intro (by omega) (by omega)) ?_
        | refine wrapE (And.intro (by omega) (by omega)) ?_
        | refine And.intro (a := (0 : Int) ≤ _ ∧ _ < _) (And.intro (by omega) (by omega)) ?_
        | refine And.intro (a := (_ : Bool) = true) (by simp only [Nat.beq_refl]; rfl) ?_
        | refine And.intro (a := ((_ : Bool) = true → 1 ≤ _) ∧ _ ≤ 9223372036854775807 ∧ _ ≤ 140737488355328) ⟨fun h => (by first | omega | cases h), by omega, by omega⟩ ?_
        | refine splT ?_
        | refine splF ?_
        | refine splNot ?_
        | (refine splIn (fun hc => ?_) (fun hc => ?_) <;> first | (exfalso; omega) | (exfalso; dsimp only at hc; omega) | skip)
        | (refine splD (fun hc => ?_) (fun hc => ?_) <;> first | (exfalso; omega) | (exfalso; dsimp only at hc; omega) | skip)
        | (refine splE (fun hc => ?_) (fun hc => ?_) <;> first | (exfalso; omega) | (exfalso; dsimp only at hc; omega) | skip)
        | (refine splNE (fun hc => ?_) (fun hc => ?_) <;> first | (exfalso; omega) | (exfalso; dsimp only at hc; omega) | skip)
    all_goals first | exact ⟨fun β => rfl, fun w' h => h⟩ | (exfalso; omega) | (trace_state; sorry)
end Go.Proofs.Ytaciigegbgnadaa
