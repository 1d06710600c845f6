/- The first part that may be over: what over returns. -/
import Derived.Test.YtaciigegbgnadaaHB
namespace Go.Proofs.Ytaciigegbgnadaa
open Go Tx Go.RowKit
set_option linter.unusedSimpArgs false
set_option linter.unusedVariables false

/-- What a beam may bear. -/
def capN (BB : List Bm) (i : Nat) : Int := match BB[i]? with | some b => b.cap | none => 0
/-- The first part that may be over, its row, and whether there is one. -/
def ovV (r : Rig) (PP : List Int) (BB : List Bm) (LL : List Ld) (F : Fr) : Value :=
  if fstN (fun j => decide (endD r LL (F.p j) true > PP.getD j 0 * 216000)) PP.length 0 < PP.length then
    .tuple #[.agg #[iv (-1), iv (fstN (fun j => decide (endD r LL (F.p j) true > PP.getD j 0 * 216000)) PP.length 0)], .agg (rwL (F.p (fstN (fun j => decide (endD r LL (F.p j) true > PP.getD j 0 * 216000)) PP.length 0))).toArray, .bool true]
  else ptV F (hgO (fun i k => decide (endD r LL (F.h i k) true > capN BB i * 216000)) BB.length)

set_option maxHeartbeats 8000000 in
set_option maxRecDepth 100000 in
theorem over_ok (r : Rig) (PP : List Int) (BB : List Bm) (LL : List Ld) (F : Fr) (y : FrA) (w : World) (h : RigIn r PP BB LL w) (hr : rigOk r.f0 r.f1 r.f2 PP BB LL = true) (hy : FrIn r PP.length BB.length F y w) (hQ : ∀ j k, rowQ (F.h j k)) (hQ1 : ∀ j, rowQ (F.p j)) :
    Calls Try.prog 75 #[.pointer (some ⟨y.fb, 0, none⟩)] w fun e w' => e = .returned (ovV r PP BB LL F) ∧ Below w.heap.size w w' := by
  refine calls_val env mixed Try.func75 has75 Try.ntmps75 [.pointer (some ⟨y.fb, 0, none⟩)] (by simp) ?_
  have hB := h.b
  have hP := h.p
  have hpn := h.pn
  have hpl := h.pl
  have hq2 := (rigOk_iff.1 hr).2.1
  have hm1 := (rigOk_iff.1 hr).1
  have hp96 := fun (k : Nat) (w' : World) (hb : Below w.heap.size w w') => most_ok r PP BB LL F y (F.p k) w' (h.below hb) hr (hy.below hb) (hQ1 k)
  have hhp := hy.p
  have hbb := fun (i : Nat) (b : Bm) (hb : BB[i]? = some b) => bm_at hr hb
  have hbn := h.bn
  have hm := (rigOk_iff.1 hr).2.2.1
  have h96 := fun (i k : Nat) (w' : World) (hb : Below w.heap.size w w') => most_ok r PP BB LL F y (F.h i k) w' (h.below hb) hr (hy.below hb) (hQ i k)
  have hc := hy.c
  have hh := hy.h
  obtain ⟨po, pn, pc, bo, bn, bc, f0, f1, f2, lo, ln, lc⟩ := r
  obtain ⟨fb, pb, qc, gb, gc, ub, uc⟩ := y
  dsimp only at hB hbn h96 hc hh hP hpn hp96 hhp ⊢
  subst hbn
  subst hpn
  unfold ovV
  generalize hD : (fun i k => endD ⟨po, PP.length, pc, bo, BB.length, bc, f0, f1, f2, lo, ln, lc⟩ LL (F.h i k) true) = D at *
  have hDi : ∀ i k, endD ⟨po, PP.length, pc, bo, BB.length, bc, f0, f1, f2, lo, ln, lc⟩ LL (F.h i k) true = D i k := fun i k => by rw [← hD]
  simp only [hDi] at h96 ⊢
  generalize hE : (fun j => endD ⟨po, PP.length, pc, bo, BB.length, bc, f0, f1, f2, lo, ln, lc⟩ LL (F.p j) true) = E at *
  have hEj : ∀ j, endD ⟨po, PP.length, pc, bo, BB.length, bc, f0, f1, f2, lo, ln, lc⟩ LL (F.p j) true = E j := fun j => by rw [← hE]
  simp only [hEj] at hp96 ⊢
  have g0 := fun (w' : World) (hb : Below w.heap.size w w') => fun j v (h : [Value.slice po PP.length pc][j]? = some v) => (show w'.cell? ((((⟨fb, 0, none⟩ : Addr).add 0).add 0).add j) = some v from by
    match j, h with
    | 0, h => cases h; rw [Addr.add_add, Addr.add_add]; exact ext_below hb (hc 0 _ rfl))
  have g6 := fun (w' : World) (hb : Below w.heap.size w w') => fun j v (h : [Value.slice (some ⟨pb, 0, none⟩) PP.length qc][j]? = some v) => (show w'.cell? (((⟨fb, 0, none⟩ : Addr).add 6).add j) = some v from by
    match j, h with
    | 0, h => cases h; rw [Addr.add_add]; exact ext_below hb (hc 6 _ rfl))
  have g1 := fun (w' : World) (hb : Below w.heap.size w w') => fun j v (h : [Value.slice bo BB.length bc][j]? = some v) => (show w'.cell? ((((⟨fb, 0, none⟩ : Addr).add 0).add 1).add j) = some v from by
    match j, h with
    | 0, h => cases h; rw [Addr.add_add, Addr.add_add]; exact ext_below hb (hc 1 _ rfl))
  have g7 := fun (w' : World) (hb : Below w.heap.size w w') => fun j v (h : [Value.slice (some ⟨gb, 0, none⟩) BB.length gc][j]? = some v) => (show w'.cell? (((⟨fb, 0, none⟩ : Addr).add 7).add j) = some v from by
    match j, h with
    | 0, h => cases h; rw [Addr.add_add]; exact ext_below hb (hc 7 _ rfl))
  obtain ⟨_, hf2, hf3, hf4⟩ := fstN_spec (p := fun j => decide (E j > PP.getD j 0 * 216000)) PP.length 0
  generalize fstN (fun j => decide (E j > PP.getD j 0 * 216000)) PP.length 0 = N at *
  repeat'
    conv => whnf
    first
      | refine And.intro (a := drawB _ = true) (by kernel_rfl) ?_
      | refine And.intro (a := (_ : Bool) = true) rfl ?_
      | refine And.intro (a := (_ : Bool) = true ∧ (_ : Bool) = true) ⟨rfl, rfl⟩ ?_
      | refine And.intro (a := (_ : Bool) = true ∧ (_ : List _) = []) ⟨rfl, rfl⟩ ?_
      | refine And.intro (a := IR _ _) (And.intro (by omega) (by omega)) ?_
      | refine wrapE (And.intro (by omega) (by omega)) ?_
      | refine And.intro (a := (0 : Int) ≤ _ ∧ _ < _) (And.intro (by omega) (by omega)) ?_
      | refine And.intro (a := (_ : Bool) = true) (by simp only [Nat.beq_refl]; rfl) ?_
      | refine And.intro (a := ((_ : Bool) = true → 1 ≤ _) ∧ _ ≤ 9223372036854775807 ∧ _ ≤ 140737488355328) ⟨fun h => (by first | omega | cases h), by omega, by omega⟩ ?_
      | refine splT ?_
      | refine splF ?_
      | refine splNot ?_
      | (refine splIn (fun hc => ?_) (fun hc => ?_) <;> first | (exfalso; omega) | (exfalso; dsimp only at hc; omega) | skip)
      | (refine splD (fun hc => ?_) (fun hc => ?_) <;> first | (exfalso; omega) | (exfalso; dsimp only at hc; omega) | skip)
      | (refine splE (fun hc => ?_) (fun hc => ?_) <;> first | (exfalso; omega) | (exfalso; dsimp only at hc; omega) | skip)
      | (refine splNE (fun hc => ?_) (fun hc => ?_) <;> first | (exfalso; omega) | (exfalso; dsimp only at hc; omega) | skip)
      | refine nilX rfl rfl ?_
      | refine Exists.intro (α := List Value) [.slice (some ⟨pb, 0, none⟩) PP.length qc] ⟨⟨rfl, fun w' hw' => g6 w' hw'⟩, ?_⟩
  conv => whnf
  refine loopN 3 (fun k : Nat => [(1, .ptr 0 0), (2, .ptr 1 0), (3, .ptr 2 0), (4, .v (.bool false)), (10, .v (.slice (some ⟨pb, 0, none⟩) PP.length qc)), (11, .v (iv PP.length)), (12, .v (iv k))])
    (fun _ => [(0, .cells [.v (.pointer (some ⟨fb, 0, none⟩))] 134), (1, .cells [.v (iv 0), .v (iv 0)] 95), (2, .cells (rwS zr) 142)])
    (fun k => k ≤ PP.length ∧ k ≤ N) (fun k => PP.length - k) 0 ⟨Nat.zero_le _, Nat.zero_le _⟩ ⟨rfl, rfl, rfl, rfl, rfl, rfl, rfl, trivial⟩ ⟨rfl, rfl, rfl, trivial⟩ (fun _ _ => ⟨rfl, rfl⟩) ?_
  intro k ⟨hk, hkN⟩
  rcases Nat.lt_or_ge k PP.length with hkl | hkl
  · obtain ⟨p, hp⟩ : ∃ b, PP[k]? = some b := ⟨_, List.getElem?_eq_getElem hkl⟩
    obtain ⟨_, ad, rfl, _⟩ := hP.ptr (by omega)
    have e0 := fun (w' : World) hw' => rd_ati (hP.below (w' := w') hw') hp
    have e1 := fun (w' : World) hw' => rd_ati (hhp.below (w' := w') hw') (rng_at F.p hkl)
    have hpb := List.all_eq_true.1 hq2 p (List.mem_of_getElem? hp)
    rw [inB_iff] at hpb
    have h0 := hp96 k
    have hgd : PP.getD k 0 = p := by rw [List.getD_eq_getElem?_getD, hp]; rfl
    have hf3k := hf3 k (Nat.zero_le _)
    have hf4k : N = k → N < PP.length → decide (E N > PP.getD N 0 * 216000) = true := fun _ h => hf4 (by omega)
    clear hp96 h96 hbb
    by_cases hd : E k > p * 216000
    · have hNk : N = k := by
        rcases Nat.lt_or_ge k N with h | h
        · have := hf3k h
          rw [hgd, decide_eq_false_iff_not] at this
          exact absurd hd this
        · omega
      subst hNk
      rw [if_pos hkl]
      generalize E N = e at *
      generalize F.p N = X at *
      repeat'
        conv => whnf
        first
          | refine And.intro (a := drawB _ = true) (by kernel_rfl) ?_
          | refine And.intro (a := (_ : Bool) = true) rfl ?_
          | refine And.intro (a := (_ : Bool) = true ∧ (_ : Bool) = true) ⟨rfl, rfl⟩ ?_
          | refine And.intro (a := (_ : Bool) = true ∧ (_ : List _) = []) ⟨rfl, rfl⟩ ?_
          | refine And.intro (a := IR _ _) (And.intro (by omega) (by omega)) ?_
          | refine wrapE (And.intro (by omega) (by omega)) ?_
          | refine And.intro (a := (0 : Int) ≤ _ ∧ _ < _) (And.intro (by omega) (by omega)) ?_
          | refine And.intro (a := (_ : Bool) = true) (by simp only [Nat.beq_refl]; rfl) ?_
          | refine And.intro (a := ((_ : Bool) = true → 1 ≤ _) ∧ _ ≤ 9223372036854775807 ∧ _ ≤ 140737488355328) ⟨fun h => (by first | omega | cases h), by omega, by omega⟩ ?_
          | refine splT ?_
          | refine splF ?_
          | refine splNot ?_
          | (refine splIn (fun hc => ?_) (fun hc => ?_) <;> first | (exfalso; omega) | (exfalso; dsimp only at hc; omega) | skip)
          | (refine splD (fun hc => ?_) (fun hc => ?_) <;> first | (exfalso; omega) | (exfalso; dsimp only at hc; omega) | skip)
          | (refine splE (fun hc => ?_) (fun hc => ?_) <;> first | (exfalso; omega) | (exfalso; dsimp only at hc; omega) | skip)
          | (refine splNE (fun hc => ?_) (fun hc => ?_) <;> first | (exfalso; omega) | (exfalso; dsimp only at hc; omega) | skip)
          | refine nilX rfl rfl ?_
          | refine Exists.intro (α := List Value) (rwL X) ⟨⟨rfl, fun w' hw' => e1 w' hw'⟩, ?_⟩
          | ((with_reducible show CallEv _ _ 96 _ _ _ _ _); refine callE (k := 96) (fun β w' hbw => h0 _ hbw) ?_)
          | refine Exists.intro (α := List Value) [.slice (some ad) PP.length pc] ⟨⟨rfl, fun w' hw' => g0 w' hw'⟩, ?_⟩
          | refine Exists.intro (α := List Value) [iv p] ⟨⟨rfl, fun w' hw' => e0 w' hw'⟩, ?_⟩
      all_goals first | exact ⟨fun β => rfl, fun w' h => h⟩ | (exfalso; omega) | (trace_state; sorry)
    · have hNk : k + 1 ≤ N := by
        rcases Nat.lt_or_ge k N with h | h
        · exact h
        · have hNk : N = k := by omega
          have := hf4k hNk (by omega)
          rw [hNk, hgd, decide_eq_true_eq] at this
          exact absurd this hd
      generalize E k = e at *
      generalize F.p k = X at *
      repeat'
        conv => whnf
        first
          | refine And.intro (a := drawB _ = true) (by kernel_rfl) ?_
          | refine And.intro (a := (_ : Bool) = true) rfl ?_
          | refine And.intro (a := (_ : Bool) = true ∧ (_ : Bool) = true) ⟨rfl, rfl⟩ ?_
          | refine And.intro (a := (_ : Bool) = true ∧ (_ : List _) = []) ⟨rfl, rfl⟩ ?_
          | refine And.intro (a := IR _ _) (And.intro (by omega) (by omega)) ?_
          | refine wrapE (And.intro (by omega) (by omega)) ?_
          | refine And.intro (a := (0 : Int) ≤ _ ∧ _ < _) (And.intro (by omega) (by omega)) ?_
          | refine And.intro (a := (_ : Bool) = true) (by simp only [Nat.beq_refl]; rfl) ?_
          | refine And.intro (a := ((_ : Bool) = true → 1 ≤ _) ∧ _ ≤ 9223372036854775807 ∧ _ ≤ 140737488355328) ⟨fun h => (by first | omega | cases h), by omega, by omega⟩ ?_
          | refine splT ?_
          | refine splF ?_
          | refine splNot ?_
          | (refine splIn (fun hc => ?_) (fun hc => ?_) <;> first | (exfalso; omega) | (exfalso; dsimp only at hc; omega) | skip)
          | (refine splD (fun hc => ?_) (fun hc => ?_) <;> first | (exfalso; omega) | (exfalso; dsimp only at hc; omega) | skip)
          | (refine splE (fun hc => ?_) (fun hc => ?_) <;> first | (exfalso; omega) | (exfalso; dsimp only at hc; omega) | skip)
          | (refine splNE (fun hc => ?_) (fun hc => ?_) <;> first | (exfalso; omega) | (exfalso; dsimp only at hc; omega) | skip)
          | refine nilX rfl rfl ?_
          | refine Exists.intro (α := List Value) (rwL X) ⟨⟨rfl, fun w' hw' => e1 w' hw'⟩, ?_⟩
          | ((with_reducible show CallEv _ _ 96 _ _ _ _ _); refine callE (k := 96) (fun β w' hbw => h0 _ hbw) ?_)
          | refine Exists.intro (α := List Value) [.slice (some ad) PP.length pc] ⟨⟨rfl, fun w' hw' => g0 w' hw'⟩, ?_⟩
          | refine Exists.intro (α := List Value) [iv p] ⟨⟨rfl, fun w' hw' => e0 w' hw'⟩, ?_⟩
      all_goals first | exact ⟨k + 1, ⟨by omega, hNk⟩, by omega, Ent.weak rfl ⟨rfl, rfl, rfl, rfl, rfl, rfl, rfl, trivial⟩ ⟨rfl, rfl, rfl, trivial⟩ fun _ h => h⟩ | (exfalso; omega) | (trace_state; sorry)
  rw [if_neg (by omega)]
  clear hf2 hf3 hf4 hp96
  repeat'
    conv => whnf
    first
      | refine And.intro (a := drawB _ = true) (by kernel_rfl) ?_
      | refine And.intro (a := (_ : Bool) = true) rfl ?_
      | refine And.intro (a := (_ : Bool) = true ∧ (_ : Bool) = true) ⟨rfl, rfl⟩ ?_
      | refine And.intro (a := (_ : Bool) = true ∧ (_ : List _) = []) ⟨rfl, rfl⟩ ?_
      | refine And.intro (a := IR _ _) (And.intro (by omega) (by omega)) ?_
      | refine wrapE (And.intro (by omega) (by omega)) ?_
      | refine And.intro (a := (0 : Int) ≤ _ ∧ _ < _) (And.intro (by omega) (by omega)) ?_
      | refine And.intro (a := (_ : Bool) = true) (by simp only [Nat.beq_refl]; rfl) ?_
      | refine And.intro (a := ((_ : Bool) = true → 1 ≤ _) ∧ _ ≤ 9223372036854775807 ∧ _ ≤ 140737488355328) ⟨fun h => (by first | omega | cases h), by omega, by omega⟩ ?_
      | refine splT ?_
      | refine splF ?_
      | refine splNot ?_
      | (refine splIn (fun hc => ?_) (fun hc => ?_) <;> first | (exfalso; omega) | (exfalso; dsimp only at hc; omega) | skip)
      | (refine splD (fun hc => ?_) (fun hc => ?_) <;> first | (exfalso; omega) | (exfalso; dsimp only at hc; omega) | skip)
      | (refine splE (fun hc => ?_) (fun hc => ?_) <;> first | (exfalso; omega) | (exfalso; dsimp only at hc; omega) | skip)
      | (refine splNE (fun hc => ?_) (fun hc => ?_) <;> first | (exfalso; omega) | (exfalso; dsimp only at hc; omega) | skip)
      | ((with_reducible show CallEv _ _ 97 _ _ _ _ _); refine callI env mixed 1000 [2, 3] Try.func97 has97 Try.ntmps97 (Nat.le_of_ble_eq_true rfl) rfl rfl rfl ?_)
      | refine nilX rfl rfl ?_
      | refine Exists.intro (α := List Value) [.slice bo BB.length bc] ⟨⟨rfl, fun w' hw' => g1 w' hw'⟩, ?_⟩
  all_goals first | (exfalso; omega) | skip
  conv => whnf
  refine loopN 5 (fun i : Nat => [(0, .v (.pointer (some ⟨fb, 0, none⟩))), (1, .fn (.func 98) [.ptr 0 0]), (4, .ptr 3 0), (5, .ptr 4 0), (6, .v (.bool false)), (15, .v (.slice bo BB.length bc)), (16, .v (iv BB.length)), (17, .v (iv i))])
    (fun _ => [(0, .cells [.v (.pointer (some ⟨fb, 0, none⟩))] 134), (1, .cells [.v (iv 0), .v (iv 0)] 95), (2, .cells (rwS zr) 142), (3, .cells [.v (iv 0), .v (iv 0)] 95), (4, .cells (rwS zr) 142)])
    (fun i => i ≤ BB.length ∧ hgO (fun i k => decide (D i k > capN BB i * 216000)) BB.length = hgS (fun i k => decide (D i k > capN BB i * 216000)) (BB.length - i) i) (fun i => BB.length - i) 0 ⟨Nat.zero_le _, rfl⟩ ⟨rfl, rfl, rfl, rfl, rfl, rfl, rfl, rfl, trivial⟩ ⟨rfl, rfl, rfl, rfl, rfl, trivial⟩ (fun _ _ => ⟨rfl, rfl⟩) ?_
  intro i ⟨hi, hO⟩
  rcases Nat.lt_or_ge i BB.length with hil | hil
  · obtain ⟨b, hb⟩ : ∃ b, BB[i]? = some b := ⟨_, List.getElem?_eq_getElem hil⟩
    obtain ⟨_, ad, rfl, _⟩ := hB.ptr (by omega)
    have e0 := fun (w' : World) hw' => rd_ati (hB.below (w' := w') hw') hb
    have e1 := fun (w' : World) hw' => rd_ati (hh.below (w' := w') hw') (rng_at (fun j => (F.h j 0, F.h j 1)) hil)
    rw [hgS_at _ hil] at hO
    have h0 := h96 i 0
    have h1 := h96 i 1
    have hcap : capN BB i = b.cap := by unfold capN; rw [hb]
    have hbk := hbb _ _ hb
    rw [bmOk_iff] at hbk
    rw [hcap] at hO
    obtain ⟨b1, b2, b3, b4, b5, b6, b7, b8⟩ := b
    dsimp only at hO hbk
    have hV : ∀ k, ptV F (some (i, k)) = .tuple #[.agg #[iv i, iv k], .agg (rwL (F.h i k)).toArray, .bool true] := fun k => rfl
    generalize D i 0 = D0 at *
    generalize D i 1 = D1 at *
    have hV0 := hV 0
    have hV1 := hV 1
    generalize F.h i 0 = X0 at *
    generalize F.h i 1 = X1 at *
    repeat'
      conv => whnf
      first
        | refine And.intro (a := drawB _ = true) (by kernel_rfl) ?_
        | refine And.intro (a := (_ : Bool) = true) rfl ?_
        | refine And.intro (a := (_ : Bool) = true ∧ (_ : Bool) = true) ⟨rfl, rfl⟩ ?_
        | refine And.intro (a := (_ : Bool) = true ∧ (_ : List _) = []) ⟨rfl, rfl⟩ ?_
        | refine And.intro (a := IR _ _) (And.intro (by omega) (by omega)) ?_
        | refine wrapE (And.intro (by omega) (by omega)) ?_
        | refine And.intro (a := (0 : Int) ≤ _ ∧ _ < _) (And.intro (by omega) (by omega)) ?_
        | refine And.intro (a := (_ : Bool) = true) (by simp only [Nat.beq_refl]; rfl) ?_
        | refine And.intro (a := ((_ : Bool) = true → 1 ≤ _) ∧ _ ≤ 9223372036854775807 ∧ _ ≤ 140737488355328) ⟨fun h => (by first | omega | cases h), by omega, by omega⟩ ?_
        | refine splT ?_
        | refine splF ?_
        | refine splNot ?_
        | (refine splIn (fun hc => ?_) (fun hc => ?_) <;> first | (exfalso; omega) | (exfalso; dsimp only at hc; omega) | skip)
        | (refine splD (fun hc => ?_) (fun hc => ?_) <;> first | (exfalso; omega) | (exfalso; dsimp only at hc; omega) | skip)
        | (refine splE (fun hc => ?_) (fun hc => ?_) <;> first | (exfalso; omega) | (exfalso; dsimp only at hc; omega) | skip)
        | (refine splNE (fun hc => ?_) (fun hc => ?_) <;> first | (exfalso; omega) | (exfalso; dsimp only at hc; omega) | skip)
        | refine nilX rfl rfl ?_
        | refine Exists.intro (α := List Value) [iv b1, iv b2, iv b3, iv b4, iv b5, iv b6, iv b7, iv b8] ⟨⟨rfl, fun w' hw' => e0 w' hw'⟩, ?_⟩
        | refine Exists.intro (α := List Value) [.slice (some ⟨gb, 0, none⟩) BB.length gc] ⟨⟨rfl, fun w' hw' => g7 w' hw'⟩, ?_⟩
        | refine Exists.intro (α := List Value) (hgV (X0, X1)) ⟨⟨rfl, fun w' hw' => e1 w' hw'⟩, ?_⟩
    conv => whnf
    refine loopN 6 (fun k : Nat => [(0, .v (.pointer (some ⟨fb, 0, none⟩))), (1, .fn (.func 98) [.ptr 0 0]), (4, .ptr 3 0), (5, .ptr 4 0), (6, .v (.bool false)), (7, .v (iv i)), (8, .ptr 5 0), (15, .v (.slice (some ad) BB.length bc)), (16, .v (iv BB.length)), (17, .v (iv i)), (28, .agg ((hgV (X0, X1)).map .v)), (29, .v (iv k))])
      (fun _ => [(0, .cells [.v (.pointer (some ⟨fb, 0, none⟩))] 134), (1, .cells [.v (iv 0), .v (iv 0)] 95), (2, .cells (rwS zr) 142), (3, .cells [.v (iv 0), .v (iv 0)] 95), (4, .cells (rwS zr) 142), (5, .cells [.v (iv b1), .v (iv b2), .v (iv b3), .v (iv b4), .v (iv b5), .v (iv b6), .v (iv b7), .v (iv b8)] 107)])
      (fun k => k ≤ 2 ∧ (1 ≤ k → ¬ D0 > b8 * 216000) ∧ (2 ≤ k → ¬ D1 > b8 * 216000)) (fun k => 2 - k) 0 ⟨by omega, fun h => absurd h (by omega), fun h => absurd h (by omega)⟩ ⟨rfl, rfl, rfl, rfl, rfl, rfl, rfl, rfl, rfl, rfl, rfl, rfl, trivial⟩ ⟨rfl, rfl, rfl, rfl, rfl, rfl, trivial⟩ (fun _ _ => ⟨rfl, rfl⟩) ?_
    intro k ⟨hk, hk0, hk1⟩
    obtain rfl | rfl | rfl : k = 0 ∨ k = 1 ∨ k = 2 := by omega
    · by_cases hd : D0 > b8 * 216000
      · rw [if_pos (decide_eq_true hd)] at hO
        rw [hO, hV0]
        repeat'
          conv => whnf
          first
            | refine And.intro (a := drawB _ = true) (by kernel_rfl) ?_
            | refine And.intro (a := (_ : Bool) = true) rfl ?_
            | refine And.intro (a := (_ : Bool) = true ∧ (_ : Bool) = true) ⟨rfl, rfl⟩ ?_
            | refine And.intro (a := (_ : Bool) = true ∧ (_ : List _) = []) ⟨rfl, rfl⟩ ?_
            | refine And.intro (a := IR _ _) (And.intro (by omega) (by omega)) ?_
            | refine wrapE (And.intro (by omega) (by omega)) ?_
            | refine And.intro (a := (0 : Int) ≤ _ ∧ _ < _) (And.intro (by omega) (by omega)) ?_
            | refine And.intro (a := (_ : Bool) = true) (by simp only [Nat.beq_refl]; rfl) ?_
            | refine And.intro (a := ((_ : Bool) = true → 1 ≤ _) ∧ _ ≤ 9223372036854775807 ∧ _ ≤ 140737488355328) ⟨fun h => (by first | omega | cases h), by omega, by omega⟩ ?_
            | refine splT ?_
            | refine splF ?_
            | refine splNot ?_
            | (refine splIn (fun hc => ?_) (fun hc => ?_) <;> first | (exfalso; omega) | (exfalso; dsimp only at hc; omega) | skip)
            | (refine splD (fun hc => ?_) (fun hc => ?_) <;> first | (exfalso; omega) | (exfalso; dsimp only at hc; omega) | skip)
            | (refine splE (fun hc => ?_) (fun hc => ?_) <;> first | (exfalso; omega) | (exfalso; dsimp only at hc; omega) | skip)
            | (refine splNE (fun hc => ?_) (fun hc => ?_) <;> first | (exfalso; omega) | (exfalso; dsimp only at hc; omega) | skip)
            | refine idxL env (rwS X0) rfl rfl rfl rfl (And.intro (by omega) (by omega)) rfl rfl rfl rfl rfl ?_
            | ((with_reducible show CallEv _ _ 98 _ _ _ _ _); refine callI env mixed 2000 [0, 1, 4, 5, 6, 7, 8, 9, 10, 15, 16, 17, 28, 29] Try.func98 has98 Try.ntmps98 (Nat.le_of_ble_eq_true rfl) rfl rfl rfl ?_)
            | ((with_reducible show CallEv _ _ 96 _ _ _ _ _); refine callE (k := 96) (fun β w' hbw => h0 _ hbw) ?_)
        all_goals first | exact ⟨fun β => rfl, fun w' h => h⟩ | (exfalso; omega) | (trace_state; sorry)
      · skip
        repeat'
          conv => whnf
          first
            | refine And.intro (a := drawB _ = true) (by kernel_rfl) ?_
            | refine And.intro (a := (_ : Bool) = true) rfl ?_
            | refine And.intro (a := (_ : Bool) = true ∧ (_ : Bool) = true) ⟨rfl, rfl⟩ ?_
            | refine And.intro (a := (_ : Bool) = true ∧ (_ : List _) = []) ⟨rfl, rfl⟩ ?_
            | refine And.intro (a := IR _ _) (And.intro (by omega) (by omega)) ?_
            | refine wrapE (And.intro (by omega) (by omega)) ?_
            | refine And.intro (a := (0 : Int) ≤ _ ∧ _ < _) (And.intro (by omega) (by omega)) ?_
            | refine And.intro (a := (_ : Bool) = true) (by simp only [Nat.beq_refl]; rfl) ?_
            | refine And.intro (a := ((_ : Bool) = true → 1 ≤ _) ∧ _ ≤ 9223372036854775807 ∧ _ ≤ 140737488355328) ⟨fun h => (by first | omega | cases h), by omega, by omega⟩ ?_
            | refine splT ?_
            | refine splF ?_
            | refine splNot ?_
            | (refine splIn (fun hc => ?_) (fun hc => ?_) <;> first | (exfalso; omega) | (exfalso; dsimp only at hc; omega) | skip)
            | (refine splD (fun hc => ?_) (fun hc => ?_) <;> first | (exfalso; omega) | (exfalso; dsimp only at hc; omega) | skip)
            | (refine splE (fun hc => ?_) (fun hc => ?_) <;> first | (exfalso; omega) | (exfalso; dsimp only at hc; omega) | skip)
            | (refine splNE (fun hc => ?_) (fun hc => ?_) <;> first | (exfalso; omega) | (exfalso; dsimp only at hc; omega) | skip)
            | refine idxL env (rwS X0) rfl rfl rfl rfl (And.intro (by omega) (by omega)) rfl rfl rfl rfl rfl ?_
            | ((with_reducible show CallEv _ _ 98 _ _ _ _ _); refine callI env mixed 2000 [0, 1, 4, 5, 6, 7, 8, 9, 10, 15, 16, 17, 28, 29] Try.func98 has98 Try.ntmps98 (Nat.le_of_ble_eq_true rfl) rfl rfl rfl ?_)
            | ((with_reducible show CallEv _ _ 96 _ _ _ _ _); refine callE (k := 96) (fun β w' hbw => h0 _ hbw) ?_)
        all_goals first | exact ⟨1, ⟨by omega, fun _ => hd, fun h => absurd h (by omega)⟩, by omega, Ent.weak rfl ⟨rfl, rfl, rfl, rfl, rfl, rfl, rfl, rfl, rfl, rfl, rfl, rfl, trivial⟩ ⟨rfl, rfl, rfl, rfl, rfl, rfl, trivial⟩ fun _ h => h⟩ | (exfalso; omega) | (trace_state; sorry)
    · have hd0 := hk0 (by omega)
      by_cases hd : D1 > b8 * 216000
      · rw [if_neg (by simpa using hd0), if_pos (decide_eq_true hd)] at hO
        rw [hO, hV1]
        repeat'
          conv => whnf
          first
            | refine And.intro (a := drawB _ = true) (by kernel_rfl) ?_
            | refine And.intro (a := (_ : Bool) = true) rfl ?_
            | refine And.intro (a := (_ : Bool) = true ∧ (_ : Bool) = true) ⟨rfl, rfl⟩ ?_
            | refine And.intro (a := (_ : Bool) = true ∧ (_ : List _) = []) ⟨rfl, rfl⟩ ?_
            | refine And.intro (a := IR _ _) (And.intro (by omega) (by omega)) ?_
            | refine wrapE (And.intro (by omega) (by omega)) ?_
            | refine And.intro (a := (0 : Int) ≤ _ ∧ _ < _) (And.intro (by omega) (by omega)) ?_
            | refine And.intro (a := (_ : Bool) = true) (by simp only [Nat.beq_refl]; rfl) ?_
            | refine And.intro (a := ((_ : Bool) = true → 1 ≤ _) ∧ _ ≤ 9223372036854775807 ∧ _ ≤ 140737488355328) ⟨fun h => (by first | omega | cases h), by omega, by omega⟩ ?_
            | refine splT ?_
            | refine splF ?_
            | refine splNot ?_
            | (refine splIn (fun hc => ?_) (fun hc => ?_) <;> first | (exfalso; omega) | (exfalso; dsimp only at hc; omega) | skip)
            | (refine splD (fun hc => ?_) (fun hc => ?_) <;> first | (exfalso; omega) | (exfalso; dsimp only at hc; omega) | skip)
            | (refine splE (fun hc => ?_) (fun hc => ?_) <;> first | (exfalso; omega) | (exfalso; dsimp only at hc; omega) | skip)
            | (refine splNE (fun hc => ?_) (fun hc => ?_) <;> first | (exfalso; omega) | (exfalso; dsimp only at hc; omega) | skip)
            | refine idxL env (rwS X1) rfl rfl rfl rfl (And.intro (by omega) (by omega)) rfl rfl rfl rfl rfl ?_
            | ((with_reducible show CallEv _ _ 98 _ _ _ _ _); refine callI env mixed 2000 [0, 1, 4, 5, 6, 7, 8, 9, 10, 15, 16, 17, 28, 29] Try.func98 has98 Try.ntmps98 (Nat.le_of_ble_eq_true rfl) rfl rfl rfl ?_)
            | ((with_reducible show CallEv _ _ 96 _ _ _ _ _); refine callE (k := 96) (fun β w' hbw => h1 _ hbw) ?_)
        all_goals first | exact ⟨fun β => rfl, fun w' h => h⟩ | (exfalso; omega) | (trace_state; sorry)
      · skip
        repeat'
          conv => whnf
          first
            | refine And.intro (a := drawB _ = true) (by kernel_rfl) ?_
            | refine And.intro (a := (_ : Bool) = true) rfl ?_
            | refine And.intro (a := (_ : Bool) = true ∧ (_ : Bool) = true) ⟨rfl, rfl⟩ ?_
            | refine And.intro (a := (_ : Bool) = true ∧ (_ : List _) = []) ⟨rfl, rfl⟩ ?_
            | refine And.intro (a := IR _ _) (And.intro (by omega) (by omega)) ?_
            | refine wrapE (And.intro (by omega) (by omega)) ?_
            | refine And.intro (a := (0 : Int) ≤ _ ∧ _ < _) (And.intro (by omega) (by omega)) ?_
            | refine And.intro (a := (_ : Bool) = true) (by simp only [Nat.beq_refl]; rfl) ?_
            | refine And.intro (a := ((_ : Bool) = true → 1 ≤ _) ∧ _ ≤ 9223372036854775807 ∧ _ ≤ 140737488355328) ⟨fun h => (by first | omega | cases h), by omega, by omega⟩ ?_
            | refine splT ?_
            | refine splF ?_
            | refine splNot ?_
            | (refine splIn (fun hc => ?_) (fun hc => ?_) <;> first | (exfalso; omega) | (exfalso; dsimp only at hc; omega) | skip)
            | (refine splD (fun hc => ?_) (fun hc => ?_) <;> first | (exfalso; omega) | (exfalso; dsimp only at hc; omega) | skip)
            | (refine splE (fun hc => ?_) (fun hc => ?_) <;> first | (exfalso; omega) | (exfalso; dsimp only at hc; omega) | skip)
            | (refine splNE (fun hc => ?_) (fun hc => ?_) <;> first | (exfalso; omega) | (exfalso; dsimp only at hc; omega) | skip)
            | refine idxL env (rwS X1) rfl rfl rfl rfl (And.intro (by omega) (by omega)) rfl rfl rfl rfl rfl ?_
            | ((with_reducible show CallEv _ _ 98 _ _ _ _ _); refine callI env mixed 2000 [0, 1, 4, 5, 6, 7, 8, 9, 10, 15, 16, 17, 28, 29] Try.func98 has98 Try.ntmps98 (Nat.le_of_ble_eq_true rfl) rfl rfl rfl ?_)
            | ((with_reducible show CallEv _ _ 96 _ _ _ _ _); refine callE (k := 96) (fun β w' hbw => h1 _ hbw) ?_)
        all_goals first | exact ⟨2, ⟨by omega, fun _ => hd0, fun _ => hd⟩, by omega, Ent.weak rfl ⟨rfl, rfl, rfl, rfl, rfl, rfl, rfl, rfl, rfl, rfl, rfl, rfl, trivial⟩ ⟨rfl, rfl, rfl, rfl, rfl, rfl, trivial⟩ fun _ h => h⟩ | (exfalso; omega) | (trace_state; sorry)
    · have hd0 := hk0 (by omega)
      have hd1 := hk1 (by omega)
      rw [if_neg (by simpa using hd0), if_neg (by simpa using hd1)] at hO
      repeat'
        conv => whnf
        first
          | refine And.intro (a := drawB _ = true) (by kernel_rfl) ?_
          | refine And.intro (a := (_ : Bool) = true) rfl ?_
          | refine And.intro (a := (_ : Bool) = true ∧ (_ : Bool) = true) ⟨rfl, rfl⟩ ?_
          | refine And.intro (a := (_ : Bool) = true ∧ (_ : List _) = []) ⟨rfl, rfl⟩ ?_
          | refine And.intro (a := IR _ _) (And.intro (by omega) (by omega)) ?_
          | refine wrapE (And.intro (by omega) (by omega)) ?_
          | refine And.intro (a := (0 : Int) ≤ _ ∧ _ < _) (And.intro (by omega) (by omega)) ?_
          | refine And.intro (a := (_ : Bool) = true) (by simp only [Nat.beq_refl]; rfl) ?_
          | refine And.intro (a := ((_ : Bool) = true → 1 ≤ _) ∧ _ ≤ 9223372036854775807 ∧ _ ≤ 140737488355328) ⟨fun h => (by first | omega | cases h), by omega, by omega⟩ ?_
          | refine splT ?_
          | refine splF ?_
          | refine splNot ?_
          | (refine splIn (fun hc => ?_) (fun hc => ?_) <;> first | (exfalso; omega) | (exfalso; dsimp only at hc; omega) | skip)
          | (refine splD (fun hc => ?_) (fun hc => ?_) <;> first | (exfalso; omega) | (exfalso; dsimp only at hc; omega) | skip)
          | (refine splE (fun hc => ?_) (fun hc => ?_) <;> first | (exfalso; omega) | (exfalso; dsimp only at hc; omega) | skip)
          | (refine splNE (fun hc => ?_) (fun hc => ?_) <;> first | (exfalso; omega) | (exfalso; dsimp only at hc; omega) | skip)
      all_goals first | exact ⟨i + 1, ⟨by omega, hO⟩, by omega, Ent.weak rfl ⟨rfl, rfl, rfl, rfl, rfl, rfl, rfl, rfl, trivial⟩ ⟨rfl, rfl, rfl, rfl, rfl, trivial⟩ fun _ h => h⟩ | (exfalso; omega) | (trace_state; sorry)
  · rw [show BB.length - i = 0 from by omega, hgS] at hO
    rw [hO]
    repeat'
      conv => whnf
      first
        | refine And.intro (a := drawB _ = true) (by kernel_rfl) ?_
        | refine And.intro (a := (_ : Bool) = true) rfl ?_
        | refine And.intro (a := (_ : Bool) = true ∧ (_ : Bool) = true) ⟨rfl, rfl⟩ ?_
        | refine And.intro (a := (_ : Bool) = true ∧ (_ : List _) = []) ⟨rfl, rfl⟩ ?_
        | refine And.intro (a := IR _ _) (And.intro (by omega) (by omega)) ?_
        | refine wrapE (And.intro (by omega) (by omega)) ?_
        | refine And.intro (a := (0 : Int) ≤ _ ∧ _ < _) (And.intro (by omega) (by omega)) ?_
        | refine And.intro (a := (_ : Bool) = true) (by simp only [Nat.beq_refl]; rfl) ?_
        | refine And.intro (a := ((_ : Bool) = true → 1 ≤ _) ∧ _ ≤ 9223372036854775807 ∧ _ ≤ 140737488355328) ⟨fun h => (by first | omega | cases h), by omega, by omega⟩ ?_
        | refine splT ?_
        | refine splF ?_
        | refine splNot ?_
        | (refine splIn (fun hc => ?_) (fun hc => ?_) <;> first | (exfalso; omega) | (exfalso; dsimp only at hc; omega) | skip)
        | (refine splD (fun hc => ?_) (fun hc => ?_) <;> first | (exfalso; omega) | (exfalso; dsimp only at hc; omega) | skip)
        | (refine splE (fun hc => ?_) (fun hc => ?_) <;> first | (exfalso; omega) | (exfalso; dsimp only at hc; omega) | skip)
        | (refine splNE (fun hc => ?_) (fun hc => ?_) <;> first | (exfalso; omega) | (exfalso; dsimp only at hc; omega) | skip)
    all_goals first | exact ⟨fun β => rfl, fun w' h => h⟩ | (exfalso; omega) | (trace_state; sorry)
end Go.Proofs.Ytaciigegbgnadaa
