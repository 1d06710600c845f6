/- Regions that draw their order, with three calls of families. Printed by gen_sx.py. -/
import Derived.Test.YtkbfcofifhngfaaGreatSX
namespace Go.Proofs.YtkbfcofifhngfaaGreat.Tx
open Go Go.RowKit
set_option linter.unusedSimpArgs false
set_option linter.unusedVariables false
def fs3 {α1 α2 α3 : Type} (c1 c2 c3 : Nat) (V1 : α1 → Value) (x1 : α1 → World → Prop) (V2 : α2 → Value) (x2 : α2 → World → Prop) (V3 : α3 → Value) (x3 : α3 → World → Prop) (y1 : α1) (y2 : α2) (y3 : α3) (j : Nat) : Option Fm :=
  bif Nat.beq j c1 then some ⟨α1, V1, x1, y1⟩ else bif Nat.beq j c2 then some ⟨α2, V2, x2, y2⟩ else bif Nat.beq j c3 then some ⟨α3, V3, x3, y3⟩ else none
/-- **A REGION THAT DRAWS ITS ORDER, WITH THREE CALLS WHOSE RESULTS ARE OF FAMILIES.** -/
theorem VC_reg3 {P : Program} (T : Env P) (hm : P.follows .mixedOrders = true) {id : Nat} {ops : Array Oper} {σ : Sg} {Φ : Exit → Sg → Prop} {α1 α2 α3 : Type} (c1 c2 c3 : Nat) (V1 : α1 → Value) (x1 : α1 → World → Prop) (V2 : α2 → Value) (x2 : α2 → World → Prop) (V3 : α3 → Value) (x3 : α3 → World → Prop) (d1 : α1) (d2 : α2) (d3 : α3)
    (LF : α1 → α2 → α3 → List (Oper × Ef)) (h12 : c1 < c2) (h23 : c2 < c3) (h3 : c3 < ops.size)
    (hv : ∀ y1 y2 y3, vX T (fs3 c1 c2 c3 V1 x1 V2 x2 V3 x3 y1 y2 y3) ops.toList ops.toList 0 σ [] σ.h (fun σ' acc => acc = LF y1 y2 y3 ∧ Φ .normal {σ' with h := fun w => ((σ.h w ∧ x1 y1 w) ∧ x2 y2 w) ∧ x3 y3 w}))
    (hk1 : ∀ y1 y2 y3, knF (fs3 c1 c2 c3 V1 x1 V2 x2 V3 x3 y1 y2 y3) 0 c1 σ.h = σ.h) (hk2 : ∀ y1 y2 y3, knF (fs3 c1 c2 c3 V1 x1 V2 x2 V3 x3 y1 y2 y3) 0 c2 σ.h = fun w => σ.h w ∧ x1 y1 w) (hk3 : ∀ y1 y2 y3, knF (fs3 c1 c2 c3 V1 x1 V2 x2 V3 x3 y1 y2 y3) 0 c3 σ.h = fun w => (σ.h w ∧ x1 y1 w) ∧ x2 y2 w)
    (hi1 : ∀ y y' y2 y3, indR (bef ops.toList []) c1 0 (LF y y2 y3) (LF y' y2 y3)) (hi2 : ∀ y1 y y' y3, indR (bef ops.toList []) c2 0 (LF y1 y y3) (LF y1 y' y3)) (hi3 : ∀ y1 y2 y y', indR (bef ops.toList []) c3 0 (LF y1 y2 y) (LF y1 y2 y'))
    (hd12 : ((bef ops.toList []).getD c2 0).testBit c1 = true) (hd13 : ((bef ops.toList []).getD c3 0).testBit c1 = true) (hd23 : ((bef ops.toList []).getD c3 0).testBit c2 = true) : VC P (.region id ops true) σ Φ := by
  intro F n X a w hF hlp hok hsat
  have hS := fun y1 y2 y3 => vX_spec T (F := F) (n := n) (ops := ops) hF rfl _ 0 σ [] _ _ hok (hv y1 y2 y3)
  have f1 : ∀ y1 y2 y3, fs3 c1 c2 c3 V1 x1 V2 x2 V3 x3 y1 y2 y3 c1 = some ⟨α1, V1, x1, y1⟩ := fun _ _ _ => by unfold fs3; rw [Nat.beq_refl]; rfl
  have f2 : ∀ y1 y2 y3, fs3 c1 c2 c3 V1 x1 V2 x2 V3 x3 y1 y2 y3 c2 = some ⟨α2, V2, x2, y2⟩ := fun _ _ _ => by unfold fs3; rw [beq_ne (by omega), Nat.beq_refl]; rfl
  have f3 : ∀ y1 y2 y3, fs3 c1 c2 c3 V1 x1 V2 x2 V3 x3 y1 y2 y3 c3 = some ⟨α3, V3, x3, y3⟩ := fun _ _ _ => by unfold fs3; rw [beq_ne (by omega), beq_ne (by omega), Nat.beq_refl]; rfl
  have f0 : ∀ y1 y2 y3 i, i ≠ c1 → i ≠ c2 → i ≠ c3 → fs3 c1 c2 c3 V1 x1 V2 x2 V3 x3 y1 y2 y3 i = none := fun _ _ _ i e1 e2 e3 => by unfold fs3; rw [beq_ne e1, beq_ne e2, beq_ne e3]; rfl
  have hA : ∀ y1 y2 y3, ops.toList = (LF y1 y2 y3).map (·.1) ∧ (∀ i p, i ≠ c1 → i ≠ c2 → i ≠ c3 → (LF y1 y2 y3)[i]? = some p → Link F n P ops p.1 (fin ((LF y1 y2 y3).take i) σ) p.2) ∧
      (∀ i f, fs3 c1 c2 c3 V1 x1 V2 x2 V3 x3 y1 y2 y3 i = some f → i < (LF y1 y2 y3).length → ∃ oc rs rb, (LF y1 y2 y3)[i]? = some (oc, ⟨.v (f.V f.y), [], [], rs, rb⟩) ∧ (∀ d, oc.dst = some d → d < σ.nt) ∧ FamC F n P ops oc {fin ((LF y1 y2 y3).take i) σ with h := knF (fs3 c1 c2 c3 V1 x1 V2 x2 V3 x3 y1 y2 y3) 0 i σ.h} ⟨.v (f.V f.y), [], [], rs, rb⟩ f.V f.hx) ∧
      Φ .normal {fin (LF y1 y2 y3) σ with h := fun w => ((σ.h w ∧ x1 y1 w) ∧ x2 y2 w) ∧ x3 y3 w} ∧ (fin (LF y1 y2 y3) σ).Ok ∧ DrawOK (LF y1 y2 y3) σ := fun y1 y2 y3 => by
    obtain ⟨L, g1, g2, g3, ⟨g4, g4'⟩, g5, g6, g7⟩ := hS y1 y2 y3
    rw [List.nil_append] at g4 g6
    subst g4
    simp only [drawB, Bool.and_eq_true] at g6
    refine ⟨g1, fun i p e1 e2 e3 hp => g2 i p (by rw [Nat.zero_add]; exact f0 y1 y2 y3 i e1 e2 e3) hp, fun i f hfi hi => g3 i f (by rw [Nat.zero_add]; exact hfi) hi, g4', g5, g6.1, g6.2, fun p hp => ?_⟩
    obtain ⟨m, q1, q2⟩ := g7 p hp
    exact hok.wf.av q1 q2
  have hsz : ∀ y1 y2 y3, (LF y1 y2 y3).length = ops.size := fun y1 y2 y3 => by
    have := congrArg List.length (hA y1 y2 y3).1
    simpa using this.symm
  have hdr : ∀ y1 y2 y3 h', DrawOK (LF y1 y2 y3) {σ with h := h'} := fun y1 y2 y3 h' => by
    obtain ⟨_, _, _, _, _, hd⟩ := hA y1 y2 y3
    exact ⟨hd.edges, hd.pairs, fun p hp => ⟨(hd.av p hp).t, (hd.av p hp).g, (hd.av p hp).m⟩⟩
  have hlk : ∀ y1 y2 y3 i p (h' : World → Prop), (∀ w, h' w → σ.h w) → i ≠ c1 → i ≠ c2 → i ≠ c3 → (LF y1 y2 y3)[i]? = some p → Link F n P ops p.1 (fin ((LF y1 y2 y3).take i) {σ with h := h'}) p.2 := fun y1 y2 y3 i p h' hh e1 e2 e3 hp => by
    rw [fin_h]
    exact ((hA y1 y2 y3).2.1 i p e1 e2 e3 hp).more (fun w hw => by
      have : ∀ (L : List (Oper × Ef)) (τ : Sg), (fin L τ).h = τ.h := fun L => by
        induction L with
        | nil => intro τ; rfl
        | cons p L ih => intro τ; simp only [fin]; rw [ih]; rfl
      rw [this]; exact hh w hw)
  have hfm : ∀ y1 y2 y3 i f, fs3 c1 c2 c3 V1 x1 V2 x2 V3 x3 y1 y2 y3 i = some f → i < ops.size → ∃ oc rs rb, (LF y1 y2 y3)[i]? = some (oc, ⟨.v (f.V f.y), [], [], rs, rb⟩) ∧ (∀ d, oc.dst = some d → d < σ.nt) ∧ FamC F n P ops oc (fin ((LF y1 y2 y3).take i) {σ with h := knF (fs3 c1 c2 c3 V1 x1 V2 x2 V3 x3 y1 y2 y3) 0 i σ.h}) ⟨.v (f.V f.y), [], [], rs, rb⟩ f.V f.hx := fun y1 y2 y3 i f hf hi => by
    rw [fin_h]
    exact (hA y1 y2 y3).2.2.1 i f hf (by rw [hsz]; exact hi)
  have hops : ∀ y1 y2 y3 (i : Nat) (p : Oper × Ef), (LF y1 y2 y3)[i]? = some p → ops[i]? = some p.1 := fun y1 y2 y3 i p hp => by
    rw [← Array.getElem?_toList, (hA y1 y2 y3).1, List.getElem?_map, hp]; rfl
  -- the end
  have G3 : ∀ y1 y2 y3, GG X F n P ops (QΦ X Φ) (LF y1 y2 y3) {σ with h := fun w => ((σ.h w ∧ x1 y1 w) ∧ x2 y2 w) ∧ x3 y3 w} [c3, c2, c1] [] := fun y1 y2 y3 => by
    refine GG_end (hA y1 y2 y3).1 (hdr _ _ _ _) (fun i p hi hp => ?_) fun a w hs => ?_
    · simp only [List.mem_cons, List.not_mem_nil, or_false, not_or] at hi
      exact hlk y1 y2 y3 i p _ (fun w hw => hw.1.1.1) hi.2.2 hi.2.1 hi.1 hp
    · rw [fin_h] at hs
      obtain ⟨_, _, _, q1, q2, _⟩ := hA y1 y2 y3
      exact ⟨_, q1, ⟨⟨q2.wf.t, q2.wf.g, q2.wf.m⟩, q2.lt⟩, hs⟩
  have G2 : ∀ y1 y2, GG X F n P ops (QΦ X Φ) (LF y1 y2 d3) {σ with h := fun w => (σ.h w ∧ x1 y1 w) ∧ x2 y2 w} [c2, c1] [c3] := fun y1 y2 => by
    obtain ⟨oc, rs, rb, q1, q2, q3⟩ := hfm y1 y2 d3 c3 _ (f3 y1 y2 d3) h3
    have hoc := hops _ _ _ _ _ q1
    refine GG_fam (fun y => LF y1 y2 y) V3 x3 d3 c3 [] oc (fun y => (hA y1 y2 y).1) (fun y => hdr _ _ _ _) (fun y => ?_) (fun y y' i hi hdp => ?_) (fun i p hi hic _ hp => ?_) q2 (fun rs' rb' hE => ?_) (fun d hd => by cases hd) (fun y => G3 y1 y2 y)
    · obtain ⟨oc', rs', rb', p1, _, _⟩ := hfm y1 y2 y c3 _ (f3 y1 y2 y) h3
      have := hops _ _ _ _ _ p1
      rw [hoc, Option.some.injEq] at this
      have he : oc = oc' := this
      subst he
      exact ⟨rs', rb', p1⟩
    · have := indR_spec (hi3 y1 y2 y y') i (by rw [Nat.zero_add]; exact hi) (by rw [Nat.zero_add]; exact hdp)
      exact this
    · simp only [List.mem_cons, List.not_mem_nil, or_false, not_or] at hi
      exact hlk y1 y2 d3 i p _ (fun w hw => hw.1.1) hi.2 hi.1 hic hp
    · rw [q1] at hE
      simp only [Option.some.injEq, Prod.mk.injEq, Ef.mk.injEq, true_and] at hE
      obtain ⟨rfl, rfl⟩ := hE
      rw [hk3] at q3
      exact q3
  have G1 : ∀ y1, GG X F n P ops (QΦ X Φ) (LF y1 d2 d3) {σ with h := fun w => σ.h w ∧ x1 y1 w} [c1] [c2, c3] := fun y1 => by
    obtain ⟨oc, rs, rb, q1, q2, q3⟩ := hfm y1 d2 d3 c2 _ (f2 y1 d2 d3) (by omega)
    have hoc := hops _ _ _ _ _ q1
    refine GG_fam (fun y => LF y1 y d3) V2 x2 d2 c2 [c3] oc (fun y => (hA y1 y d3).1) (fun y => hdr _ _ _ _) (fun y => ?_) (fun y y' i hi hdp => ?_) (fun i p hi hic hdp hp => ?_) q2 (fun rs' rb' hE => ?_) (fun d hd => ?_) (fun y => G2 y1 y)
    · obtain ⟨oc', rs', rb', p1, _, _⟩ := hfm y1 y d3 c2 _ (f2 y1 y d3) (by omega)
      have := hops _ _ _ _ _ p1
      rw [hoc, Option.some.injEq] at this
      have he : oc = oc' := this
      subst he
      exact ⟨rs', rb', p1⟩
    · have := indR_spec (hi2 y1 y y' d3) i (by rw [Nat.zero_add]; exact hi) (by rw [Nat.zero_add]; exact hdp)
      exact this
    · simp only [List.mem_cons, List.not_mem_nil, or_false] at hi
      refine hlk y1 d2 d3 i p _ (fun w hw => hw.1) hi hic (fun e => ?_) hp
      subst e; rw [hd23] at hdp; cases hdp
    · rw [q1] at hE
      simp only [Option.some.injEq, Prod.mk.injEq, Ef.mk.injEq, true_and] at hE
      obtain ⟨rfl, rfl⟩ := hE
      rw [hk2] at q3
      exact q3
    · simp only [List.mem_cons, List.not_mem_nil, or_false] at hd
      subst hd
      exact ⟨by omega, hd23⟩
  have G0 : GG X F n P ops (QΦ X Φ) (LF d1 d2 d3) σ [] [c1, c2, c3] := by
    obtain ⟨oc, rs, rb, q1, q2, q3⟩ := hfm d1 d2 d3 c1 _ (f1 d1 d2 d3) (by omega)
    have hoc := hops _ _ _ _ _ q1
    refine GG_fam (fun y => LF y d2 d3) V1 x1 d1 c1 [c2, c3] oc (fun y => (hA y d2 d3).1) (fun y => hdr _ _ _ σ.h) (fun y => ?_) (fun y y' i hi hdp => ?_) (fun i p hi hic hdp hp => ?_) q2 (fun rs' rb' hE => ?_) (fun d hd => ?_) (fun y => G1 y)
    · obtain ⟨oc', rs', rb', p1, _, _⟩ := hfm y d2 d3 c1 _ (f1 y d2 d3) (by omega)
      have := hops _ _ _ _ _ p1
      rw [hoc, Option.some.injEq] at this
      have he : oc = oc' := this
      subst he
      exact ⟨rs', rb', p1⟩
    · have := indR_spec (hi1 y y' d2 d3) i (by rw [Nat.zero_add]; exact hi) (by rw [Nat.zero_add]; exact hdp)
      exact this
    · refine hlk d1 d2 d3 i p σ.h (fun w hw => hw) hic (fun e => ?_) (fun e => ?_) hp
      · subst e; rw [hd12] at hdp; cases hdp
      · subst e; rw [hd13] at hdp; cases hdp
    · rw [q1] at hE
      simp only [Option.some.injEq, Prod.mk.injEq, Ef.mk.injEq, true_and] at hE
      obtain ⟨rfl, rfl⟩ := hE
      rw [hk1] at q3
      exact q3
    · simp only [List.mem_cons, List.not_mem_nil, or_false] at hd
      rcases hd with rfl | rfl
      · exact ⟨by omega, hd12⟩
      · exact ⟨by omega, hd13⟩
  refine wpIn_region_any hm ?_
  have hrep : ∀ j, (Array.replicate ops.size false).getD j false = false := fun j => by
    simp only [Array.getD_eq_getD_getElem?, Array.getElem?_replicate]
    split <;> rfl
  refine G0 ops.size (Array.replicate ops.size false) a _ (by simp [hsz]) (by simp [List.countP_replicate]) (fun j hj => by rw [hrep] at hj; cases hj) (fun c hc => by cases hc) (fun c _ => hrep c) ?_
  obtain ⟨β, Dm, hs⟩ := hsat
  refine ⟨β, Dm, ?_⟩
  rw [foldS_none]
  · exact hs.drawn _
  · intro b hb
    simp only [Array.toList_replicate, List.mem_replicate] at hb
    exact hb.2
/-! ### Right code, by its parts -/
end Go.Proofs.YtkbfcofifhngfaaGreat.Tx
