/- Regions with two such calls; stores into memory of others. -/
import Derived.Test.YthfabodamhdhaaaS1
namespace Go.Proofs.Ythfabodamhdhaaa.Tx
open Go Go.RowKit
set_option linter.unusedSimpArgs false
set_option linter.unusedVariables false

def fs2 {α1 α2 : Type} (c1 c2 : Nat) (V1 : α1 → Value) (x1 : α1 → World → Prop) (V2 : α2 → Value) (x2 : α2 → World → Prop) (y1 : α1) (y2 : α2) (j : Nat) : Option Fm :=
  bif Nat.beq j c1 then some ⟨α1, V1, x1, y1⟩ else bif Nat.beq j c2 then some ⟨α2, V2, x2, y2⟩ else none
/-- **A REGION THAT DRAWS ITS ORDER, WITH TWO CALLS WHOSE RESULTS ARE OF FAMILIES.** -/
theorem VC_reg2 {P : Program} (T : Env P) (hm : P.follows .mixedOrders = true) {id : Nat} {ops : Array Oper} {σ : Sg} {Φ : Exit → Sg → Prop} {α1 α2 : Type} (c1 c2 : Nat) (V1 : α1 → Value) (x1 : α1 → World → Prop) (V2 : α2 → Value) (x2 : α2 → World → Prop) (d1 : α1) (d2 : α2)
    (LF : α1 → α2 → List (Oper × Ef)) (h12 : c1 < c2) (h3 : c2 < ops.size)
    (hv : ∀ y1 y2, vX T (fs2 c1 c2 V1 x1 V2 x2 y1 y2) ops.toList ops.toList 0 σ [] σ.h (fun σ' acc => acc = LF y1 y2 ∧ Φ .normal {σ' with h := fun w => (σ.h w ∧ x1 y1 w) ∧ x2 y2 w}))
    (hk1 : ∀ y1 y2, knF (fs2 c1 c2 V1 x1 V2 x2 y1 y2) 0 c1 σ.h = σ.h) (hk2 : ∀ y1 y2, knF (fs2 c1 c2 V1 x1 V2 x2 y1 y2) 0 c2 σ.h = fun w => σ.h w ∧ x1 y1 w)
    (hi1 : ∀ y y' y2, indR (bef ops.toList []) c1 0 (LF y y2) (LF y' y2)) (hi2 : ∀ y1 y y', indR (bef ops.toList []) c2 0 (LF y1 y) (LF y1 y'))
    (hd12 : ((bef ops.toList []).getD c2 0).testBit c1 = true) : VC P (.region id ops true) σ Φ := by
  intro F n X a w hF hlp hok hsat
  have hS := fun y1 y2 => vX_spec T (F := F) (n := n) (ops := ops) hF rfl _ 0 σ [] _ _ hok (hv y1 y2)
  have f1 : ∀ y1 y2, fs2 c1 c2 V1 x1 V2 x2 y1 y2 c1 = some ⟨α1, V1, x1, y1⟩ := fun _ _ => by unfold fs2; rw [Nat.beq_refl]; rfl
  have f2 : ∀ y1 y2, fs2 c1 c2 V1 x1 V2 x2 y1 y2 c2 = some ⟨α2, V2, x2, y2⟩ := fun _ _ => by unfold fs2; rw [beq_ne (by omega), Nat.beq_refl]; rfl
  have f0 : ∀ y1 y2 i, i ≠ c1 → i ≠ c2 → fs2 c1 c2 V1 x1 V2 x2 y1 y2 i = none := fun _ _ i e1 e2 => by unfold fs2; rw [beq_ne e1, beq_ne e2]; rfl
  have hA : ∀ y1 y2, ops.toList = (LF y1 y2).map (·.1) ∧ (∀ i p, i ≠ c1 → i ≠ c2 → (LF y1 y2)[i]? = some p → Link F n P ops p.1 (fin ((LF y1 y2).take i) σ) p.2) ∧
      (∀ i f, fs2 c1 c2 V1 x1 V2 x2 y1 y2 i = some f → i < (LF y1 y2).length → ∃ oc rs rb, (LF y1 y2)[i]? = some (oc, ⟨.v (f.V f.y), [], [], rs, rb⟩) ∧ (∀ d, oc.dst = some d → d < σ.nt) ∧ FamC F n P ops oc {fin ((LF y1 y2).take i) σ with h := knF (fs2 c1 c2 V1 x1 V2 x2 y1 y2) 0 i σ.h} ⟨.v (f.V f.y), [], [], rs, rb⟩ f.V f.hx) ∧
      Φ .normal {fin (LF y1 y2) σ with h := fun w => (σ.h w ∧ x1 y1 w) ∧ x2 y2 w} ∧ (fin (LF y1 y2) σ).Ok ∧ DrawOK (LF y1 y2) σ := fun y1 y2 => by
    obtain ⟨L, g1, g2, g3, ⟨g4, g4'⟩, g5, g6, g7⟩ := hS y1 y2
    rw [List.nil_append] at g4 g6
    subst g4
    simp only [drawB, Bool.and_eq_true] at g6
    refine ⟨g1, fun i p e1 e2 hp => g2 i p (by rw [Nat.zero_add]; exact f0 y1 y2 i e1 e2) hp, fun i f hfi hi => g3 i f (by rw [Nat.zero_add]; exact hfi) hi, g4', g5, g6.1, g6.2, fun p hp => ?_⟩
    obtain ⟨m, q1, q2⟩ := g7 p hp
    exact hok.wf.av q1 q2
  have hsz : ∀ y1 y2, (LF y1 y2).length = ops.size := fun y1 y2 => by
    have := congrArg List.length (hA y1 y2).1
    simpa using this.symm
  have hdr : ∀ y1 y2 h', DrawOK (LF y1 y2) {σ with h := h'} := fun y1 y2 h' => by
    obtain ⟨_, _, _, _, _, hd⟩ := hA y1 y2
    exact ⟨hd.edges, hd.pairs, fun p hp => ⟨(hd.av p hp).t, (hd.av p hp).g, (hd.av p hp).m⟩⟩
  have hlk : ∀ y1 y2 i p (h' : World → Prop), (∀ w, h' w → σ.h w) → i ≠ c1 → i ≠ c2 → (LF y1 y2)[i]? = some p → Link F n P ops p.1 (fin ((LF y1 y2).take i) {σ with h := h'}) p.2 := fun y1 y2 i p h' hh e1 e2 hp => by
    rw [fin_h]
    exact ((hA y1 y2).2.1 i p e1 e2 hp).more (fun w hw => by
      have : ∀ (L : List (Oper × Ef)) (τ : Sg), (fin L τ).h = τ.h := fun L => by
        induction L with
        | nil => intro τ; rfl
        | cons p L ih => intro τ; simp only [fin]; rw [ih]; rfl
      rw [this]; exact hh w hw)
  have hfm : ∀ y1 y2 i f, fs2 c1 c2 V1 x1 V2 x2 y1 y2 i = some f → i < ops.size → ∃ oc rs rb, (LF y1 y2)[i]? = some (oc, ⟨.v (f.V f.y), [], [], rs, rb⟩) ∧ (∀ d, oc.dst = some d → d < σ.nt) ∧ FamC F n P ops oc (fin ((LF y1 y2).take i) {σ with h := knF (fs2 c1 c2 V1 x1 V2 x2 y1 y2) 0 i σ.h}) ⟨.v (f.V f.y), [], [], rs, rb⟩ f.V f.hx := fun y1 y2 i f hf hi => by
    rw [fin_h]
    exact (hA y1 y2).2.2.1 i f hf (by rw [hsz]; exact hi)
  have hops : ∀ y1 y2 (i : Nat) (p : Oper × Ef), (LF y1 y2)[i]? = some p → ops[i]? = some p.1 := fun y1 y2 i p hp => by
    rw [← Array.getElem?_toList, (hA y1 y2).1, List.getElem?_map, hp]; rfl
  -- the end
  have G2 : ∀ y1 y2, GG X F n P ops (QΦ X Φ) (LF y1 y2) {σ with h := fun w => (σ.h w ∧ x1 y1 w) ∧ x2 y2 w} [c2, c1] [] := fun y1 y2 => by
    refine GG_end (hA y1 y2).1 (hdr _ _ _) (fun i p hi hp => ?_) fun a w hs => ?_
    · simp only [List.mem_cons, List.not_mem_nil, or_false, not_or] at hi
      exact hlk y1 y2 i p _ (fun w hw => hw.1.1) hi.2 hi.1 hp
    · rw [fin_h] at hs
      obtain ⟨_, _, _, q1, q2, _⟩ := hA y1 y2
      exact ⟨_, q1, ⟨⟨q2.wf.t, q2.wf.g, q2.wf.m⟩, q2.lt⟩, hs⟩
  have G1 : ∀ y1, GG X F n P ops (QΦ X Φ) (LF y1 d2) {σ with h := fun w => σ.h w ∧ x1 y1 w} [c1] [c2] := fun y1 => by
    obtain ⟨oc, rs, rb, q1, q2, q3⟩ := hfm y1 d2 c2 _ (f2 y1 d2) h3
    have hoc := hops _ _ _ _ q1
    refine GG_fam (fun y => LF y1 y) V2 x2 d2 c2 [] oc (fun y => (hA y1 y).1) (fun y => hdr _ _ _) (fun y => ?_) (fun y y' i hi hdp => ?_) (fun i p hi hic hdp hp => ?_) q2 (fun rs' rb' hE => ?_) (fun d hd => by cases hd) (fun y => G2 y1 y)
    · obtain ⟨oc', rs', rb', p1, _, _⟩ := hfm y1 y c2 _ (f2 y1 y) h3
      have := hops _ _ _ _ p1
      rw [hoc, Option.some.injEq] at this
      have he : oc = oc' := this
      subst he
      exact ⟨rs', rb', p1⟩
    · have := indR_spec (hi2 y1 y y') i (by rw [Nat.zero_add]; exact hi) (by rw [Nat.zero_add]; exact hdp)
      exact this
    · simp only [List.mem_cons, List.not_mem_nil, or_false] at hi
      exact hlk y1 d2 i p _ (fun w hw => hw.1) hi hic hp
    · rw [q1] at hE
      simp only [Option.some.injEq, Prod.mk.injEq, Ef.mk.injEq, true_and] at hE
      obtain ⟨rfl, rfl⟩ := hE
      rw [hk2] at q3
      exact q3
  have G0 : GG X F n P ops (QΦ X Φ) (LF d1 d2) σ [] [c1, c2] := by
    obtain ⟨oc, rs, rb, q1, q2, q3⟩ := hfm d1 d2 c1 _ (f1 d1 d2) (by omega)
    have hoc := hops _ _ _ _ q1
    refine GG_fam (fun y => LF y d2) V1 x1 d1 c1 [c2] oc (fun y => (hA y d2).1) (fun y => hdr _ _ σ.h) (fun y => ?_) (fun y y' i hi hdp => ?_) (fun i p hi hic hdp hp => ?_) q2 (fun rs' rb' hE => ?_) (fun d hd => ?_) (fun y => G1 y)
    · obtain ⟨oc', rs', rb', p1, _, _⟩ := hfm y d2 c1 _ (f1 y d2) (by omega)
      have := hops _ _ _ _ p1
      rw [hoc, Option.some.injEq] at this
      have he : oc = oc' := this
      subst he
      exact ⟨rs', rb', p1⟩
    · have := indR_spec (hi1 y y' d2) i (by rw [Nat.zero_add]; exact hi) (by rw [Nat.zero_add]; exact hdp)
      exact this
    · refine hlk d1 d2 i p σ.h (fun w hw => hw) hic (fun e => ?_) hp
      subst e; rw [hd12] at hdp; cases hdp
    · rw [q1] at hE
      simp only [Option.some.injEq, Prod.mk.injEq, Ef.mk.injEq, true_and] at hE
      obtain ⟨rfl, rfl⟩ := hE
      rw [hk1] at q3
      exact q3
    · simp only [List.mem_cons, List.not_mem_nil, or_false] at hd
      subst hd
      exact ⟨by omega, hd12⟩
  refine wpIn_region_any hm ?_
  have hrep : ∀ j, (Array.replicate ops.size false).getD j false = false := fun j => by
    simp only [Array.getD_eq_getD_getElem?, Array.getElem?_replicate]
    split <;> rfl
  refine G0 ops.size (Array.replicate ops.size false) a _ (by simp [hsz]) (by simp [List.countP_replicate]) (fun j hj => by rw [hrep] at hj; cases hj) (fun c hc => by cases hc) (fun c _ => hrep c) ?_
  obtain ⟨β, Dm, hs⟩ := hsat
  refine ⟨β, Dm, ?_⟩
  rw [foldS_none]
  · exact hs.drawn _
  · intro b hb
    simp only [Array.toList_replicate, List.mem_replicate] at hb
    exact hb.2

/-! ### Stores into memory of others -/
/-- What is known of a cell holds of no world in which it is gone; so its block is none of the state's own. -/
theorem Sat'.dof {X : Cx} {σ : Sg} {β : Nat → Nat} {D : Nat → Prop} {a : Act} {w : World} (hs : Sat' X σ β D a w) {b : Nat} (hk : ∀ w, σ.h w → ∃ cs ty fr, w.heap[b]? = some (.cells cs ty fr)) : D b := by
  refine Classical.byContradiction fun hD => ?_
  have hlt : b < w.heap.size := by
    obtain ⟨cs, ty, fr, h⟩ := hk w (hs.h w (Chg.refl _ _))
    exact (Array.getElem?_eq_some_iff.1 h).1
  have h2 := hs.h (w.putObj b (.deferred none)) ⟨rfl, rfl, rfl, Nat.le_of_eq World.putObj_size.symm, fun i hi hn => (World.putObj_heap_other (fun e => hn (e ▸ hD)))⟩
  obtain ⟨cs, ty, fr, h3⟩ := hk _ h2
  rw [World.putObj_heap_same hlt] at h3
  cases h3
theorem setCell_other {w : World} {ad : Addr} {v : Value} {b : Nat} (h : b ≠ ad.block) : (w.setCell ad v).heap[b]? = w.heap[b]? := by
  simp only [World.setCell, Array.getElem?_modify]
  rw [if_neg (fun e => h e.symm)]
theorem setCell_at {w : World} {ad : Addr} {v : Value} {cs : Array Value} {ty : TypeId} {fr : Nat × Nat} (h : w.heap[ad.block]? = some (.cells cs ty fr)) (hsp : ad.spot = none) : (w.setCell ad v).heap[ad.block]? = some (.cells (cs.setIfInBounds ad.off v) ty fr) := by
  simp only [World.setCell, Array.getElem?_modify, if_true, h, Option.map_some, hsp]
  rfl
theorem setCell_size {w : World} {ad : Addr} {v : Value} : (w.setCell ad v).heap.size = w.heap.size := by simp [World.setCell]
theorem stF {P : Program} (T : Env P) {dst : Option Tmp} {ty t : TypeId} {pos : String} {after : Array Edge} {gd : Option (Nat × Bool)} {gs : List Nat} {σ : Sg} {K : Ef → Prop} {ks : KT} {x y : Operand} {ad : Addr} {v : Value} {ti : TI}
    (hx : gv σ x = some (.v (.pointer (some ad)))) (hy : gv σ y = some (.v v)) (ht : T.ty t = some ti) (hsz : ti.size = 1) (hv : v.cells = #[v]) (hv1 : v.oneCell' = true) (hsp : ad.spot = none) (h' : World → Prop)
    (hold : ∀ w, σ.h w → (∃ cs ty fr, w.heap[ad.block]? = some (.cells cs ty fr) ∧ ad.off < cs.size) ∧ w.frozen? ad = false) (hnew : ∀ w, σ.h w → h' (w.setCell ad v)) (hK : ks (.v undef) ⟨σ.nt, σ.t, σ.m, σ.nb, h', σ.z⟩) :
    OpEvS P ⟨dst, .store t x y, ty, pos, after, gd⟩ gs σ K (some ks) := by
  refine .sk ks rfl rfl fun X β D a w hok hs => ?_
  have hb : D ad.block := hs.dof fun w hw => by obtain ⟨⟨cs, ty, fr, h, _⟩, _⟩ := hold w hw; exact ⟨cs, ty, fr, h⟩
  have hw := hs.h w (Chg.refl _ _)
  obtain ⟨⟨cs, ty', fr, h1, h2⟩, h3⟩ := hold w hw
  have hm := setCell_at (v := v) h1 hsp
  refine ⟨⟨σ.nt, σ.t, σ.m, σ.nb, h', σ.z⟩, β, D, w.setCell ad v, ?_, hK, ⟨⟨hok.wf.t, hok.wf.g, hok.wf.m⟩, hok.lt⟩, rfl, ?_⟩
  · have hse := hs.sees ⟨.v undef, [], [], os x ++ os y, []⟩
    have e1 := gv_eval hse hx (fun k hk => by simp [hk])
    have e2 := gv_eval hse hy (fun k hk => by simp [hk])
    have htok := T.tok t ti ht
    have hcell : ∃ u, w.cell? ad = some u := ⟨cs[ad.off], by simp only [World.cell?, h1, hsp]; simp [h2]⟩
    obtain ⟨u, hcell⟩ := hcell
    have hadd : ad.add 0 = ad := by simp [Addr.add]
    have hst : (store ad v).run P w = .ok () (w.setCell ad v) := by
      rw [run_store P w _ v _ hv1, hcell]
      simp [h3]
    simp only [execOp, Instr.storeAt, Instr.sureAddr, e1, e2, SV.c, Sem.run_bind, Sem.run_pure, Result.andThen_ok, storeVar, htok.run_sizeOf w, hsz, hv, List.size_toArray, List.length_singleton, ne_eq, not_true_eq_false, if_false, storeCells, hadd, hst]
  · have hkeep : ∀ (b : Nat) (o : Obj), w.heap[b]? = some o → Other o → (w.setCell ad v).heap[b]? = some o := fun b o hbo hot => by
      rw [setCell_other (fun e => by subst e; rw [h1, Option.some.injEq] at hbo; subst hbo; exact hot trivial)]
      exact hbo
    refine ⟨?_, hs.size, hs.t, fun i b hi => ?_, hs.inj, hs.out, fun b hb' => by rw [setCell_size]; exact hs.dlt b hb', fun w2 hc => ?_, hs.amb.keep (fun _ _ _ => rfl) hkeep (fun _ _ h => h)⟩
    · obtain ⟨l, l1, l2, l3⟩ := hs.defers
      exact ⟨l, l1, l2, fun d hd => ⟨hkeep _ _ (l3 d hd).1 (fun h => h), (l3 d hd).2⟩⟩
    · exact Blk.ok_congr (fr := []) (fun _ _ => rfl) b (Blk.av_nil b) (fun hl => setCell_other fun e => hs.out i b hi hl (e ▸ hb)) (hs.m i b hi)
    · let w1 : World := w2.putObj ad.block (.cells cs ty' fr)
      have hl2 : ad.block < w2.heap.size := Nat.lt_of_lt_of_le (Array.getElem?_eq_some_iff.1 hm).1 hc.size
      have e1 : w1.heap[ad.block]? = some (.cells cs ty' fr) := World.putObj_heap_same hl2
      have hsz2 : w.heap.size ≤ w2.heap.size := by have := hc.size; rw [setCell_size] at this; exact this
      have hw1 : σ.h w1 := hs.h w1 ⟨hc.os, hc.tape, hc.output, Nat.le_trans hsz2 (Nat.le_of_eq World.putObj_size.symm), fun b hlt hn => by
        by_cases hbe : b = ad.block
        · subst hbe; rw [e1, h1]
        · show (w2.putObj ad.block _).heap[b]? = _
          rw [World.putObj_heap_other hbe, hc.same b (by rw [setCell_size]; exact hlt) hn, setCell_other hbe]⟩
      have hfin : w1.setCell ad v = w2 := by
        have e4 := setCell_at (v := v) e1 hsp
        have e5 : w2.heap[ad.block]? = some (.cells (cs.setIfInBounds ad.off v) ty' fr) := by
          rw [hc.same _ (by rw [setCell_size]; exact (Array.getElem?_eq_some_iff.1 h1).1) (fun h => h hb)]; exact hm
        have e6 : (w1.setCell ad v).heap = w2.heap := Array.ext_getElem? fun i => by
          by_cases hi : i = ad.block
          · subst hi; rw [e4, e5]
          · rw [setCell_other hi]; exact World.putObj_heap_other hi
        have e7 : w1.setCell ad v = { w2 with heap := (w1.setCell ad v).heap } := rfl
        rw [e7, e6]
      rw [← hfin]
      exact hnew w1 hw1

end Go.Proofs.Ythfabodamhdhaaa.Tx
