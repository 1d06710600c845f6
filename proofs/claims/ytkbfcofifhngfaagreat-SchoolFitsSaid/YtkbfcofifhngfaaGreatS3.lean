/- Stores into memory of others; slices with bounds. -/
import Derived.Test.YtkbfcofifhngfaaGreatS0
namespace Go.Proofs.YtkbfcofifhngfaaGreat.Tx
open Go Go.RowKit
set_option linter.unusedSimpArgs false
set_option linter.unusedVariables false
/-- What is known of a cell holds of no world in which it is gone; so its block is none of the state's own. -/
theorem Sat'.dof {X : Cx} {σ : Sg} {β : Nat → Nat} {D : Nat → Prop} {a : Act} {w : World} (hs : Sat' X σ β D a w) {b : Nat} (hk : ∀ w, σ.h w → ∃ cs ty fr, w.heap[b]? = some (.cells cs ty fr)) : D b := by
  refine Classical.byContradiction fun hD => ?_
  have hlt : b < w.heap.size := by
    obtain ⟨cs, ty, fr, h⟩ := hk w (hs.h w (Chg.refl _ _))
    exact (Array.getElem?_eq_some_iff.1 h).1
  have h2 := hs.h (w.putObj b (.deferred none)) ⟨rfl, rfl, rfl, Nat.le_of_eq World.putObj_size.symm, fun i hi hn => (World.putObj_heap_other (fun e => hn (e ▸ hD)))⟩
  obtain ⟨cs, ty, fr, h3⟩ := hk _ h2
  rw [World.putObj_heap_same hlt] at h3
  cases h3
theorem setCell_other {w : World} {ad : Addr} {v : Value} {b : Nat} (h : b ≠ ad.block) : (w.setCell ad v).heap[b]? = w.heap[b]? := by
  simp only [World.setCell, Array.getElem?_modify]
  rw [if_neg (fun e => h e.symm)]
theorem setCell_at {w : World} {ad : Addr} {v : Value} {cs : Array Value} {ty : TypeId} {fr : Nat × Nat} (h : w.heap[ad.block]? = some (.cells cs ty fr)) (hsp : ad.spot = none) : (w.setCell ad v).heap[ad.block]? = some (.cells (cs.setIfInBounds ad.off v) ty fr) := by
  simp only [World.setCell, Array.getElem?_modify, if_true, h, Option.map_some, hsp]
  rfl
theorem setCell_size {w : World} {ad : Addr} {v : Value} : (w.setCell ad v).heap.size = w.heap.size := by simp [World.setCell]
theorem stF {P : Program} (T : Env P) {dst : Option Tmp} {ty t : TypeId} {pos : String} {after : Array Edge} {gd : Option (Nat × Bool)} {gs : List Nat} {σ : Sg} {K : Ef → Prop} {ks : KT} {x y : Operand} {ad : Addr} {v : Value} {ti : TI}
    (hx : gv σ x = some (.v (.pointer (some ad)))) (hy : gv σ y = some (.v v)) (ht : T.ty t = some ti) (hsz : ti.size = 1) (hv : v.cells = #[v]) (hv1 : v.oneCell' = true) (hsp : ad.spot = none) (h' : World → Prop)
    (hold : ∀ w, σ.h w → (∃ cs ty fr, w.heap[ad.block]? = some (.cells cs ty fr) ∧ ad.off < cs.size) ∧ w.frozen? ad = false) (hnew : ∀ w, σ.h w → h' (w.setCell ad v)) (hK : ks (.v undef) ⟨σ.nt, σ.t, σ.m, σ.nb, h', σ.z⟩) :
    OpEvS P ⟨dst, .store t x y, ty, pos, after, gd⟩ gs σ K (some ks) := by
  refine .sk ks rfl rfl fun X β D a w hok hs => ?_
  have hb : D ad.block := hs.dof fun w hw => by obtain ⟨⟨cs, ty, fr, h, _⟩, _⟩ := hold w hw; exact ⟨cs, ty, fr, h⟩
  have hw := hs.h w (Chg.refl _ _)
  obtain ⟨⟨cs, ty', fr, h1, h2⟩, h3⟩ := hold w hw
  have hm := setCell_at (v := v) h1 hsp
  refine ⟨⟨σ.nt, σ.t, σ.m, σ.nb, h', σ.z⟩, β, D, w.setCell ad v, ?_, hK, ⟨⟨hok.wf.t, hok.wf.g, hok.wf.m⟩, hok.lt⟩, rfl, ?_⟩
  · have hse := hs.sees ⟨.v undef, [], [], os x ++ os y, []⟩
    have e1 := gv_eval hse hx (fun k hk => by simp [hk])
    have e2 := gv_eval hse hy (fun k hk => by simp [hk])
    have htok := T.tok t ti ht
    have hcell : ∃ u, w.cell? ad = some u := ⟨cs[ad.off], by simp only [World.cell?, h1, hsp]; simp [h2]⟩
    obtain ⟨u, hcell⟩ := hcell
    have hadd : ad.add 0 = ad := by simp [Addr.add]
    have hst : (store ad v).run P w = .ok () (w.setCell ad v) := by
      rw [run_store P w _ v _ hv1, hcell]
      simp [h3]
    simp only [execOp, Instr.storeAt, Instr.sureAddr, e1, e2, SV.c, Sem.run_bind, Sem.run_pure, Result.andThen_ok, storeVar, htok.run_sizeOf w, hsz, hv, List.size_toArray, List.length_singleton, ne_eq, not_true_eq_false, if_false, storeCells, hadd, hst]
  · have hkeep : ∀ (b : Nat) (o : Obj), w.heap[b]? = some o → Other o → (w.setCell ad v).heap[b]? = some o := fun b o hbo hot => by
      rw [setCell_other (fun e => by subst e; rw [h1, Option.some.injEq] at hbo; subst hbo; exact hot trivial)]
      exact hbo
    refine ⟨?_, hs.size, hs.t, fun i b hi => ?_, hs.inj, hs.out, fun b hb' => by rw [setCell_size]; exact hs.dlt b hb', fun w2 hc => ?_, hs.amb.keep (fun _ _ _ => rfl) hkeep (fun _ _ h => h)⟩
    · obtain ⟨l, l1, l2, l3⟩ := hs.defers
      exact ⟨l, l1, l2, fun d hd => ⟨hkeep _ _ (l3 d hd).1 (fun h => h), (l3 d hd).2⟩⟩
    · exact Blk.ok_congr (fr := []) (fun _ _ => rfl) b (Blk.av_nil b) (fun hl => setCell_other fun e => hs.out i b hi hl (e ▸ hb)) (hs.m i b hi)
    · let w1 : World := w2.putObj ad.block (.cells cs ty' fr)
      have hl2 : ad.block < w2.heap.size := Nat.lt_of_lt_of_le (Array.getElem?_eq_some_iff.1 hm).1 hc.size
      have e1 : w1.heap[ad.block]? = some (.cells cs ty' fr) := World.putObj_heap_same hl2
      have hsz2 : w.heap.size ≤ w2.heap.size := by have := hc.size; rw [setCell_size] at this; exact this
      have hw1 : σ.h w1 := hs.h w1 ⟨hc.os, hc.tape, hc.output, Nat.le_trans hsz2 (Nat.le_of_eq World.putObj_size.symm), fun b hlt hn => by
        by_cases hbe : b = ad.block
        · subst hbe; rw [e1, h1]
        · show (w2.putObj ad.block _).heap[b]? = _
          rw [World.putObj_heap_other hbe, hc.same b (by rw [setCell_size]; exact hlt) hn, setCell_other hbe]⟩
      have hfin : w1.setCell ad v = w2 := by
        have e4 := setCell_at (v := v) e1 hsp
        have e5 : w2.heap[ad.block]? = some (.cells (cs.setIfInBounds ad.off v) ty' fr) := by
          rw [hc.same _ (by rw [setCell_size]; exact (Array.getElem?_eq_some_iff.1 h1).1) (fun h => h hb)]; exact hm
        have e6 : (w1.setCell ad v).heap = w2.heap := Array.ext_getElem? fun i => by
          by_cases hi : i = ad.block
          · subst hi; rw [e4, e5]
          · rw [setCell_other hi]; exact World.putObj_heap_other hi
        have e7 : w1.setCell ad v = { w2 with heap := (w1.setCell ad v).heap } := rfl
        rw [e7, e6]
      rw [← hfin]
      exact hnew w1 hw1

theorem slLo {P : Program} (T : Env P) {dst : Option Tmp} {ty : TypeId} {pos : String} {after : Array Edge} {gd : Option (Nat × Bool)} {gs : List Nat} {σ : Sg} {K : Ef → Prop} {KF : Option KT} {t e n c z : Nat} {x lo : Operand} {ad : Addr} {k : IntKind}
    {sz : Nat} {zr : List Value} {by_ : Nat} {ti : TI} (hx : gv σ x = some (.v (.slice (some ad) n c))) (hl : gv σ lo = some (.v (.int k z))) (ht : T.ty t = some ⟨sz, zr, by_, .slice e⟩) (he : T.ty e = some ti) (hz : z < n) (hc : n ≤ c)
    (hB : efB σ ⟨.v (.slice (some (ad.add (z * ti.size))) (n - z) (c - z)), [], [], gs ++ (os x ++ os lo), []⟩ = true) (hK : K ⟨.v (.slice (some (ad.add (z * ti.size))) (n - z) (c - z)), [], [], gs ++ (os x ++ os lo), []⟩) : OpEvS P ⟨dst, .slice t x (some lo) none none, ty, pos, after, gd⟩ gs σ K KF := by
  refine .mk _ hB (fun k hk => by simp [hk]) rfl (runOK_pure fun β a w hss => ?_) hK
  have e1 := gv_eval hss hx (fun k hk => by simp [hk])
  have e2 := gv_eval hss hl (fun k hk => by simp [hk])
  have hu := under_slice (T.tok t _ ht) rfl
  have hel : P.elem t = e := by simp [Program.elem, hu]
  have hu' : P.underlying t = some (.slice (P.elem t)) := by rw [hel]; exact hu
  have hsz := (T.tok e ti he).run_sizeOf w
  simp only [execOp, Option.map_some, Option.map_none, e1, e2, SV.c, Sem.run_bind, Sem.run_pure, Result.andThen_ok]
  rw [run_sliceAt_slice w t _ _ _ _ hu', run_slice_l w t _ _ _ hu' _ _ (by omega) (by omega), hel, hsz]
  simp only [Result.andThen_ok, sliced, Int.toNat_natCast, Option.map_some]
  rw [if_neg (by omega)]
theorem slHi {P : Program} (T : Env P) {dst : Option Tmp} {ty : TypeId} {pos : String} {after : Array Edge} {gd : Option (Nat × Bool)} {gs : List Nat} {σ : Sg} {K : Ef → Prop} {KF : Option KT} {t e n c z : Nat} {x hi : Operand} {ad : Addr} {k : IntKind}
    {sz : Nat} {zr : List Value} {by_ : Nat} {ti : TI} (hx : gv σ x = some (.v (.slice (some ad) n c))) (hl : gv σ hi = some (.v (.int k z))) (ht : T.ty t = some ⟨sz, zr, by_, .slice e⟩) (he : T.ty e = some ti) (hc : z ≤ c)
    (hB : efB σ ⟨.v (.slice (some ad) z c), [], [], gs ++ (os x ++ os hi), []⟩ = true) (hK : K ⟨.v (.slice (some ad) z c), [], [], gs ++ (os x ++ os hi), []⟩) : OpEvS P ⟨dst, .slice t x none (some hi) none, ty, pos, after, gd⟩ gs σ K KF := by
  refine .mk _ hB (fun k hk => by simp [hk]) rfl (runOK_pure fun β a w hss => ?_) hK
  have e1 := gv_eval hss hx (fun k hk => by simp [hk])
  have e2 := gv_eval hss hl (fun k hk => by simp [hk])
  have hu := under_slice (T.tok t _ ht) rfl
  have hel : P.elem t = e := by simp [Program.elem, hu]
  have hu' : P.underlying t = some (.slice (P.elem t)) := by rw [hel]; exact hu
  have hsz := (T.tok e ti he).run_sizeOf w
  simp only [execOp, Option.map_some, Option.map_none, e1, e2, SV.c, Sem.run_bind, Sem.run_pure, Result.andThen_ok]
  rw [run_sliceAt_slice w t _ _ _ _ hu', run_slice_h w t _ _ _ hu' _ _ (by omega) (by omega), hel, hsz]
  simp only [Result.andThen_ok, sliced, Int.toNat_natCast, Option.map_some, Nat.zero_mul, Nat.sub_zero]
  have h0 : ad.add 0 = ad := by simp [Addr.add]
  rw [h0, ite_self]
end Go.Proofs.YtkbfcofifhngfaaGreat.Tx
