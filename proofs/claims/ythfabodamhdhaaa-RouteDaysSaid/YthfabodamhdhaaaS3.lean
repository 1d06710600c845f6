/- Regions with one such call; a callee that makes a row, of whose elements more is said; slices with bounds. -/
import Derived.Test.YthfabodamhdhaaaS2
namespace Go.Proofs.Ythfabodamhdhaaa.Tx
open Go Go.RowKit
set_option linter.unusedSimpArgs false
set_option linter.unusedVariables false

def fs1 {α1 : Type} (c1 : Nat) (V1 : α1 → Value) (x1 : α1 → World → Prop) (y1 : α1) (j : Nat) : Option Fm := bif Nat.beq j c1 then some ⟨α1, V1, x1, y1⟩ else none
/-- **A REGION THAT DRAWS ITS ORDER, WITH ONE CALL WHOSE RESULT IS OF A FAMILY.** -/
theorem VC_reg1 {P : Program} (T : Env P) (hm : P.follows .mixedOrders = true) {id : Nat} {ops : Array Oper} {σ : Sg} {Φ : Exit → Sg → Prop} {α1 : Type} (c1 : Nat) (V1 : α1 → Value) (x1 : α1 → World → Prop) (d1 : α1)
    (LF : α1 → List (Oper × Ef)) (h3 : c1 < ops.size)
    (hv : ∀ y1, vX T (fs1 c1 V1 x1 y1) ops.toList ops.toList 0 σ [] σ.h (fun σ' acc => acc = LF y1 ∧ Φ .normal {σ' with h := fun w => σ.h w ∧ x1 y1 w}))
    (hk1 : ∀ y1, knF (fs1 c1 V1 x1 y1) 0 c1 σ.h = σ.h)
    (hi1 : ∀ y y', indR (bef ops.toList []) c1 0 (LF y) (LF y')) : VC P (.region id ops true) σ Φ := by
  intro F n X a w hF hlp hok hsat
  have hS := fun y1 => vX_spec T (F := F) (n := n) (ops := ops) hF rfl _ 0 σ [] _ _ hok (hv y1)
  have f1 : ∀ y1, fs1 c1 V1 x1 y1 c1 = some ⟨α1, V1, x1, y1⟩ := fun _ => by unfold fs1; rw [Nat.beq_refl]; rfl
  have f0 : ∀ y1 i, i ≠ c1 → fs1 c1 V1 x1 y1 i = none := fun _ i e1 => by unfold fs1; rw [beq_ne e1]; rfl
  have hA : ∀ y1, ops.toList = (LF y1).map (·.1) ∧ (∀ i p, i ≠ c1 → (LF y1)[i]? = some p → Link F n P ops p.1 (fin ((LF y1).take i) σ) p.2) ∧
      (∀ i f, fs1 c1 V1 x1 y1 i = some f → i < (LF y1).length → ∃ oc rs rb, (LF y1)[i]? = some (oc, ⟨.v (f.V f.y), [], [], rs, rb⟩) ∧ (∀ d, oc.dst = some d → d < σ.nt) ∧ FamC F n P ops oc {fin ((LF y1).take i) σ with h := knF (fs1 c1 V1 x1 y1) 0 i σ.h} ⟨.v (f.V f.y), [], [], rs, rb⟩ f.V f.hx) ∧
      Φ .normal {fin (LF y1) σ with h := fun w => σ.h w ∧ x1 y1 w} ∧ (fin (LF y1) σ).Ok ∧ DrawOK (LF y1) σ := fun y1 => by
    obtain ⟨L, g1, g2, g3, ⟨g4, g4'⟩, g5, g6, g7⟩ := hS y1
    rw [List.nil_append] at g4 g6
    subst g4
    simp only [drawB, Bool.and_eq_true] at g6
    refine ⟨g1, fun i p e1 hp => g2 i p (by rw [Nat.zero_add]; exact f0 y1 i e1) hp, fun i f hfi hi => g3 i f (by rw [Nat.zero_add]; exact hfi) hi, g4', g5, g6.1, g6.2, fun p hp => ?_⟩
    obtain ⟨m, q1, q2⟩ := g7 p hp
    exact hok.wf.av q1 q2
  have hsz : ∀ y1, (LF y1).length = ops.size := fun y1 => by
    have := congrArg List.length (hA y1).1
    simpa using this.symm
  have hdr : ∀ y1 h', DrawOK (LF y1) {σ with h := h'} := fun y1 h' => by
    obtain ⟨_, _, _, _, _, hd⟩ := hA y1
    exact ⟨hd.edges, hd.pairs, fun p hp => ⟨(hd.av p hp).t, (hd.av p hp).g, (hd.av p hp).m⟩⟩
  have hlk : ∀ y1 i p (h' : World → Prop), (∀ w, h' w → σ.h w) → i ≠ c1 → (LF y1)[i]? = some p → Link F n P ops p.1 (fin ((LF y1).take i) {σ with h := h'}) p.2 := fun y1 i p h' hh e1 hp => by
    rw [fin_h]
    exact ((hA y1).2.1 i p e1 hp).more (fun w hw => by
      have : ∀ (L : List (Oper × Ef)) (τ : Sg), (fin L τ).h = τ.h := fun L => by
        induction L with
        | nil => intro τ; rfl
        | cons p L ih => intro τ; simp only [fin]; rw [ih]; rfl
      rw [this]; exact hh w hw)
  have hfm : ∀ y1 i f, fs1 c1 V1 x1 y1 i = some f → i < ops.size → ∃ oc rs rb, (LF y1)[i]? = some (oc, ⟨.v (f.V f.y), [], [], rs, rb⟩) ∧ (∀ d, oc.dst = some d → d < σ.nt) ∧ FamC F n P ops oc (fin ((LF y1).take i) {σ with h := knF (fs1 c1 V1 x1 y1) 0 i σ.h}) ⟨.v (f.V f.y), [], [], rs, rb⟩ f.V f.hx := fun y1 i f hf hi => by
    rw [fin_h]
    exact (hA y1).2.2.1 i f hf (by rw [hsz]; exact hi)
  have hops : ∀ y1 (i : Nat) (p : Oper × Ef), (LF y1)[i]? = some p → ops[i]? = some p.1 := fun y1 i p hp => by
    rw [← Array.getElem?_toList, (hA y1).1, List.getElem?_map, hp]; rfl
  have G1 : ∀ y1, GG X F n P ops (QΦ X Φ) (LF y1) {σ with h := fun w => σ.h w ∧ x1 y1 w} [c1] [] := fun y1 => by
    refine GG_end (hA y1).1 (hdr _ _) (fun i p hi hp => ?_) fun a w hs => ?_
    · simp only [List.mem_cons, List.not_mem_nil, or_false] at hi
      exact hlk y1 i p _ (fun w hw => hw.1) hi hp
    · rw [fin_h] at hs
      obtain ⟨_, _, _, q1, q2, _⟩ := hA y1
      exact ⟨_, q1, ⟨⟨q2.wf.t, q2.wf.g, q2.wf.m⟩, q2.lt⟩, hs⟩
  have G0 : GG X F n P ops (QΦ X Φ) (LF d1) σ [] [c1] := by
    obtain ⟨oc, rs, rb, q1, q2, q3⟩ := hfm d1 c1 _ (f1 d1) h3
    have hoc := hops _ _ _ q1
    refine GG_fam (fun y => LF y) V1 x1 d1 c1 [] oc (fun y => (hA y).1) (fun y => hdr _ σ.h) (fun y => ?_) (fun y y' i hi hdp => ?_) (fun i p hi hic hdp hp => ?_) q2 (fun rs' rb' hE => ?_) (fun d hd => by cases hd) (fun y => G1 y)
    · obtain ⟨oc', rs', rb', p1, _, _⟩ := hfm y c1 _ (f1 y) h3
      have := hops _ _ _ p1
      rw [hoc, Option.some.injEq] at this
      have he : oc = oc' := this
      subst he
      exact ⟨rs', rb', p1⟩
    · have := indR_spec (hi1 y y') i (by rw [Nat.zero_add]; exact hi) (by rw [Nat.zero_add]; exact hdp)
      exact this
    · exact hlk d1 i p σ.h (fun w hw => hw) hic hp
    · rw [q1] at hE
      simp only [Option.some.injEq, Prod.mk.injEq, Ef.mk.injEq, true_and] at hE
      obtain ⟨rfl, rfl⟩ := hE
      rw [hk1] at q3
      exact q3
  refine wpIn_region_any hm ?_
  have hrep : ∀ j, (Array.replicate ops.size false).getD j false = false := fun j => by
    simp only [Array.getD_eq_getD_getElem?, Array.getElem?_replicate]
    split <;> rfl
  refine G0 ops.size (Array.replicate ops.size false) a _ (by simp [hsz]) (by simp [List.countP_replicate]) (fun j hj => by rw [hrep] at hj; cases hj) (fun c hc => by cases hc) (fun c _ => hrep c) ?_
  obtain ⟨β, Dm, hs⟩ := hsat
  refine ⟨β, Dm, ?_⟩
  rw [foldS_none]
  · exact hs.drawn _
  · intro b hb
    simp only [Array.toList_replicate, List.mem_replicate] at hb
    exact hb.2

/-- It holds and abides whatever happens to blocks of lower numbers and to one block. -/
def StX (n b : Nat) (p : World → Prop) (w : World) : Prop := ∀ w', w.heap.size ≤ w'.heap.size → (∀ c, n ≤ c → c ≠ b → c < w.heap.size → w'.heap[c]? = w.heap[c]?) → p w'
/-- A callee that makes a row, the caller's own from here on, and more, of which something is said that abides. -/
theorem callRF {P : Program} {nt nb : Nat} {t : List (Nat × SV)} {m : List (Nat × Blk)} {h0 : World → Prop} {z : Gz} {k : Nat} {args : List SV} {B : Ef → Bool} {rs : List Nat} {K : Ef → Prop} {ks : KT} (rb : List Nat) {α : Type} (n sz ty : Nat) (xs : α → List Value) (hx : α → World → Prop)
    (h : ∀ β w, (∀ i ∈ rb, ∀ b, lk m i = some b → b.ok β w (β i)) → h0 w → Calls P k (SV.cs β args).toArray w fun e w' => ∃ (x : α) (b d : Nat), e = .returned (.slice (some ⟨b, 0, none⟩) n d) ∧ w.heap.size ≤ b ∧ Below w.heap.size w w' ∧ w'.ownsRow 0 ty sz (.slice (some ⟨b, 0, none⟩) n d) n (xs x) ∧ StX w.heap.size b (hx x) w')
    (hK : ∀ x, ks (.os nb (nb + 1) n) ⟨nt, t, (nb, .own (nb + 1) n sz (xs x) ty) :: m, nb + 2, fun w => h0 w ∧ hx x w, z⟩) : CallEv P ⟨nt, t, m, nb, h0, z⟩ k args B rs K (some ks) :=
  .st ks rfl fun X β D a w hok hs => (h β w (fun i _ b hb => hs.m i b hb) (hs.h w (Chg.refl _ _))).mono fun e w' ⟨x, b, d, he, hbn, hB, hown, hst⟩ => by
    let β' : Nat → Nat := fun i => if i = nb then b else if i = nb + 1 then d else β i
    have hlow : ∀ i, i < nb → β' i = β i := fun i hi => by
      show (if i = nb then b else if i = nb + 1 then d else β i) = _
      rw [if_neg (by omega), if_neg (by omega)]
    have e0 : β' nb = b := if_pos rfl
    have e1 : β' (nb + 1) = d := by show (if nb + 1 = nb then b else if nb + 1 = nb + 1 then d else β (nb + 1)) = d; rw [if_neg (by omega), if_pos rfl]
    have hbl : b < w'.heap.size := (World.ownsRow.lt hown b rfl).2
    have hold : ∀ i bk, lk m i = some bk → bk.live = true → β i < w.heap.size := fun i bk hi hl => Blk.ok_lt hl (hs.m i bk hi)
    have hlk : ∀ i bk, lk ((nb, Blk.own (nb + 1) n sz (xs x) ty) :: m) i = some bk → (i = nb ∧ bk = .own (nb + 1) n sz (xs x) ty) ∨ (i < nb ∧ lk m i = some bk) := fun i bk hi => by
      rw [lk] at hi
      cases hb2 : Nat.beq i nb with
      | true => rw [hb2, cond_true, Option.some.injEq] at hi; exact .inl ⟨Nat.eq_of_beq_eq_true hb2, hi.symm⟩
      | false => rw [hb2, cond_false] at hi; exact .inr ⟨(hok.wf.m i bk hi).1, hi⟩
    refine ⟨.os nb (nb + 1) n, _, β', fun c => D c ∨ (w.heap.size ≤ c ∧ c < w'.heap.size ∧ c ≠ b), ?_, hK x, by simp [SV.lt], ⟨⟨fun k s hk => ?_, fun k s hk => ?_, fun i bk hi => ?_⟩, hok.lt⟩, rfl, ?_⟩
    · rw [he, SV.c, e0, e1]
    · exact SV.lt_mono (Nat.le_add_right nb 2) s (hok.wf.t k s hk)
    · exact SV.lt_mono (Nat.le_add_right nb 2) s (hok.wf.g k s hk)
    · rcases hlk i bk hi with ⟨rfl, rfl⟩ | ⟨_, h2⟩
      · exact ⟨Nat.lt_add_of_pos_right (by decide), by simp [Blk.lt]⟩
      · exact ⟨Nat.lt_of_lt_of_le (hok.wf.m i bk h2).1 (Nat.le_add_right nb 2), Blk.lt_mono (Nat.le_add_right nb 2) bk (hok.wf.m i bk h2).2⟩
    · refine ⟨?_, hs.size, fun k s hk => (hs.t k s hk).trans (SV.c_lt hlow s (hok.wf.t k s hk)).symm, fun i bk hi => ?_, fun i j bi bj hi hj li lj hne => ?_, fun i bk hi hl hD => ?_, fun c hc => ?_, fun w2 hc => ?_, ?_⟩
      · obtain ⟨l, l1, l2, l3⟩ := hs.defers
        exact ⟨l, l1, l2, fun d hd => ⟨(hB.block _ (Array.getElem?_eq_some_iff.1 (l3 d hd).1).1).trans (l3 d hd).1, fun hD => by
          rcases hD with hD | hD
          · exact (l3 d hd).2.1 hD
          · have := (Array.getElem?_eq_some_iff.1 (l3 d hd).1).1; omega, (l3 d hd).2.2⟩⟩
      · rcases hlk i bk hi with ⟨rfl, rfl⟩ | ⟨hlt, h2⟩
        · simp only [Blk.ok, e0, e1]; exact hown
        · rw [hlow i hlt]
          exact Blk.ok_nm hlow bk (hok.wf.m i bk h2).2 (Blk.ok_congr (fr := []) (fun _ _ => rfl) bk (Blk.av_nil bk) (fun hl => hB.block _ (hold i bk h2 hl)) (hs.m i bk h2))
      · rcases hlk i bi hi with ⟨rfl, rfl⟩ | ⟨hlt, h2⟩ <;> rcases hlk j bj hj with ⟨rfl, rfl⟩ | ⟨hlt', h2'⟩
        · exact absurd rfl hne
        · rw [e0, hlow j hlt']; have := hold j bj h2' lj; omega
        · rw [e0, hlow i hlt]; have := hold i bi h2 li; omega
        · rw [hlow i hlt, hlow j hlt']; exact hs.inj i j bi bj h2 h2' li lj hne
      · rcases hlk i bk hi with ⟨rfl, rfl⟩ | ⟨hlt, h2⟩
        · rw [e0] at hD
          rcases hD with hD | hD
          · have := hs.dlt b hD; omega
          · exact hD.2.2 rfl
        · rw [hlow i hlt] at hD
          rcases hD with hD | hD
          · exact hs.out i bk h2 hl hD
          · have := hold i bk h2 hl; omega
      · rcases hc with hc | hc
        · exact Nat.lt_of_lt_of_le (hs.dlt c hc) hB.size
        · exact hc.2.1
      · refine ⟨hs.h w2 ⟨hc.os.trans hB.os, hc.tape.trans hB.tape, hc.output.trans hB.output, Nat.le_trans hB.size hc.size, fun c hcl hn => ?_⟩, hst w2 hc.size fun c h1 h2 h3 => hc.same c h3 fun hn => hn (.inr ⟨h1, h3, h2⟩)⟩
        rw [hc.same c (Nat.lt_of_lt_of_le hcl hB.size) (fun hn2 => hn2 (.inl (Classical.byContradiction fun hD => hn hD)))]
        exact hB.block c hcl
      · refine hs.amb.keep (fun k s hk => SV.c_lt hlow s (hok.wf.g k s hk)) (fun c o hco _ => (hB.block c (Array.getElem?_eq_some_iff.1 hco).1).trans hco) (fun c hcl hD => ?_)
        rcases hD with hD | hD
        · exact hD
        · omega
end Go.Proofs.Ythfabodamhdhaaa.Tx
namespace Go.Proofs.Ythfabodamhdhaaa.Tx
open Go Go.RowKit
set_option linter.unusedSimpArgs false
set_option linter.unusedVariables false

theorem slLo {P : Program} (T : Env P) {dst : Option Tmp} {ty : TypeId} {pos : String} {after : Array Edge} {gd : Option (Nat × Bool)} {gs : List Nat} {σ : Sg} {K : Ef → Prop} {KF : Option KT} {t e n c z : Nat} {x lo : Operand} {ad : Addr} {k : IntKind}
    {sz : Nat} {zr : List Value} {by_ : Nat} {ti : TI} (hx : gv σ x = some (.v (.slice (some ad) n c))) (hl : gv σ lo = some (.v (.int k z))) (ht : T.ty t = some ⟨sz, zr, by_, .slice e⟩) (he : T.ty e = some ti) (hz : z < n) (hc : n ≤ c)
    (hB : efB σ ⟨.v (.slice (some (ad.add (z * ti.size))) (n - z) (c - z)), [], [], gs ++ (os x ++ os lo), []⟩ = true) (hK : K ⟨.v (.slice (some (ad.add (z * ti.size))) (n - z) (c - z)), [], [], gs ++ (os x ++ os lo), []⟩) : OpEvS P ⟨dst, .slice t x (some lo) none none, ty, pos, after, gd⟩ gs σ K KF := by
  refine .mk _ hB (fun k hk => by simp [hk]) rfl (runOK_pure fun β a w hss => ?_) hK
  have e1 := gv_eval hss hx (fun k hk => by simp [hk])
  have e2 := gv_eval hss hl (fun k hk => by simp [hk])
  have hu := under_slice (T.tok t _ ht) rfl
  have hel : P.elem t = e := by simp [Program.elem, hu]
  have hu' : P.underlying t = some (.slice (P.elem t)) := by rw [hel]; exact hu
  have hsz := (T.tok e ti he).run_sizeOf w
  simp only [execOp, Option.map_some, Option.map_none, e1, e2, SV.c, Sem.run_bind, Sem.run_pure, Result.andThen_ok]
  rw [run_sliceAt_slice w t _ _ _ _ hu', run_slice_l w t _ _ _ hu' _ _ (by omega) (by omega), hel, hsz]
  simp only [Result.andThen_ok, sliced, Int.toNat_natCast, Option.map_some]
  rw [if_neg (by omega)]
theorem slHi {P : Program} (T : Env P) {dst : Option Tmp} {ty : TypeId} {pos : String} {after : Array Edge} {gd : Option (Nat × Bool)} {gs : List Nat} {σ : Sg} {K : Ef → Prop} {KF : Option KT} {t e n c z : Nat} {x hi : Operand} {ad : Addr} {k : IntKind}
    {sz : Nat} {zr : List Value} {by_ : Nat} {ti : TI} (hx : gv σ x = some (.v (.slice (some ad) n c))) (hl : gv σ hi = some (.v (.int k z))) (ht : T.ty t = some ⟨sz, zr, by_, .slice e⟩) (he : T.ty e = some ti) (hc : z ≤ c)
    (hB : efB σ ⟨.v (.slice (some ad) z c), [], [], gs ++ (os x ++ os hi), []⟩ = true) (hK : K ⟨.v (.slice (some ad) z c), [], [], gs ++ (os x ++ os hi), []⟩) : OpEvS P ⟨dst, .slice t x none (some hi) none, ty, pos, after, gd⟩ gs σ K KF := by
  refine .mk _ hB (fun k hk => by simp [hk]) rfl (runOK_pure fun β a w hss => ?_) hK
  have e1 := gv_eval hss hx (fun k hk => by simp [hk])
  have e2 := gv_eval hss hl (fun k hk => by simp [hk])
  have hu := under_slice (T.tok t _ ht) rfl
  have hel : P.elem t = e := by simp [Program.elem, hu]
  have hu' : P.underlying t = some (.slice (P.elem t)) := by rw [hel]; exact hu
  have hsz := (T.tok e ti he).run_sizeOf w
  simp only [execOp, Option.map_some, Option.map_none, e1, e2, SV.c, Sem.run_bind, Sem.run_pure, Result.andThen_ok]
  rw [run_sliceAt_slice w t _ _ _ _ hu', run_slice_h w t _ _ _ hu' _ _ (by omega) (by omega), hel, hsz]
  simp only [Result.andThen_ok, sliced, Int.toNat_natCast, Option.map_some, Nat.zero_mul, Nat.sub_zero]
  have h0 : ad.add 0 = ad := by simp [Addr.add]
  rw [h0, ite_self]
end Go.Proofs.Ythfabodamhdhaaa.Tx
