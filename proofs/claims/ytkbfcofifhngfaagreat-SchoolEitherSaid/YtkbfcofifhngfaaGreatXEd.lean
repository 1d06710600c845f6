/- Part 4 of the proof: texts merged. -/
import Derived.Test.YtkbfcofifhngfaaGreatXEc
set_option maxHeartbeats 8000000
set_option maxRecDepth 100000
set_option linter.unusedSectionVars false
set_option linter.unusedSimpArgs false
set_option linter.unusedVariables false
namespace Go.Proofs.YtkbfcofifhngfaaGreat.Tx
open Go Go.RowKit
section
variable {P : Program} (T : Env P)
theorem VC.loop {c : Code} {σ : Sg} {Φ : Exit → Sg → Prop} (h : LoopEv (VC P c) σ Φ) : VC P (.loop c) σ Φ := by
 intro F n X a w hF hlp hσ hs
 cases h with
 | mk α I pre μ h0 hround =>
  obtain ⟨x0, hx0, he0⟩ := h0
  let J : Nat → Act → World → Prop := fun m a w => ∃ x, μ x = m ∧ pre x ∧ Sat X (I x) a w
  refine wpIn_loop (fun a w => ∃ m, J m a w) (fun a w => leastOf (fun m => J m a w)) ⟨_, x0, rfl, hx0, he0 X a w hs⟩ fun a w hI => ?_
  obtain ⟨x, hx1, hx2, hx3⟩ := (leastOf_spec hI).1
  obtain ⟨hok, hvc⟩ := hround x hx2
  refine wpIn_mono (hvc F n X a w hF hlp hok hx3) fun e a' w' hq => ?_
  obtain ⟨σ', h1, h2, h3⟩ := hq
  cases e with
  | normal =>
   obtain ⟨x', q1, q2, q3⟩ := h1
   have hJ : J (μ x') a' w' := ⟨x', rfl, q1, q3 X a' w' h3⟩
   exact ⟨⟨_, hJ⟩, Nat.lt_of_le_of_lt ((leastOf_spec (p := fun m => J m a' w') ⟨_, hJ⟩).2 _ hJ) (by rw [← hx1]; exact q2)⟩
  | _ => exact ⟨σ', h1, h2, h3⟩
 | dis α I pre μ h0 hround =>
  obtain ⟨x0, hx0, he0⟩ := h0 X a w hs
  let J : Nat → Act → World → Prop := fun m a w => ∃ x, μ x = m ∧ pre x ∧ Sat X (I x) a w
  refine wpIn_loop (fun a w => ∃ m, J m a w) (fun a w => leastOf (fun m => J m a w)) ⟨_, x0, rfl, hx0, he0⟩ fun a w hI => ?_
  obtain ⟨x, hx1, hx2, hx3⟩ := (leastOf_spec hI).1
  obtain ⟨hok, hvc⟩ := hround x hx2
  refine wpIn_mono (hvc F n X a w hF hlp hok hx3) fun e a' w' hq => ?_
  obtain ⟨σ', h1, h2, h3⟩ := hq
  cases e with
  | normal =>
   obtain ⟨x', ⟨q1, q2⟩, q3⟩ := h1 X a' w' h3
   have hJ : J (μ x') a' w' := ⟨x', rfl, q1, q3⟩
   exact ⟨⟨_, hJ⟩, Nat.lt_of_le_of_lt ((leastOf_spec (p := fun m => J m a' w') ⟨_, hJ⟩).2 _ hJ) (by rw [← hx1]; exact q2)⟩
  | _ => exact ⟨σ', h1, h2, h3⟩
theorem VC.block {id : Nat} {c : Code} {σ : Sg} {Φ : Exit → Sg → Prop} (h : VC P c σ (blockΦ id Φ)) : VC P (.block id c) σ Φ := by
 intro F n X a w hF hlp hσ hs
 refine wpIn_block (wpIn_mono (h F n X a w hF hlp hσ hs) fun e a w hq => ?_)
 obtain ⟨σ', h1, h2, h3⟩ := hq
 cases e with
 | exit j =>
  simp only [Exit.inBlock]
  by_cases hj : j = id
  · subst hj
    rw [if_pos rfl]
    have h1 : (match Nat.beq j j with | true => Φ .normal σ' | false => Φ (.exit j) σ') := h1
    have hb : Nat.beq j j = true := Nat.beq_refl j
    rw [hb] at h1
    exact ⟨σ', h1, h2, h3⟩
  · rw [if_neg hj]
    have hb : Nat.beq j id = false := by
     cases hb : Nat.beq j id with
     | false => rfl
     | true => exact absurd (Nat.eq_of_beq_eq_true hb) hj
    have h1 : (match Nat.beq j id with | true => Φ .normal σ' | false => Φ (.exit j) σ') := h1
    rw [hb] at h1
    exact ⟨σ', h1, h2, h3⟩
 | _ => exact ⟨σ', h1, h2, h3⟩
theorem VC.cond {o : Operand} {x y : Code} {σ : Sg} {Φ : Exit → Sg → Prop} (b : Bool) (hg : gv σ o = some (.v (.bool b))) (h1 : b = true → VC P x σ Φ) (h2 : b = false → VC P y σ Φ) : VC P (.cond o x y) σ Φ := by
 intro F n X a w hF hlp hσ hs
 have hev : a.eval o = .bool b := by
  obtain ⟨β, D, hs'⟩ := hs
  exact gv_eval (hs'.sees ⟨.v undef, [], [], os o, []⟩) hg (fun k hk => hk)
 refine wpIn_cond hev ?_
 cases b with
 | true => exact h1 rfl F n X a w hF hlp hσ hs
 | false => exact h2 rfl F n X a w hF hlp hσ hs
end
def Sg.bare (σ : Sg) : Sg := ⟨0, [], σ.m, σ.nb, σ.h, σ.z⟩
def act0 : Act := { tmps := #[], defers := [] }
theorem sat_bare {X : Cx} {σ : Sg} {β : Nat → Nat} {D : Nat → Prop} {w : World} (hm : Mem σ β D w) (ha : Amb X σ.z β D w) : Sat X σ.bare act0 w :=
 ⟨β, D, ⟨⟨[], rfl, List.nodup_nil, fun d hd => (by cases hd)⟩, rfl, fun k s h => (by cases h), hm.m, hm.inj, hm.out, hm.dlt, hm.h, ha⟩⟩
theorem bare_mem {X : Cx} {σ : Sg} {a : Act} {w : World} (h : Sat X σ a w) : ∃ β D, Mem σ β D w ∧ Amb X σ.z β D w := by
 obtain ⟨β, D, h⟩ := h
 exact ⟨β, D, h.mem, h.amb⟩
theorem Mem.holds {σ : Sg} {β : Nat → Nat} {D : Nat → Prop} {w w0 : World} (hm : Mem σ β D w) {b : Nat} (hb : ∀ w', σ.h w' → w'.heap[b]? = w0.heap[b]?) (hlt : b < w.heap.size) : D b := by
 refine Classical.byContradiction fun hD => ?_
 have h0 := hb w (hm.h w (Chg.refl _ _))
 have hne : ∃ o : Obj, w.heap[b]? ≠ some o := by
  by_cases h : w.heap[b]? = some (.cells #[] 0)
  · exact ⟨.cells #[undef] 0, by rw [h]; simp⟩
  · exact ⟨_, h⟩
 obtain ⟨o, ho⟩ := hne
 have h2 := hb { w with heap := w.heap.setIfInBounds b o } (hm.h _ ⟨rfl, rfl, rfl, by simp, fun k _ hk => by
  have hne : b ≠ k := fun e => hk (by subst e; exact hD)
  show (w.heap.setIfInBounds b o)[k]? = _
  rw [Array.getElem?_setIfInBounds_ne hne]⟩)
 rw [← h0] at h2
 have h3 : (w.heap.setIfInBounds b o)[b]? = some o := by simp [hlt]
 have h2 : (w.heap.setIfInBounds b o)[b]? = w.heap[b]? := h2
 rw [h3] at h2
 exact ho h2.symm
def Rest (X : Cx) (dl : List Nat) (m0 : List (Nat × Blk)) (β : Nat → Nat) (bb : Nat) (w : World) (b : Nat) : Prop :=
 b < w.heap.size ∧ (∀ i bk, lk m0 i = some bk → bk.live = true → β i ≠ b) ∧ b ≠ bb ∧ (∀ p ∈ X.L, p.1 ≠ b) ∧ b ∉ dl ∧ b ∉ X.pr
section
variable {P : Program} (T : Env P)
theorem rec_call (hm : P.follows .mixedOrders = true) {k : Nat} {fn : Func} {c : Code} (hfn : P.funcs[k]? = some fn) (hb : fn.body = some c) {nt : Nat} (hnt : fn.ntmps = nt)
 {N K0 : Nat} {m0 : List (Nat × Blk)} {z0 : Gz} {W0 : World} {rs : List SV} {n cc : Nat} {xs : List Value} {ty : TypeId} (S : Sg → Prop) (pt : Prop)
 (hlen : rs.length + 1 ≤ nt) (hrs : SV.lts N rs = true) (hm0 : ∀ i b, lk m0 i = some b → i < N ∧ b.lt N = true) (hg0 : ∀ k s, lk z0.g k = some s → s.lt N = true)
 (hlow : gLow K0 z0.g = true) (hlq : qLow K0 z0.d z0.q = true)
 (hS : ∀ σs, S σs → gLow K0 σs.z.g = true ∧ qLow K0 z0.d σs.z.q = true)
 (hvc : ∀ h' : World → Prop, (∀ w', h' w' → Below W0.heap.size W0 w') → ∀ cur : List Value, (cc ≤ cur.length ∧ cur.length ≤ maxLen) → cur.take n = xs →
  VC P c ⟨nt, slotsOf 0 (.sl N 0 n cc :: rs), (N, .cells (cur.map .v) ty) :: m0, N + 1, h', ⟨(K0, .ptr N 0) :: z0.g, z0.q, z0.d⟩⟩ (endΦ T fn fun s σ' =>
   (s = .v (.bool true) ∧ pt ∧ ∃ cur' : List Value, (cc ≤ cur'.length ∧ cur'.length ≤ maxLen) ∧ cur'.take n = xs ∧ Ent σ'.bare ⟨0, [], (N, .cells (cur'.map .v) ty) :: m0, N + 1, h', ⟨(K0, .ptr N 0) :: z0.g, z0.q, z0.d⟩⟩) ∨
   (s = .v (.bool false) ∧ ∃ σs, S σs ∧ Ent σ'.bare σs)))
 {σ : Sg} {s0 : SV} {X : Cx} {β : Nat → Nat} {D : Nat → Prop} {a : Act} {w : World} {bb : Nat} {cur : List Value}
 (hs : Sat' X σ β D a w) (hB : ∀ w', σ.h w' → Below W0.heap.size W0 w') (hmm : ∀ i b, lk m0 i = some b → lk σ.m i = some b) (hz : ∀ k s, lk z0.g k = some s → lk σ.z.g k = some s) (hq : σ.z.q = z0.q) (hd : σ.z.d = z0.d)
 (hs0 : s0.c β = .slice (some ⟨bb, 0, none⟩) n cc) (hcur : w.heap[bb]? = some (.cells cur.toArray ty (0, 0))) (hcl : cc ≤ cur.length ∧ cur.length ≤ maxLen) (hcx : cur.take n = xs)
 (hbD : ¬ D bb) (hbo : ∀ i b, lk m0 i = some b → b.live = true → β i ≠ bb) :
 ∃ dl : List Nat, a.defers = dl.map (fun d => { target := .collected d, args := #[] }) ∧ (∀ b, D b → Rest X dl m0 β bb w b) ∧
 Calls P k (SV.cs β (s0 :: rs)).toArray w fun e w' =>
  (e = .returned (.bool true) ∧ pt ∧ ∃ (β' : Nat → Nat) (cur' : List Value), (cc ≤ cur'.length ∧ cur'.length ≤ maxLen) ∧ cur'.take n = xs ∧ w'.heap[bb]? = some (.cells cur'.toArray ty (0, 0)) ∧
   Mem ⟨0, [], m0, N, σ.h, z0⟩ β' D w' ∧ Amb X z0 β' D w' ∧ Dfr X.pr D a.defers w' ∧ (∀ i b, lk m0 i = some b → b.live = true → β' i ≠ bb ∧ ¬ Rest X dl m0 β bb w (β' i)) ∧ (∀ b, Rest X dl m0 β bb w b → w'.heap[b]? = w.heap[b]?)) ∨
  (e = .returned (.bool false) ∧ ∃ (σs : Sg) (β' : Nat → Nat) (D' : Nat → Prop), S σs ∧ Mem σs β' D' w' ∧ Amb X σs.z β' D' w' ∧ Dfr X.pr D' a.defers w') := by
 obtain ⟨dl, d1, d2, d3⟩ := hs.defers
 refine ⟨dl, d1, fun b hb => ⟨hs.dlt b hb, fun i bk h1 h2 he => hs.out i bk (hmm i bk h1) h2 (he ▸ hb), fun he => hbD (he ▸ hb), fun p hp he => (hs.amb.la p hp).2 (he ▸ hb), fun hdl => (d3 b hdl).2.1 hb, fun hp => (hs.amb.pr b hp).2 hb⟩, ?_⟩
 have hDR : ∀ b, D b → Rest X dl m0 β bb w b := fun b hb => ⟨hs.dlt b hb, fun i bk h1 h2 he => hs.out i bk (hmm i bk h1) h2 (he ▸ hb), fun he => hbD (he ▸ hb), fun p hp he => (hs.amb.la p hp).2 (he ▸ hb), fun hdl => (d3 b hdl).2.1 hb, fun hp => (hs.amb.pr b hp).2 hb⟩
 generalize hR : Rest X dl m0 β bb w = R at *
 have hRs : ∀ b, R b → b < w.heap.size := fun b hb => by rw [← hR] at hb; exact hb.1
 let X' : Cx := ⟨fun j => if j = K0 then .pointer (some ⟨bb, 0, none⟩) else X.G j, X.L, dl ++ X.pr⟩
 let βc : Nat → Nat := fun x => if x = N then bb else β x
 have hβN : βc N = bb := by simp [βc]
 have hβ : ∀ x, x < N → βc x = β x := fun x hx => by simp only [βc]; rw [if_neg (by omega)]
 have hav : ∀ {s : SV}, s.lt N = true → s.c βc = s.c β := fun {s} hs => SV.c_congr (fr := List.range' N 1) (fun i hi => by simp only [βc]; rw [if_neg (by simpa [List.mem_range'_1] using hi)]) s (SV.lt_av s hs)
 have havs : ∀ {l : List SV}, SV.lts N l = true → SV.cs βc l = SV.cs β l := fun {l} hl => SV.cs_congr (fr := List.range' N 1) (fun i hi => by simp only [βc]; rw [if_neg (by simpa [List.mem_range'_1] using hi)]) l (SV.lts_avs l hl)
 let zc : Gz := ⟨(K0, .ptr N 0) :: z0.g, z0.q, z0.d⟩
 let h' : World → Prop := fun w' => σ.h w' ∧ Chg (fun b => ¬ R b) w w'
 let m1 : List (Nat × Blk) := (N, .cells (cur.map .v) ty) :: m0
 have hcsv : ∀ (γ : Nat → Nat) (l : List Value), SV.cs γ (l.map .v) = l := fun γ l => by rw [SV.cs_eq, List.map_map]; exact (List.map_congr_left fun _ _ => rfl).trans (List.map_id l)
 have hml : ∀ i b, lk m1 i = some b → (i = N ∧ b = .cells (cur.map .v) ty) ∨ (i ≠ N ∧ lk m0 i = some b) := fun i b h => by
  by_cases hi : i = N
  · subst hi; rw [lk_cons_eq] at h; exact .inl ⟨rfl, (Option.some.inj h).symm⟩
  · rw [lk_cons_ne hi] at h; exact .inr ⟨hi, h⟩
 have hmem : Mem ⟨nt, slotsOf 0 (.sl N 0 n cc :: rs), m1, N + 1, h', zc⟩ βc R w := by
  refine ⟨fun i b hi => ?_, fun i j bi bj hi hj li lj hne => ?_, fun i b hi hl => ?_, hRs, fun w' hc => ?_⟩
  · rcases hml i b hi with ⟨rfl, rfl⟩ | ⟨hne, h⟩
    · rw [hβN]; simp only [Blk.ok, hcsv]; exact hcur
    · have hlt := hm0 i b h
      rw [hβ i hlt.1]
      exact Blk.ok_congr (fr := List.range' N 1) (fun j hj => by simp only [βc]; rw [if_neg (by simpa [List.mem_range'_1] using hj)]) b (Blk.lt_av b hlt.2) (fun _ => rfl) (hs.m i b (hmm i b h))
  · rcases hml i bi hi with ⟨e1, e2⟩ | ⟨hni, hi2⟩
    · rcases hml j bj hj with ⟨e3, e4⟩ | ⟨hnj, hj2⟩
      · exact absurd (e1.trans e3.symm) hne
      · rw [e1, hβN, hβ j (hm0 j bj hj2).1]; exact fun e => hbo j bj hj2 lj e.symm
    · rcases hml j bj hj with ⟨e3, e4⟩ | ⟨hnj, hj2⟩
      · rw [e3, hβN, hβ i (hm0 i bi hi2).1]; exact hbo i bi hi2 li
      · rw [hβ i (hm0 i bi hi2).1, hβ j (hm0 j bj hj2).1]; exact hs.inj i j bi bj (hmm i bi hi2) (hmm j bj hj2) li lj hne
  · rw [← hR]
    rcases hml i b hi with ⟨rfl, rfl⟩ | ⟨hni, hi⟩
    · rw [hβN]; exact fun h => h.2.2.1 rfl
    · rw [hβ i (hm0 i b hi).1]; exact fun h => h.2.1 i b hi hl rfl
  · exact ⟨hs.h w' ⟨hc.os, hc.tape, hc.output, hc.size, fun b hb hn => hc.same b hb fun hn2 => hn2 (hDR b (Classical.byContradiction hn))⟩, hc⟩
 have hgl := gLow_lk hlow
 have hql := qLow_lk hlq
 have hG0 : ∀ j, j < K0 → X'.G j = X.G j := fun j hj => by simp only [X']; rw [if_neg (by omega)]
 have hFit : ∀ e : LE, e.base + e.nt ≤ K0 → ∀ r, LE.Fit e X.G r ↔ LE.Fit e X'.G r := fun e he r =>
  ⟨fun hf => ⟨hf.ps, hf.asg, hf.bdy, hf.nt, fun k hk => by rw [hG0 _ (by omega)]; exact hf.G k hk⟩, fun hf => ⟨hf.ps, hf.asg, hf.bdy, hf.nt, fun k hk => by rw [← hG0 _ (by omega)]; exact hf.G k hk⟩⟩
 have hamb : Amb X' zc βc R w := by
  refine ⟨fun j s hj => ?_, fun p hp => ⟨(hs.amb.la p hp).1, fun h => by rw [← hR] at h; exact h.2.2.2.1 p hp rfl⟩, fun j e hj => ?_, hs.amb.dep.trans hd, hs.amb.nd, fun d hd' => ?_⟩
  · by_cases hj0 : j = K0
    · subst hj0
      have : s = .ptr N 0 := by rw [lk_cons_eq] at hj; exact (Option.some.inj hj).symm
      subst this
      simp only [X', SV.c, hβN, if_true]
    · rw [lk_cons_ne hj0] at hj
      rw [hG0 j (hgl j s hj), hs.amb.g j s (hz j s hj), hav (hg0 j s hj)]
  · obtain ⟨r', h1, h2, h3⟩ := hs.amb.lq j e (by rw [hq]; exact hj)
    exact ⟨r', h1, (hFit e (hql j e hj).1 r').1 h2, h3⟩
  · refine ⟨?_, fun h => ?_⟩
    · rcases List.mem_append.1 hd' with hd' | hd'
      · exact (d3 d hd').1
      · exact (hs.amb.pr d hd').1
    · rw [← hR] at h
      rcases List.mem_append.1 hd' with hd' | hd'
      · exact h.2.2.2.2.1 hd'
      · exact h.2.2.2.2.2 hd'
 have hcall := calls_VC T hm hfn hb hnt (args := .sl N 0 n cc :: rs) (m0 := m1) (nb0 := N + 1) (h := h') (z0 := zc) (by simpa using hlen) (by
  simp only [SV.lts, SV.lt, Bool.and_eq_true, Nat.blt_eq]; exact ⟨Nat.lt_succ_self N, SV.lts_mono (Nat.le_succ N) rs hrs⟩) (fun i b hi => by
  rcases hml i b hi with ⟨rfl, rfl⟩ | ⟨hni, hi⟩
  · exact ⟨Nat.lt_succ_self _, lts_v _ _⟩
  · exact ⟨Nat.lt_succ_of_lt (hm0 i b hi).1, Blk.lt_mono (Nat.le_succ N) b (hm0 i b hi).2⟩) (fun j s hj => by
  by_cases hj0 : j = K0
  · subst hj0
    have : s = .ptr N 0 := by rw [lk_cons_eq] at hj; exact (Option.some.inj hj).symm
    subst this
    simp only [SV.lt, Nat.blt_eq]; exact Nat.lt_succ_self N
  · rw [lk_cons_ne hj0] at hj; exact SV.lt_mono (Nat.le_succ N) s (hg0 j s hj)) (hvc h' (fun w' hw => hB w' hw.1) cur hcl hcx) X' hamb hmem
 have harg : SV.cs βc (.sl N 0 n cc :: rs) = SV.cs β (s0 :: rs) := by
  simp only [SV.cs, SV.c, hβN, hs0, havs hrs]
 rw [harg] at hcall
 refine hcall.mono fun e w' ⟨s, σ', β1, D1, he, hK, hok', _, hmem1, hamb1⟩ => ?_
 rcases hK with ⟨rfl, hpt, cur', hl', hx', hE⟩ | ⟨rfl, σs, hSs, hE⟩
 · refine .inl ⟨he, hpt, ?_⟩
   obtain ⟨β', D', hm', ha'⟩ := bare_mem (hE X' act0 w' (sat_bare hmem1 hamb1))
   have hN : β' N = bb := by
    have h1 : X'.G K0 = SV.c β' (.ptr N 0) := ha'.g K0 (.ptr N 0) lk_cons_eq
    simp only [X', if_true, SV.c, Value.pointer.injEq, Option.some.injEq, Addr.mk.injEq] at h1
    exact h1.1.symm
   have hh := hm'.h w' (Chg.refl _ _)
   have hsz : w.heap.size ≤ w'.heap.size := hh.2.size
   have hRD : ∀ b, R b → D' b := fun b hb => hm'.holds (w0 := w) (fun w2 h2 => h2.2.same b (hRs b hb) fun h => h hb) (Nat.lt_of_lt_of_le (hRs b hb) hsz)
   have hup : ∀ i b, lk m0 i = some b → lk ((N, Blk.cells (cur'.map .v) ty) :: m0) i = some b := fun i b h => by
    rw [lk_cons_ne (by have := (hm0 i b h).1; omega)]; exact h
   have hbb : Blk.ok β' w' (β' N) (.cells (cur'.map .v) ty) := hm'.m N _ lk_cons_eq
   rw [hN] at hbb
   simp only [Blk.ok, hcsv] at hbb
   refine ⟨β', cur', hl', hx', hbb, ⟨fun i b hi => hm'.m i b (hup i b hi), fun i j bi bj hi hj => hm'.inj i j bi bj (hup i bi hi) (hup j bj hj), fun i b hi hl h => hm'.out i b (hup i b hi) hl (hRD _ (hDR _ h)), fun b hb => Nat.lt_of_lt_of_le (hs.dlt b hb) hsz, fun w2 hc => hs.h w2 ?_⟩,
    ⟨fun j s hj => ?_, fun p hp => ⟨(ha'.la p hp).1, fun h => (ha'.la p hp).2 (hRD _ (hDR _ h))⟩, fun j e hj => ?_, hs.amb.dep.trans hd, hs.amb.nd, fun d hd' => ⟨(ha'.pr d (List.mem_append.2 (.inr hd'))).1, fun h => (ha'.pr d (List.mem_append.2 (.inr hd'))).2 (hRD _ (hDR _ h))⟩⟩,
    ⟨dl, d1, d2, fun d hd' => ⟨(ha'.pr d (List.mem_append.2 (.inl hd'))).1, (d3 d hd').2⟩⟩, fun i b hi hl => ⟨fun h => ?_, fun h => hm'.out i b (hup i b hi) hl (hRD _ h)⟩, fun b hb => hh.2.same b (hRs b hb) fun h => h hb⟩
   · refine ⟨hc.os.trans hh.2.os, hc.tape.trans hh.2.tape, hc.output.trans hh.2.output, Nat.le_trans hsz hc.size, fun b hlt hn => ?_⟩
     have hDb : D b := Classical.byContradiction hn
     exact (hc.same b (Nat.lt_of_lt_of_le hlt hsz) fun h => h hDb).trans (hh.2.same b hlt fun h => h (hDR b hDb))
   · have hj0 := hgl j s hj
     rw [← hG0 j hj0]
     exact ha'.g j s (by show lk ((K0, SV.ptr N 0) :: z0.g) j = _; rw [lk_cons_ne (by omega)]; exact hj)
   · obtain ⟨r', h1, h2, h3⟩ := ha'.lq j e hj
     exact ⟨r', h1, (hFit e (hql j e hj).1 r').2 h2, h3⟩
   · exact hm'.inj i N b _ (hup i b hi) lk_cons_eq hl rfl (by have := (hm0 i b hi).1; omega) (h.trans hN.symm)
 · refine .inr ⟨he, ?_⟩
   obtain ⟨β', D', hm', ha'⟩ := bare_mem (hE X' act0 w' (sat_bare hmem1 hamb1))
   obtain ⟨s1, s2⟩ := hS σs hSs
   refine ⟨σs, β', D', hSs, hm', ⟨fun j s hj => ?_, ha'.la, fun j e hj => ?_, ha'.dep, ha'.nd, fun d hd' => ha'.pr d (List.mem_append.2 (.inr hd'))⟩, ⟨dl, d1, d2, fun d hd' => ⟨(ha'.pr d (List.mem_append.2 (.inl hd'))).1, (ha'.pr d (List.mem_append.2 (.inl hd'))).2, (d3 d hd').2.2⟩⟩⟩
   · rw [← hG0 j (gLow_lk s1 j s hj)]
     exact ha'.g j s hj
   · obtain ⟨r', h1, h2, h3⟩ := ha'.lq j e hj
     exact ⟨r', h1, (hFit e (qLow_lk s2 j e hj).1 r').2 h2, h3⟩
end
end Go.Proofs.YtkbfcofifhngfaaGreat.Tx
namespace Go.Proofs.YtkbfcofifhngfaaGreat.Tx
open Go Go.RowKit
theorem appR {P : Program} (T : Env P) {dst : Option Tmp} {ty : TypeId} {pos : String} {after : Array Edge} {gd : Option (Nat × Bool)} {gs : List Nat} {σ : Sg} {K : Ef → Prop} {x y : Operand} {t e : TypeId} {bytes : Nat} {zero : List Value} {kd : TK} {sz : Nat} {zr : List Value} {by_ : Nat}
 (i1 i2 n1 c1 c2 : Nat) (cur : List Value) (v : Value) (ty2 : TypeId)
 (hx : gv σ x = some (.sl i1 0 n1 c1)) (hy : gv σ y = some (.sl i2 0 1 c2)) (hm1 : lk σ.m i1 = some (.cells (cur.map .v) e)) (hm2 : lk σ.m i2 = some (.cells [.v v] ty2)) (ht : T.ty t = some ⟨sz, zr, by_, .slice e⟩) (he : T.ty e = some ⟨1, zero, bytes, kd⟩)
 (h1 : v.oneCell' = true) (hcl : c1 ≤ cur.length) (hcm : cur.length ≤ maxLen) (hroom : n1 < c1) (hi1 : i1 < σ.nb)
 (hB : efB σ ⟨.sl i1 0 (n1 + 1) c1, [σ.nb], [(i1, .own σ.nb c1 1 ((cur.take n1 ++ [v] ++ cur.drop (n1 + 1)).take c1) e)], gs ++ (os x ++ os y), [i1, i2]⟩ = true)
 (hK : K ⟨.sl i1 0 (n1 + 1) c1, [σ.nb], [(i1, .own σ.nb c1 1 ((cur.take n1 ++ [v] ++ cur.drop (n1 + 1)).take c1) e)], gs ++ (os x ++ os y), [i1, i2]⟩) :
 OpEv P ⟨dst, .call ⟨.builtin .append, #[x, y], #[t, t]⟩, ty, pos, after, gd⟩ gs σ K := by
 refine .mk _ hB (fun k hk => by simp [hk]) rfl (fun β a w hs => ?_) hK
 have hu := under_slice (T.tok t _ ht) rfl
 obtain ⟨i0, z, q1, q2, q3, q4, q5⟩ := (T.tok e _ he).row
 have q2 : i0.size = 1 := q2
 have e1 := gv_eval hs hx (fun k hk => by simp [hk])
 have e2 := gv_eval hs hy (fun k hk => by simp [hk])
 have e3 : w.heap[β i2]? = some (.cells #[v] ty2 (0, 0)) := by
  have := hs.m i2 (by simp) _ hm2
  simpa [Blk.ok, SV.cs, SV.c] using this
 have e4 : w.heap[β i1]? = some (.cells cur.toArray e (0, 0)) := by
  have := hs.m i1 (by simp) _ hm1
  simp only [Blk.ok, cs_v] at this
  exact this
 have hcells : ∀ j u, [v][j]? = some u → w.cell? ((⟨β i2, 0, none⟩ : Addr).add j) = some u := fun j u hj => by
  rw [own_add, cell_of_row w (β i2) (0 + j) _ ty2 (0, 0) e3, List.getElem?_toArray, Nat.zero_add]
  exact hj
 have hr := run_append_room (P := P) w t ty e i0 hu q1 (β i1) n1 c1 cur.toArray e4 ⟨β i2, 0, none⟩ 1 c2 [v] (by simp [q2]) hcells (fun u hu => by simp at hu; rw [hu]; exact h1) (by omega) (by simp [q2]; omega)
 rw [q2] at hr
 simp only [Nat.mul_one, List.length_singleton, List.toList_toArray] at hr
 have hlt : β i1 < w.heap.size := (Array.getElem?_eq_some_iff.1 e4).1
 have hfull : (cur.take n1 ++ [v] ++ cur.drop (n1 + 1)).length = cur.length := by simp; omega
 refine ⟨fun i => if i = σ.nb then cur.length else β i, w.setRow (β i1) (cur.take n1 ++ [v] ++ cur.drop (n1 + 1)).toArray, ⟨fun i hi => ?_, ?_, fun i bk hi => ?_, fun i hi hL => ?_, fun i hi j hj hL hL' hne => ?_⟩, .inl ?_⟩
 · simp only [List.mem_singleton] at hi
   simp [hi]
 · exact ⟨rfl, rfl, rfl, by simp, fun b hb hX => setRow_other w (β i1) b _ fun h => hX ⟨i1, _, List.mem_singleton.2 rfl, by simp; omega, h.symm⟩⟩
 · simp only [List.mem_singleton, Prod.mk.injEq] at hi
   obtain ⟨rfl, rfl⟩ := hi
   have hne : ¬ i = σ.nb := by omega
   simp only [Blk.ok, if_true, if_neg hne]
   refine ⟨by rw [List.length_take, hfull]; omega, .inr ⟨β i, cur.length, _, rfl, Nat.zero_le _, setRow_heap w _ _ _ e (0, 0) e4, hcl, hcm, by rw [List.size_toArray, hfull]; omega, ?_⟩⟩
   rw [Nat.mul_one]
 · obtain ⟨bk, hbk, _⟩ := hL
   simp only [List.mem_singleton, Prod.mk.injEq] at hbk hi
   omega
 · obtain ⟨bk, hbk, _⟩ := hL
   simp only [List.mem_singleton, Prod.mk.injEq] at hbk hi
   omega
 · have hx0 : (#[x, y] : Array Operand).map a.eval = #[a.eval x, a.eval y] := by simp
   have hne : ¬ i1 = σ.nb := by omega
   simp only [execOp, resolve, invoke, builtin, hx0, e1, e2, SV.c] at hr ⊢
   simp only [Sem.run_bind, Sem.run_pure, Result.andThen_ok, hr, SV.c, if_neg hne]
theorem appW {P : Program} (T : Env P) {dst : Option Tmp} {ty : TypeId} {pos : String} {after : Array Edge} {gd : Option (Nat × Bool)} {gs : List Nat} {σ : Sg} {K : Ef → Prop} {x y : Operand} {t e : TypeId} {bytes : Nat} {zero : List Value} {kd : TK} {sz : Nat} {zr : List Value} {by_ : Nat}
 (i1 i2 n1 c1 c2 : Nat) (cur : List Value) (v : Value) (ty2 : TypeId)
 (hx : gv σ x = some (.sl i1 0 n1 c1)) (hy : gv σ y = some (.sl i2 0 1 c2)) (hm1 : lk σ.m i1 = some (.cells (cur.map .v) e)) (hm2 : lk σ.m i2 = some (.cells [.v v] ty2)) (ht : T.ty t = some ⟨sz, zr, by_, .slice e⟩) (he : T.ty e = some ⟨1, zero, bytes, kd⟩)
 (h03 : zero.length = 1) (hcl : c1 ≤ cur.length) (hn : n1 ≤ c1) (hroom : c1 < n1 + 1) (c2' : n1 + 1 ≤ 9223372036854775807) (c3 : (n1 + 1) * bytes ≤ 140737488355328)
 (hB : efB σ ⟨.os σ.nb (σ.nb + 1) (n1 + 1), [σ.nb, σ.nb + 1], [(σ.nb, .own (σ.nb + 1) (n1 + 1) 1 (cur.take n1 ++ [v]) e)], gs ++ (os x ++ os y), [i1, i2]⟩ = true)
 (hK : K ⟨.os σ.nb (σ.nb + 1) (n1 + 1), [σ.nb, σ.nb + 1], [(σ.nb, .own (σ.nb + 1) (n1 + 1) 1 (cur.take n1 ++ [v]) e)], gs ++ (os x ++ os y), [i1, i2]⟩) :
 OpEv P ⟨dst, .call ⟨.builtin .append, #[x, y], #[t, t]⟩, ty, pos, after, gd⟩ gs σ K := by
 refine .mk _ hB (fun k hk => by simp [hk]) rfl (fun β a w hs => ?_) hK
 have hu := under_slice (T.tok t _ ht) rfl
 obtain ⟨i0, z, q1, q2, q3, q4, q5⟩ := (T.tok e _ he).row
 have q2 : i0.size = 1 := q2
 have q5 : i0.bytes = bytes := q5
 have hzs : z.cells.size = 1 := by rw [← h03]; exact congrArg List.length q4
 have e1 := gv_eval hs hx (fun k hk => by simp [hk])
 have e2 := gv_eval hs hy (fun k hk => by simp [hk])
 have e3 : w.heap[β i2]? = some (.cells #[v] ty2 (0, 0)) := by
  have := hs.m i2 (by simp) _ hm2
  simpa [Blk.ok, SV.cs, SV.c] using this
 have e4 : w.heap[β i1]? = some (.cells cur.toArray e (0, 0)) := by
  have := hs.m i1 (by simp) _ hm1
  simp only [Blk.ok, cs_v] at this
  exact this
 have hcells : ∀ j u, [v][j]? = some u → w.cell? ((⟨β i2, 0, none⟩ : Addr).add j) = some u := fun j u hj => by
  rw [own_add, cell_of_row w (β i2) (0 + j) _ ty2 (0, 0) e3, List.getElem?_toArray, Nat.zero_add]
  exact hj
 have hxl : (cur.take n1).length = n1 * i0.size := by rw [q2, List.length_take]; omega
 have hr := run_append_grow (P := P) w t ty e i0 z hu q1 q3 ⟨β i1, 0, none⟩ n1 c1 (cur.take n1) hxl (fun j u hj => by
  rw [own_add, cell_of_row w (β i1) (0 + j) _ e (0, 0) e4, List.getElem?_toArray, Nat.zero_add]
  rw [List.getElem?_take] at hj
  split at hj
  · exact hj
  · cases hj) ⟨β i2, 0, none⟩ 1 c2 [v] (by simp [q2]) hcells hroom (by omega) (by rw [q5]; exact growslice_fits (by omega) c3)
 have hge := grownCap_ge w (n1 + 1) c1 e
 have hcm : grownCap w (n1 + 1) c1 e ≤ maxLen := grownCap_le_maxLen w (n1 + 1) c1 e (by simp only [maxLen]; omega)
 have hlen : (cur.take n1 ++ [v]).length = (n1 + 1) * 1 := by rw [List.length_append, hxl, q2]; simp
 generalize hXS : cur.take n1 = xs at *
 generalize grownCap w (n1 + 1) c1 e = gc at hr hge hcm
 generalize hw2 : w.drew.alloc (.cells (xs.toArray ++ [v].toArray ++ Builtin.zeroCells z.cells (gc - (n1 + 1))) e) = w2 at hr
 have hnew : w2.heap[w.heap.size]? = some (.cells (xs.toArray ++ [v].toArray ++ Builtin.zeroCells z.cells (gc - (n1 + 1))) e (0, 0)) := by rw [← hw2]; exact heap_alloc_new w.drew _
 have hold : ∀ k, k < w.heap.size → w2.heap[k]? = w.heap[k]? := fun k hk => by rw [← hw2]; exact heap_alloc_old w.drew _ hk
 refine ⟨fun i => if i = σ.nb then w.heap.size else if i = σ.nb + 1 then gc else β i, w2, ⟨fun i hi => ?_, ⟨by rw [← hw2]; rfl, by rw [← hw2]; rfl, by rw [← hw2]; rfl, by rw [← hw2]; simp, fun b hb _ => hold b hb⟩, fun i bk hi => ?_, fun i hi hL => ?_, fun i hi j hj hL hL' hne => ?_⟩, .inl ?_⟩
 · simp only [List.mem_cons, List.not_mem_nil, or_false, not_or] at hi
   simp [hi.1, hi.2]
 · simp only [List.mem_singleton, Prod.mk.injEq] at hi
   obtain ⟨rfl, rfl⟩ := hi
   have hn1 : ¬ (σ.nb + 1 = σ.nb) := by omega
   simp only [Blk.ok, if_true, if_neg hn1]
   refine ⟨hlen, .inr ⟨w.heap.size, gc, _, rfl, Nat.zero_le _, hnew, hge, hcm, ?_, ?_⟩⟩
   · rw [q2, Nat.mul_one] at hxl
     simp only [Array.size_append, List.size_toArray, size_zeroCells, hzs, hxl, List.length_singleton]
     omega
   · simp only [Array.toList_append, List.append_assoc]
     rw [← List.append_assoc, ← hlen]
     exact List.take_left
 · obtain ⟨bk, hbk, _⟩ := hL
   simp only [List.mem_singleton, Prod.mk.injEq] at hbk
   obtain ⟨rfl, _⟩ := hbk
   exact .inl (by simp)
 · obtain ⟨bk, hbk, _⟩ := hL
   obtain ⟨bk', hbk', _⟩ := hL'
   simp only [List.mem_singleton, Prod.mk.injEq] at hbk hbk'
   exact absurd (hbk.1.trans hbk'.1.symm) hne
 · have : ¬ σ.nb + 1 = σ.nb := by omega
   have hx0 : (#[x, y] : Array Operand).map a.eval = #[a.eval x, a.eval y] := by simp
   simp only [execOp, resolve, invoke, builtin, hx0, e1, e2, SV.c] at hr ⊢
   simp only [Sem.run_bind, Sem.run_pure, Result.andThen_ok, hr, SV.c, if_true, this, if_false]
theorem yield_give {P : Program} {nt nb : Nat} {t : List (Nat × SV)} {m m' : List (Nat × Blk)} {h : World → Prop} {z : Gz} {l i j n : Nat} {ks : KT} {L : List Int} {xs : List Value} {ty : TypeId} (hxs : xs = L.flatMap iF) (hn : n = L.length)
 (hm : lk m i = some (.own j n 1 xs ty)) (hms : MSub m m') (hi : lk m' i = none) {W0 : World} (hB : ∀ w', h w' → Below W0.heap.size W0 w')
 (hY : ∀ (o : Option Addr) (c : Nat), YOK P ⟨nt, t, m', nb, fun w => h w ∧ St W0.heap.size (Rd 1 iF (.slice o n c) L) w, z⟩ l [.v (.slice o n c)] ks) : YEv P ⟨nt, t, m, nb, h, z⟩ l [.os i j n] (some ks) := by
 refine .mk ks rfl fun X β D a w hok hs => ?_
 have hbk := hs.m i _ hm
 simp only [Blk.ok] at hbk
 have hrd : ∀ w', w'.heap[β i]? = w.heap[β i]? → Rd 1 iF (.slice (some ⟨β i, 0, none⟩) n (β j)) L w' := fun w' hw => by
  refine Rd.of_owns (sz := 1) (f := iF) (base := 0) (ty := ty) (xs := xs) (fun _ => rfl) hxs hn ⟨hbk.1, ?_⟩
  rcases hbk.2 with ⟨h0, _⟩ | ⟨g, cap, cur, h0, h1, h2, h3⟩
  · cases h0
  · have hg := h0
    simp only [Value.slice.injEq, Option.some.injEq, Addr.mk.injEq] at hg
    obtain ⟨⟨rfl, _⟩, _⟩ := hg
    exact .inr ⟨_, cap, cur, h0, h1, hw.trans h2, h3⟩
 obtain ⟨ob, ho1, ho2⟩ := Blk.ok_cells (k := .own j n 1 xs ty) rfl (hs.m i _ hm)
 have hlt : β i < w.heap.size := (Array.getElem?_eq_some_iff.1 ho1).1
 have hge : W0.heap.size ≤ β i := Nat.le_of_not_lt fun hl => hs.out i _ hm rfl (hs.mem.old hB hl)
 have hno : ∀ (b : Nat) (o : Obj), w.heap[b]? = some o → Other o → b ≠ β i := fun b o hb hO e => by
  subst e; rw [ho1] at hb; cases hb; exact hO ho2
 have hok2 : Sg.Ok ⟨nt, t, m', nb, fun w' => h w' ∧ St W0.heap.size (Rd 1 iF (.slice (some ⟨β i, 0, none⟩) n (β j)) L) w', z⟩ := ⟨⟨hok.wf.t, hok.wf.g, fun k b hk => hok.wf.m k b (hms.get k b hk)⟩, hok.lt⟩
 refine (hY (some ⟨β i, 0, none⟩) (β j) X β (fun b => D b ∨ b = β i) a w hok2 ⟨?_, hs.size, hs.t, fun k b hk => hs.m k b (hms.get k b hk), fun k1 k2 b1 b2 h1 h2 => hs.inj k1 k2 b1 b2 (hms.get _ _ h1) (hms.get _ _ h2), fun k b hk hl hD => ?_, fun b hb => ?_, fun w' hc => ⟨hs.h w' ⟨hc.os, hc.tape, hc.output, hc.size, fun b hb hX => hc.same b hb fun hn => hX fun hD => hn (.inl hD)⟩, fun w2 hk => hrd w2 ((hk.same _ hge (Nat.lt_of_lt_of_le hlt hc.size)).trans (hc.same _ hlt fun hn => hn (.inr rfl)))⟩, ?_⟩)
 · obtain ⟨dl, d1, d2, d3⟩ := hs.defers
   exact ⟨dl, d1, d2, fun d hd => ⟨(d3 d hd).1, fun hD => hD.elim (d3 d hd).2.1 (hno d _ (d3 d hd).1 (fun h => h)), (d3 d hd).2.2⟩⟩
 · rcases hD with hD | hD
   · exact hs.out k b (hms.get k b hk) hl hD
   · by_cases hki : k = i
     · subst hki; rw [hi] at hk; cases hk
     · exact hs.inj k i b _ (hms.get k b hk) hm hl rfl hki hD
 · rcases hb with hb | hb
   · exact hs.dlt b hb
   · rw [hb]; exact hlt
 · refine ⟨hs.amb.g, fun p hp => ⟨(hs.amb.la p hp).1, fun hD => ?_⟩, hs.amb.lq, hs.amb.dep, hs.amb.nd, fun d hd => ⟨(hs.amb.pr d hd).1, fun hD => hD.elim (hs.amb.pr d hd).2 (hno d _ (hs.amb.pr d hd).1 (fun h => h))⟩⟩
   obtain ⟨⟨st, pd, h1⟩, h2⟩ := hs.amb.la p hp
   exact hD.elim h2 (hno _ _ h1 (fun h => h))
def pinB (N : Nat) (pl : List (Nat × Nat)) : SV → Bool
 | .v _ => true
 | .ptr p _ => pl.any fun q => Nat.beq q.2 p
 | .sl i _ _ _ => Nat.beq i N
 | _ => false
theorem pinB_c {N : Nat} {pl : List (Nat × Nat)} {γ γ' : Nat → Nat} {s : SV} (h : pinB N pl s = true) (hp : ∀ q ∈ pl, γ q.2 = γ' q.2) (hN : γ N = γ' N) : s.c γ = s.c γ' := by
 cases s with
 | v x => rfl
 | ptr p o =>
  obtain ⟨q, h1, h2⟩ := List.any_eq_true.1 h
  have h2 := Nat.eq_of_beq_eq_true h2
  subst h2
  simp only [SV.c, hp q h1]
 | sl i o n c =>
  have h := Nat.eq_of_beq_eq_true h
  subst h
  simp only [SV.c, hN]
 | _ => cases h
def pinsB (N : Nat) (pl : List (Nat × Nat)) : List (Nat × SV) → Bool
 | [] => true
 | (_, s) :: r => pinB N pl s && pinsB N pl r
theorem pinsB_lk {N : Nat} {pl : List (Nat × Nat)} : ∀ {t : List (Nat × SV)}, pinsB N pl t = true → ∀ {k : Nat} {s : SV}, lk t k = some s → pinB N pl s = true
 | [], _, _, _, h => by cases h
 | (j, x) :: r, h, k, s, hk => by
  simp only [pinsB, Bool.and_eq_true] at h
  by_cases hkj : k = j
  · subst hkj; rw [lk_cons_eq] at hk; cases hk; exact h.1
  · rw [lk_cons_ne hkj] at hk; exact pinsB_lk h.2 hk
theorem pins_agree {z0 : Gz} {pl : List (Nat × Nat)} (hpl : ∀ q ∈ pl, lk z0.g q.1 = some (.ptr q.2 0)) {β β' : Nat → Nat} {v : Nat → Value} (h : ∀ k s, lk z0.g k = some s → v k = s.c β) (h' : ∀ k s, lk z0.g k = some s → v k = s.c β') : ∀ q ∈ pl, β q.2 = β' q.2 := fun q hq => by
 have h1 := (h _ _ (hpl q hq)).symm.trans (h' _ _ (hpl q hq))
 simp only [SV.c, Value.pointer.injEq, Option.some.injEq, Addr.mk.injEq] at h1
 exact h1.1
theorem cs_vv (γ : Nat → Nat) (l : List Value) : SV.cs γ (l.map .v) = l := by rw [SV.cs_eq, List.map_map]; exact (List.map_congr_left fun _ _ => rfl).trans (List.map_id l)
theorem sat_back {N K0 nt1 nb1 : Nat} {m0 : List (Nat × Blk)} {z0 : Gz} {h : World → Prop} {X : Cx} {β β' : Nat → Nat} {D : Nat → Prop} {a : Act} {w' : World} {t' : List (Nat × SV)} {b0 : Nat} {cur2 : List Value} {ty : TypeId} {pl : List (Nat × Nat)}
 (hm0 : ∀ i b, lk m0 i = some b → i < N ∧ b.lt N = true) (hg0 : ∀ k s, lk z0.g k = some s → s.lt N = true) (hlow : gLow K0 z0.g = true)
 (hM : Mem ⟨0, [], m0, N, h, z0⟩ β' D w') (hA : Amb X z0 β' D w') (hDf : Dfr X.pr D a.defers w') (hsz : a.tmps.size = nt1) (hT : ∀ k s, lk t' k = some s → a.tmps.getD k undef = s.c β)
 (hpt : pinsB N pl t' = true) (hag : ∀ q ∈ pl, β q.2 = β' q.2) (hpl : ∀ q ∈ pl, q.2 < N) (hb0 : β N = b0) (hG : X.G K0 = .pointer (some ⟨b0, 0, none⟩))
 (hcur : w'.heap[b0]? = some (.cells cur2.toArray ty (0, 0))) (hbD : ¬ D b0) (hbo : ∀ i b, lk m0 i = some b → b.live = true → β' i ≠ b0) :
 ∃ γ, Sat' X ⟨nt1, t', (N, .cells (cur2.map .v) ty) :: m0, nb1, h, ⟨(K0, .ptr N 0) :: z0.g, z0.q, z0.d⟩⟩ γ D a w' := by
 obtain ⟨γ, hγN, hγ⟩ : ∃ γ : Nat → Nat, γ N = b0 ∧ ∀ x, x ≠ N → γ x = β' x := ⟨fun x => if x = N then b0 else β' x, by simp, fun x hx => by simp [hx]⟩
 have hβ : ∀ x, x < N → γ x = β' x := fun x hx => hγ x (by omega)
 have hml : ∀ i b, lk ((N, Blk.cells (cur2.map .v) ty) :: m0) i = some b → (i = N ∧ b = .cells (cur2.map .v) ty) ∨ (i ≠ N ∧ lk m0 i = some b) := fun i b h => by
  by_cases hi : i = N
  · subst hi; rw [lk_cons_eq] at h; exact .inl ⟨rfl, (Option.some.inj h).symm⟩
  · rw [lk_cons_ne hi] at h; exact .inr ⟨hi, h⟩
 have hfr : ∀ i, i ∉ List.range' N 1 → γ i = β' i := fun i hi => hγ i (by simpa [List.mem_range'_1] using hi)
 refine ⟨γ, hDf, hsz, fun k s hk => ?_, fun i b hi => ?_, fun i j bi bj hi hj li lj hne => ?_, fun i b hi hl => ?_, hM.dlt, hM.h, ⟨fun j s hj => ?_, hA.la, hA.lq, hA.dep, hA.nd, hA.pr⟩⟩
 · rw [hT k s hk]
   refine pinB_c (pinsB_lk hpt hk) (fun q hq => ?_) (by rw [hγN, hb0])
   rw [hβ _ (hpl q hq)]; exact hag q hq
 · rcases hml i b hi with ⟨rfl, rfl⟩ | ⟨hni, hi2⟩
   · simp only [Blk.ok, cs_vv, hγN]; exact hcur
   · rw [hβ i (hm0 i b hi2).1]
     exact Blk.ok_congr hfr b (Blk.lt_av b (hm0 i b hi2).2) (fun _ => rfl) (hM.m i b hi2)
 · rcases hml i bi hi with ⟨e1, e2⟩ | ⟨hni, hi2⟩
   · rcases hml j bj hj with ⟨e3, e4⟩ | ⟨hnj, hj2⟩
     · exact absurd (e1.trans e3.symm) hne
     · rw [e1, hβ j (hm0 j bj hj2).1]; rw [hγN]; exact fun e => hbo j bj hj2 lj e.symm
   · rcases hml j bj hj with ⟨e3, e4⟩ | ⟨hnj, hj2⟩
     · rw [e3, hβ i (hm0 i bi hi2).1]; rw [hγN]; exact hbo i bi hi2 li
     · rw [hβ i (hm0 i bi hi2).1, hβ j (hm0 j bj hj2).1]; exact hM.inj i j bi bj hi2 hj2 li lj hne
 · rcases hml i b hi with ⟨rfl, rfl⟩ | ⟨hni, hi2⟩
   · rw [hγN]; exact hbD
   · rw [hβ i (hm0 i b hi2).1]; exact hM.out i b hi2 hl
 · by_cases hj0 : j = K0
   · subst hj0
     have : s = .ptr N 0 := by
      have hj : lk ((j, SV.ptr N 0) :: z0.g) j = some s := hj
      rw [lk_cons_eq] at hj; exact (Option.some.inj hj).symm
     subst this
     simp only [SV.c, hγN]; exact hG
   · have hj : lk ((K0, SV.ptr N 0) :: z0.g) j = some s := hj
     rw [lk_cons_ne hj0] at hj
     rw [hA.g j s hj]
     exact (SV.c_congr hfr s (SV.lt_av s (hg0 j s hj))).symm
end Go.Proofs.YtkbfcofifhngfaaGreat.Tx
namespace Go.Proofs.YtkbfcofifhngfaaGreat.Tx
open Go Go.RowKit
def RecVC (P : Program) (T : Env P) (c : Code) (fn : Func) (nt N K0 : Nat) (m0 : List (Nat × Blk)) (z0 : Gz) (W0 : World) (rs : List SV) (n : Nat) (xs : List Value) (ty : TypeId) (S : Sg → Prop) (pt : Prop) : Prop :=
 ∀ (cc : Nat), n ≤ cc → ∀ (h' : World → Prop), (∀ w', h' w' → Below W0.heap.size W0 w') → ∀ cur : List Value, (cc ≤ cur.length ∧ cur.length ≤ maxLen) → cur.take n = xs →
  VC P c ⟨nt, slotsOf 0 (.sl N 0 n cc :: rs), (N, .cells (cur.map .v) ty) :: m0, N + 1, h', ⟨(K0, .ptr N 0) :: z0.g, z0.q, z0.d⟩⟩ (endΦ T fn fun s σ' =>
   (s = .v (.bool true) ∧ pt ∧ ∃ cur' : List Value, (cc ≤ cur'.length ∧ cur'.length ≤ maxLen) ∧ cur'.take n = xs ∧ Ent σ'.bare ⟨0, [], (N, .cells (cur'.map .v) ty) :: m0, N + 1, h', ⟨(K0, .ptr N 0) :: z0.g, z0.q, z0.d⟩⟩) ∨
   (s = .v (.bool false) ∧ ∃ σs, S σs ∧ Ent σ'.bare σs))
theorem own_src {β : Nat → Nat} {w : World} {b j n : Nat} {xs : List Value} {ty : TypeId} (h : Blk.ok β w b (.own j n 1 xs ty)) : ∃ cur : List Value, w.heap[b]? = some (.cells cur.toArray ty (0, 0)) ∧ cur.length = β j ∧ cur.take n = xs ∧ n ≤ β j ∧ β j ≤ maxLen := by
 simp only [Blk.ok] at h
 rcases h.2 with ⟨h0, _⟩ | ⟨g, cap, cur, h0, h1, h2, h3, h4, h5, h6⟩
 · cases h0
 · simp only [Value.slice.injEq, Option.some.injEq, Addr.mk.injEq] at h0
   obtain ⟨⟨rfl, _⟩, _, rfl⟩ := h0
   exact ⟨cur.toList, by simpa using h2, by simpa using h5, by simpa using h6, h3, h4⟩
section
variable {P : Program} (T : Env P) (hm : P.follows .mixedOrders = true) {k : Nat} {fn : Func} {c : Code} (hfn : P.funcs[k]? = some fn) (hb : fn.body = some c) {nt : Nat} (hnt : fn.ntmps = nt)
 {N K0 : Nat} {m0 : List (Nat × Blk)} {z0 : Gz} {W0 : World} {rs : List SV} {n : Nat} {xs : List Value} {ty : TypeId} (S : Sg → Prop) (pt : Prop)
 (hlen : rs.length + 1 ≤ nt) (hrs : SV.lts N rs = true) (hm0 : ∀ i b, lk m0 i = some b → i < N ∧ b.lt N = true) (hg0 : ∀ k s, lk z0.g k = some s → s.lt N = true)
 (hlow : gLow K0 z0.g = true) (hlq : qLow K0 z0.d z0.q = true)
 (hS : ∀ σs, S σs → gLow K0 σs.z.g = true ∧ qLow K0 z0.d σs.z.q = true)
 (hvc : RecVC P T c fn nt N K0 m0 z0 W0 rs n xs ty S pt)
 {nt1 nb1 : Nat} {t t' : List (Nat × SV)} {m : List (Nat × Blk)} {h : World → Prop} {B : Ef → Bool} {rl : List Nat} {K : Ef → Prop} {ks : KT} {pl : List (Nat × Nat)}
 (hB : ∀ w', h w' → Below W0.heap.size W0 w') (hmm : MSub m m0) (htt : TSub t t') (hpl0 : ∀ q ∈ pl, lk z0.g q.1 = some (.ptr q.2 0)) (hpl : ∀ q ∈ pl, q.2 < N) (hpt : pinsB N pl t' = true)
 (hSok : ∀ σs, S σs → Sg.Ok ⟨nt1, [], σs.m, σs.nb, σs.h, σs.z⟩)
 (hF : ∀ σs, S σs → ks (.v (.bool false)) ⟨nt1, [], σs.m, σs.nb, σs.h, σs.z⟩)
include hm hfn hb hnt hlen hrs hm0 hg0 hlow hlq hS hvc hB hmm htt hpl0 hpl hpt hSok hF
theorem rec_stA {jn cc : Nat} {cur : List Value} (hN : lk m N = some (.own jn cc 1 cur ty)) (hcx : cur.take n = xs) (hncc : n ≤ cc) (hN1 : N < nb1)
 (hT : pt → ∀ cur' : List Value, (cc ≤ cur'.length ∧ cur'.length ≤ maxLen) → cur'.take n = xs → ks (.v (.bool true)) ⟨nt1, t', (N, .cells (cur'.map .v) ty) :: m0, nb1, h, ⟨(K0, .ptr N 0) :: z0.g, z0.q, z0.d⟩⟩) :
 CallEv P ⟨nt1, t, m, nb1, h, ⟨(K0, .ptr N 0) :: z0.g, z0.q, z0.d⟩⟩ k (.sl N 0 n cc :: rs) B rl K (some ks) := by
 refine .st ks rfl fun X β D a w hok hs => ?_
 obtain ⟨full, hcu, hcl, hcx2, hle, hmx⟩ := own_src (hs.m N _ hN)
 replace hcx : full.take n = xs := by rw [← hcx, ← hcx2, List.take_take, Nat.min_eq_left hncc]
 replace hcl : cc ≤ full.length ∧ full.length ≤ maxLen := by omega
 have hgl : ∀ k s, lk z0.g k = some s → lk ((K0, SV.ptr N 0) :: z0.g) k = some s := fun k s hk => by rw [lk_cons_ne (by have := gLow_lk hlow k s hk; omega)]; exact hk
 obtain ⟨dl, d1, hDR, hc⟩ := rec_call T hm hfn hb hnt S pt hlen hrs hm0 hg0 hlow hlq hS (hvc cc hncc) (s0 := .sl N 0 n cc) (bb := β N) (cur := full) hs hB (fun i b hi => hmm.get i b hi) (fun k s hk => hgl k s hk) rfl rfl rfl hcu hcl hcx (hs.out N _ hN rfl) (fun i b hi hl => hs.inj i N b _ (hmm.get i b hi) hN hl rfl (by have := (hm0 i b hi).1; omega))
 refine hc.mono fun e w' hr => ?_
 rcases hr with ⟨he, hp, β', cur', hl', hx', hcu', hM, hA, hDf, hno, hsame⟩ | ⟨he, σs, β', D', hSs, hM, hA, hDf⟩
 · obtain ⟨γ, hγ⟩ := sat_back (b0 := β N) hm0 hg0 hlow hM hA hDf hs.size (fun k s hk => hs.t k s (htt.get k s hk)) hpt (pins_agree hpl0 (v := X.G) (fun k s hk => hs.amb.g k s (hgl k s hk)) (fun k s hk => hA.g k s hk)) hpl rfl (hs.amb.g K0 _ lk_cons_eq) hcu' (hs.out N _ hN rfl) (fun i b hi hl => (hno i b hi hl).1)
   refine ⟨.v (.bool true), _, γ, D, he, hT hp cur' hl' hx', rfl, ?_, rfl, hγ⟩
   refine ⟨⟨fun k s hk => hok.wf.t k s (htt.get k s hk), hok.wf.g, fun i b hi => ?_⟩, fun k s hk => hok.lt k s (htt.get k s hk)⟩
   by_cases hi0 : i = N
   · subst hi0
     have hi : lk ((i, Blk.cells (cur'.map .v) ty) :: m0) i = some b := hi
     rw [lk_cons_eq] at hi; cases hi
     exact ⟨hN1, lts_v _ _⟩
   · have hi : lk ((N, Blk.cells (cur'.map .v) ty) :: m0) i = some b := hi
     rw [lk_cons_ne hi0] at hi
     exact hok.wf.m i b (hmm.get i b hi)
 · exact ⟨.v (.bool false), _, β', D', he, hF σs hSs, rfl, hSok σs hSs, rfl, ⟨hDf, hs.size, fun k s hk => (by cases hk), hM.m, hM.inj, hM.out, hM.dlt, hM.h, hA⟩⟩
theorem rec_stB {i j : Nat} {cur0 : List Value} (hN : lk m N = some (.cells (cur0.map .v) ty)) (hi : lk m i = some (.own j n 1 xs ty)) (hiN : N < i) (hN1 : N < nb1)
 (hT : pt → ks (.v (.bool true)) ⟨nt1, t', (N, .cells (cur0.map .v) ty) :: m0, nb1, h, ⟨(K0, .ptr N 0) :: z0.g, z0.q, z0.d⟩⟩) :
 CallEv P ⟨nt1, t, m, nb1, h, ⟨(K0, .ptr N 0) :: z0.g, z0.q, z0.d⟩⟩ k (.os i j n :: rs) B rl K (some ks) := by
 refine .st ks rfl fun X β D a w hok hs => ?_
 obtain ⟨cur, hcu, hcl, hcx, hle, hmx⟩ := own_src (hs.m i _ hi)
 replace hcl : β j ≤ cur.length ∧ cur.length ≤ maxLen := by omega
 have hcu0 := hs.m N _ hN
 simp only [Blk.ok, cs_vv] at hcu0
 have hne : β N ≠ β i := hs.inj N i _ _ hN hi rfl rfl (by omega)
 have hgl : ∀ k s, lk z0.g k = some s → lk ((K0, SV.ptr N 0) :: z0.g) k = some s := fun k s hk => by rw [lk_cons_ne (by have := gLow_lk hlow k s hk; omega)]; exact hk
 obtain ⟨dl, d1, hDR, hc⟩ := rec_call T hm hfn hb hnt S pt hlen hrs hm0 hg0 hlow hlq hS (hvc (β j) hle) (s0 := .os i j n) (bb := β i) (cur := cur) hs hB (fun i b hi => hmm.get i b hi) (fun k s hk => hgl k s hk) rfl rfl rfl hcu hcl hcx (hs.out i _ hi rfl) (fun i2 b hi2 hl => hs.inj i2 i b _ (hmm.get i2 b hi2) hi hl rfl (by have := (hm0 i2 b hi2).1; omega))
 have hDd := hs.defers
 obtain ⟨dl2, e1, e2, e3⟩ := hDd
 have hdl : dl = dl2 := by
  have h1 := d1.symm.trans e1
  refine List.map_inj_right (f := fun d => ({ target := .collected d, args := #[] } : Deferred)) (fun x y hxy => ?_) |>.1 h1
  simpa using hxy
 subst hdl
 have hR : Rest X dl m0 β (β i) w (β N) := by
  refine ⟨(Array.getElem?_eq_some_iff.1 hcu0).1, fun i2 b hi2 hl => hs.inj i2 N b _ (hmm.get i2 b hi2) hN hl rfl (by have := (hm0 i2 b hi2).1; omega), hne, fun p hp he => ?_, fun hd => ?_, fun hd => ?_⟩
  · obtain ⟨⟨st, pd, h1⟩, _⟩ := hs.amb.la p hp
    rw [he, hcu0] at h1; cases h1
  · have h1 := (e3 _ hd).1
    rw [hcu0] at h1; cases h1
  · have h1 := (hs.amb.pr _ hd).1
    rw [hcu0] at h1; cases h1
 refine hc.mono fun e w' hr => ?_
 rcases hr with ⟨he, hp, β', cur', hl', hx', hcu', hM, hA, hDf, hno, hsame⟩ | ⟨he, σs, β', D', hSs, hM, hA, hDf⟩
 · obtain ⟨γ, hγ⟩ := sat_back (b0 := β N) (cur2 := cur0) hm0 hg0 hlow hM hA hDf hs.size (fun k s hk => hs.t k s (htt.get k s hk)) hpt (pins_agree hpl0 (v := X.G) (fun k s hk => hs.amb.g k s (hgl k s hk)) (fun k s hk => hA.g k s hk)) hpl rfl (hs.amb.g K0 _ lk_cons_eq) ((hsame _ hR).trans hcu0) (hs.out N _ hN rfl) (fun i2 b hi2 hl e => (hno i2 b hi2 hl).2 (e ▸ hR))
   refine ⟨.v (.bool true), _, γ, D, he, hT hp, rfl, ?_, rfl, hγ⟩
   refine ⟨⟨fun k s hk => hok.wf.t k s (htt.get k s hk), hok.wf.g, fun i b hi => ?_⟩, fun k s hk => hok.lt k s (htt.get k s hk)⟩
   by_cases hi0 : i = N
   · subst hi0
     have hi : lk ((i, Blk.cells (cur0.map .v) ty) :: m0) i = some b := hi
     rw [lk_cons_eq] at hi; cases hi
     exact ⟨hN1, lts_v _ _⟩
   · have hi : lk ((N, Blk.cells (cur0.map .v) ty) :: m0) i = some b := hi
     rw [lk_cons_ne hi0] at hi
     exact hok.wf.m i b (hmm.get i b hi)
 · exact ⟨.v (.bool false), _, β', D', he, hF σs hSs, rfl, hSok σs hSs, rfl, ⟨hDf, hs.size, fun k s hk => (by cases hk), hM.m, hM.inj, hM.out, hM.dlt, hM.h, hA⟩⟩
theorem rec_stN {i j : Nat} (hi : lk m i = some (.own j n 1 xs ty)) (hiN : N ≤ i) (hpN : pinsB N pl t' = true) (hnoN : ∀ k s, lk t' k = some s → s.lt N = true) (hNb : N ≤ nb1)
 (hT : pt → ks (.v (.bool true)) ⟨nt1, t', m0, nb1, h, z0⟩) :
 CallEv P ⟨nt1, t, m, nb1, h, z0⟩ k (.os i j n :: rs) B rl K (some ks) := by
 refine .st ks rfl fun X β D a w hok hs => ?_
 obtain ⟨cur, hcu, hcl, hcx, hle, hmx⟩ := own_src (hs.m i _ hi)
 replace hcl : β j ≤ cur.length ∧ cur.length ≤ maxLen := by omega
 obtain ⟨dl, d1, hDR, hc⟩ := rec_call T hm hfn hb hnt S pt hlen hrs hm0 hg0 hlow hlq hS (hvc (β j) hle) (s0 := .os i j n) (bb := β i) (cur := cur) hs hB (fun i b hi => hmm.get i b hi) (fun k s hk => hk) rfl rfl rfl hcu hcl hcx (hs.out i _ hi rfl) (fun i2 b hi2 hl => hs.inj i2 i b _ (hmm.get i2 b hi2) hi hl rfl (by have := (hm0 i2 b hi2).1; omega))
 refine hc.mono fun e w' hr => ?_
 rcases hr with ⟨he, hp, β', cur', hl', hx', hcu', hM, hA, hDf, hno, hsame⟩ | ⟨he, σs, β', D', hSs, hM, hA, hDf⟩
 · refine ⟨.v (.bool true), _, β', D, he, hT hp, rfl, ⟨⟨fun k s hk => hok.wf.t k s (htt.get k s hk), hok.wf.g, fun i b hi => hok.wf.m i b (hmm.get i b hi)⟩, fun k s hk => hok.lt k s (htt.get k s hk)⟩, rfl, ⟨hDf, hs.size, fun k s hk => ?_, hM.m, hM.inj, hM.out, hM.dlt, hM.h, hA⟩⟩
   rw [hs.t k s (htt.get k s hk)]
   have hag := pins_agree hpl0 (v := X.G) (fun k s hk => hs.amb.g k s hk) (fun k s hk => hA.g k s hk)
   have h1 := pinsB_lk hpN hk
   have h2 := hnoN k s hk
   cases s with
   | v x => rfl
   | ptr p o =>
    obtain ⟨q, h3, h4⟩ := List.any_eq_true.1 h1
    have h4 := Nat.eq_of_beq_eq_true h4
    subst h4
    simp only [SV.c, hag q h3]
   | sl p o n c =>
    have h3 := Nat.eq_of_beq_eq_true h1
    simp only [SV.lt, Nat.blt_eq] at h2
    omega
   | _ => cases h1
 · exact ⟨.v (.bool false), _, β', D', he, hF σs hSs, rfl, hSok σs hSs, rfl, ⟨hDf, hs.size, fun k s hk => (by cases hk), hM.m, hM.inj, hM.out, hM.dlt, hM.h, hA⟩⟩
end
end Go.Proofs.YtkbfcofifhngfaaGreat.Tx
namespace Go.Proofs.YtkbfcofifhngfaaGreat
open Go Tx Go.RowKit
theorem ProveWhy_ok (s : Sc) (r : Rn) (w : World) (h : ScIn s w) (hB : ScB s) (hr : Rd 1 iF (.slice r.o r.L.length r.c) r.L w) (hl : r.L.length ≤ 1000000) :
 Calls Tryz.prog 24 #[s.v, r.v] w fun e w' => e = .returned (.bool (scOk s.d && isB s.d r.d)) ∧ Below w.heap.size w w' := by
 have c37 := fun (w' : World) (hw : Below w.heap.size w w') => valid_ok s w' (h.below hw) hB
 have c60 := fun (w' : World) => holds_ok r w'
 cases hv : scOk s.d with
 | false =>
  rw [hv] at c37
  obtain ⟨sl, ro, su, go, gc, G, to, tc, T⟩ := s
  obtain ⟨k, g, o, c, L, n, h⟩ := r
  refine calls_val env mixed Tryz.func24 has24 Tryz.ntmps24 [.agg #[iv sl, iv ro, iv su, .slice go G.length gc, .slice to T.length tc], .agg #[.int .u8 k, iv g, .slice o L.length c, iv n, iv h]] (by simp) ?_
  repeat'
   conv => whnf
   first
    |refine zD ?_|refine splT ?_
    |((with_reducible show CallEv _ _ 37 ..); refine callE (fun β w' hbw => c37 _ hbw) ?_)
  all_goals exact ⟨fun β => rfl, fun w' h => h⟩
 | true =>
  rw [hv] at c37
  rw [Bool.true_and]
  have cU := fun (hl : subIn s.d r.L) (w' : World) (hw : Below w.heap.size w w') => untaught_ok s r.L r.o r.c w' (h.below hw) hB hv (hr.below hw) hl
  have cF := fun (w' : World) (hw : Below w.heap.size w w') => full_ok s w' (h.below hw) hv
  have cC := fun (g : Nat) (xs : List Int) (hx : s.d.G[g]? = some xs) (w' : World) (hw : Below w.heap.size w w') => crowded_ok s g xs w' (h.below hw) hv hx
  have cS := fun (w' : World) (hw : Below w.heap.size w w') => subjects_ok s r.L r.o r.c w' (hr.below hw) hl (by have h1 : 1 ≤ s.su ∧ s.su ≤ 6 := (scOk_iff.1 hv).2.2.1; omega)
  have cE := fun (M : List Int) (o : Option Addr) (c : Nat) (w' : World) (hw : Below w.heap.size w w') (hM : Rd 1 iF (.slice o M.length c) M w') => Equal_ok r.L M r.o o r.c c w' (hr.below hw) hM hl
  have hsin := fun (h : subB s.d.su r.L = true) => sub_in hv h
  obtain ⟨k, g, o, c, L, n, h'⟩ := r
  generalize hsd : s.d = D at *
  obtain ⟨sl, ro, su, go, gc, G, to, tc, T⟩ := s
  have hDsl : D.sl = sl := by rw [← hsd]; rfl
  have hDro : D.ro = ro := by rw [← hsd]; rfl
  have hDsu : D.su = su := by rw [← hsd]; rfl
  have hDG : D.G = G.map Rw.xs := by rw [← hsd]; rfl
  clear hsd
  obtain ⟨hv1, hv2, hv3, hv4, hv5, hv6, hv7⟩ := scOk_iff.1 hv
  have hGl : G.length ≤ 8 := by rw [hDG, List.length_map] at hv4; exact hv4
  have hGD : D.G.length = G.length := by rw [hDG, List.length_map]
  rw [hDsu] at hsin
  unfold isB Rn.d
  dsimp only at hr hl cU cS cE c60 hsin cF cC ⊢
  rw [hGD, hDsu, hDsl, hDro]
  refine calls_val env mixed Tryz.func24 has24 Tryz.ntmps24 [.agg #[iv sl, iv ro, iv su, .slice go G.length gc, .slice to T.length tc], .agg #[.int .u8 k, iv g, .slice o L.length c, iv n, iv h']] (by simp) ?_
  by_cases hn : h' < n
  · rw [decide_eq_true hn] at c60 ⊢
    rw [Bool.true_and]
    by_cases hk1 : k = 1
    · subst hk1
      rw [if_pos rfl]
      have c61 := fun w' => within_ok g 0 (G.length - 1) w'
      by_cases hin : 0 ≤ g ∧ g ≤ (G.length : Int) - 1
      · rw [inB_iff.2 hin] at c61 ⊢
        obtain ⟨gn, rfl⟩ := Int.eq_ofNat_of_zero_le hin.1
        obtain ⟨xs, hmx⟩ : ∃ xs, D.G[gn]? = some xs := ⟨_, List.getElem?_eq_getElem (by omega)⟩
        have hgx : D.G.getD (gn : Int).toNat [] = xs := by rw [Int.toNat_natCast, List.getD_eq_getElem?_getD, hmx]; rfl
        have c62 := cC gn xs hmx
        rw [hgx]
        have cEn := fun (w' : World) (hw : Below w.heap.size w w') => cE [] none 0 w' hw (.inl ⟨rfl, rfl⟩)
        generalize (xs.map id).sum = S at *
        generalize hq : decide (L = []) = q at *
        by_cases h1 : n = S <;> by_cases h2 : h' = sl <;> cases q
        all_goals skip
        repeat'
         conv => whnf
         first
          |refine zB ?_|refine zC ?_|refine zD ?_|refine zF ?_|refine splT ?_|refine splF ?_
          |(refine splD ?_ ?_ <;> intro hc <;> first|(exfalso; dsimp only at hc; omega)|skip)
          |((with_reducible show CallEv _ _ 37 ..); refine callE (fun β w' hbw => c37 _ hbw) ?_)
          |((with_reducible show CallEv _ _ 60 ..); refine callE (fun β w' hbw => c60 w') ?_)
          |((with_reducible show CallEv _ _ 61 ..); refine callE (fun β w' hbw => c61 w') ?_)
          |((with_reducible show CallEv _ _ 62 ..); refine callE (fun β w' hbw => c62 _ hbw) ?_)
          |((with_reducible show CallEv _ _ 66 ..); refine callE (fun β w' hbw => cEn _ hbw) ?_)
        all_goals exact ⟨fun β => congrArg Value.bool (by simp [*]), fun w' h => h⟩
      · have hf : inB g 0 (G.length - 1) = false := by
         rw [Bool.eq_false_iff]; intro hc; exact hin (inB_iff.1 hc)
        rw [hf] at c61 ⊢
        repeat'
         conv => whnf
         first
          |refine zB ?_|refine zD ?_|refine zF ?_|refine splT ?_|refine splF ?_
          |((with_reducible show CallEv _ _ 37 ..); refine callE (fun β w' hbw => c37 _ hbw) ?_)
          |((with_reducible show CallEv _ _ 60 ..); refine callE (fun β w' hbw => c60 w') ?_)
          |((with_reducible show CallEv _ _ 61 ..); refine callE (fun β w' hbw => c61 w') ?_)
        all_goals exact ⟨fun β => rfl, fun w' h => h⟩
    · rw [if_neg hk1]
      by_cases hk2 : k = 2
      · subst hk2
        rw [if_pos rfl]
        cases hsb : subB su L with
        | false =>
         rw [hsb] at cS
         repeat'
          conv => whnf
          first
           |refine zB ?_|refine zD ?_|refine splT ?_|refine splF ?_
           |((with_reducible show CallEv _ _ 37 ..); refine callE (fun β w' hbw => c37 _ hbw) ?_)
           |((with_reducible show CallEv _ _ 60 ..); refine callE (fun β w' hbw => c60 w') ?_)
           |((with_reducible show CallEv _ _ 63 ..); refine callE (fun β w' hbw => cS _ hbw) ?_)
         all_goals exact ⟨fun β => rfl, fun w' h => h⟩
        | true =>
         rw [hsb] at cS
         have cUU := cU (hsin hsb)
         have cEn := fun (w' : World) (hw : Below w.heap.size w w') => cE L o c w' hw (hr.below hw)
         rw [decide_eq_true (rfl : L = L)] at cEn
         generalize hoursP D L = H at *
         generalize timesP D L = M at *
         by_cases h0 : g = 0 <;> by_cases h1 : n = H <;> by_cases h2 : h' = M
         all_goals skip
         repeat'
          conv => whnf
          first
           |refine zB ?_|refine zC ?_|refine zD ?_|refine splT ?_|refine splF ?_
           |(refine splD ?_ ?_ <;> intro hc <;> first|(exfalso; dsimp only at hc; omega)|skip)
           |((with_reducible show CallEv _ _ 37 ..); refine callE (fun β w' hbw => c37 _ hbw) ?_)
           |((with_reducible show CallEv _ _ 60 ..); refine callE (fun β w' hbw => c60 w') ?_)
           |((with_reducible show CallEv _ _ 63 ..); refine callE (fun β w' hbw => cS _ hbw) ?_)
           |((with_reducible show CallEv _ _ 64 ..); refine callE (fun β w' hbw => cUU _ hbw) ?_)
           |((with_reducible show CallEv _ _ 66 ..); refine callE (fun β w' hbw => cEn _ hbw) ?_)
         all_goals exact ⟨fun β => congrArg Value.bool (by simp [*]), fun w' h => h⟩
      · rw [if_neg hk2]
        by_cases hk3 : k = 3
        · subst hk3
          rw [if_pos rfl]
          have cEn := fun (w' : World) (hw : Below w.heap.size w w') => cE [] none 0 w' hw (.inl ⟨rfl, rfl⟩)
          generalize hoursP D (numL su.toNat) = H at *
          generalize hX : ro * sl = X at *
          generalize hq : decide (L = []) = q at *
          by_cases h0 : g = 0 <;> by_cases h1 : n = H <;> by_cases h2 : h' = X <;> cases q
          all_goals skip
          repeat'
           conv => whnf
           first
            |refine zB ?_|refine zC ?_|refine zD ?_|refine splT ?_|refine splF ?_
            |(refine splD ?_ ?_ <;> intro hc <;> first|(exfalso; dsimp only at hc; omega)|skip)
            |((with_reducible show CallEv _ _ 37 ..); refine callE (fun β w' hbw => c37 _ hbw) ?_)
            |((with_reducible show CallEv _ _ 60 ..); refine callE (fun β w' hbw => c60 w') ?_)
            |((with_reducible show CallEv _ _ 65 ..); refine callE (fun β w' hbw => cF _ hbw) ?_)
            |((with_reducible show CallEv _ _ 66 ..); refine callE (fun β w' hbw => cEn _ hbw) ?_)
          all_goals exact ⟨fun β => congrArg Value.bool (by simp [*]), fun w' h => h⟩
        · rw [if_neg hk3]
          repeat'
           conv => whnf
           first
            |refine zB ?_|refine zD ?_|refine splF ?_
            |(refine splD ?_ ?_ <;> intro hc <;> first|(exfalso; omega)|skip)
            |((with_reducible show CallEv _ _ 37 ..); refine callE (fun β w' hbw => c37 _ hbw) ?_)
            |((with_reducible show CallEv _ _ 60 ..); refine callE (fun β w' hbw => c60 w') ?_)
          all_goals exact ⟨fun β => rfl, fun w' h => h⟩
  · rw [decide_eq_false hn] at c60 ⊢
    rw [Bool.false_and]
    repeat'
     conv => whnf
     first
      |refine zD ?_|refine splT ?_|refine splF ?_
      |((with_reducible show CallEv _ _ 37 ..); refine callE (fun β w' hbw => c37 _ hbw) ?_)
      |((with_reducible show CallEv _ _ 60 ..); refine callE (fun β w' hbw => c60 w') ?_)
    all_goals exact ⟨fun β => rfl, fun w' h => h⟩
end Go.Proofs.YtkbfcofifhngfaaGreat
namespace Go.Proofs.YtkbfcofifhngfaaGreat
open Go
def fromP (now : List Int) : Nat := match now.getLast? with | none => 0 | some x => x.toNat + 1
def combos (su : Nat) : Nat → List Int → List (List Int)
 | 0, now => [now]
 | d + 1, now => (List.range' (fromP now) (su - fromP now)).flatMap fun j : Nat => combos su d (now ++ [(j : Int)])
def allSets (su : Nat) : List (List Int) := (List.range' 1 su).flatMap fun d => combos su d []
def bestG (P : List Int → Bool) : Nat → Option (List Int)
 | 0 => none
 | n + 1 => if P (memL (n + 1) 6) = true ∧ (bestG P n = none ∨ ∃ b, bestG P n = some b ∧ befB (memL (n + 1) 6) b = true) then some (memL (n + 1) 6) else bestG P n
theorem bestK_G (s : SD) : ∀ n, bestK s n = bestG (unB s) n
 | 0 => rfl
 | n + 1 => by rw [bestK, bestG, bestK_G s n]
theorem ltB_trans : ∀ {a b c : List Int}, a.length = b.length → b.length = c.length → ltB a b = true → ltB b c = true → ltB a c = true
 | x :: a, y :: b, z :: c, h1, h2, h3, h4 => by
  rw [ltB] at h3 h4 ⊢
  simp only [List.length_cons] at h1 h2
  by_cases hxy : x = y
  · subst hxy
    rw [if_pos rfl] at h3
    by_cases hxz : x = z
    · rw [if_pos hxz] at h4 ⊢
      exact ltB_trans (by omega) (by omega) h3 h4
    · rw [if_neg hxz] at h4 ⊢
      exact h4
  · rw [if_neg hxy] at h3
    have h3 := of_decide_eq_true h3
    by_cases hyz : y = z
    · subst hyz
      rw [if_neg hxy]
      exact decide_eq_true h3
    · rw [if_neg hyz] at h4
      have h4 := of_decide_eq_true h4
      rw [if_neg (by omega)]
      exact decide_eq_true (by omega)
 | [], _, _, _, _, h, _ => by simp [ltB] at h
 | _ :: _, [], _, _, _, h, _ => by simp [ltB] at h
 | _ :: _, _ :: _, [], _, _, _, h => by simp [ltB] at h
theorem befB_trans {a b c : List Int} (h1 : befB a b = true) (h2 : befB b c = true) : befB a c = true := by
 unfold befB at h1 h2 ⊢
 by_cases hab : a.length = b.length
 · rw [if_pos hab] at h1
   by_cases hbc : b.length = c.length
   · rw [if_pos hbc] at h2
     rw [if_pos (by omega)]
     exact ltB_trans hab hbc h1 h2
   · rw [if_neg hbc] at h2
     have := of_decide_eq_true h2
     rw [if_neg (by omega)]
     exact decide_eq_true (by omega)
 · rw [if_neg hab] at h1
   have h1 := of_decide_eq_true h1
   by_cases hbc : b.length = c.length
   · rw [if_neg (by omega)]
     exact decide_eq_true (by omega)
   · rw [if_neg hbc] at h2
     have h2 := of_decide_eq_true h2
     rw [if_neg (by omega)]
     exact decide_eq_true (by omega)
theorem befB_self (a : List Int) : befB a a = false := by unfold befB; rw [if_pos rfl]; exact ltB_self a
theorem bestG_none {P : List Int → Bool} : ∀ {n : Nat}, bestG P n = none → ∀ m, 1 ≤ m → m ≤ n → P (memL m 6) = false
 | 0, _, m, h1, h2 => by omega
 | n + 1, h, m, h1, h2 => by
  rw [bestG] at h
  split at h
  · cases h
  · rename_i hc
    have ih := bestG_none h
    by_cases hm : m = n + 1
    · subst hm
      cases hp : P (memL (n + 1) 6) with
      | false => rfl
      | true => exact absurd ⟨hp, .inl h⟩ hc
    · exact ih m h1 (by omega)
theorem bestG_some {P : List Int → Bool} : ∀ {n : Nat} {b : List Int}, bestG P n = some b → P b = true ∧ (∃ m, 1 ≤ m ∧ m ≤ n ∧ memL m 6 = b) ∧ ∀ m, 1 ≤ m → m ≤ n → P (memL m 6) = true → befB (memL m 6) b = false
 | 0, b, h => by cases h
 | n + 1, b, h => by
  rw [bestG] at h
  split at h
  · rename_i hc
    simp only [Option.some.injEq] at h
    subst h
    refine ⟨hc.1, ⟨n + 1, by omega, by omega, rfl⟩, fun m h1 h2 h3 => ?_⟩
    by_cases hm : m = n + 1
    · subst hm; exact befB_self _
    · rcases hc.2 with h4 | ⟨b, h4, h5⟩
      · rw [bestG_none h4 m h1 (by omega)] at h3; cases h3
      · have h6 := (bestG_some h4).2.2 m h1 (by omega) h3
        cases h7 : befB (memL m 6) (memL (n + 1) 6) with
        | false => rfl
        | true => rw [befB_trans h7 h5] at h6; cases h6
  · rename_i hc
    obtain ⟨g1, ⟨m0, g2, g3, g4⟩, g5⟩ := bestG_some h
    refine ⟨g1, ⟨m0, g2, by omega, g4⟩, fun m h1 h2 h3 => ?_⟩
    by_cases hm : m = n + 1
    · subst hm
      cases h7 : befB (memL (n + 1) 6) b with
      | false => rfl
      | true => exact absurd ⟨h3, .inr ⟨b, h, h7⟩⟩ hc
    · exact g5 m h1 (by omega) h3
def sortB : List (List Int) → Bool
 | [] => true
 | a :: r => r.all (befB a) && sortB r
def setsB (su : Nat) : Bool := sortB (allSets su) && ((allSets su).all (fun l => ((List.range' 1 (2 ^ su - 1)).any fun m => decide (memL m 6 = l))) && (List.range' 1 (2 ^ su - 1)).all fun m => (allSets su).any fun l => decide (memL m 6 = l))
theorem setsB_all : ((List.range' 1 6).all setsB) = true := by decide +kernel
theorem sort_find {P : List Int → Bool} : ∀ {L : List (List Int)}, sortB L = true → ∀ {a b : List Int}, L.find? P = some a → b ∈ L → P b = true → b = a ∨ befB a b = true
 | x :: L, h, a, b, hf, hb, hp => by
  rw [sortB, Bool.and_eq_true] at h
  rw [List.find?_cons] at hf
  cases hx : P x with
  | true =>
   rw [hx] at hf
   simp only [Option.some.injEq] at hf
   subst hf
   rcases List.mem_cons.1 hb with rfl | hb
   · exact .inl rfl
   · exact .inr (List.all_eq_true.1 h.1 b hb)
  | false =>
   rw [hx] at hf
   rcases List.mem_cons.1 hb with rfl | hb
   · rw [hx] at hp; cases hp
   · exact sort_find h.2 hf hb hp
 | [], _, _, _, hf, _, _ => by simp at hf
theorem find_best (P : List Int → Bool) {su : Nat} (h1 : 1 ≤ su) (h6 : su ≤ 6) : (allSets su).find? P = bestG P (2 ^ su - 1) := by
 have hc := List.all_eq_true.1 setsB_all su (List.mem_range'_1.2 (by omega))
 unfold setsB at hc
 simp only [Bool.and_eq_true] at hc
 obtain ⟨c1, c2, c3⟩ := hc
 have d2 : ∀ l ∈ allSets su, ∃ m, 1 ≤ m ∧ m ≤ 2 ^ su - 1 ∧ memL m 6 = l := fun l hl => by
  have := List.all_eq_true.1 c2 l hl
  obtain ⟨m, hm, he⟩ := List.any_eq_true.1 this
  have := List.mem_range'_1.1 hm
  exact ⟨m, this.1, by omega, of_decide_eq_true he⟩
 have d3 : ∀ m, 1 ≤ m → m ≤ 2 ^ su - 1 → memL m 6 ∈ allSets su := fun m g1 g2 => by
  have := List.all_eq_true.1 c3 m (List.mem_range'_1.2 (by omega))
  obtain ⟨l, hl, he⟩ := List.any_eq_true.1 this
  rw [of_decide_eq_true he]; exact hl
 cases hb : bestG P (2 ^ su - 1) with
 | none =>
  rw [List.find?_eq_none]
  intro l hl
  obtain ⟨m, g1, g2, rfl⟩ := d2 l hl
  rw [bestG_none hb m g1 g2]; decide
 | some b =>
  obtain ⟨g1, ⟨m, g2, g3, g4⟩, g5⟩ := bestG_some hb
  have hbm := d3 m g2 g3
  rw [g4] at hbm
  cases hf : (allSets su).find? P with
  | none =>
   rw [List.find?_eq_none] at hf
   exact absurd g1 (hf b hbm)
  | some a =>
   rcases sort_find c1 hf hbm g1 with h | h
   · rw [h]
   · obtain ⟨m', k1, k2, k3⟩ := d2 a (List.mem_of_find?_eq_some hf)
     have := g5 m' k1 k2 (by rw [k3]; exact List.find?_some hf)
     rw [k3, h] at this; cases this
end Go.Proofs.YtkbfcofifhngfaaGreat
namespace Go.Proofs.YtkbfcofifhngfaaGreat
open Go Tx Go.RowKit
def qL : Code → Code | .seq a _ => a | c => c
def qR : Code → Code | .seq _ b => b | c => c
def qT : Code → Code | .cond _ a _ => a | c => c
def qI : Code → Code | .block _ c => c | .loop c => c | .scope c => c | c => c
def qA : Code → Code | .rangeFunc _ _ a _ => a | c => c
def qB : Code → Code | .rangeFunc _ _ _ b => b | c => c
def qO : Code → Array Oper | .region _ o _ => o | _ => #[]
theorem VC.seqR {P : Program} (T : Env P) (hm : P.follows .mixedOrders = true) {a : Code} {σ : Sg} {Φ : Exit → Sg → Prop} (h : VC P a σ (seqΦ (Φ .ret) Φ)) : VC P (.seq a .ret) σ Φ :=
 VC.seq (f := Φ .ret) h fun σ' hx => VC.of T hm hx
theorem VC.eq {P : Program} {c c' : Code} {σ : Sg} {Φ : Exit → Sg → Prop} (h : c' = c) (hv : VC P c σ Φ) : VC P c' σ Φ := h ▸ hv
theorem VC.sq {P : Program} {a b : Code} {σ : Sg} {Φ : Exit → Sg → Prop} (h : VC P a σ (seqΦ (fun σ' => VC P b σ' Φ) Φ)) : VC P (.seq a b) σ Φ := VC.seq h fun _ h => h
theorem YEv.ok {P : Program} {σ : Sg} {l : Nat} {args : List SV} {ks : KT} (h : YEv P σ l args (some ks)) : YOK P σ l args ks := by
 cases h with
 | mk ks' hks h => cases hks; exact h
theorem c122b : qB (qI (qR (qR body122))) = .block 1 (.seq (.region 3 (qO (qL (qI (qB (qI (qR (qR body122))))))) true) (.cond (.tmp 12) .ret .skip)) := by kernel_rfl
theorem mB_lk {N : Nat} : ∀ {m : List (Nat × Blk)}, mB N m = true → ∀ i b, lk m i = some b → i < N ∧ b.lt N = true
 | [], _, i, b, h => by cases h
 | (k, x) :: r, h, i, b, hl => by
  simp only [mB, Bool.and_eq_true, Nat.blt_eq] at h
  by_cases hk : i = k
  · subst hk; rw [lk_cons_eq] at hl; cases hl; exact h.1
  · rw [lk_cons_ne hk] at hl; exact mB_lk h.2 i b hl
theorem gB_lk {N : Nat} : ∀ {g : List (Nat × SV)}, gB N g = true → ∀ k s, lk g k = some s → s.lt N = true
 | [], _, k, s, h => by cases h
 | (j, x) :: r, h, k, s, hl => by
  simp only [gB, Bool.and_eq_true] at h
  by_cases hk : k = j
  · subst hk; rw [lk_cons_eq] at hl; cases hl; exact h.1
  · rw [lk_cons_ne hk] at hl; exact gB_lk h.2 k s hl
theorem eqlS36 {o : Option Addr} {n c : Nat} {x y : Operand} {K : Value → Prop} (h : K (.bool o.isNone)) : ∃ v, (∀ _ : Nat → Nat, RunIs Tryz.prog (do eqGuard .eql 36 x y (.slice o n c) (.slice none 0 0); binOp .eql 36 (.slice o n c) (.slice none 0 0)) v) ∧ K v :=
 ⟨_, fun _ w => by simp [eqGuard, binOp, Op.equal, Op.maxDepth, Lib.run_equalIn_slice_nil w 9999 36 3 o n c 0 0 (under_slice tok36 rfl)], h⟩
theorem clone_ok (L : List Int) (o : Option Addr) (c : Nat) (w : World) (hrd : Rd 1 iF (.slice o L.length c) L w) (h0 : 1 ≤ L.length) (hl : L.length ≤ 1000000) :
 Calls Tryz.prog 151 #[.slice o L.length c] w fun e w' => ∃ b d, e = .returned (.slice (some ⟨b, 0, none⟩) L.length d) ∧ w.heap.size ≤ b ∧ Below w.heap.size w w' ∧ w'.ownsRow 0 3 1 (.slice (some ⟨b, 0, none⟩) L.length d) L.length (L.flatMap iF) := by
 refine calls_fam2 env mixed Tryz.func151 has151 Tryz.ntmps151 [.slice o L.length c] (by simp) ?_
 obtain ⟨_, ad, rfl, _⟩ := hrd.ptr h0
 have he := fun (w' : World) (hb : Below w.heap.size w w') => Rd.ext (f := iF) (sz := 1) (fun _ => rfl) (hrd.below hb)
 have hln : (L.flatMap iF).length = L.length * 1 := by rw [lenF]; omega
 have hon : ∀ v ∈ L.flatMap iF, v.oneCell' = true := one1 L
 generalize L.flatMap iF = X at *
 generalize L.length = n at *
 repeat'
  conv => whnf
  first
   |refine zB ?_|refine zI ?_|refine splF ?_
   |refine eqlS36 ?_
   |refine eL X ⟨⟨hln, fun w' hw' => he w' hw', hon⟩, ?_⟩
 have hz : 0 + n = n := Nat.zero_add n
 exact ⟨fun w' h => h, fun β w' hB hB2 hblk => ⟨β 1, β 2, congrArg (fun z => Ending.returned (.slice (some ⟨β 1, 0, none⟩) z (β 2))) hz, (hblk 1 _ rfl rfl).1, hB2, by have := (hblk 1 _ rfl rfl).2; simp only [Blk.ok, List.nil_append, hz] at this; exact this⟩⟩
theorem c150 : body150 = .seq (qL body150) (.seq (.seq (qL (qL (qR body150))) (.cond (.tmp 13) (.seq (.region 2 (qO (qL (qT (qR (qL (qR body150)))))) true) .ret) .skip)) (qR (qR body150))) := by kernel_rfl
end Go.Proofs.YtkbfcofifhngfaaGreat
namespace Go.Proofs.YtkbfcofifhngfaaGreat.Tx
open Go Go.RowKit
section
variable {P : Program} (T : Env P)
theorem rf_inline0V (hm : P.follows .mixedOrders = true) {σ : Sg} {g : Operand} {ps : Array Tmp} {asg bdy : Code} {Φ : Exit → Sg → Prop} {k : Nat} {fn : Func} {c : Code} {nt : Nat} {caps : List SV} (base : Nat) (ks : List Nat)
 (hg : gv σ g = some (.fn (.func k) caps)) (hk : T.fn k = true) (hfn : P.funcs[k]? = some fn) (hb : fn.body = some c) (hnt : fn.ntmps = nt) (hlen : caps.length + 1 ≤ nt)
 (hlow : gLow base σ.z.g = true) (hlq : qLow base σ.z.d σ.z.q = true)
 (h : selK σ.t ks fun tl => ∀ l asg' bdy', asg' = asg → bdy' = bdy → VC P c ⟨nt, slotsOf 0 (.v (.func (.yield l) #[] #[]) :: caps), σ.m, σ.nb, σ.h, ⟨offG base tl σ.z.g, (σ.z.d, ⟨l, .ready, σ.nt, base, ps, asg', bdy'⟩) :: σ.z.q, σ.z.d + 1⟩⟩
  (endΦ T fn fun _ σ' => rfEnd σ.nt σ.z.d base ks σ' Φ)) : RFEv P g ps asg bdy σ Φ := by
 refine ⟨fun F n X a w hF hlp hσ hsat => ?_⟩
 obtain ⟨β, D, hs⟩ := hsat
 obtain ⟨tl, h, hkeys, htl⟩ := selK_spec h
 have hks : ∀ k ∈ ks, k < σ.nt := fun j hj => by
  rw [← hkeys] at hj
  obtain ⟨⟨j', x⟩, hx, rfl⟩ := List.mem_map.1 hj
  obtain ⟨y, hy⟩ := lk_isSome hx
  exact hσ.lt _ _ (htl _ _ hy)
 have hgl := gLow_lk hlow
 have hql := qLow_lk hlq
 refine wpIn_rangeFunc fun f0 hf0 => ?_
 obtain ⟨l, mark, w1, df, dl, he, hbel, hl1, hl2, hdl1, hdl2, hdl3⟩ : ∃ (l : Nat) (mark : List Deferred) (w1 : World) (df : Nat) (dl : List Nat),
  (Instr.enterLoop f0 a.tmps ps asg bdy F.round).run P w = .ok (l, mark) w1 ∧ Below w.heap.size w w1 ∧
  w1.heap[l]? = some (.loop { state := .ready, pending := none, fn := f0, tmps := a.tmps, params := ps, assign := asg, body := bdy, defers := df }) ∧ w.heap.size ≤ l ∧
  mark ++ a.defers = dl.map (fun d => { target := .collected d, args := #[] }) ∧ dl.Nodup ∧ ∀ d ∈ dl, w1.heap[d]? = some (.deferred (some [])) ∧ ¬ D d ∧ d ∉ X.pr := by
  obtain ⟨dl, d1, d2, d3⟩ := hs.defers
  cases hround : F.round with
  | none =>
   have hb1 : Below w.heap.size w ((w.alloc (.deferred (some []))).alloc (.loop { state := .ready, pending := none, fn := f0, tmps := a.tmps, params := ps, assign := asg, body := bdy, defers := w.heap.size })) :=
    ((Below.refl _ w).alloc (Nat.le_refl _) _).alloc (by simp) _
   have hd1 : ((w.alloc (.deferred (some []))).alloc (.loop { state := .ready, pending := none, fn := f0, tmps := a.tmps, params := ps, assign := asg, body := bdy, defers := w.heap.size })).heap[w.heap.size]? = some (.deferred (some [])) :=
    (Below.heap_alloc _ _ _ (by simp)).trans (World.alloc_heap_new w _)
   refine ⟨w.heap.size + 1, [{ target := .collected w.heap.size, args := #[] }], _, w.heap.size, w.heap.size :: dl, run_enterLoop_outer _ _ _ _ _, hb1, ?_, by omega, by rw [d1]; rfl, List.nodup_cons.2 ⟨fun hd => ?_, d2⟩, fun d hd => ?_⟩
   · have := World.alloc_heap_new (w.alloc (.deferred (some []))) (.loop { state := .ready, pending := none, fn := f0, tmps := a.tmps, params := ps, assign := asg, body := bdy, defers := w.heap.size })
     rwa [World.size_alloc] at this
   · have := (Array.getElem?_eq_some_iff.1 (d3 _ hd).1).1
     omega
   · rcases List.mem_cons.1 hd with rfl | hd
     · refine ⟨hd1, fun hD => ?_, fun hp => ?_⟩
       · have := hs.dlt _ hD
         omega
       · have := (Array.getElem?_eq_some_iff.1 (hs.amb.pr _ hp).1).1
         omega
     · exact ⟨(hb1.block d (Array.getElem?_eq_some_iff.1 (d3 d hd).1).1).trans (d3 d hd).1, (d3 d hd).2⟩
  | some l0 =>
   obtain ⟨r0, hr0⟩ := hlp l0 hround
   obtain ⟨⟨st, pd, hr1⟩, _⟩ := hs.amb.la _ hr0
   refine ⟨w.heap.size, [], _, _, dl, run_enterLoop_inner hr1 _ _ _ _ _, (Below.refl _ w).alloc (Nat.le_refl _) _, World.alloc_heap_new w _, Nat.le_refl _, by rw [d1]; rfl, d2, fun d hd => ?_⟩
   exact ⟨(Below.heap_alloc _ _ _ (Array.getElem?_eq_some_iff.1 (d3 d hd).1).1).trans (d3 d hd).1, (d3 d hd).2⟩
 have hev : a.eval g = .func (.func k) #[] (SV.cs β caps).toArray := gv_eval (hs.sees ⟨.v undef, [], [], os g, []⟩) hg (fun k hk => hk)
 have hnew : ∀ b, b < w.heap.size → b ≠ l := fun b hb => by omega
 have hDl : ¬ D l := fun hD => by
  have := hs.dlt _ hD
  omega
 let r : Loop := { state := .ready, pending := none, fn := f0, tmps := a.tmps, params := ps, assign := asg, body := bdy, defers := df }
 let X' : Cx := ⟨waitG base X.G a, X.L ++ [(l, r)], dl ++ X.pr⟩
 let z' : Gz := ⟨offG base tl σ.z.g, (σ.z.d, ⟨l, .ready, σ.nt, base, ps, asg, bdy⟩) :: σ.z.q, σ.z.d + 1⟩
 have hkeep : ∀ (b : Nat) (o : Obj), w.heap[b]? = some o → w1.heap[b]? = some o := fun b o ho => (hbel.block b (Array.getElem?_eq_some_iff.1 ho).1).trans ho
 have hG0 : ∀ k, k < base → (waitG base X.G a) k = X.G k := fun k hk => by simp [waitG, hk]
 have hG1 : ∀ k, (waitG base X.G a) (base + k) = a.tmps.getD k undef := fun k => by
  simp only [waitG]
  rw [if_neg (by omega), Nat.add_sub_cancel_left]
 have hFit : ∀ i e, lk σ.z.q i = some e → ∀ r, LE.Fit e X.G r → LE.Fit e (waitG base X.G a) r := fun i e hi r hf => ⟨hf.ps, hf.asg, hf.bdy, hf.nt, fun k hk => by
  have := (hql i e hi).1
  rw [hG0 _ (by omega)]
  exact hf.G k hk⟩
 have hamb : Amb X' z' β D w1 := by
  refine ⟨fun k s hk => ?_, fun p hp => ?_, fun i e hi => ?_, ?_, ?_, fun d hd => ?_⟩
  · rcases offG_lk hk with ⟨j, rfl, hj⟩ | hk
    · show waitG base X.G a (base + j) = _
      rw [hG1]
      exact hs.t j s (htl j s hj)
    · show waitG base X.G a k = _
      rw [hG0 k (hgl k s hk)]
      exact hs.amb.g k s hk
  · rcases List.mem_append.1 hp with hp | hp
    · obtain ⟨⟨st, pd, h1⟩, h2⟩ := hs.amb.la p hp
      exact ⟨⟨st, pd, hkeep _ _ h1⟩, h2⟩
    · obtain rfl := List.mem_singleton.1 hp
      exact ⟨⟨.ready, none, hl1⟩, hDl⟩
  · have hi : lk ((σ.z.d, (⟨l, .ready, σ.nt, base, ps, asg, bdy⟩ : LE)) :: σ.z.q) i = some e := hi
    by_cases hid : i = σ.z.d
    · subst hid
      rw [lk_cons_eq] at hi
      cases hi
      refine ⟨r, ?_, ⟨rfl, rfl, rfl, hs.size, fun k _ => hG1 k⟩, hl1⟩
      show (X.L ++ [(l, r)])[σ.z.d]? = _
      rw [← hs.amb.dep, List.getElem?_append_right (Nat.le_refl _)]
      simp
    · rw [lk_cons_ne hid] at hi
      obtain ⟨r1, h1, h2, h3⟩ := hs.amb.lq i e hi
      refine ⟨r1, ?_, hFit i e hi r1 h2, hkeep _ _ h3⟩
      show (X.L ++ [(l, r)])[i]? = _
      rw [List.getElem?_append_left (List.getElem?_eq_some_iff.1 h1).1]
      exact h1
  · show (X.L ++ [(l, r)]).length = σ.z.d + 1
    rw [← hs.amb.dep]; simp
  · show ((X.L ++ [(l, r)]).map Prod.fst).Nodup
    rw [List.map_append, List.nodup_append]
    refine ⟨hs.amb.nd, by simp, fun b hb b' hb' => ?_⟩
    have : b' = l := by simpa using hb'
    subst this
    obtain ⟨p, hp, rfl⟩ := List.mem_map.1 hb
    obtain ⟨⟨st, pd, h1⟩, _⟩ := hs.amb.la p hp
    exact hnew _ (Array.getElem?_eq_some_iff.1 h1).1
  · rcases List.mem_append.1 hd with hd | hd
    · exact ⟨(hdl3 d hd).1, (hdl3 d hd).2.1⟩
    · exact ⟨hkeep _ _ (hs.amb.pr d hd).1, (hs.amb.pr d hd).2⟩
 have hcaps : SV.lts σ.nb caps = true := by
  have := hσ.wf.gv hg
  simpa [SV.lt] using this
 have hg0 : ∀ k s, lk z'.g k = some s → s.lt σ.nb = true := fun k s hk => by
  rcases offG_lk hk with ⟨j, rfl, hj⟩ | hk
  · exact hσ.wf.t j s (htl j s hj)
  · exact hσ.wf.g k s hk
 have hcall := calls_VC T hm hfn hb hnt (args := .v (.func (.yield l) #[] #[]) :: caps) (m0 := σ.m) (nb0 := σ.nb) (h := σ.h) (z0 := z') (by simpa using hlen)
  (by simp only [SV.lts, SV.lt, Bool.true_and]; exact hcaps) hσ.wf.m hg0 (h l asg bdy rfl rfl) X' hamb ((hs.mem.below hbel).same rfl rfl)
 refine ⟨l, mark, w1, { target := .fn (.func k) (SV.cs β caps).toArray, args := #[.func (.yield l) #[] #[]] }, w1, k, #[.func (.yield l) #[] #[]] ++ (SV.cs β caps).toArray, w1, he, ?_, ?_, ?_, fun hd => (by rw [hF.depth] at hd; cases hd), ?_⟩
 · simp only [resolve, hev]
   simp [go_sem]
 · intro f' hf'; simp [Target.leads] at hf'; subst hf'; exact hF.fn _
 · simp [invoke, go_sem, T.fok k hk]
 · have e1 : (SV.cs β (.v (.func (.yield l) #[] #[]) :: caps)).toArray = #[.func (.yield l) #[] #[]] ++ (SV.cs β caps).toArray := by
    simp [SV.cs, SV.c]
   rw [← e1]
   refine hF.calls (hcall.mono fun e' w' ⟨s, σ', β', D', hret, hK, hok', _, hmem', hamb'⟩ => ?_)
   subst hret
   obtain ⟨e, ls, hq, hes, hend⟩ := rfEnd_spec hK
   obtain ⟨r1, q1, q2, q3⟩ := hamb'.lq _ e hq
   have q1' : (X.L ++ [(l, r)])[σ.z.d]? = some (e.l, r1) := q1
   rw [← hs.amb.dep, List.getElem?_append_right (Nat.le_refl _)] at q1'
   simp at q1'
   obtain ⟨hel, her⟩ := q1'
   rw [← hel, ← her] at q3
   have fin : ∀ (x : Exit) (o : Obj), backK σ.nt σ.z.d base ks σ' (Φ x) → QΦ X Φ x { a with defers := mark ++ a.defers } (w'.putObj l o) := fun x o hx => by
    obtain ⟨t, g2, q, b1, b2, b3, b4, b5⟩ := back_ok hx hok' hks
    have hDl' : ¬ D' l := (hamb'.la (l, r) (List.mem_append.2 (.inr (List.mem_singleton.2 rfl)))).2
    refine ⟨_, b1, b2, β', D', ?_⟩
    have hold : ∀ (b : Nat) (o' : Obj), b ≠ l → w'.heap[b]? = some o' → (w'.putObj l o).heap[b]? = some o' := fun b o' hne hb => (World.putObj_heap_other hne).trans hb
    have hmt := hmem'.turn o q3 (fun h => h) hDl'
    refine ⟨⟨dl, hdl1, hdl2, fun d hd => ?_⟩, hs.size, fun k s hk => ?_, hmt.m, hmt.inj, hmt.out, hmt.dlt, hmt.h, ⟨fun k s hk => ?_, fun p hp => ?_, fun i e2 hi => ?_, hs.amb.dep, hs.amb.nd, fun d hd => ?_⟩⟩
    · obtain ⟨g1, g2⟩ := hamb'.pr d (List.mem_append.2 (.inl hd))
      exact ⟨hold d _ (fun e => by rw [e, q3] at g1; cases g1) g1, g2, (hdl3 d hd).2.2⟩
    · obtain ⟨h1, h2⟩ := b3 k s hk
      have h3 : waitG base X.G a (base + k) = s.c β' := hamb'.g _ s h2
      rw [hG1] at h3
      exact h3
    · obtain ⟨h1, h2⟩ := b4 k s hk
      have h3 : waitG base X.G a k = s.c β' := hamb'.g _ s h2
      rw [hG0 k h1] at h3
      exact h3
    · obtain ⟨⟨st, pd, h1⟩, h2⟩ := hamb'.la p (List.mem_append.2 (.inl hp))
      refine ⟨⟨st, pd, hold _ _ ?_ h1⟩, h2⟩
      obtain ⟨⟨st0, pd0, h0⟩, _⟩ := hs.amb.la p hp
      exact hnew _ (Array.getElem?_eq_some_iff.1 h0).1
    · obtain ⟨h1, h5, h2⟩ := b5 i e2 hi
      obtain ⟨r2, c1, c2, c3⟩ := hamb'.lq i e2 h2
      have c1' : (X.L ++ [(l, r)])[i]? = some (e2.l, r2) := c1
      rw [List.getElem?_append_left (by rw [hs.amb.dep]; exact h1)] at c1'
      refine ⟨r2, c1', ⟨c2.ps, c2.asg, c2.bdy, c2.nt, fun k hk => ?_⟩, hold _ _ ?_ c3⟩
      · have := c2.G k hk
        rw [show X'.G (e2.base + k) = waitG base X.G a (e2.base + k) from rfl, hG0 _ (by omega)] at this
        exact this
      · obtain ⟨⟨st0, pd0, h0⟩, _⟩ := hs.amb.la _ (List.mem_of_getElem? c1')
        exact hnew _ (Array.getElem?_eq_some_iff.1 h0).1
    · obtain ⟨g1, g2⟩ := hamb'.pr d (List.mem_append.2 (.inr hd))
      exact ⟨hold d _ (fun e => by rw [e, q3] at g1; cases g1) g1, g2⟩
   rcases hend with ⟨rfl, hx⟩ | ⟨rfl, hx⟩ | ⟨id, rfl, hx⟩ | ⟨t, rfl, hx⟩
   · rw [hes] at q3
     exact ⟨_, _, run_endLoop q3 (by simp [LS.put]), fin _ _ hx⟩
   · rw [hes] at q3
     exact ⟨_, _, run_endLoop q3 (by simp [LS.put]), wpIn_ret (fin _ _ hx)⟩
   · rw [hes] at q3
     exact ⟨_, _, run_endLoop q3 (by simp [LS.put]), wpIn_exit (fin _ _ hx)⟩
   · rw [hes] at q3
     exact ⟨_, _, run_endLoop q3 (by simp [LS.put]), wpIn_goto (fin _ _ hx)⟩
theorem yield_inline0V (hm : P.follows .mixedOrders = true) {σ : Sg} {l : Nat} {args : List SV} {KF : Option KT} {kt : KT} (hkf : KF = some kt) (i base : Nat) (bks ks : List Nat) {nt b0 : Nat} {ps : Array Tmp} {asg bdy : Code}
 (hq : lk σ.z.q i = some ⟨l, .ready, nt, b0, ps, asg, bdy⟩) (hps : ps.size = args.length) (hpsB : psB nt ps.toList = true) (hargs : SV.lts σ.nb args = true)
 (hlow : gLow base σ.z.g = true) (hlq : qLow base σ.z.d σ.z.q = true)
 (h : selK σ.t ks fun tl => outK b0 σ.z.g bks fun t0 => VC P asg ⟨nt, setT ps.toList args t0, σ.m, σ.nb, σ.h, ⟨offG base tl σ.z.g, σ.z.q, σ.z.d⟩⟩
  (thenΦ fun σ1 => busyK i σ1 fun σ2 => VC P bdy σ2 (roundΦ σ.nt σ.z.d base ks i kt))) (hbks : psB nt bks = true) : YEv P σ l args KF := by
 refine .mk kt hkf fun X β D a w hσ hs => ?_
 obtain ⟨tl, h, hkeys, htl⟩ := selK_spec h
 obtain ⟨t0, h, ht0⟩ := outK_spec h
 have hks : ∀ k ∈ ks, k < σ.nt := fun j hj => by
  rw [← hkeys] at hj
  obtain ⟨⟨j', x⟩, hx, rfl⟩ := List.mem_map.1 hj
  obtain ⟨y, hy⟩ := lk_isSome hx
  exact hσ.lt _ _ (htl _ _ hy)
 have hgl := gLow_lk hlow
 have hql := qLow_lk hlq
 obtain ⟨r, r1, r2, r3⟩ := hs.amb.lq i _ hq
 obtain ⟨dl, d1, d2, d3⟩ := hs.defers
 have hlen' : (SV.cs β args).length = args.length := by rw [SV.cs_eq, List.length_map]
 have hy := run_yield (P := P) (args := (SV.cs β args).toArray) r3 (by simp only [LS.put, r2.ps, hps, List.size_toArray, hlen'])
 let X' : Cx := ⟨waitG base X.G a, X.L, dl ++ X.pr⟩
 have hG0 : ∀ k, k < base → (waitG base X.G a) k = X.G k := fun k hk => by simp [waitG, hk]
 have hG1 : ∀ k, (waitG base X.G a) (base + k) = a.tmps.getD k undef := fun k => by
  simp only [waitG]
  rw [if_neg (by omega), Nat.add_sub_cancel_left]
 have hFit : ∀ e : LE, e.base + e.nt ≤ base → ∀ r, LE.Fit e X.G r ↔ LE.Fit e (waitG base X.G a) r := fun e he r =>
  ⟨fun hf => ⟨hf.ps, hf.asg, hf.bdy, hf.nt, fun k hk => by rw [hG0 _ (by omega)]; exact hf.G k hk⟩, fun hf => ⟨hf.ps, hf.asg, hf.bdy, hf.nt, fun k hk => by rw [← hG0 _ (by omega)]; exact hf.G k hk⟩⟩
 have hamb : Amb X' ⟨offG base tl σ.z.g, σ.z.q, σ.z.d⟩ β D w := by
  refine ⟨fun k s hk => ?_, hs.amb.la, fun j e hj => ?_, hs.amb.dep, hs.amb.nd, fun d hd => ?_⟩
  · rcases offG_lk hk with ⟨j, rfl, hj⟩ | hk
    · show waitG base X.G a (base + j) = _
      rw [hG1]
      exact hs.t j s (htl j s hj)
    · show waitG base X.G a k = _
      rw [hG0 k (hgl k s hk)]
      exact hs.amb.g k s hk
  · obtain ⟨r', h1, h2, h3⟩ := hs.amb.lq j e hj
    exact ⟨r', h1, (hFit e (hql j e hj).1 r').1 h2, h3⟩
  · rcases List.mem_append.1 hd with hd | hd
    · exact ⟨(d3 d hd).1, (d3 d hd).2.1⟩
    · exact hs.amb.pr d hd
 have hlq' : ∀ F : Fence, F = Fence.wide.inRound l → ∀ l', F.round = some l' → ∃ r, (l', r) ∈ X'.L := by
  rintro F rfl l' hl'
  have : l = l' := Option.some.inj hl'
  subst this
  exact ⟨r, List.mem_of_getElem? r1⟩
 have hbks' := psB_mem hbks
 have hps' := psB_mem hpsB
 obtain ⟨hT1, hT2⟩ := setT_lk (nt := nt) (β := β) ps.toList args t0 r.tmps hpsB r2.nt (fun k s hk => by
  obtain ⟨g1, g2⟩ := ht0 k s hk
  have g3 : X.G (b0 + k) = r.tmps.getD k undef := r2.G k (hbks' k g1)
  rw [← g3]
  exact hs.amb.g _ s g2)
 have hok0 : Sg.Ok ⟨nt, setT ps.toList args t0, σ.m, σ.nb, σ.h, ⟨offG base tl σ.z.g, σ.z.q, σ.z.d⟩⟩ := by
  refine ⟨⟨fun k s hk => ?_, fun k s hk => ?_, hσ.wf.m⟩, fun k s hk => ?_⟩
  · rcases setT_mem _ _ _ _ _ hk with ⟨h1, _⟩ | h1
    · exact lts_iff.1 hargs s h1
    · exact hσ.wf.g _ s (ht0 k s h1).2
  · rcases offG_lk hk with ⟨j, rfl, hj⟩ | hk
    · exact hσ.wf.t j s (htl j s hj)
    · exact hσ.wf.g k s hk
  · rcases setT_mem _ _ _ _ _ hk with ⟨_, h1⟩ | h1
    · exact hps' k h1
    · exact hbks' k (ht0 k s h1).1
 have hfold : ∀ T0 : Array Value, (r.params.zip (SV.cs β args).toArray).foldl (fun tmps (x : Tmp × Value) => tmps.setIfInBounds x.1 x.2) T0 = (ps.toList.zip (SV.cs β args)).foldl (fun T (p : Tmp × Value) => T.setIfInBounds p.1 p.2) T0 := fun T0 => by
  rw [r2.ps, ← Array.foldl_toList, Array.toList_zip]
 refine ⟨r.fn, _, asg, bdy, ?_, roundIn_of_wpIn trivial (wpIn_mono (h (Fence.wide.inRound l) _ X' { tmps := _, defers := [] } w (.inr ⟨l, rfl⟩) (hlq' _ rfl) hok0 ⟨β, D, ⟨[], rfl, List.nodup_nil, fun d hd => (by cases hd)⟩, hT1, hT2, hs.m, hs.inj, hs.out, hs.dlt, hs.h, hamb⟩) ?_)⟩
 · have hy' := hy
   simp only [LS.put, r2.asg, r2.bdy] at hy'
   rw [← hfold]
   exact hy'
 rintro e a1 w1 ⟨σ1, h1, hok1, β1, D1, hs1⟩
 cases e with
 | normal => ?_
 | _ => exact h1.elim
 have h1 : busyK i σ1 fun σ2 => VC P bdy σ2 (roundΦ σ.nt σ.z.d base ks i kt) := h1
 obtain ⟨nt1, t1, m1, nb1, hh1, ⟨g1, q1, dd1⟩⟩ := σ1
 simp only [busyK] at h1
 split at h1
 case h_2 => exact h1.elim
 rename_i l1 ntx bx psx asgx bdyx hq1
 obtain ⟨rx, x1, x2, x3⟩ := hs1.amb.lq i _ hq1
 have hx : (l1, rx) = (l, r) := Option.some.inj (x1.symm.trans r1)
 obtain ⟨rfl, rfl⟩ := Prod.mk.injEq .. ▸ hx
 have hDl := (hs1.amb.la _ (List.mem_of_getElem? r1)).2
 refine ⟨_, run_beginRound x3 rfl, wpIn_mono (h1 (Fence.wide.inRound l1) _ X' a1 _ (.inr ⟨l1, rfl⟩) (hlq' _ rfl) ⟨⟨hok1.wf.t, hok1.wf.g, hok1.wf.m⟩, hok1.lt⟩ ?_) ?_⟩
 · have hmt := hs1.mem.turn (.loop (LS.busy.put rx)) x3 (fun h => h) hDl
   have ha := hs1.amb.setQ (i := i) (e := ⟨l1, .busy, ntx, bx, psx, asgx, bdyx⟩) x1 ⟨x2.ps, x2.asg, x2.bdy, x2.nt, x2.G⟩ _ rfl
   obtain ⟨el, e1, e2, e3⟩ := hs1.defers
   exact ⟨β1, D1, ⟨el, e1, e2, fun d hd => ⟨(World.putObj_heap_other fun he => by have q := (e3 d hd).1; rw [he, x3] at q; cases q).trans (e3 d hd).1, (e3 d hd).2⟩⟩, hs1.size, hs1.t, hmt.m, hmt.inj, hmt.out, hmt.dlt, hmt.h, ha⟩
 rintro e a2 w2 ⟨σ2, h2, hok2, β2, D2, hs2⟩
 obtain ⟨⟨st, pd, y0⟩, y1⟩ := hs2.amb.la _ (List.mem_of_getElem? r1)
 have fin : ∀ (ls : LS) (b : Bool) (o : Obj), o = .loop (ls.put rx) → backR σ.nt σ.z.d base ks i ls σ2 (kt (.v (.bool b))) → ∃ b' σ' β' D', Ending.returned (.bool b) = .returned (.bool b') ∧ kt (.v (.bool b')) σ' ∧ σ'.Ok ∧ σ'.nt = σ.nt ∧ Sat' X σ' β' D' a (w2.putObj l1 o) := by
  rintro ls b o rfl hb
  obtain ⟨e, t, g, q, z1, z2, z3, z4, z5, z6, z7⟩ := backR_spec hb hok2 hks
  obtain ⟨rz, u1, u2, u3⟩ := hs2.amb.lq i e z1
  have hu : (e.l, rz) = (l1, rx) := Option.some.inj (u1.symm.trans r1)
  obtain ⟨hu1, rfl⟩ := Prod.mk.injEq .. ▸ hu
  have ha : Amb X ⟨g, q, σ.z.d⟩ β2 D2 w2 := by
   refine ⟨fun k s hk => ?_, hs2.amb.la, fun j e' hj => ?_, hs.amb.dep, hs.amb.nd, fun d hd => hs2.amb.pr d (List.mem_append.2 (.inr hd))⟩
   · obtain ⟨v1, v2⟩ := z6 k s hk
     have v3 : waitG base X.G a k = s.c β2 := hs2.amb.g _ s v2
     rw [hG0 k v1] at v3
     exact v3
   · obtain ⟨v1, v2, v3⟩ := z7 j e' hj
     obtain ⟨r', v4, v5, v6⟩ := hs2.amb.lq j e' v3
     exact ⟨r', v4, (hFit e' v2 r').2 v5, v6⟩
  have ha2 := ha.setQ (i := i) (e := { e with s := ls }) u1 ⟨u2.ps, u2.asg, u2.bdy, u2.nt, ((hFit e z2 rz).2 u2).G⟩ _ rfl
  have hmt := hs2.mem.turn (.loop (ls.put rz)) y0 (fun h => h) y1
  have ha3 : Amb X ⟨g, (i, { e with s := ls }) :: q, σ.z.d⟩ β2 D2 (w2.putObj l1 (.loop (ls.put rz))) := by
   rw [← hu1]; exact ha2
  refine ⟨b, _, β2, D2, rfl, z3, z4, rfl, ⟨dl, d1, d2, fun d hd => ?_⟩, hs.size, fun k s hk => ?_, hmt.m, hmt.inj, hmt.out, hmt.dlt, hmt.h, ha3⟩
  · obtain ⟨v1, v2⟩ := hs2.amb.pr d (List.mem_append.2 (.inl hd))
    exact ⟨(World.putObj_heap_other fun he => by rw [he, y0] at v1; cases v1).trans v1, v2, (d3 d hd).2.2⟩
  · obtain ⟨v1, v2⟩ := z5 k s hk
    have v3 : waitG base X.G a (base + k) = s.c β2 := hs2.amb.g _ s v2
    rw [hG1] at v3
    exact v3
 cases e with
 | normal => exact ⟨_, _, run_endRound none y0, fin .ready true _ rfl h2⟩
 | ret => exact ⟨_, _, run_endRound (some .ret) y0, fin (.done .ret) false _ rfl h2⟩
 | exit id => exact ⟨_, _, run_endRound (some (.exit id)) y0, fin (.done (.exit id)) false _ rfl h2⟩
 | goto t => exact ⟨_, _, run_endRound (some (.goto t)) y0, fin (.done (.goto t)) false _ rfl h2⟩
 | _ => exact h2.elim
theorem callI0V (hm : P.follows .mixedOrders = true) {σ : Sg} {k : Nat} {args : List SV} {kt : KT} {fn : Func} {c : Code} {nt : Nat} (base : Nat) (keep : List Nat)
 (hfn : P.funcs[k]? = some fn) (hb : fn.body = some c) (hnt : fn.ntmps = nt) (hlen : args.length ≤ nt) (hargs : SV.lts σ.nb args = true)
 (hlow : gLow base σ.z.g = true) (hlq : qLow base σ.z.d σ.z.q = true)
 (h : selK σ.t keep fun tl => VC P c ⟨nt, slotsOf 0 args, σ.m, σ.nb, σ.h, ⟨offG base tl σ.z.g, σ.z.q, σ.z.d⟩⟩
  (endΦ T fn fun s σ' => backK σ.nt σ.z.d base keep σ' (kt s))) : StOK P σ k args kt := by
 refine fun X β D a w hσ hs => ?_
 obtain ⟨tl, h, hkeys, htl⟩ := selK_spec h
 have hks : ∀ k ∈ keep, k < σ.nt := fun j hj => by
  rw [← hkeys] at hj
  obtain ⟨⟨j', x⟩, hx, rfl⟩ := List.mem_map.1 hj
  obtain ⟨y, hy⟩ := lk_isSome hx
  exact hσ.lt _ _ (htl _ _ hy)
 have hgl := gLow_lk hlow
 have hql := qLow_lk hlq
 obtain ⟨dl, d1, d2, d3⟩ := hs.defers
 let X' : Cx := ⟨waitG base X.G a, X.L, dl ++ X.pr⟩
 have hG0 : ∀ k, k < base → (waitG base X.G a) k = X.G k := fun k hk => by simp [waitG, hk]
 have hG1 : ∀ k, (waitG base X.G a) (base + k) = a.tmps.getD k undef := fun k => by
  simp only [waitG]
  rw [if_neg (by omega), Nat.add_sub_cancel_left]
 have hFit : ∀ e : LE, e.base + e.nt ≤ base → ∀ r, LE.Fit e X.G r ↔ LE.Fit e (waitG base X.G a) r := fun e he r =>
  ⟨fun hf => ⟨hf.ps, hf.asg, hf.bdy, hf.nt, fun k hk => by rw [hG0 _ (by omega)]; exact hf.G k hk⟩, fun hf => ⟨hf.ps, hf.asg, hf.bdy, hf.nt, fun k hk => by rw [← hG0 _ (by omega)]; exact hf.G k hk⟩⟩
 have hamb : Amb X' ⟨offG base tl σ.z.g, σ.z.q, σ.z.d⟩ β D w := by
  refine ⟨fun k s hk => ?_, hs.amb.la, fun j e hj => ?_, hs.amb.dep, hs.amb.nd, fun d hd => ?_⟩
  · rcases offG_lk hk with ⟨j, rfl, hj⟩ | hk
    · show waitG base X.G a (base + j) = _
      rw [hG1]
      exact hs.t j s (htl j s hj)
    · show waitG base X.G a k = _
      rw [hG0 k (hgl k s hk)]
      exact hs.amb.g k s hk
  · obtain ⟨r', h1, h2, h3⟩ := hs.amb.lq j e hj
    exact ⟨r', h1, (hFit e (hql j e hj).1 r').1 h2, h3⟩
  · rcases List.mem_append.1 hd with hd | hd
    · exact ⟨(d3 d hd).1, (d3 d hd).2.1⟩
    · exact hs.amb.pr d hd
 have hg0 : ∀ k s, lk (offG base tl σ.z.g) k = some s → s.lt σ.nb = true := fun k s hk => by
  rcases offG_lk hk with ⟨j, rfl, hj⟩ | hk
  · exact hσ.wf.t j s (htl j s hj)
  · exact hσ.wf.g k s hk
 refine (calls_VC T hm hfn hb hnt (args := args) (m0 := σ.m) (nb0 := σ.nb) (h := σ.h) (z0 := ⟨offG base tl σ.z.g, σ.z.q, σ.z.d⟩) hlen hargs hσ.wf.m hg0 h X' hamb (hs.mem.same rfl rfl)).mono fun e' w' ⟨s, σ', β', D', hret, hK, hok', hlt', hmem', hamb'⟩ => ?_
 obtain ⟨t, g2, q, b1, b2, b3, b4, b5⟩ := back_ok hK hok' hks
 refine ⟨s, _, β', D', hret, b1, hlt', b2, rfl, ⟨dl, d1, d2, fun d hd => ?_⟩, hs.size, fun k s hk => ?_, hmem'.m, hmem'.inj, hmem'.out, hmem'.dlt, hmem'.h, ⟨fun k s hk => ?_, hamb'.la, fun i e2 hi => ?_, hs.amb.dep, hs.amb.nd, fun d hd => hamb'.pr d (List.mem_append.2 (.inr hd))⟩⟩
 · obtain ⟨g1, g2⟩ := hamb'.pr d (List.mem_append.2 (.inl hd))
   exact ⟨g1, g2, (d3 d hd).2.2⟩
 · obtain ⟨h1, h2⟩ := b3 k s hk
   have h3 : waitG base X.G a (base + k) = s.c β' := hamb'.g _ s h2
   rw [hG1] at h3
   exact h3
 · obtain ⟨h1, h2⟩ := b4 k s hk
   have h3 : waitG base X.G a k = s.c β' := hamb'.g _ s h2
   rw [hG0 k h1] at h3
   exact h3
 · obtain ⟨h1, h5, h2⟩ := b5 i e2 hi
   obtain ⟨r2, c1, c2, c3⟩ := hamb'.lq i e2 h2
   exact ⟨r2, c1, (hFit e2 h5 r2).2 c2, c3⟩
end
end Go.Proofs.YtkbfcofifhngfaaGreat.Tx
namespace Go.Proofs.YtkbfcofifhngfaaGreat.Tx
open Go Go.RowKit
end Go.Proofs.YtkbfcofifhngfaaGreat.Tx
namespace Go.Proofs.YtkbfcofifhngfaaGreat.Tx
open Go Go.RowKit
noncomputable section
end
end Go.Proofs.YtkbfcofifhngfaaGreat.Tx
namespace Go.Proofs.YtkbfcofifhngfaaGreat.Tx
open Go Go.RowKit
noncomputable section
end
end Go.Proofs.YtkbfcofifhngfaaGreat.Tx
namespace Go.Proofs.YtkbfcofifhngfaaGreat.Tx
open Go Go.RowKit
noncomputable section
section
end
end
end Go.Proofs.YtkbfcofifhngfaaGreat.Tx
namespace Go.Proofs.YtkbfcofifhngfaaGreat.Tx
open Go Go.RowKit
noncomputable section
section
end
end
end Go.Proofs.YtkbfcofifhngfaaGreat.Tx
namespace Go.Proofs.YtkbfcofifhngfaaGreat.Tx
open Go Go.RowKit
noncomputable section
section
end
end
end Go.Proofs.YtkbfcofifhngfaaGreat.Tx
namespace Go.Proofs.YtkbfcofifhngfaaGreat.Tx
open Go Go.RowKit
noncomputable section
section
end
end
end Go.Proofs.YtkbfcofifhngfaaGreat.Tx
namespace Go.Proofs.YtkbfcofifhngfaaGreat
open Go Tx Go.RowKit
theorem leaf150 (sl ro su : Int) (go to : Option Addr) (gc tc : Nat) (G : List Rw) (T : List Tc) (D : SD) (w : World) (h : ScIn ⟨sl, ro, su, go, gc, G, to, tc, T⟩ w) (hB : ScB ⟨sl, ro, su, go, gc, G, to, tc, T⟩) (hD : Sc.d ⟨sl, ro, su, go, gc, G, to, tc, T⟩ = D) (hv : scOk D = true) (lp l2 : Nat) (a1 b1 a2 b2 : Code) (ha1 : a1 = qA (qI (qR (qR (qI (qL (qR (qR (qI (qI (qR (qL (qR body38))))))))))))) (hb1 : b1 = qB (qI (qR (qR (qI (qL (qR (qR (qI (qI (qR (qL (qR body38))))))))))))) (ha2 : a2 = qA (qI (qR (qR body122)))) (hb2 : b2 = qB (qI (qR (qR body122)))) (size : Nat) (now : List Int) (hn : now.length = size) (h1 : 1 ≤ now.length) (hsub : subIn D now) :
 RecVC Tryz.prog env body150 Tryz.f150 43 10 4000 [(0, .cells [.v (iv sl), .v (iv ro), .v (iv su), .v (.slice go G.length gc), .v (.slice to T.length tc)] 34), (1, .cells [.v (.int .u8 0), .v (iv 0), .v (.slice none 0 0), .v (iv 0), .v (iv 0)] 56), (2, .cells [.v (.bool false)] 4), (3, .cells [.v (.int .u8 1), .v (.func (.func 119) #[] #[]), .v (.int .u8 2), .v (.func (.func 121) #[] #[]), .v (.int .u8 3), .v (.func (.func 124) #[] #[])] 145), (4, .cells [.v (.int .u8 2), .v (.func (.func 121) #[] #[])] 145), (5, .cells [.v (iv sl), .v (iv ro), .v (iv su), .v (.slice go G.length gc), .v (.slice to T.length tc)] 34), (6, .cells [.v (.func (.yield lp) #[] #[])] 163), (7, .cells [.v (iv sl), .v (iv ro), .v (iv su), .v (.slice go G.length gc), .v (.slice to T.length tc)] 34), (8, .cells [.v (.func (.yield l2) #[] #[])] 111), (9, .cells [.fn (.func 150) [.ptr 8 0, .ptr 7 0, .ptr 9 0]] 105)] ⟨[(3001, .ptr 7 0), (3002, .ptr 8 0), (3003, .ptr 9 0), (3004, .v (iv size)), (3010, .v (.bool true)), (2001, .ptr 5 0), (2002, .ptr 6 0), (1001, .ptr 0 0), (1002, .ptr 1 0), (1003, .ptr 2 0), (1005, .ptr 4 0), (1007, .sl 3 0 3 3), (1008, .v (iv 3)), (1009, .v (iv 1))], [(1, ⟨l2, .ready, 13, 2000, #[6], a2, b2⟩), (0, ⟨lp, .ready, 23, 1000, #[17], a1, b1⟩)], 2⟩ w [.v (iv size), .ptr 8 0, .ptr 7 0, .ptr 9 0] now.length (now.map iv) 3 (fun σs => ∃ (o : Option Addr) (c : Nat), unB D now = true ∧ σs = ⟨0, [], [(1, .cells [.v (.int .u8 2), .v (iv 0), .v (.slice o now.length c), .v (iv (hoursP D now)), .v (iv (timesP D now))] 56), (2, .cells [.v (.bool true)] 4)], 30, fun w' => Below w.heap.size w w' ∧ St w.heap.size (Rd 1 iF (.slice o now.length c) now) w', ⟨[(3001, .ptr 7 0), (3002, .ptr 8 0), (3003, .ptr 9 0), (3004, .v (iv size)), (3010, .v (.bool true)), (2001, .ptr 5 0), (2002, .ptr 6 0), (1001, .ptr 0 0), (1002, .ptr 1 0), (1003, .ptr 2 0), (1005, .ptr 4 0), (1007, .sl 3 0 3 3), (1008, .v (iv 3)), (1009, .v (iv 1))], [(1, ⟨l2, .done .ret, 13, 2000, #[6], a2, b2⟩), (0, ⟨lp, .done .ret, 23, 1000, #[17], a1, b1⟩)], 2⟩⟩) (unB D now = false) := by
 intro cc hncc h' hh' cur hcl hcx
 have c64 := fun (o : Option Addr) (c : Nat) (w' : World) (hw : Below w.heap.size w w') (hrd : Rd 1 iF (.slice o now.length c) now w') => untaught_ok ⟨sl, ro, su, go, gc, G, to, tc, T⟩ now o c w' (h.below hw) hB (by rw [hD]; exact hv) hrd (by rw [hD]; exact hsub)
 rw [hD] at c64
 have hl10 : now.length ≤ 10 := hsub.1
 have c151 : ∀ (β : Nat → Nat) (w' : World), Blk.ok β w' (β 10) (.cells (cur.map .v) 3) → Calls Tryz.prog 151 #[.slice (some ⟨β 10, 0, none⟩) now.length cc] w' fun e w2 => ∃ b d, e = .returned (.slice (some ⟨b, 0, none⟩) now.length d) ∧ w'.heap.size ≤ b ∧ Below w'.heap.size w' w2 ∧ w2.ownsRow 0 3 1 (.slice (some ⟨b, 0, none⟩) now.length d) now.length (now.flatMap iF) := fun β w' hb => by
  refine clone_ok now _ _ w' (.inr ⟨_, _, rfl, fun k x hk j v hj => ?_⟩) h1 (by omega)
  simp only [Blk.ok, cs_vv] at hb
  match j, hj with
  | 0, hj =>
   simp only [List.getElem?_cons_zero, Option.some.injEq] at hj
   subst hj
   rw [Nat.mul_one, own_add, own_add, cell_of_row w' (β 10) (0 + k + 0) _ 3 (0, 0) hb, List.getElem?_toArray]
   have h2 : (now.map iv)[k]? = some (iv x) := by rw [List.getElem?_map, hk]; rfl
   rw [← hcx, List.getElem?_take] at h2
   split at h2
   · rw [Nat.add_zero, Nat.zero_add]; exact h2
   · cases h2
 have hub : unB D now = decide (timesP D now < hoursP D now) := rfl
 have hmB : mB 11 [(10, .cells (cur.map .v) 3), (0, .cells [.v (iv sl), .v (iv ro), .v (iv su), .v (.slice go G.length gc), .v (.slice to T.length tc)] 34), (1, .cells [.v (.int .u8 0), .v (iv 0), .v (.slice none 0 0), .v (iv 0), .v (iv 0)] 56), (2, .cells [.v (.bool false)] 4), (3, .cells [.v (.int .u8 1), .v (.func (.func 119) #[] #[]), .v (.int .u8 2), .v (.func (.func 121) #[] #[]), .v (.int .u8 3), .v (.func (.func 124) #[] #[])] 145), (4, .cells [.v (.int .u8 2), .v (.func (.func 121) #[] #[])] 145), (5, .cells [.v (iv sl), .v (iv ro), .v (iv su), .v (.slice go G.length gc), .v (.slice to T.length tc)] 34), (6, .cells [.v (.func (.yield lp) #[] #[])] 163), (7, .cells [.v (iv sl), .v (iv ro), .v (iv su), .v (.slice go G.length gc), .v (.slice to T.length tc)] 34), (8, .cells [.v (.func (.yield l2) #[] #[])] 111), (9, .cells [.fn (.func 150) [.ptr 8 0, .ptr 7 0, .ptr 9 0]] 105)] = true := by
  show (Nat.blt 10 11 && SV.lts 11 (cur.map .v) && mB 11 [(0, .cells [.v (iv sl), .v (iv ro), .v (iv su), .v (.slice go G.length gc), .v (.slice to T.length tc)] 34), (1, .cells [.v (.int .u8 0), .v (iv 0), .v (.slice none 0 0), .v (iv 0), .v (iv 0)] 56), (2, .cells [.v (.bool false)] 4), (3, .cells [.v (.int .u8 1), .v (.func (.func 119) #[] #[]), .v (.int .u8 2), .v (.func (.func 121) #[] #[]), .v (.int .u8 3), .v (.func (.func 124) #[] #[])] 145), (4, .cells [.v (.int .u8 2), .v (.func (.func 121) #[] #[])] 145), (5, .cells [.v (iv sl), .v (iv ro), .v (iv su), .v (.slice go G.length gc), .v (.slice to T.length tc)] 34), (6, .cells [.v (.func (.yield lp) #[] #[])] 163), (7, .cells [.v (iv sl), .v (iv ro), .v (iv su), .v (.slice go G.length gc), .v (.slice to T.length tc)] 34), (8, .cells [.v (.func (.yield l2) #[] #[])] 111), (9, .cells [.fn (.func 150) [.ptr 8 0, .ptr 7 0, .ptr 9 0]] 105)]) = true
  rw [lts_v]; rfl
 rw [c150]
 refine VC.seq (f := fun σ' => Ent σ' ⟨43, [(0, .sl 10 0 now.length cc), (1, .v (iv size)), (2, .ptr 8 0), (3, .ptr 7 0), (4, .ptr 9 0)], [(10, .cells (cur.map .v) 3), (0, .cells [.v (iv sl), .v (iv ro), .v (iv su), .v (.slice go G.length gc), .v (.slice to T.length tc)] 34), (1, .cells [.v (.int .u8 0), .v (iv 0), .v (.slice none 0 0), .v (iv 0), .v (iv 0)] 56), (2, .cells [.v (.bool false)] 4), (3, .cells [.v (.int .u8 1), .v (.func (.func 119) #[] #[]), .v (.int .u8 2), .v (.func (.func 121) #[] #[]), .v (.int .u8 3), .v (.func (.func 124) #[] #[])] 145), (4, .cells [.v (.int .u8 2), .v (.func (.func 121) #[] #[])] 145), (5, .cells [.v (iv sl), .v (iv ro), .v (iv su), .v (.slice go G.length gc), .v (.slice to T.length tc)] 34), (6, .cells [.v (.func (.yield lp) #[] #[])] 163), (7, .cells [.v (iv sl), .v (iv ro), .v (iv su), .v (.slice go G.length gc), .v (.slice to T.length tc)] 34), (8, .cells [.v (.func (.yield l2) #[] #[])] 111), (9, .cells [.fn (.func 150) [.ptr 8 0, .ptr 7 0, .ptr 9 0]] 105)], 11, h', ⟨[(4000, .ptr 10 0), (3001, .ptr 7 0), (3002, .ptr 8 0), (3003, .ptr 9 0), (3004, .v (iv size)), (3010, .v (.bool true)), (2001, .ptr 5 0), (2002, .ptr 6 0), (1001, .ptr 0 0), (1002, .ptr 1 0), (1003, .ptr 2 0), (1005, .ptr 4 0), (1007, .sl 3 0 3 3), (1008, .v (iv 3)), (1009, .v (iv 1))], [(1, ⟨l2, .ready, 13, 2000, #[6], a2, b2⟩), (0, ⟨lp, .ready, 23, 1000, #[17], a1, b1⟩)], 2⟩⟩) (VC.of env mixed ?_) (fun σ' he => VC.ent ?_ he (okB rfl hmB rfl))
 ·
  skip
  exact Ent.weak rfl ⟨rfl, rfl, rfl, rfl, rfl, trivial⟩ ⟨rfl, rfl, rfl, rfl, rfl, rfl, rfl, rfl, rfl, rfl, rfl, trivial⟩ fun _ h => h
 · refine VC.seq (f := fun _ => False) ?_ (fun σ' he => he.elim)
   refine VC.seq (f := fun σ' => Ent σ' ⟨43, [(0, .sl 10 0 now.length cc), (1, .v (iv size)), (2, .ptr 8 0), (3, .ptr 7 0), (4, .ptr 9 0), (13, .v (.bool true))], [(10, .cells (cur.map .v) 3), (0, .cells [.v (iv sl), .v (iv ro), .v (iv su), .v (.slice go G.length gc), .v (.slice to T.length tc)] 34), (1, .cells [.v (.int .u8 0), .v (iv 0), .v (.slice none 0 0), .v (iv 0), .v (iv 0)] 56), (2, .cells [.v (.bool false)] 4), (3, .cells [.v (.int .u8 1), .v (.func (.func 119) #[] #[]), .v (.int .u8 2), .v (.func (.func 121) #[] #[]), .v (.int .u8 3), .v (.func (.func 124) #[] #[])] 145), (4, .cells [.v (.int .u8 2), .v (.func (.func 121) #[] #[])] 145), (5, .cells [.v (iv sl), .v (iv ro), .v (iv su), .v (.slice go G.length gc), .v (.slice to T.length tc)] 34), (6, .cells [.v (.func (.yield lp) #[] #[])] 163), (7, .cells [.v (iv sl), .v (iv ro), .v (iv su), .v (.slice go G.length gc), .v (.slice to T.length tc)] 34), (8, .cells [.v (.func (.yield l2) #[] #[])] 111), (9, .cells [.fn (.func 150) [.ptr 8 0, .ptr 7 0, .ptr 9 0]] 105)], 11, h', ⟨[(4000, .ptr 10 0), (3001, .ptr 7 0), (3002, .ptr 8 0), (3003, .ptr 9 0), (3004, .v (iv size)), (3010, .v (.bool true)), (2001, .ptr 5 0), (2002, .ptr 6 0), (1001, .ptr 0 0), (1002, .ptr 1 0), (1003, .ptr 2 0), (1005, .ptr 4 0), (1007, .sl 3 0 3 3), (1008, .v (iv 3)), (1009, .v (iv 1))], [(1, ⟨l2, .ready, 13, 2000, #[6], a2, b2⟩), (0, ⟨lp, .ready, 23, 1000, #[17], a1, b1⟩)], 2⟩⟩) (VC.of env mixed ?_) (fun σ' he => VC.ent ?_ he (okB rfl hmB rfl))
   ·
    skip
    refine Ent.weak rfl ⟨rfl, rfl, rfl, rfl, rfl, ?_, trivial⟩ ⟨rfl, rfl, rfl, rfl, rfl, rfl, rfl, rfl, rfl, rfl, rfl, trivial⟩ fun _ h => h
    exact congrArg (fun b => some (SV.v (.bool b))) (by rw [hn]; exact beq_self_eq_true _)
   · refine VC.cond true rfl (fun _ => ?_) (fun h => by cases h)
     refine VC.seqR env mixed ?_
     refine VC_mid env mixed (fun _ => false) 3 (by kernel_rfl) ?_
     repeat'
      conv => whnf
      first
       |refine zA ?_|refine zD ?_
       |(with_reducible show CallEv _ _ 151 ..); refine callO 11 [10] (.os 11 12 now.length) now.length 1 (now.flatMap iF) 3 rfl (fun β w' hbk _ => c151 β w' (hbk 10 (by simp) _ rfl)) ?_
       |refine And.intro (a := (_ : List _) = [] ∧ (_ : List _) = []) ⟨rfl, rfl⟩ ?_
     conv => whnf
     refine yield_give (i := 11) (j := 12) (L := now) rfl rfl rfl (m' := [(10, .cells (cur.map .v) 3), (0, .cells [.v (iv sl), .v (iv ro), .v (iv su), .v (.slice go G.length gc), .v (.slice to T.length tc)] 34), (1, .cells [.v (.int .u8 0), .v (iv 0), .v (.slice none 0 0), .v (iv 0), .v (iv 0)] 56), (2, .cells [.v (.bool false)] 4), (3, .cells [.v (.int .u8 1), .v (.func (.func 119) #[] #[]), .v (.int .u8 2), .v (.func (.func 121) #[] #[]), .v (.int .u8 3), .v (.func (.func 124) #[] #[])] 145), (4, .cells [.v (.int .u8 2), .v (.func (.func 121) #[] #[])] 145), (5, .cells [.v (iv sl), .v (iv ro), .v (iv su), .v (.slice go G.length gc), .v (.slice to T.length tc)] 34), (6, .cells [.v (.func (.yield lp) #[] #[])] 163), (7, .cells [.v (iv sl), .v (iv ro), .v (iv su), .v (.slice go G.length gc), .v (.slice to T.length tc)] 34), (8, .cells [.v (.func (.yield l2) #[] #[])] 111), (9, .cells [.fn (.func 150) [.ptr 8 0, .ptr 7 0, .ptr 9 0]] 105)]) ⟨rfl, rfl, rfl, rfl, rfl, rfl, rfl, rfl, rfl, rfl, rfl, trivial⟩ rfl hh' (fun o c => ?_)
     have c64 := c64 o c
     have c60 := fun (w' : World) => holds_ok ⟨2, 0, o, c, now, hoursP D now, timesP D now⟩ w'
     refine YEv.ok (yield_inline0V mixed rfl 1 5000 [1, 2] [] (nt := 13) (b0 := 2000) rfl rfl rfl rfl rfl rfl ?_ rfl)
     conv => whnf
     refine VC.eq ha2 (VC.of env mixed ?_)
     skip
     conv => whnf
     refine VC.eq hb2 ?_
     rw [c122b]
     refine VC.block (VC.sq ?_)
     refine VC_mid env mixed (fun _ => false) 4 (by kernel_rfl) ?_
     by_cases hu : timesP D now < hoursP D now
     · rw [show decide ((⟨2, 0, o, c, now, hoursP D now, timesP D now⟩ : Rn).h < (⟨2, 0, o, c, now, hoursP D now, timesP D now⟩ : Rn).n) = true from decide_eq_true hu] at c60
       generalize hoursP D now = H at *
       generalize timesP D now = M at *
       repeat'
        conv => whnf
        first
         |refine zA ?_|refine zB ?_|refine zC ?_|refine zD ?_|refine splT ?_
         |((with_reducible show CallEv _ _ 64 ..); refine callE (fun β w' hbw => c64 w' (hh' w' hbw.1) hbw.2.now) ?_)
         |refine And.intro (a := (_ : List _) = [] ∧ (_ : List _) = []) ⟨rfl, rfl⟩ ?_
         |refine yield_inline env mixed 0 6000 [2, 3] [] rfl rfl rfl rfl rfl rfl rfl ?_
         |refine vc_eq env ha1 ?_
         |refine vc_eq env hb1 ?_
         |((with_reducible show CallEv _ _ 60 ..); refine callE (fun β w' hbw => c60 w') ?_)
       conv => whnf
       refine VC.of env mixed ?_
       repeat'
        conv => whnf
        first
         |refine zB ?_|refine splT ?_
       conv => whnf
       exact .inr ⟨rfl, _, ⟨o, c, hub.trans (decide_eq_true hu), rfl⟩, Ent.weak rfl trivial ⟨rfl, rfl, trivial⟩ (fun w' h => ⟨hh' w' h.1, h.2⟩) (.inr ⟨rfl, ⟨rfl, rfl, rfl, rfl, rfl, rfl, rfl, rfl, rfl, rfl, rfl, rfl, rfl, rfl, trivial⟩, ⟨rfl, rfl, trivial⟩⟩)⟩
     · rw [show decide ((⟨2, 0, o, c, now, hoursP D now, timesP D now⟩ : Rn).h < (⟨2, 0, o, c, now, hoursP D now, timesP D now⟩ : Rn).n) = false from decide_eq_false hu] at c60
       generalize hoursP D now = H at *
       generalize timesP D now = M at *
       repeat'
        conv => whnf
        first
         |refine zA ?_|refine zB ?_|refine zC ?_|refine zD ?_|refine splF ?_
         |((with_reducible show CallEv _ _ 64 ..); refine callE (fun β w' hbw => c64 w' (hh' w' hbw.1) hbw.2.now) ?_)
         |refine And.intro (a := (_ : List _) = [] ∧ (_ : List _) = []) ⟨rfl, rfl⟩ ?_
         |refine yield_inline env mixed 0 6000 [2, 3] [] rfl rfl rfl rfl rfl rfl rfl ?_
         |refine vc_eq env ha1 ?_
         |refine vc_eq env hb1 ?_
         |((with_reducible show CallEv _ _ 60 ..); refine callE (fun β w' hbw => c60 w') ?_)
       conv => whnf
       refine VC.of env mixed ?_
       repeat'
        conv => whnf
        first
         |refine zB ?_|refine splF ?_
       conv => whnf
       exact .inl ⟨rfl, hub.trans (decide_eq_false hu), cur, hcl, hcx, Ent.weak rfl trivial ⟨rfl, rfl, rfl, rfl, rfl, rfl, rfl, rfl, rfl, rfl, rfl, trivial⟩ (fun w' h => h.1) (.inr ⟨rfl, ⟨rfl, rfl, rfl, rfl, rfl, rfl, rfl, rfl, rfl, rfl, rfl, rfl, rfl, rfl, rfl, trivial⟩, ⟨rfl, rfl, trivial⟩⟩)⟩
theorem dropK_mk : ∀ (n : Nat) (l : List SV) (K : List SV → Prop), n ≤ l.length → K (l.drop n) → dropK n l K
 | 0, _, _, _, h => h
 | n + 1, x :: r, K, hl, h => dropK_mk n r K (by simpa using hl) (by simpa using h)
 | n + 1, [], _, hl, _ => by simp at hl
theorem dropC {cur : List Value} {n m : Nat} {v : Value} {K : List SV → Prop} (hn : n = m) (h : cur[m]? = some v) (hK : K (.v v :: (cur.map .v).drop (m + 1))) : dropK n (cur.map .v) K := by
 subst hn
 have hlt := (List.getElem?_eq_some_iff.1 h).1
 refine dropK_mk n _ K (by rw [List.length_map]; omega) ?_
 have : (cur.map SV.v).drop n = .v v :: (cur.map .v).drop (n + 1) := by
  rw [List.drop_eq_getElem_cons (by rw [List.length_map]; exact hlt)]
  simp [(List.getElem?_eq_some_iff.1 h).2]
 rw [this]; exact hK
theorem find_fm_none {α β : Type} {P : β → Bool} {f : α → List β} : ∀ {L : List α}, (∀ j ∈ L, (f j).find? P = none) → (L.flatMap f).find? P = none
 | [], _ => rfl
 | a :: L, h => by
  rw [List.flatMap_cons, List.find?_append, h a List.mem_cons_self, Option.none_or]
  exact find_fm_none fun j hj => h j (List.mem_cons_of_mem _ hj)
theorem find_fm_some {β : Type} {P : β → Bool} {f : Nat → List β} {l : β} : ∀ (n a j : Nat), (∀ i, a ≤ i → i < j → (f i).find? P = none) → a ≤ j → j < a + n → (f j).find? P = some l → ((List.range' a n).flatMap f).find? P = some l
 | 0, a, j, _, h1, h2, _ => by omega
 | n + 1, a, j, h, h1, h2, h3 => by
  rw [List.range'_succ, List.flatMap_cons, List.find?_append]
  by_cases hj : j = a
  · subst hj; rw [h3]; rfl
  · rw [h a (Nat.le_refl _) (by omega), Option.none_or]
    exact find_fm_some n (a + 1) j (fun i h4 h5 => h i (by omega) h5) (by omega) (by omega) h3
theorem c150d : rest 4 body150 = .seq (.seq (qL (qL (rest 4 body150))) (.block 0 (.loop (.seq (qL (qI (qI (qR (qL (rest 4 body150)))))) (.seq (.block 1 (.seq (.region 9 (qO (qL (qI (qL (qR (qI (qI (qR (qL (rest 4 body150)))))))))) true) (.cond (.tmp 42) (qT (qR (qI (qL (qR (qI (qI (qR (qL (rest 4 body150)))))))))) .skip))) (qR (qR (qI (qI (qR (qL (rest 4 body150)))))))))))) (qR (rest 4 body150)) := by kernel_rfl
theorem rec150 (sl ro su : Int) (go to : Option Addr) (gc tc : Nat) (G : List Rw) (T : List Tc) (D : SD) (w : World) (h : ScIn ⟨sl, ro, su, go, gc, G, to, tc, T⟩ w) (hB : ScB ⟨sl, ro, su, go, gc, G, to, tc, T⟩) (hD : Sc.d ⟨sl, ro, su, go, gc, G, to, tc, T⟩ = D) (hv : scOk D = true) (lp l2 : Nat) (a1 b1 a2 b2 : Code) (ha1 : a1 = qA (qI (qR (qR (qI (qL (qR (qR (qI (qI (qR (qL (qR body38))))))))))))) (hb1 : b1 = qB (qI (qR (qR (qI (qL (qR (qR (qI (qI (qR (qL (qR body38))))))))))))) (ha2 : a2 = qA (qI (qR (qR body122)))) (hb2 : b2 = qB (qI (qR (qR body122)))) (hsu : D.su = su) (h6 : 1 ≤ su ∧ su ≤ 6) (size : Nat) : ∀ (d : Nat) (now : List Int), now.length + d = size → 1 ≤ now.length → subIn D now → size ≤ 6 →
 RecVC Tryz.prog env body150 Tryz.f150 43 10 4000 [(0, .cells [.v (iv sl), .v (iv ro), .v (iv su), .v (.slice go G.length gc), .v (.slice to T.length tc)] 34), (1, .cells [.v (.int .u8 0), .v (iv 0), .v (.slice none 0 0), .v (iv 0), .v (iv 0)] 56), (2, .cells [.v (.bool false)] 4), (3, .cells [.v (.int .u8 1), .v (.func (.func 119) #[] #[]), .v (.int .u8 2), .v (.func (.func 121) #[] #[]), .v (.int .u8 3), .v (.func (.func 124) #[] #[])] 145), (4, .cells [.v (.int .u8 2), .v (.func (.func 121) #[] #[])] 145), (5, .cells [.v (iv sl), .v (iv ro), .v (iv su), .v (.slice go G.length gc), .v (.slice to T.length tc)] 34), (6, .cells [.v (.func (.yield lp) #[] #[])] 163), (7, .cells [.v (iv sl), .v (iv ro), .v (iv su), .v (.slice go G.length gc), .v (.slice to T.length tc)] 34), (8, .cells [.v (.func (.yield l2) #[] #[])] 111), (9, .cells [.fn (.func 150) [.ptr 8 0, .ptr 7 0, .ptr 9 0]] 105)] ⟨[(3001, .ptr 7 0), (3002, .ptr 8 0), (3003, .ptr 9 0), (3004, .v (iv size)), (3010, .v (.bool true)), (2001, .ptr 5 0), (2002, .ptr 6 0), (1001, .ptr 0 0), (1002, .ptr 1 0), (1003, .ptr 2 0), (1005, .ptr 4 0), (1007, .sl 3 0 3 3), (1008, .v (iv 3)), (1009, .v (iv 1))], [(1, ⟨l2, .ready, 13, 2000, #[6], a2, b2⟩), (0, ⟨lp, .ready, 23, 1000, #[17], a1, b1⟩)], 2⟩ w [.v (iv size), .ptr 8 0, .ptr 7 0, .ptr 9 0] (now).length ((now).map iv) 3 (fun σs : Sg => ∃ (l : List Int) (o : Option Addr) (c : Nat), (combos su.toNat d now).find? (unB D) = some l ∧ σs = ⟨0, [], [(1, .cells [.v (.int .u8 2), .v (iv 0), .v (.slice o l.length c), .v (iv (hoursP D l)), .v (iv (timesP D l))] 56), (2, .cells [.v (.bool true)] 4)], 30, fun w' => Below w.heap.size w w' ∧ St w.heap.size (Rd 1 iF (.slice o l.length c) l) w', ⟨[(3001, .ptr 7 0), (3002, .ptr 8 0), (3003, .ptr 9 0), (3004, .v (iv size)), (3010, .v (.bool true)), (2001, .ptr 5 0), (2002, .ptr 6 0), (1001, .ptr 0 0), (1002, .ptr 1 0), (1003, .ptr 2 0), (1005, .ptr 4 0), (1007, .sl 3 0 3 3), (1008, .v (iv 3)), (1009, .v (iv 1))], [(1, ⟨l2, .done .ret, 13, 2000, #[6], a2, b2⟩), (0, ⟨lp, .done .ret, 23, 1000, #[17], a1, b1⟩)], 2⟩⟩) ((combos su.toNat d now).find? (unB D) = none) := by
 intro d
 induction d with
 | zero =>
  intro now hn h1 hsub hs6
  have hz : combos su.toNat 0 now = [now] := rfl
  have e1 : (fun σs : Sg => ∃ (l : List Int) (o : Option Addr) (c : Nat), (combos su.toNat 0 now).find? (unB D) = some l ∧ σs = ⟨0, [], [(1, .cells [.v (.int .u8 2), .v (iv 0), .v (.slice o l.length c), .v (iv (hoursP D l)), .v (iv (timesP D l))] 56), (2, .cells [.v (.bool true)] 4)], 30, fun w' => Below w.heap.size w w' ∧ St w.heap.size (Rd 1 iF (.slice o l.length c) l) w', ⟨[(3001, .ptr 7 0), (3002, .ptr 8 0), (3003, .ptr 9 0), (3004, .v (iv size)), (3010, .v (.bool true)), (2001, .ptr 5 0), (2002, .ptr 6 0), (1001, .ptr 0 0), (1002, .ptr 1 0), (1003, .ptr 2 0), (1005, .ptr 4 0), (1007, .sl 3 0 3 3), (1008, .v (iv 3)), (1009, .v (iv 1))], [(1, ⟨l2, .done .ret, 13, 2000, #[6], a2, b2⟩), (0, ⟨lp, .done .ret, 23, 1000, #[17], a1, b1⟩)], 2⟩⟩) = (fun σs : Sg => ∃ (o : Option Addr) (c : Nat), unB D now = true ∧ σs = ⟨0, [], [(1, .cells [.v (.int .u8 2), .v (iv 0), .v (.slice o now.length c), .v (iv (hoursP D now)), .v (iv (timesP D now))] 56), (2, .cells [.v (.bool true)] 4)], 30, fun w' => Below w.heap.size w w' ∧ St w.heap.size (Rd 1 iF (.slice o now.length c) now) w', ⟨[(3001, .ptr 7 0), (3002, .ptr 8 0), (3003, .ptr 9 0), (3004, .v (iv size)), (3010, .v (.bool true)), (2001, .ptr 5 0), (2002, .ptr 6 0), (1001, .ptr 0 0), (1002, .ptr 1 0), (1003, .ptr 2 0), (1005, .ptr 4 0), (1007, .sl 3 0 3 3), (1008, .v (iv 3)), (1009, .v (iv 1))], [(1, ⟨l2, .done .ret, 13, 2000, #[6], a2, b2⟩), (0, ⟨lp, .done .ret, 23, 1000, #[17], a1, b1⟩)], 2⟩⟩) := by
   funext σs
   rw [hz]
   refine propext ⟨fun ⟨l, o, c, h1, h2⟩ => ?_, fun ⟨o, c, h1, h2⟩ => ⟨now, o, c, ?_, h2⟩⟩
   · rw [List.find?_cons] at h1
     cases hu : unB D now with
     | true =>
      rw [hu] at h1
      cases h1
      exact ⟨o, c, rfl, h2⟩
     | false => rw [hu] at h1; cases h1
   · rw [List.find?_cons, h1]
  have e2 : ((combos su.toNat 0 now).find? (unB D) = none) = (unB D now = false) := by
   rw [hz, List.find?_cons]
   cases hu : unB D now with
   | true => simp
   | false => simp
  rw [e1, e2]
  exact leaf150 sl ro su go to gc tc G T D w h hB hD hv lp l2 a1 b1 a2 b2 ha1 hb1 ha2 hb2 size now (by omega) h1 hsub
 | succ d ih =>
  intro now hn h1 hsub hs6 cc hncc h' hh' cur hcl hcx
  obtain ⟨lst, hlast⟩ : ∃ x, now[now.length - 1]? = some x := ⟨_, List.getElem?_eq_getElem (by omega)⟩
  have hgl : now.getLast? = some lst := by rw [List.getLast?_eq_getElem?]; exact hlast
  have hlb := hsub.2 lst (List.mem_of_getElem? hlast)
  rw [hsu] at hlb
  have hfr : fromP now = lst.toNat + 1 := by unfold fromP; rw [hgl]
  have hcu : cur[now.length - 1]? = some (iv lst) := by
   have h2 : (now.map iv)[now.length - 1]? = some (iv lst) := by rw [List.getElem?_map, hlast]; rfl
   rw [← hcx, List.getElem?_take] at h2
   split at h2
   · exact h2
   · cases h2
  have hmB : mB 11 [(10, .cells (cur.map .v) 3), (0, .cells [.v (iv sl), .v (iv ro), .v (iv su), .v (.slice go G.length gc), .v (.slice to T.length tc)] 34), (1, .cells [.v (.int .u8 0), .v (iv 0), .v (.slice none 0 0), .v (iv 0), .v (iv 0)] 56), (2, .cells [.v (.bool false)] 4), (3, .cells [.v (.int .u8 1), .v (.func (.func 119) #[] #[]), .v (.int .u8 2), .v (.func (.func 121) #[] #[]), .v (.int .u8 3), .v (.func (.func 124) #[] #[])] 145), (4, .cells [.v (.int .u8 2), .v (.func (.func 121) #[] #[])] 145), (5, .cells [.v (iv sl), .v (iv ro), .v (iv su), .v (.slice go G.length gc), .v (.slice to T.length tc)] 34), (6, .cells [.v (.func (.yield lp) #[] #[])] 163), (7, .cells [.v (iv sl), .v (iv ro), .v (iv su), .v (.slice go G.length gc), .v (.slice to T.length tc)] 34), (8, .cells [.v (.func (.yield l2) #[] #[])] 111), (9, .cells [.fn (.func 150) [.ptr 8 0, .ptr 7 0, .ptr 9 0]] 105)] = true := by
   show (Nat.blt 10 11 && SV.lts 11 (cur.map .v) && mB 11 [(0, .cells [.v (iv sl), .v (iv ro), .v (iv su), .v (.slice go G.length gc), .v (.slice to T.length tc)] 34), (1, .cells [.v (.int .u8 0), .v (iv 0), .v (.slice none 0 0), .v (iv 0), .v (iv 0)] 56), (2, .cells [.v (.bool false)] 4), (3, .cells [.v (.int .u8 1), .v (.func (.func 119) #[] #[]), .v (.int .u8 2), .v (.func (.func 121) #[] #[]), .v (.int .u8 3), .v (.func (.func 124) #[] #[])] 145), (4, .cells [.v (.int .u8 2), .v (.func (.func 121) #[] #[])] 145), (5, .cells [.v (iv sl), .v (iv ro), .v (iv su), .v (.slice go G.length gc), .v (.slice to T.length tc)] 34), (6, .cells [.v (.func (.yield lp) #[] #[])] 163), (7, .cells [.v (iv sl), .v (iv ro), .v (iv su), .v (.slice go G.length gc), .v (.slice to T.length tc)] 34), (8, .cells [.v (.func (.yield l2) #[] #[])] 111), (9, .cells [.fn (.func 150) [.ptr 8 0, .ptr 7 0, .ptr 9 0]] 105)]) = true
   rw [lts_v]; rfl
  refine VC.cutE env mixed 4 11 (fun _ : Unit => [(0, .sl 10 0 now.length cc), (1, .v (iv size)), (2, .ptr 8 0), (3, .ptr 7 0), (4, .ptr 9 0), (8, .v (iv (lst.toNat + 1 : Nat)))]) (fun _ => [(10, .cells (cur.map .v) 3), (0, .cells [.v (iv sl), .v (iv ro), .v (iv su), .v (.slice go G.length gc), .v (.slice to T.length tc)] 34), (1, .cells [.v (.int .u8 0), .v (iv 0), .v (.slice none 0 0), .v (iv 0), .v (iv 0)] 56), (2, .cells [.v (.bool false)] 4), (3, .cells [.v (.int .u8 1), .v (.func (.func 119) #[] #[]), .v (.int .u8 2), .v (.func (.func 121) #[] #[]), .v (.int .u8 3), .v (.func (.func 124) #[] #[])] 145), (4, .cells [.v (.int .u8 2), .v (.func (.func 121) #[] #[])] 145), (5, .cells [.v (iv sl), .v (iv ro), .v (iv su), .v (.slice go G.length gc), .v (.slice to T.length tc)] 34), (6, .cells [.v (.func (.yield lp) #[] #[])] 163), (7, .cells [.v (iv sl), .v (iv ro), .v (iv su), .v (.slice go G.length gc), .v (.slice to T.length tc)] 34), (8, .cells [.v (.func (.yield l2) #[] #[])] 111), (9, .cells [.fn (.func 150) [.ptr 8 0, .ptr 7 0, .ptr 9 0]] 105)]) (fun _ => True) (fun _ _ => ⟨rfl, hmB⟩) ?_ (fun _ _ => ?_)
  ·
   repeat'
    conv => whnf
    first
     |refine zF ?_|refine zG ?_
     |(refine splD ?_ ?_ <;> intro hc <;> first|(exfalso; omega)|skip)
     |refine dropC (m := now.length - 1) (by show 0 + ((now.length : Int) - 1).toNat * 1 = now.length - 1; omega) hcu ?_
   conv => whnf
   refine ⟨rfl, (), trivial, Ent.weak rfl ⟨rfl, rfl, rfl, rfl, rfl, ?_, trivial⟩ ⟨rfl, rfl, rfl, rfl, rfl, rfl, rfl, rfl, rfl, rfl, rfl, trivial⟩ fun _ h => h⟩
   exact congrArg (fun z => some (SV.v (iv z))) (by omega)
  · rw [c150d]
    refine VC.sq (VC.sq (VC.of env mixed ?_))
    skip
    conv => whnf
    refine VC.block (VC.loop (loopN 14 (fun x : Nat × List Value => [(0, .sl 10 0 now.length cc), (1, .v (iv size)), (2, .ptr 8 0), (3, .ptr 7 0), (4, .ptr 9 0), (9, .v (iv x.1))]) (fun x => [(10, .cells (x.2.map .v) 3), (0, .cells [.v (iv sl), .v (iv ro), .v (iv su), .v (.slice go G.length gc), .v (.slice to T.length tc)] 34), (1, .cells [.v (.int .u8 0), .v (iv 0), .v (.slice none 0 0), .v (iv 0), .v (iv 0)] 56), (2, .cells [.v (.bool false)] 4), (3, .cells [.v (.int .u8 1), .v (.func (.func 119) #[] #[]), .v (.int .u8 2), .v (.func (.func 121) #[] #[]), .v (.int .u8 3), .v (.func (.func 124) #[] #[])] 145), (4, .cells [.v (.int .u8 2), .v (.func (.func 121) #[] #[])] 145), (5, .cells [.v (iv sl), .v (iv ro), .v (iv su), .v (.slice go G.length gc), .v (.slice to T.length tc)] 34), (6, .cells [.v (.func (.yield lp) #[] #[])] 163), (7, .cells [.v (iv sl), .v (iv ro), .v (iv su), .v (.slice go G.length gc), .v (.slice to T.length tc)] 34), (8, .cells [.v (.func (.yield l2) #[] #[])] 111), (9, .cells [.fn (.func 150) [.ptr 8 0, .ptr 7 0, .ptr 9 0]] 105)]) (fun x => lst.toNat + 1 ≤ x.1 ∧ x.1 ≤ su.toNat ∧ (cc ≤ x.2.length ∧ x.2.length ≤ maxLen) ∧ x.2.take now.length = now.map iv ∧ ∀ i, lst.toNat + 1 ≤ i → i < x.1 → (combos su.toNat d (now ++ [(i : Int)])).find? (unB D) = none) (fun x => su.toNat - x.1) (lst.toNat + 1, cur) ⟨Nat.le_refl _, by omega, hcl, hcx, fun i h1 h2 => by omega⟩ ⟨rfl, rfl, rfl, rfl, rfl, rfl, trivial⟩ ⟨rfl, rfl, rfl, rfl, rfl, rfl, rfl, rfl, rfl, rfl, rfl, trivial⟩ (fun x _ => ⟨rfl, ?_⟩) ?_))
    · show (Nat.blt 10 14 && SV.lts 14 (x.2.map .v) && mB 14 [(0, .cells [.v (iv sl), .v (iv ro), .v (iv su), .v (.slice go G.length gc), .v (.slice to T.length tc)] 34), (1, .cells [.v (.int .u8 0), .v (iv 0), .v (.slice none 0 0), .v (iv 0), .v (iv 0)] 56), (2, .cells [.v (.bool false)] 4), (3, .cells [.v (.int .u8 1), .v (.func (.func 119) #[] #[]), .v (.int .u8 2), .v (.func (.func 121) #[] #[]), .v (.int .u8 3), .v (.func (.func 124) #[] #[])] 145), (4, .cells [.v (.int .u8 2), .v (.func (.func 121) #[] #[])] 145), (5, .cells [.v (iv sl), .v (iv ro), .v (iv su), .v (.slice go G.length gc), .v (.slice to T.length tc)] 34), (6, .cells [.v (.func (.yield lp) #[] #[])] 163), (7, .cells [.v (iv sl), .v (iv ro), .v (iv su), .v (.slice go G.length gc), .v (.slice to T.length tc)] 34), (8, .cells [.v (.func (.yield l2) #[] #[])] 111), (9, .cells [.fn (.func 150) [.ptr 8 0, .ptr 7 0, .ptr 9 0]] 105)]) = true
      rw [lts_v]; rfl
    · intro ⟨j, cu⟩ ⟨hj1, hj2, hcl2, hcx2, hno⟩
      dsimp only at hj1 hj2 hcl2 hcx2 hno
      have hml : maxLen = 9223372036854775807 := rfl
      rcases Nat.lt_or_ge j su.toNat with hjl | hjl
      · refine VC.sq (VC.of env mixed ?_)
        repeat'
         conv => whnf
         first
          |refine zB ?_
          |(refine splD ?_ ?_ <;> intro hc <;> first|(exfalso; omega)|skip)
        conv => whnf
        refine VC.sq (VC.block (VC.sq ?_))
        refine VC_mid env mixed (fun k => Nat.beq k 4) 6 (by kernel_rfl) ?_
        have hsub' : subIn D (now ++ [(j : Int)]) := ⟨by simp; omega, fun x hx => by
         rcases List.mem_append.1 hx with hx | hx
         · exact hsub.2 x hx
         · simp only [List.mem_singleton] at hx; subst hx; rw [hsu]; omega⟩
        have ihj := ih (now ++ [(j : Int)]) (by simp; omega) (by simp) hsub' hs6
        rw [show (now ++ [(j : Int)]).length = now.length + 1 from by simp] at ihj
        have htot : ∀ l, (combos su.toNat d (now ++ [(j : Int)])).find? (unB D) = some l → (combos su.toNat (d + 1) now).find? (unB D) = some l := fun l hl => by
         show (((List.range' (fromP now) (su.toNat - fromP now)).flatMap fun j : Nat => combos su.toNat d (now ++ [(j : Int)])).find? (unB D)) = some l
         rw [hfr]
         exact find_fm_some _ _ j (fun i h1 h2 => hno i h1 h2) hj1 (by omega) hl
        by_cases hroom : now.length < cc
        ·
         repeat'
          conv => whnf
          first
           |refine zA ?_|refine zB ?_
           |(with_reducible show _ ∧ OpEv _ _ _ _ _); refine ⟨rfl, appR env 10 14 now.length cc 1 cu (iv j) 3 rfl rfl rfl rfl rfl rfl rfl hcl2.1 hcl2.2 hroom (by show 10 < 15; decide) rfl ?_⟩
         conv => whnf
         refine rec_stA env mixed (k := 150) Tryz.func150 has150 Tryz.ntmps150 (fun σs : Sg => ∃ (l : List Int) (o : Option Addr) (c : Nat), (combos su.toNat d (now ++ [(j : Int)])).find? (unB D) = some l ∧ σs = ⟨0, [], [(1, .cells [.v (.int .u8 2), .v (iv 0), .v (.slice o l.length c), .v (iv (hoursP D l)), .v (iv (timesP D l))] 56), (2, .cells [.v (.bool true)] 4)], 30, fun w' => Below w.heap.size w w' ∧ St w.heap.size (Rd 1 iF (.slice o l.length c) l) w', ⟨[(3001, .ptr 7 0), (3002, .ptr 8 0), (3003, .ptr 9 0), (3004, .v (iv size)), (3010, .v (.bool true)), (2001, .ptr 5 0), (2002, .ptr 6 0), (1001, .ptr 0 0), (1002, .ptr 1 0), (1003, .ptr 2 0), (1005, .ptr 4 0), (1007, .sl 3 0 3 3), (1008, .v (iv 3)), (1009, .v (iv 1))], [(1, ⟨l2, .done .ret, 13, 2000, #[6], a2, b2⟩), (0, ⟨lp, .done .ret, 23, 1000, #[17], a1, b1⟩)], 2⟩⟩) ((combos su.toNat d (now ++ [(j : Int)])).find? (unB D) = none) (Nat.le_of_ble_eq_true rfl) rfl (mB_lk rfl) (gB_lk rfl) rfl rfl (fun σs hs => by obtain ⟨l, o, c, _, rfl⟩ := hs; exact ⟨rfl, rfl⟩) ihj (pl := [(3001, 7), (3002, 8), (3003, 9)]) (t' := [(0, .sl 10 0 now.length cc), (1, .v (iv size)), (2, .ptr 8 0), (3, .ptr 7 0), (4, .ptr 9 0), (9, .v (iv j))]) hh' ⟨rfl, rfl, rfl, rfl, rfl, rfl, rfl, rfl, rfl, rfl, trivial⟩ ⟨rfl, rfl, rfl, rfl, rfl, rfl, trivial⟩ (fun q hq => by simp only [List.mem_cons, List.not_mem_nil, or_false] at hq; rcases hq with rfl | rfl | rfl <;> rfl) (fun q hq => by simp only [List.mem_cons, List.not_mem_nil, or_false] at hq; rcases hq with rfl | rfl | rfl <;> decide) rfl (fun σs hs => by obtain ⟨l, o, c, _, rfl⟩ := hs; exact okB rfl rfl rfl) (fun σs hs => ?_) rfl (by
          rw [List.take_take, Nat.min_eq_left (by omega), List.map_append, ← hcx2, List.take_left' (by simp; omega)]; rfl) (by omega) (by show (10 : Nat) < 16; decide) (fun hp cur' hl' hx' => ?_)
         · obtain ⟨l, o, c, hl, rfl⟩ := hs
           conv => whnf
           refine VC.of env mixed ?_
           repeat'
            conv => whnf
            first
             |refine splT ?_
           conv => whnf
           exact .inr ⟨rfl, _, ⟨l, o, c, htot l hl, rfl⟩, Ent.weak rfl trivial ⟨rfl, rfl, trivial⟩ (fun w' h => h)⟩
         · conv => whnf
           refine VC.of env mixed ?_
           repeat'
            conv => whnf
            first
             |refine splF ?_
           conv => whnf
           refine VC.of env mixed ?_
           repeat'
            conv => whnf
            first
             |refine zF ?_
           conv => whnf
           exact ⟨(j + 1, cur'), ⟨by dsimp only; omega, by dsimp only; omega, hl', by
            have := congrArg (List.take now.length) hx'
            rw [List.take_take, Nat.min_eq_left (by omega)] at this
            rw [this, List.map_append, List.take_left' (by simp)], fun i h1 h2 => by
            by_cases hi : i = j
            · subst hi; exact hp
            · exact hno i h1 (by dsimp only at h2; omega)⟩, by dsimp only; omega, Ent.weak rfl ⟨rfl, rfl, rfl, rfl, rfl, rfl, trivial⟩ ⟨rfl, rfl, rfl, rfl, rfl, rfl, rfl, rfl, rfl, rfl, rfl, trivial⟩ fun _ h => h⟩
        ·
         repeat'
          conv => whnf
          first
           |refine zA ?_|refine zB ?_
           |(with_reducible show _ ∧ OpEv _ _ _ _ _); refine ⟨rfl, appW env 10 14 now.length cc 1 cu (iv j) 3 rfl rfl rfl rfl rfl rfl rfl hcl2.1 hncc (by omega) (by omega) (by omega) rfl ?_⟩
         conv => whnf
         rw [show (now ++ [(j : Int)]).map iv = cu.take now.length ++ [iv j] from by rw [List.map_append, ← hcx2]; rfl] at ihj
         refine rec_stB env mixed (k := 150) Tryz.func150 has150 Tryz.ntmps150 (fun σs : Sg => ∃ (l : List Int) (o : Option Addr) (c : Nat), (combos su.toNat d (now ++ [(j : Int)])).find? (unB D) = some l ∧ σs = ⟨0, [], [(1, .cells [.v (.int .u8 2), .v (iv 0), .v (.slice o l.length c), .v (iv (hoursP D l)), .v (iv (timesP D l))] 56), (2, .cells [.v (.bool true)] 4)], 30, fun w' => Below w.heap.size w w' ∧ St w.heap.size (Rd 1 iF (.slice o l.length c) l) w', ⟨[(3001, .ptr 7 0), (3002, .ptr 8 0), (3003, .ptr 9 0), (3004, .v (iv size)), (3010, .v (.bool true)), (2001, .ptr 5 0), (2002, .ptr 6 0), (1001, .ptr 0 0), (1002, .ptr 1 0), (1003, .ptr 2 0), (1005, .ptr 4 0), (1007, .sl 3 0 3 3), (1008, .v (iv 3)), (1009, .v (iv 1))], [(1, ⟨l2, .done .ret, 13, 2000, #[6], a2, b2⟩), (0, ⟨lp, .done .ret, 23, 1000, #[17], a1, b1⟩)], 2⟩⟩) ((combos su.toNat d (now ++ [(j : Int)])).find? (unB D) = none) (Nat.le_of_ble_eq_true rfl) rfl (mB_lk rfl) (gB_lk rfl) rfl rfl (fun σs hs => by obtain ⟨l, o, c, _, rfl⟩ := hs; exact ⟨rfl, rfl⟩) ihj (pl := [(3001, 7), (3002, 8), (3003, 9)]) (t' := [(0, .sl 10 0 now.length cc), (1, .v (iv size)), (2, .ptr 8 0), (3, .ptr 7 0), (4, .ptr 9 0), (9, .v (iv j))]) hh' ⟨rfl, rfl, rfl, rfl, rfl, rfl, rfl, rfl, rfl, rfl, trivial⟩ ⟨rfl, rfl, rfl, rfl, rfl, rfl, trivial⟩ (fun q hq => by simp only [List.mem_cons, List.not_mem_nil, or_false] at hq; rcases hq with rfl | rfl | rfl <;> rfl) (fun q hq => by simp only [List.mem_cons, List.not_mem_nil, or_false] at hq; rcases hq with rfl | rfl | rfl <;> decide) rfl (fun σs hs => by obtain ⟨l, o, c, _, rfl⟩ := hs; exact okB rfl rfl rfl) (fun σs hs => ?_) rfl rfl (by show (10 : Nat) < 15; decide) (by show (10 : Nat) < 17; decide) (fun hp => ?_)
         · obtain ⟨l, o, c, hl, rfl⟩ := hs
           conv => whnf
           refine VC.of env mixed ?_
           repeat'
            conv => whnf
            first
             |refine splT ?_
           conv => whnf
           exact .inr ⟨rfl, _, ⟨l, o, c, htot l hl, rfl⟩, Ent.weak rfl trivial ⟨rfl, rfl, trivial⟩ (fun w' h => h)⟩
         · conv => whnf
           refine VC.of env mixed ?_
           repeat'
            conv => whnf
            first
             |refine splF ?_
           conv => whnf
           refine VC.of env mixed ?_
           repeat'
            conv => whnf
            first
             |refine zF ?_
           conv => whnf
           exact ⟨(j + 1, cu), ⟨by dsimp only; omega, by dsimp only; omega, hcl2, hcx2, fun i h1 h2 => by
            by_cases hi : i = j
            · subst hi; exact hp
            · exact hno i h1 (by dsimp only at h2; omega)⟩, by dsimp only; omega, Ent.weak rfl ⟨rfl, rfl, rfl, rfl, rfl, rfl, trivial⟩ ⟨rfl, rfl, rfl, rfl, rfl, rfl, rfl, rfl, rfl, rfl, rfl, trivial⟩ fun _ h => h⟩
      · refine VC.sq (VC.of env mixed ?_)
        repeat'
         conv => whnf
         first
          |refine zB ?_
          |(refine splD ?_ ?_ <;> intro hc <;> first|(exfalso; omega)|skip)
        conv => whnf
        refine VC.of env mixed ?_
        skip
        conv => whnf
        obtain rfl : j = su.toNat := by omega
        exact .inl ⟨rfl, by
         show (((List.range' (fromP now) (su.toNat - fromP now)).flatMap fun j : Nat => combos su.toNat d (now ++ [(j : Int)])).find? (unB D)) = none
         rw [hfr]
         exact find_fm_none fun i hi => by
          obtain ⟨h1, h2⟩ := List.mem_range'_1.1 hi
          exact hno i h1 (by omega), cu, hcl2, hcx2, Ent.weak rfl trivial ⟨rfl, rfl, rfl, rfl, rfl, rfl, rfl, rfl, rfl, rfl, rfl, trivial⟩ (fun w' h => h)⟩
theorem tB_lk {nt N : Nat} : ∀ {t : List (Nat × SV)}, tB nt N t = true → ∀ k s, lk t k = some s → s.lt N = true
 | [], _, k, s, h => by cases h
 | (j, x) :: r, h, k, s, hl => by
  simp only [tB, Bool.and_eq_true] at h
  by_cases hk : k = j
  · subst hk; rw [lk_cons_eq] at hl; cases hl; exact h.1.2
  · rw [lk_cons_ne hk] at hl; exact tB_lk h.2 k s hl
theorem top150 (sl ro su : Int) (go to : Option Addr) (gc tc : Nat) (G : List Rw) (T : List Tc) (D : SD) (w : World) (h : ScIn ⟨sl, ro, su, go, gc, G, to, tc, T⟩ w) (hB : ScB ⟨sl, ro, su, go, gc, G, to, tc, T⟩) (hD : Sc.d ⟨sl, ro, su, go, gc, G, to, tc, T⟩ = D) (hv : scOk D = true) (lp l2 : Nat) (a1 b1 a2 b2 : Code) (ha1 : a1 = qA (qI (qR (qR (qI (qL (qR (qR (qI (qI (qR (qL (qR body38))))))))))))) (hb1 : b1 = qB (qI (qR (qR (qI (qL (qR (qR (qI (qI (qR (qL (qR body38))))))))))))) (ha2 : a2 = qA (qI (qR (qR body122)))) (hb2 : b2 = qB (qI (qR (qR body122)))) (hsu : D.su = su) (h6 : 1 ≤ su ∧ su ≤ 6) (size : Nat) (hsz : 1 ≤ size ∧ size ≤ 6) :
 VC Tryz.prog body150 ⟨43, slotsOf 0 [.v (.slice none 0 0), .v (iv size), .ptr 8 0, .ptr 7 0, .ptr 9 0], [(0, .cells [.v (iv sl), .v (iv ro), .v (iv su), .v (.slice go G.length gc), .v (.slice to T.length tc)] 34), (1, .cells [.v (.int .u8 0), .v (iv 0), .v (.slice none 0 0), .v (iv 0), .v (iv 0)] 56), (2, .cells [.v (.bool false)] 4), (3, .cells [.v (.int .u8 1), .v (.func (.func 119) #[] #[]), .v (.int .u8 2), .v (.func (.func 121) #[] #[]), .v (.int .u8 3), .v (.func (.func 124) #[] #[])] 145), (4, .cells [.v (.int .u8 2), .v (.func (.func 121) #[] #[])] 145), (5, .cells [.v (iv sl), .v (iv ro), .v (iv su), .v (.slice go G.length gc), .v (.slice to T.length tc)] 34), (6, .cells [.v (.func (.yield lp) #[] #[])] 163), (7, .cells [.v (iv sl), .v (iv ro), .v (iv su), .v (.slice go G.length gc), .v (.slice to T.length tc)] 34), (8, .cells [.v (.func (.yield l2) #[] #[])] 111), (9, .cells [.fn (.func 150) [.ptr 8 0, .ptr 7 0, .ptr 9 0]] 105)], 10, Below w.heap.size w, ⟨[(3001, .ptr 7 0), (3002, .ptr 8 0), (3003, .ptr 9 0), (3004, .v (iv size)), (3010, .v (.bool true)), (2001, .ptr 5 0), (2002, .ptr 6 0), (1001, .ptr 0 0), (1002, .ptr 1 0), (1003, .ptr 2 0), (1005, .ptr 4 0), (1007, .sl 3 0 3 3), (1008, .v (iv 3)), (1009, .v (iv 1))], [(1, ⟨l2, .ready, 13, 2000, #[6], a2, b2⟩), (0, ⟨lp, .ready, 23, 1000, #[17], a1, b1⟩)], 2⟩⟩ (endΦ env Tryz.f150 fun s σ' => (s = .v (.bool true) ∧ (combos su.toNat size []).find? (unB D) = none ∧ ∃ (t : List (Nat × SV)) (nb : Nat), σ' = ⟨43, t, [(0, .cells [.v (iv sl), .v (iv ro), .v (iv su), .v (.slice go G.length gc), .v (.slice to T.length tc)] 34), (1, .cells [.v (.int .u8 0), .v (iv 0), .v (.slice none 0 0), .v (iv 0), .v (iv 0)] 56), (2, .cells [.v (.bool false)] 4), (3, .cells [.v (.int .u8 1), .v (.func (.func 119) #[] #[]), .v (.int .u8 2), .v (.func (.func 121) #[] #[]), .v (.int .u8 3), .v (.func (.func 124) #[] #[])] 145), (4, .cells [.v (.int .u8 2), .v (.func (.func 121) #[] #[])] 145), (5, .cells [.v (iv sl), .v (iv ro), .v (iv su), .v (.slice go G.length gc), .v (.slice to T.length tc)] 34), (6, .cells [.v (.func (.yield lp) #[] #[])] 163), (7, .cells [.v (iv sl), .v (iv ro), .v (iv su), .v (.slice go G.length gc), .v (.slice to T.length tc)] 34), (8, .cells [.v (.func (.yield l2) #[] #[])] 111), (9, .cells [.fn (.func 150) [.ptr 8 0, .ptr 7 0, .ptr 9 0]] 105)], nb, Below w.heap.size w, ⟨[(3001, .ptr 7 0), (3002, .ptr 8 0), (3003, .ptr 9 0), (3004, .v (iv size)), (3010, .v (.bool true)), (2001, .ptr 5 0), (2002, .ptr 6 0), (1001, .ptr 0 0), (1002, .ptr 1 0), (1003, .ptr 2 0), (1005, .ptr 4 0), (1007, .sl 3 0 3 3), (1008, .v (iv 3)), (1009, .v (iv 1))], [(1, ⟨l2, .ready, 13, 2000, #[6], a2, b2⟩), (0, ⟨lp, .ready, 23, 1000, #[17], a1, b1⟩)], 2⟩⟩) ∨
  (s = .v (.bool false) ∧ ∃ (l : List Int) (o : Option Addr) (c : Nat) (t : List (Nat × SV)), (combos su.toNat size []).find? (unB D) = some l ∧ σ' = ⟨43, t, [(1, .cells [.v (.int .u8 2), .v (iv 0), .v (.slice o l.length c), .v (iv (hoursP D l)), .v (iv (timesP D l))] 56), (2, .cells [.v (.bool true)] 4)], 30, fun w' => Below w.heap.size w w' ∧ St w.heap.size (Rd 1 iF (.slice o l.length c) l) w', ⟨[(3001, .ptr 7 0), (3002, .ptr 8 0), (3003, .ptr 9 0), (3004, .v (iv size)), (3010, .v (.bool true)), (2001, .ptr 5 0), (2002, .ptr 6 0), (1001, .ptr 0 0), (1002, .ptr 1 0), (1003, .ptr 2 0), (1005, .ptr 4 0), (1007, .sl 3 0 3 3), (1008, .v (iv 3)), (1009, .v (iv 1))], [(1, ⟨l2, .done .ret, 13, 2000, #[6], a2, b2⟩), (0, ⟨lp, .done .ret, 23, 1000, #[17], a1, b1⟩)], 2⟩⟩)) := by
 obtain ⟨d, rfl⟩ : ∃ d, size = d + 1 := ⟨size - 1, by omega⟩
 refine VC.cutE env mixed 4 10 (fun _ : Unit => [(0, .v (.slice none 0 0)), (1, .v (iv (d + 1 : Nat))), (2, .ptr 8 0), (3, .ptr 7 0), (4, .ptr 9 0), (8, .v (iv 0))]) (fun _ => [(0, .cells [.v (iv sl), .v (iv ro), .v (iv su), .v (.slice go G.length gc), .v (.slice to T.length tc)] 34), (1, .cells [.v (.int .u8 0), .v (iv 0), .v (.slice none 0 0), .v (iv 0), .v (iv 0)] 56), (2, .cells [.v (.bool false)] 4), (3, .cells [.v (.int .u8 1), .v (.func (.func 119) #[] #[]), .v (.int .u8 2), .v (.func (.func 121) #[] #[]), .v (.int .u8 3), .v (.func (.func 124) #[] #[])] 145), (4, .cells [.v (.int .u8 2), .v (.func (.func 121) #[] #[])] 145), (5, .cells [.v (iv sl), .v (iv ro), .v (iv su), .v (.slice go G.length gc), .v (.slice to T.length tc)] 34), (6, .cells [.v (.func (.yield lp) #[] #[])] 163), (7, .cells [.v (iv sl), .v (iv ro), .v (iv su), .v (.slice go G.length gc), .v (.slice to T.length tc)] 34), (8, .cells [.v (.func (.yield l2) #[] #[])] 111), (9, .cells [.fn (.func 150) [.ptr 8 0, .ptr 7 0, .ptr 9 0]] 105)]) (fun _ => True) (fun _ _ => ⟨rfl, rfl⟩) ?_ (fun _ _ => ?_)
 ·
  repeat'
   conv => whnf
   first
    |refine splF ?_
  conv => whnf
  exact ⟨rfl, (), trivial, Ent.weak rfl ⟨rfl, rfl, rfl, rfl, rfl, rfl, trivial⟩ ⟨rfl, rfl, rfl, rfl, rfl, rfl, rfl, rfl, rfl, rfl, trivial⟩ fun _ h => h⟩
 · rw [c150d]
   refine VC.sq (VC.sq (VC.of env mixed ?_))
   skip
   conv => whnf
   refine VC.block (VC.loop (loopN 10 (fun j : Nat => [(0, .v (.slice none 0 0)), (1, .v (iv (d + 1 : Nat))), (2, .ptr 8 0), (3, .ptr 7 0), (4, .ptr 9 0), (9, .v (iv j))]) (fun _ => [(0, .cells [.v (iv sl), .v (iv ro), .v (iv su), .v (.slice go G.length gc), .v (.slice to T.length tc)] 34), (1, .cells [.v (.int .u8 0), .v (iv 0), .v (.slice none 0 0), .v (iv 0), .v (iv 0)] 56), (2, .cells [.v (.bool false)] 4), (3, .cells [.v (.int .u8 1), .v (.func (.func 119) #[] #[]), .v (.int .u8 2), .v (.func (.func 121) #[] #[]), .v (.int .u8 3), .v (.func (.func 124) #[] #[])] 145), (4, .cells [.v (.int .u8 2), .v (.func (.func 121) #[] #[])] 145), (5, .cells [.v (iv sl), .v (iv ro), .v (iv su), .v (.slice go G.length gc), .v (.slice to T.length tc)] 34), (6, .cells [.v (.func (.yield lp) #[] #[])] 163), (7, .cells [.v (iv sl), .v (iv ro), .v (iv su), .v (.slice go G.length gc), .v (.slice to T.length tc)] 34), (8, .cells [.v (.func (.yield l2) #[] #[])] 111), (9, .cells [.fn (.func 150) [.ptr 8 0, .ptr 7 0, .ptr 9 0]] 105)]) (fun j => j ≤ su.toNat ∧ ∀ i, i < j → (combos su.toNat d ([] ++ [(i : Int)])).find? (unB D) = none) (fun j => su.toNat - j) 0 ⟨Nat.zero_le _, fun i h => by omega⟩ ⟨rfl, rfl, rfl, rfl, rfl, rfl, trivial⟩ ⟨rfl, rfl, rfl, rfl, rfl, rfl, rfl, rfl, rfl, rfl, trivial⟩ (fun _ _ => ⟨rfl, rfl⟩) ?_))
   intro j ⟨hj2, hno⟩
   rcases Nat.lt_or_ge j su.toNat with hjl | hjl
   · refine VC.sq (VC.of env mixed ?_)
     repeat'
      conv => whnf
      first
       |refine zB ?_
       |(refine splD ?_ ?_ <;> intro hc <;> first|(exfalso; omega)|skip)
     conv => whnf
     have hsub' : subIn D ([] ++ [(j : Int)]) := ⟨by simp, fun x hx => by
      simp only [List.nil_append, List.mem_singleton] at hx; subst hx; rw [hsu]; omega⟩
     have ihj := rec150 sl ro su go to gc tc G T D w h hB hD hv lp l2 a1 b1 a2 b2 ha1 hb1 ha2 hb2 hsu h6 (d + 1) d ([] ++ [(j : Int)]) (by simp; omega) (by simp) hsub' hsz.2
     rw [show (([] : List Int) ++ [(j : Int)]).length = 1 from rfl, show (([] : List Int) ++ [(j : Int)]).map iv = [iv j] from rfl] at ihj
     have htot : ∀ l, (combos su.toNat d ([] ++ [(j : Int)])).find? (unB D) = some l → (combos su.toNat (d + 1) []).find? (unB D) = some l := fun l hl => by
      show (((List.range' 0 (su.toNat - 0)).flatMap fun j : Nat => combos su.toNat d ([] ++ [(j : Int)])).find? (unB D)) = some l
      exact find_fm_some _ _ j (fun i h1 h2 => hno i h2) (Nat.zero_le _) (by omega) hl
     refine VC.sq (VC.block (VC.sq ?_))
     refine VC_mid env mixed (fun _ => false) 6 (by kernel_rfl) ?_
     repeat'
      conv => whnf
      first
       |refine zA ?_|refine zB ?_|refine zI ?_
     conv => whnf
     refine rec_stN env mixed (k := 150) Tryz.func150 has150 Tryz.ntmps150 (fun σs : Sg => ∃ (l : List Int) (o : Option Addr) (c : Nat), (combos su.toNat d ([] ++ [(j : Int)])).find? (unB D) = some l ∧ σs = ⟨0, [], [(1, .cells [.v (.int .u8 2), .v (iv 0), .v (.slice o l.length c), .v (iv (hoursP D l)), .v (iv (timesP D l))] 56), (2, .cells [.v (.bool true)] 4)], 30, fun w' => Below w.heap.size w w' ∧ St w.heap.size (Rd 1 iF (.slice o l.length c) l) w', ⟨[(3001, .ptr 7 0), (3002, .ptr 8 0), (3003, .ptr 9 0), (3004, .v (iv (d + 1 : Nat))), (3010, .v (.bool true)), (2001, .ptr 5 0), (2002, .ptr 6 0), (1001, .ptr 0 0), (1002, .ptr 1 0), (1003, .ptr 2 0), (1005, .ptr 4 0), (1007, .sl 3 0 3 3), (1008, .v (iv 3)), (1009, .v (iv 1))], [(1, ⟨l2, .done .ret, 13, 2000, #[6], a2, b2⟩), (0, ⟨lp, .done .ret, 23, 1000, #[17], a1, b1⟩)], 2⟩⟩) ((combos su.toNat d ([] ++ [(j : Int)])).find? (unB D) = none) (Nat.le_of_ble_eq_true rfl) rfl (mB_lk rfl) (gB_lk rfl) rfl rfl (fun σs hs => by obtain ⟨l, o, c, _, rfl⟩ := hs; exact ⟨rfl, rfl⟩) ihj (pl := [(3001, 7), (3002, 8), (3003, 9)]) (t' := [(0, .v (.slice none 0 0)), (1, .v (iv (d + 1 : Nat))), (2, .ptr 8 0), (3, .ptr 7 0), (4, .ptr 9 0), (9, .v (iv j))]) (fun _ h => h) ⟨rfl, rfl, rfl, rfl, rfl, rfl, rfl, rfl, rfl, rfl, trivial⟩ ⟨rfl, rfl, rfl, rfl, rfl, rfl, trivial⟩ (fun q hq => by simp only [List.mem_cons, List.not_mem_nil, or_false] at hq; rcases hq with rfl | rfl | rfl <;> rfl) (fun q hq => by simp only [List.mem_cons, List.not_mem_nil, or_false] at hq; rcases hq with rfl | rfl | rfl <;> decide) rfl (fun σs hs => by obtain ⟨l, o, c, _, rfl⟩ := hs; exact okB rfl rfl rfl) (fun σs hs => ?_) (i := 11) (j := 12) rfl (by decide) rfl (tB_lk (nt := 43) rfl) (by show (10 : Nat) ≤ 13; decide) (fun hp => ?_)
     · obtain ⟨l, o, c, hl, rfl⟩ := hs
       conv => whnf
       refine VC.of env mixed ?_
       repeat'
        conv => whnf
        first
         |refine splT ?_
       conv => whnf
       exact .inr ⟨rfl, l, o, c, _, htot l hl, rfl⟩
     · conv => whnf
       refine VC.of env mixed ?_
       repeat'
        conv => whnf
        first
         |refine splF ?_
       conv => whnf
       refine VC.of env mixed ?_
       repeat'
        conv => whnf
        first
         |refine zF ?_
       conv => whnf
       exact ⟨j + 1, ⟨by omega, fun i h1 => by
        by_cases hi : i = j
        · subst hi; exact hp
        · exact hno i (by omega)⟩, by omega, Ent.weak rfl ⟨rfl, rfl, rfl, rfl, rfl, rfl, trivial⟩ ⟨rfl, rfl, rfl, rfl, rfl, rfl, rfl, rfl, rfl, rfl, trivial⟩ fun _ h => h⟩
   · refine VC.sq (VC.of env mixed ?_)
     repeat'
      conv => whnf
      first
       |refine zB ?_
       |(refine splD ?_ ?_ <;> intro hc <;> first|(exfalso; omega)|skip)
     conv => whnf
     refine VC.of env mixed ?_
     skip
     conv => whnf
     obtain rfl : j = su.toNat := by omega
     exact .inl ⟨rfl, by
      show (((List.range' 0 (su.toNat - 0)).flatMap fun j : Nat => combos su.toNat d ([] ++ [(j : Int)])).find? (unB D)) = none
      exact find_fm_none fun i hi => by
       obtain ⟨h1, h2⟩ := List.mem_range'_1.1 hi
       exact hno i (by omega), _, _, rfl⟩
theorem end_mono {P : Program} {T : Env P} {fn : Func} {t : Tmp} (hr : fn.results.toList = [.tmp t]) {K K' : SV → Sg → Prop} (hK : ∀ s σ, K s σ → K' s σ) : ∀ e σ, endΦ T fn K e σ → endΦ T fn K' e σ := by
 intro e σ h
 have key : (resK T σ fn.results.toList fun l => oneK l fun s => K s σ) → resK T σ fn.results.toList fun l => oneK l fun s => K' s σ := by
  rw [hr]
  simp only [resK]
  cases lk σ.t t with
  | none => exact id
  | some s => exact fun h => hK s σ h
 cases e with
 | ret => exact key h
 | normal => exact key h
 | _ => exact h
theorem c149 : rest 4 body149 = .block 0 (.loop (qI (qI (rest 4 body149)))) := by kernel_rfl
theorem why_ok (s : Sc) (w : World) (h : ScIn s w) (hB : ScB s) (hv : scOk s.d = true) :
 Calls Tryz.prog 38 #[s.v] w fun e w' => ∃ y : RnF (rWhy s.d), e = .returned (.tuple #[y.1.v, .bool (rWhy s.d).isSome]) ∧ Below w.heap.size w w' ∧ St w.heap.size (Rd 1 iF (.slice y.1.o y.1.L.length y.1.c) y.1.L) w' := by
 have cC := fun (g : Nat) (xs : List Int) (hx : s.d.G[g]? = some xs) (w' : World) (hw : Below w.heap.size w w') => crowded_ok s g xs w' (h.below hw) hv hx
 have cF := fun (w' : World) (hw : Below w.heap.size w w') => full_ok s w' (h.below hw) hv
 obtain ⟨hv1, hv2, hv3, hv4, hv5, hv6, hv7⟩ := scOk_iff.1 hv
 obtain ⟨hg, hrr, ht, hh⟩ := h
 generalize hsd : s.d = D at *
 obtain ⟨sl, ro, su, go, gc, G, to, tc, T⟩ := s
 have hDsl : D.sl = sl := by rw [← hsd]; rfl
 have hDro : D.ro = ro := by rw [← hsd]; rfl
 have hDsu : D.su = su := by rw [← hsd]; rfl
 have hDG : D.G = G.map Rw.xs := by rw [← hsd]; rfl
 have hGl : G.length ≤ 8 := by rw [hDG, List.length_map] at hv4; exact hv4
 dsimp only at cC cF
 refine calls_fam env mixed Tryz.func38 has38 Tryz.ntmps38 [.agg #[iv sl, iv ro, iv su, .slice go G.length gc, .slice to T.length tc]] (by simp) ?_
 repeat'
  conv => whnf
  first
   |refine zB ?_|refine zD ?_
   |((with_reducible show CallEv _ _ 85 ..); refine callI env mixed 1000 [1, 2, 3] Tryz.func85 has85 Tryz.ntmps85 (Nat.le_of_ble_eq_true rfl) rfl rfl rfl ?_)
 refine loopN 4 (fun k : Nat => [(1, .ptr 0 0), (2, .ptr 1 0), (3, .ptr 2 0), (7, .sl 3 0 3 3), (8, .v (iv 3)), (9, .v (iv k))]) (fun k => [(0, .cells [.v (iv sl), .v (iv ro), .v (iv su), .v (.slice go G.length gc), .v (.slice to T.length tc)] 34), (1, .cells [.v (.int .u8 0), .v (iv 0), .v (.slice none 0 0), .v (iv 0), .v (iv 0)] 56), (2, .cells [.v (.bool false)] 4), (3, .cells [.v (.int .u8 1), .v (.func (.func 119) #[] #[]), .v (.int .u8 2), .v (.func (.func 121) #[] #[]), .v (.int .u8 3), .v (.func (.func 124) #[] #[])] 145)]) (fun k => k ≤ 3 ∧ (1 ≤ k → crF D 0 G.length = none) ∧ (2 ≤ k → bestK D (2 ^ su.toNat - 1) = none) ∧ (3 ≤ k → ¬ ro * sl < hoursP D (numL su.toNat))) (fun k => 3 - k) 0 ⟨by omega, fun h => by omega, fun h => by omega, fun h => by omega⟩ ⟨rfl, rfl, rfl, rfl, rfl, rfl, trivial⟩ ⟨rfl, rfl, rfl, rfl, trivial⟩ (fun _ _ => ⟨rfl, rfl⟩) ?_
 intro k ⟨hk, hk1, hk2, hk3⟩
 rcases Nat.lt_or_ge k 1 with hk0 | hk0
 · obtain rfl : k = 0 := by omega
   repeat'
    conv => whnf
    first
     |refine zB ?_|refine zC ?_|refine zD ?_|refine zG ?_|refine splT ?_
     |((with_reducible show CallEv _ _ 119 ..); refine callI env mixed 1000 [1, 2, 3, 5, 7, 8, 9] Tryz.func119 has119 Tryz.ntmps119 (Nat.le_of_ble_eq_true rfl) rfl rfl rfl ?_)
   conv => whnf
   refine rf_inline env mixed 1000 [1, 2, 3, 5, 7, 8, 9] Tryz.func120 has120 Tryz.ntmps120 rfl rfl (by decide) rfl rfl ?_
   intro lp asg bdy hasg hbdy
   repeat'
    conv => whnf
    first
     |refine zB ?_
   refine loopN 6 (fun i : Nat => [(0, .v (.func (.yield lp) #[] #[])), (1, .ptr 5 0), (5, .v (.slice go G.length gc)), (6, .v (iv G.length)), (7, .v (iv i))]) (fun i => [(0, .cells [.v (iv sl), .v (iv ro), .v (iv su), .v (.slice go G.length gc), .v (.slice to T.length tc)] 34), (1, .cells [.v (.int .u8 0), .v (iv 0), .v (.slice none 0 0), .v (iv 0), .v (iv 0)] 56), (2, .cells [.v (.bool false)] 4), (3, .cells [.v (.int .u8 1), .v (.func (.func 119) #[] #[]), .v (.int .u8 2), .v (.func (.func 121) #[] #[]), .v (.int .u8 3), .v (.func (.func 124) #[] #[])] 145), (4, .cells [.v (.int .u8 1), .v (.func (.func 119) #[] #[])] 145), (5, .cells [.v (iv sl), .v (iv ro), .v (iv su), .v (.slice go G.length gc), .v (.slice to T.length tc)] 34)]) (fun i => i ≤ G.length ∧ crF D 0 G.length = crF D i (G.length - i)) (fun i => G.length - i) 0 ⟨Nat.zero_le _, rfl⟩ ⟨rfl, rfl, rfl, rfl, rfl, trivial⟩ ⟨rfl, rfl, rfl, rfl, rfl, rfl, trivial⟩ (fun _ _ => ⟨rfl, rfl⟩) ?_
   intro i ⟨hi, hcr⟩
   rcases Nat.lt_or_ge i G.length with hil | hil
   · obtain ⟨⟨ro', rc, xs⟩, hx⟩ : ∃ b, G[i]? = some b := ⟨_, List.getElem?_eq_getElem hil⟩
     have hmx : D.G[i]? = some xs := by rw [hDG, List.getElem?_map, hx]; rfl
     have hgx : D.G.getD i [] = xs := by rw [List.getD_eq_getElem?_getD, hmx]; rfl
     have c62 := cC i xs hmx
     have hcb : crB D i = decide (sl < (xs.map id).sum) := by unfold crB; rw [hgx, hDsl]
     by_cases hc : sl < (xs.map id).sum
     · have hw : rWhy D = some ⟨1, i, [], (xs.map id).sum, sl⟩ := by
        unfold rWhy
        rw [hDG, List.length_map, hcr, crF_at (by rw [hcb]; exact decide_eq_true hc) (by omega)]
        dsimp only
        rw [← hDG, hgx, hDsl]
       rw [hw]
       generalize (xs.map id).sum = X at *
       have c60 := fun (w' : World) => holds_ok ⟨1, i, none, 0, [], X, sl⟩ w'
       rw [show decide ((⟨1, i, none, 0, [], X, sl⟩ : Rn).h < (⟨1, i, none, 0, [], X, sl⟩ : Rn).n) = true from decide_eq_true hc] at c60
       repeat'
        conv => whnf
        first
         |refine zB ?_|refine zC ?_|refine zD ?_|refine splT ?_
         |(refine splD ?_ ?_ <;> intro hc <;> first|(exfalso; omega)|skip)
         |((with_reducible show CallEv _ _ 62 ..); refine callE (fun β w' hbw => c62 _ hbw) ?_)
         |refine And.intro (a := (_ : List _) = [] ∧ (_ : List _) = []) ⟨rfl, rfl⟩ ?_
         |refine yield_inline env mixed 0 2000 [2, 3] [0, 1, 5, 6, 7] rfl rfl rfl rfl rfl rfl rfl ?_
         |refine vc_eq env hasg ?_
         |refine vc_eq env hbdy ?_
         |((with_reducible show CallEv _ _ 60 ..); refine callE (fun β w' hbw => c60 w') ?_)
       all_goals exact ⟨fun w' h => h, fun β w' hB hblk => ⟨⟨⟨1, i, none, 0, [], X, sl⟩, rfl⟩, rfl, fun _ _ => .inl ⟨rfl, rfl⟩⟩⟩
     · have hn : crF D 0 G.length = crF D (i + 1) (G.length - (i + 1)) := by rw [hcr, crF_no (by rw [hcb]; exact decide_eq_false hc) (by omega)]; rfl
       generalize (xs.map id).sum = X at *
       have c60 := fun (w' : World) => holds_ok ⟨1, i, none, 0, [], X, sl⟩ w'
       rw [show decide ((⟨1, i, none, 0, [], X, sl⟩ : Rn).h < (⟨1, i, none, 0, [], X, sl⟩ : Rn).n) = false from decide_eq_false hc] at c60
       repeat'
        conv => whnf
        first
         |refine zB ?_|refine zC ?_|refine zD ?_|refine zF ?_|refine splF ?_
         |(refine splD ?_ ?_ <;> intro hc <;> first|(exfalso; omega)|skip)
         |((with_reducible show CallEv _ _ 62 ..); refine callE (fun β w' hbw => c62 _ hbw) ?_)
         |refine And.intro (a := (_ : List _) = [] ∧ (_ : List _) = []) ⟨rfl, rfl⟩ ?_
         |refine yield_inline env mixed 0 2000 [2, 3] [0, 1, 5, 6, 7] rfl rfl rfl rfl rfl rfl rfl ?_
         |refine vc_eq env hasg ?_
         |refine vc_eq env hbdy ?_
         |((with_reducible show CallEv _ _ 60 ..); refine callE (fun β w' hbw => c60 w') ?_)
       all_goals exact ⟨i + 1, ⟨by omega, hn⟩, by omega, Ent.weak rfl ⟨rfl, rfl, rfl, rfl, rfl, trivial⟩ ⟨rfl, rfl, rfl, rfl, rfl, rfl, trivial⟩ (fun _ h => h) (.inr ⟨rfl, ⟨rfl, rfl, rfl, rfl, rfl, rfl, rfl, trivial⟩, ⟨rfl, trivial⟩⟩)⟩
   · obtain rfl : i = G.length := by omega
     rw [Nat.sub_self] at hcr
     change crF D 0 G.length = none at hcr
     repeat'
      conv => whnf
      first
       |refine zF ?_
       |(refine splD ?_ ?_ <;> intro hc <;> first|(exfalso; omega)|skip)
     all_goals exact ⟨1, ⟨by omega, fun _ => hcr, fun h => by omega, fun h => by omega⟩, by omega, Ent.weak rfl ⟨rfl, rfl, rfl, rfl, rfl, rfl, trivial⟩ ⟨rfl, rfl, rfl, rfl, trivial⟩ fun _ h => h⟩
 · have hcr := hk1 hk0
   have hw0 : rWhy D = match bestK D (2 ^ su.toNat - 1) with
    | some l => some ⟨2, 0, l, hoursP D l, timesP D l⟩
    | none => if ro * sl < hoursP D (numL su.toNat) then some ⟨3, 0, [], hoursP D (numL su.toNat), ro * sl⟩ else none := by
    unfold rWhy
    rw [hDG, List.length_map, hcr, hDsu, hDro, hDsl]
    try rfl
   rcases Nat.lt_or_ge k 2 with hk20 | hk20
   · obtain rfl : k = 1 := by omega
     have hsu6 := hv3
     have hfb := find_best (unB D) (su := su.toNat) (by rw [hDsu] at hsu6; omega) (by rw [hDsu] at hsu6; omega)
     rw [← bestK_G] at hfb
     repeat'
      conv => whnf
      first
       |refine zB ?_|refine zC ?_|refine zD ?_|refine zG ?_|refine splT ?_
       |((with_reducible show CallEv _ _ 121 ..); refine callI env mixed 1000 [1, 2, 3, 5, 7, 8, 9] Tryz.func121 has121 Tryz.ntmps121 (Nat.le_of_ble_eq_true rfl) rfl rfl rfl ?_)
     conv => whnf
     refine rf_inline env mixed 1000 [1, 2, 3, 5, 7, 8, 9] Tryz.func122 has122 Tryz.ntmps122 rfl rfl (by decide) rfl rfl ?_
     intro lp a1 b1 hasg hbdy
     repeat'
      conv => whnf
      first
       |refine zD ?_
       |((with_reducible show CallEv _ _ 123 ..); refine callI env mixed 2000 [0, 1, 2] Tryz.func123 has123 Tryz.ntmps123 (Nat.le_of_ble_eq_true rfl) rfl rfl rfl ?_)
     conv => whnf
     refine rf_inline0V env mixed 2000 [1, 2] rfl rfl Tryz.func149 has149 Tryz.ntmps149 (Nat.le_of_ble_eq_true rfl) rfl rfl ?_
     conv => whnf
     intro l2 a2 b2 hasg2 hbdy2
     have ha1 : a1 = qA (qI (qR (qR (qI (qL (qR (qR (qI (qI (qR (qL (qR body38)))))))))))) := hasg
     have hb1 : b1 = qB (qI (qR (qR (qI (qL (qR (qR (qI (qI (qR (qL (qR body38)))))))))))) := hbdy
     have ha2 : a2 = qA (qI (qR (qR body122))) := hasg2
     have hb2 : b2 = qB (qI (qR (qR body122))) := hbdy2
     refine VC.ent (σ' := ⟨17, [(0, .v (.func (.yield l2) #[] #[])), (1, .ptr 7 0)], [(0, .cells [.v (iv sl), .v (iv ro), .v (iv su), .v (.slice go G.length gc), .v (.slice to T.length tc)] 34), (1, .cells [.v (.int .u8 0), .v (iv 0), .v (.slice none 0 0), .v (iv 0), .v (iv 0)] 56), (2, .cells [.v (.bool false)] 4), (3, .cells [.v (.int .u8 1), .v (.func (.func 119) #[] #[]), .v (.int .u8 2), .v (.func (.func 121) #[] #[]), .v (.int .u8 3), .v (.func (.func 124) #[] #[])] 145), (4, .cells [.v (.int .u8 2), .v (.func (.func 121) #[] #[])] 145), (5, .cells [.v (iv sl), .v (iv ro), .v (iv su), .v (.slice go G.length gc), .v (.slice to T.length tc)] 34), (6, .cells [.v (.func (.yield lp) #[] #[])] 163), (7, .cells [.v (iv sl), .v (iv ro), .v (iv su), .v (.slice go G.length gc), .v (.slice to T.length tc)] 34)], 8, Below w.heap.size w, ⟨[(2001, .ptr 5 0), (2002, .ptr 6 0), (1001, .ptr 0 0), (1002, .ptr 1 0), (1003, .ptr 2 0), (1005, .ptr 4 0), (1007, .sl 3 0 3 3), (1008, .v (iv 3)), (1009, .v (iv 1))], [(1, ⟨l2, .ready, 13, 2000, #[6], a2, b2⟩), (0, ⟨lp, .ready, 23, 1000, #[17], a1, b1⟩)], 2⟩⟩) ?_ (Ent.weak rfl ⟨rfl, rfl, trivial⟩ ⟨rfl, rfl, rfl, rfl, rfl, rfl, rfl, rfl, trivial⟩ (fun _ h => h)) (okB rfl rfl rfl)
     refine VC.cutE env mixed 4 10 (fun _ : Unit => [(1, .ptr 7 0), (2, .ptr 8 0), (3, .ptr 9 0), (4, .v (iv (1 : Nat)))]) (fun _ => [(0, .cells [.v (iv sl), .v (iv ro), .v (iv su), .v (.slice go G.length gc), .v (.slice to T.length tc)] 34), (1, .cells [.v (.int .u8 0), .v (iv 0), .v (.slice none 0 0), .v (iv 0), .v (iv 0)] 56), (2, .cells [.v (.bool false)] 4), (3, .cells [.v (.int .u8 1), .v (.func (.func 119) #[] #[]), .v (.int .u8 2), .v (.func (.func 121) #[] #[]), .v (.int .u8 3), .v (.func (.func 124) #[] #[])] 145), (4, .cells [.v (.int .u8 2), .v (.func (.func 121) #[] #[])] 145), (5, .cells [.v (iv sl), .v (iv ro), .v (iv su), .v (.slice go G.length gc), .v (.slice to T.length tc)] 34), (6, .cells [.v (.func (.yield lp) #[] #[])] 163), (7, .cells [.v (iv sl), .v (iv ro), .v (iv su), .v (.slice go G.length gc), .v (.slice to T.length tc)] 34), (8, .cells [.v (.func (.yield l2) #[] #[])] 111), (9, .cells [.fn (.func 150) [.ptr 8 0, .ptr 7 0, .ptr 9 0]] 105)]) (fun _ => True) (fun _ _ => ⟨rfl, rfl⟩) ?_ (fun _ _ => ?_)
     ·
      repeat'
       conv => whnf
       first
        |refine zC ?_
      conv => whnf
      exact ⟨rfl, (), trivial, Ent.weak rfl ⟨rfl, rfl, rfl, rfl, trivial⟩ ⟨rfl, rfl, rfl, rfl, rfl, rfl, rfl, rfl, rfl, rfl, trivial⟩ fun _ h => h⟩
     · rw [c149]
       refine VC.block (VC.loop (loopN 10 (fun k : Nat => [(1, .ptr 7 0), (2, .ptr 8 0), (3, .ptr 9 0), (4, .v (iv k))]) (fun _ => [(0, .cells [.v (iv sl), .v (iv ro), .v (iv su), .v (.slice go G.length gc), .v (.slice to T.length tc)] 34), (1, .cells [.v (.int .u8 0), .v (iv 0), .v (.slice none 0 0), .v (iv 0), .v (iv 0)] 56), (2, .cells [.v (.bool false)] 4), (3, .cells [.v (.int .u8 1), .v (.func (.func 119) #[] #[]), .v (.int .u8 2), .v (.func (.func 121) #[] #[]), .v (.int .u8 3), .v (.func (.func 124) #[] #[])] 145), (4, .cells [.v (.int .u8 2), .v (.func (.func 121) #[] #[])] 145), (5, .cells [.v (iv sl), .v (iv ro), .v (iv su), .v (.slice go G.length gc), .v (.slice to T.length tc)] 34), (6, .cells [.v (.func (.yield lp) #[] #[])] 163), (7, .cells [.v (iv sl), .v (iv ro), .v (iv su), .v (.slice go G.length gc), .v (.slice to T.length tc)] 34), (8, .cells [.v (.func (.yield l2) #[] #[])] 111), (9, .cells [.fn (.func 150) [.ptr 8 0, .ptr 7 0, .ptr 9 0]] 105)]) (fun k => 1 ≤ k ∧ k ≤ su.toNat + 1 ∧ ∀ i, 1 ≤ i → i < k → (combos su.toNat i []).find? (unB D) = none) (fun k => su.toNat + 1 - k) 1 ⟨Nat.le_refl _, by omega, fun i h1 h2 => by omega⟩ ⟨rfl, rfl, rfl, rfl, trivial⟩ ⟨rfl, rfl, rfl, rfl, rfl, rfl, rfl, rfl, rfl, rfl, trivial⟩ (fun _ _ => ⟨rfl, rfl⟩) ?_))
       intro size ⟨hs1, hs2, hno⟩
       rcases Nat.lt_or_ge su.toNat size with hsl | hsl
       · refine VC.of env mixed ?_
         repeat'
          conv => whnf
          first
           |refine zB ?_|refine zF ?_|refine splF ?_
           |(refine splD ?_ ?_ <;> intro hc <;> first|(exfalso; omega)|skip)
         conv => whnf
         have hbn : bestK D (2 ^ su.toNat - 1) = none := by
          rw [← hfb]
          exact find_fm_none fun i hi => by
           obtain ⟨h1, h2⟩ := List.mem_range'_1.1 hi
           exact hno i h1 (by omega)
         exact ⟨2, ⟨by omega, fun _ => hcr, fun _ => hbn, fun h => by omega⟩, by omega, Ent.weak rfl ⟨rfl, rfl, rfl, rfl, rfl, rfl, trivial⟩ ⟨rfl, rfl, rfl, rfl, trivial⟩ fun _ h => h⟩
       · refine VC.of env mixed ?_
         repeat'
          conv => whnf
          first
           |refine zB ?_
           |(refine splD ?_ ?_ <;> intro hc <;> first|(exfalso; omega)|skip)
         conv => whnf
         refine .st _ rfl (callI0V env mixed 3000 [1, 2, 3, 4, 10] Tryz.func150 has150 Tryz.ntmps150 (Nat.le_of_ble_eq_true rfl) rfl rfl rfl ?_)
         conv => whnf
         refine (top150 sl ro su go to gc tc G T D w ⟨hg, hrr, ht, hh⟩ hB hsd hv lp l2 a1 b1 a2 b2 ha1 hb1 ha2 hb2 hDsu (by rw [hDsu] at hsu6; exact hsu6) size ⟨hs1, by omega⟩).mono (end_mono (t := 7) (by kernel_rfl) ?_)
         rintro s σ' (⟨rfl, hn, t, nb, rfl⟩ | ⟨rfl, l, o, c, t, hl, rfl⟩)
         ·
          repeat'
           conv => whnf
           first
            |refine zF ?_|refine splT ?_
          conv => whnf
          exact ⟨size + 1, ⟨by omega, by omega, fun i h1 h2 => by
           by_cases hi : i = size
           · subst hi; exact hn
           · exact hno i h1 (by omega)⟩, by omega, Ent.weak rfl ⟨rfl, rfl, rfl, rfl, trivial⟩ ⟨rfl, rfl, rfl, rfl, rfl, rfl, rfl, rfl, rfl, rfl, trivial⟩ fun _ h => h⟩
         ·
          repeat'
           conv => whnf
           first
            |refine splF ?_
          conv => whnf
          have hbs : bestK D (2 ^ su.toNat - 1) = some l := by
           rw [← hfb]
           exact find_fm_some _ _ size (fun i h1 h2 => hno i h1 h2) hs1 (by omega) hl
          have hw2 : rWhy D = some ⟨2, 0, l, hoursP D l, timesP D l⟩ := by rw [hw0, hbs]
          rw [hw2]
          exact ⟨fun w' h => h.1, fun β w' hh2 hblk => ⟨⟨⟨2, 0, o, c, l, hoursP D l, timesP D l⟩, rfl⟩, rfl, hh2.2⟩⟩
   · rw [hk2 hk20] at hw0
     dsimp only at hw0
     rcases Nat.lt_or_ge k 3 with hk30 | hk30
     · obtain rfl : k = 2 := by omega
       generalize hoursP D (numL su.toNat) = H at *
       generalize hX : ro * sl = X at *
       have c60 := fun (w' : World) => holds_ok ⟨3, 0, none, 0, [], H, X⟩ w'
       by_cases hf : X < H
       · rw [if_pos hf] at hw0
         rw [hw0]
         rw [show decide ((⟨3, 0, none, 0, [], H, X⟩ : Rn).h < (⟨3, 0, none, 0, [], H, X⟩ : Rn).n) = true from decide_eq_true hf] at c60
         repeat'
          conv => whnf
          first
           |refine zB ?_|refine zC ?_|refine zD ?_|refine zG ?_|refine splT ?_
           |((with_reducible show CallEv _ _ 124 ..); refine callI env mixed 1000 [1, 2, 3, 5, 7, 8, 9] Tryz.func124 has124 Tryz.ntmps124 (Nat.le_of_ble_eq_true rfl) rfl rfl rfl ?_)
         conv => whnf
         refine rf_inline env mixed 1000 [1, 2, 3, 5, 7, 8, 9] Tryz.func125 has125 Tryz.ntmps125 rfl rfl (by decide) rfl rfl ?_
         intro lp asg bdy hasg hbdy
         repeat'
          conv => whnf
          first
           |refine zB ?_|refine zC ?_|refine zD ?_|refine splT ?_
           |((with_reducible show CallEv _ _ 65 ..); refine callE (fun β w' hbw => cF _ hbw) ?_)
           |refine And.intro (a := (_ : List _) = [] ∧ (_ : List _) = []) ⟨rfl, rfl⟩ ?_
           |refine yield_inline env mixed 0 2000 [2, 3] [0, 1] rfl rfl rfl rfl rfl rfl rfl ?_
           |refine vc_eq env hasg ?_
           |refine vc_eq env hbdy ?_
           |((with_reducible show CallEv _ _ 60 ..); refine callE (fun β w' hbw => c60 w') ?_)
         all_goals exact ⟨fun w' h => h, fun β w' hB hblk => ⟨⟨⟨3, 0, none, 0, [], H, X⟩, rfl⟩, rfl, fun _ _ => .inl ⟨rfl, rfl⟩⟩⟩
       · rw [if_neg hf] at hw0
         rw [show decide ((⟨3, 0, none, 0, [], H, X⟩ : Rn).h < (⟨3, 0, none, 0, [], H, X⟩ : Rn).n) = false from decide_eq_false hf] at c60
         repeat'
          conv => whnf
          first
           |refine zB ?_|refine zC ?_|refine zD ?_|refine zG ?_|refine splT ?_
           |((with_reducible show CallEv _ _ 124 ..); refine callI env mixed 1000 [1, 2, 3, 5, 7, 8, 9] Tryz.func124 has124 Tryz.ntmps124 (Nat.le_of_ble_eq_true rfl) rfl rfl rfl ?_)
         conv => whnf
         refine rf_inline env mixed 1000 [1, 2, 3, 5, 7, 8, 9] Tryz.func125 has125 Tryz.ntmps125 rfl rfl (by decide) rfl rfl ?_
         intro lp asg bdy hasg hbdy
         repeat'
          conv => whnf
          first
           |refine zB ?_|refine zC ?_|refine zD ?_|refine zF ?_|refine splF ?_
           |((with_reducible show CallEv _ _ 65 ..); refine callE (fun β w' hbw => cF _ hbw) ?_)
           |refine And.intro (a := (_ : List _) = [] ∧ (_ : List _) = []) ⟨rfl, rfl⟩ ?_
           |refine yield_inline env mixed 0 2000 [2, 3] [0, 1] rfl rfl rfl rfl rfl rfl rfl ?_
           |refine vc_eq env hasg ?_
           |refine vc_eq env hbdy ?_
           |((with_reducible show CallEv _ _ 60 ..); refine callE (fun β w' hbw => c60 w') ?_)
         all_goals exact ⟨3, ⟨by omega, fun _ => hcr, fun _ => hk2 hk20, fun _ => hf⟩, by omega, Ent.weak rfl ⟨rfl, rfl, rfl, rfl, rfl, rfl, trivial⟩ ⟨rfl, rfl, rfl, rfl, trivial⟩ fun _ h => h⟩
     · obtain rfl : k = 3 := by omega
       rw [if_neg (hk3 hk30)] at hw0
       rw [hw0]
       repeat'
        conv => whnf
        first
         |refine zB ?_|refine zC ?_|refine splF ?_
       all_goals exact ⟨fun w' h => h, fun β w' hB hblk => ⟨⟨⟨0, 0, none, 0, [], 0, 0⟩, rfl⟩, rfl, fun _ _ => .inl ⟨rfl, rfl⟩⟩⟩
def resW (D : SD) : Option RD := if scOk D = true then rWhy D else none
def errW (D : SD) : Int := if scOk D = true then (if (rWhy D).isSome = true then 0 else 7) else 1
theorem Why_ok (s : Sc) (w : World) (h : ScIn s w) (hB : ScB s) :
 Calls Tryz.prog 22 #[s.v] w fun e w' => ∃ y : RnF (resW s.d), e = .returned (.tuple #[y.1.v, iv (errW s.d)]) ∧ Below w.heap.size w w' ∧ St w.heap.size (Rd 1 iF (.slice y.1.o y.1.L.length y.1.c) y.1.L) w' := by
 have c37 := fun (w' : World) (hw : Below w.heap.size w w') => valid_ok s w' (h.below hw) hB
 cases hv : scOk s.d with
 | false =>
  rw [hv] at c37
  have e1 : resW s.d = none := by unfold resW; rw [hv]; rfl
  have e2 : errW s.d = 1 := by unfold errW; rw [hv]; rfl
  rw [e1, e2]
  obtain ⟨sl, ro, su, go, gc, G, to, tc, T⟩ := s
  refine calls_fam env mixed Tryz.func22 has22 Tryz.ntmps22 [.agg #[iv sl, iv ro, iv su, .slice go G.length gc, .slice to T.length tc]] (by simp) ?_
  repeat'
   conv => whnf
   first
    |refine zB ?_|refine zC ?_|refine zD ?_|refine splT ?_
    |((with_reducible show CallEv _ _ 37 ..); refine callE (fun β w' hbw => c37 _ hbw) ?_)
  all_goals exact ⟨fun w' h => h, fun β w' hB hblk => ⟨⟨⟨0, 0, none, 0, [], 0, 0⟩, rfl⟩, rfl, fun _ _ => .inl ⟨rfl, rfl⟩⟩⟩
 | true =>
  rw [hv] at c37
  have e1 : resW s.d = rWhy s.d := by unfold resW; rw [hv]; rfl
  have e2 : errW s.d = if (rWhy s.d).isSome = true then 0 else 7 := by unfold errW; rw [hv]; rfl
  rw [e1, e2]
  have c38 := fun (w' : World) (hw : Below w.heap.size w w') => famS hw (why_ok s w' (h.below hw) hB hv)
  generalize s.d = D at *
  obtain ⟨sl, ro, su, go, gc, G, to, tc, T⟩ := s
  cases hr : rWhy D with
  | none =>
   rw [hr] at c38
   refine calls_fam env mixed Tryz.func22 has22 Tryz.ntmps22 [.agg #[iv sl, iv ro, iv su, .slice go G.length gc, .slice to T.length tc]] (by simp) ?_
   repeat'
    conv => whnf
    first
     |refine zB ?_|refine zC ?_|refine zD ?_|refine splT ?_|refine splF ?_
     |((with_reducible show CallEv _ _ 37 ..); refine callE (fun β w' hbw => c37 _ hbw) ?_)
     |((with_reducible show CallEv _ _ 38 ..); refine callF [] (fun y : RnF none => .tuple #[y.1.v, .bool (none : Option RD).isSome]) (fun y => St w.heap.size (Rd 1 iF (.slice y.1.o y.1.L.length y.1.c) y.1.L)) (fun β w' _ hbw => c38 w' (by repeat (first | exact hbw | replace hbw := hbw.1))) ?_; intro y)
   all_goals exact ⟨fun w' h => h.1, fun β w' hB hblk => ⟨⟨⟨0, 0, none, 0, [], 0, 0⟩, rfl⟩, rfl, fun _ _ => .inl ⟨rfl, rfl⟩⟩⟩
  | some r =>
   rw [hr] at c38
   refine calls_fam env mixed Tryz.func22 has22 Tryz.ntmps22 [.agg #[iv sl, iv ro, iv su, .slice go G.length gc, .slice to T.length tc]] (by simp) ?_
   repeat'
    conv => whnf
    first
     |refine zC ?_|refine zD ?_|refine splF ?_
     |((with_reducible show CallEv _ _ 37 ..); refine callE (fun β w' hbw => c37 _ hbw) ?_)
     |((with_reducible show CallEv _ _ 38 ..); refine callF [] (fun y : RnF (some r) => .tuple #[y.1.v, .bool (some r : Option RD).isSome]) (fun y => St w.heap.size (Rd 1 iF (.slice y.1.o y.1.L.length y.1.c) y.1.L)) (fun β w' _ hbw => c38 w' (by repeat (first | exact hbw | replace hbw := hbw.1))) ?_; intro y)
   all_goals exact ⟨fun w' h => h.1, fun β w' hB hblk => ⟨y, rfl, hB.2⟩⟩
def rwV (su n : Nat) (D : List (Nat × Nat)) : List Value := (D.map fun p => Value.slice (some ⟨p.1, 0, none⟩) su p.2) ++ List.replicate (n - D.length) (.slice none 0 0)
theorem rwV_nil (su n : Nat) : rwV su n [] = (List.replicate n [Value.slice none 0 0]).flatten := by
 simp only [rwV, List.map_nil, List.nil_append, List.length_nil, Nat.sub_zero]
 induction n with
 | zero => rfl
 | succ n ih => rw [List.replicate_succ, List.replicate_succ, List.flatten_cons, ← ih]; rfl
theorem rwV_set {su n : Nat} {D : List (Nat × Nat)} (p : Nat × Nat) (h : D.length < n) : (rwV su n D).set D.length (.slice (some ⟨p.1, 0, none⟩) su p.2) = rwV su n (D ++ [p]) := by
 simp only [rwV, List.map_append, List.map_cons, List.map_nil, List.length_append, List.length_singleton]
 rw [List.set_append_right _ _ (by simp), List.length_map, Nat.sub_self, show n - D.length = (n - (D.length + 1)) + 1 from by omega, List.replicate_succ, List.set_cons_zero, List.append_assoc]
 rfl
theorem rwV_len {su n : Nat} {D : List (Nat × Nat)} (h : D.length ≤ n) : (rwV su n D).length = n := by simp [rwV]; omega
end Go.Proofs.YtkbfcofifhngfaaGreat
namespace Go.Proofs.YtkbfcofifhngfaaGreat.Tx
open Go Go.RowKit
def fs3 {α1 α2 α3 : Type} (c1 c2 c3 : Nat) (V1 : α1 → Value) (x1 : α1 → World → Prop) (V2 : α2 → Value) (x2 : α2 → World → Prop) (V3 : α3 → Value) (x3 : α3 → World → Prop) (y1 : α1) (y2 : α2) (y3 : α3) (j : Nat) : Option Fm :=
 bif Nat.beq j c1 then some ⟨α1, V1, x1, y1⟩ else bif Nat.beq j c2 then some ⟨α2, V2, x2, y2⟩ else bif Nat.beq j c3 then some ⟨α3, V3, x3, y3⟩ else none
theorem VC_reg3 {P : Program} (T : Env P) (hm : P.follows .mixedOrders = true) {id : Nat} {ops : Array Oper} {σ : Sg} {Φ : Exit → Sg → Prop} {α1 α2 α3 : Type} (c1 c2 c3 : Nat) (V1 : α1 → Value) (x1 : α1 → World → Prop) (V2 : α2 → Value) (x2 : α2 → World → Prop) (V3 : α3 → Value) (x3 : α3 → World → Prop) (d1 : α1) (d2 : α2) (d3 : α3)
 (LF : α1 → α2 → α3 → List (Oper × Ef)) (h12 : c1 < c2) (h23 : c2 < c3) (h3 : c3 < ops.size)
 (hv : ∀ y1 y2 y3, vX T (fs3 c1 c2 c3 V1 x1 V2 x2 V3 x3 y1 y2 y3) ops.toList ops.toList 0 σ [] σ.h (fun σ' acc => acc = LF y1 y2 y3 ∧ Φ .normal {σ' with h := fun w => ((σ.h w ∧ x1 y1 w) ∧ x2 y2 w) ∧ x3 y3 w}))
 (hk1 : ∀ y1 y2 y3, knF (fs3 c1 c2 c3 V1 x1 V2 x2 V3 x3 y1 y2 y3) 0 c1 σ.h = σ.h) (hk2 : ∀ y1 y2 y3, knF (fs3 c1 c2 c3 V1 x1 V2 x2 V3 x3 y1 y2 y3) 0 c2 σ.h = fun w => σ.h w ∧ x1 y1 w) (hk3 : ∀ y1 y2 y3, knF (fs3 c1 c2 c3 V1 x1 V2 x2 V3 x3 y1 y2 y3) 0 c3 σ.h = fun w => (σ.h w ∧ x1 y1 w) ∧ x2 y2 w)
 (hi1 : ∀ y y' y2 y3, indR (bef ops.toList []) c1 0 (LF y y2 y3) (LF y' y2 y3)) (hi2 : ∀ y1 y y' y3, indR (bef ops.toList []) c2 0 (LF y1 y y3) (LF y1 y' y3)) (hi3 : ∀ y1 y2 y y', indR (bef ops.toList []) c3 0 (LF y1 y2 y) (LF y1 y2 y'))
 (hd12 : ((bef ops.toList []).getD c2 0).testBit c1 = true) (hd13 : ((bef ops.toList []).getD c3 0).testBit c1 = true) (hd23 : ((bef ops.toList []).getD c3 0).testBit c2 = true) : VC P (.region id ops true) σ Φ := by
 intro F n X a w hF hlp hok hsat
 have hS := fun y1 y2 y3 => vX_spec T (F := F) (n := n) (ops := ops) hF rfl _ 0 σ [] _ _ hok (hv y1 y2 y3)
 have f1 : ∀ y1 y2 y3, fs3 c1 c2 c3 V1 x1 V2 x2 V3 x3 y1 y2 y3 c1 = some ⟨α1, V1, x1, y1⟩ := fun _ _ _ => by unfold fs3; rw [Nat.beq_refl]; rfl
 have f2 : ∀ y1 y2 y3, fs3 c1 c2 c3 V1 x1 V2 x2 V3 x3 y1 y2 y3 c2 = some ⟨α2, V2, x2, y2⟩ := fun _ _ _ => by unfold fs3; rw [beq_ne (by omega), Nat.beq_refl]; rfl
 have f3 : ∀ y1 y2 y3, fs3 c1 c2 c3 V1 x1 V2 x2 V3 x3 y1 y2 y3 c3 = some ⟨α3, V3, x3, y3⟩ := fun _ _ _ => by unfold fs3; rw [beq_ne (by omega), beq_ne (by omega), Nat.beq_refl]; rfl
 have f0 : ∀ y1 y2 y3 i, i ≠ c1 → i ≠ c2 → i ≠ c3 → fs3 c1 c2 c3 V1 x1 V2 x2 V3 x3 y1 y2 y3 i = none := fun _ _ _ i e1 e2 e3 => by unfold fs3; rw [beq_ne e1, beq_ne e2, beq_ne e3]; rfl
 have hA : ∀ y1 y2 y3, ops.toList = (LF y1 y2 y3).map (·.1) ∧ (∀ i p, i ≠ c1 → i ≠ c2 → i ≠ c3 → (LF y1 y2 y3)[i]? = some p → Link F n P ops p.1 (fin ((LF y1 y2 y3).take i) σ) p.2) ∧
  (∀ i f, fs3 c1 c2 c3 V1 x1 V2 x2 V3 x3 y1 y2 y3 i = some f → i < (LF y1 y2 y3).length → ∃ oc rs rb, (LF y1 y2 y3)[i]? = some (oc, ⟨.v (f.V f.y), [], [], rs, rb⟩) ∧ (∀ d, oc.dst = some d → d < σ.nt) ∧ FamC F n P ops oc {fin ((LF y1 y2 y3).take i) σ with h := knF (fs3 c1 c2 c3 V1 x1 V2 x2 V3 x3 y1 y2 y3) 0 i σ.h} ⟨.v (f.V f.y), [], [], rs, rb⟩ f.V f.hx) ∧
  Φ .normal {fin (LF y1 y2 y3) σ with h := fun w => ((σ.h w ∧ x1 y1 w) ∧ x2 y2 w) ∧ x3 y3 w} ∧ (fin (LF y1 y2 y3) σ).Ok ∧ DrawOK (LF y1 y2 y3) σ := fun y1 y2 y3 => by
  obtain ⟨L, g1, g2, g3, ⟨g4, g4'⟩, g5, g6, g7⟩ := hS y1 y2 y3
  rw [List.nil_append] at g4 g6
  subst g4
  simp only [drawB, Bool.and_eq_true] at g6
  refine ⟨g1, fun i p e1 e2 e3 hp => g2 i p (by rw [Nat.zero_add]; exact f0 y1 y2 y3 i e1 e2 e3) hp, fun i f hfi hi => g3 i f (by rw [Nat.zero_add]; exact hfi) hi, g4', g5, g6.1, g6.2, fun p hp => ?_⟩
  obtain ⟨m, q1, q2⟩ := g7 p hp
  exact hok.wf.av q1 q2
 have hsz : ∀ y1 y2 y3, (LF y1 y2 y3).length = ops.size := fun y1 y2 y3 => by
  have := congrArg List.length (hA y1 y2 y3).1
  simpa using this.symm
 have hdr : ∀ y1 y2 y3 h', DrawOK (LF y1 y2 y3) {σ with h := h'} := fun y1 y2 y3 h' => by
  obtain ⟨_, _, _, _, _, hd⟩ := hA y1 y2 y3
  exact ⟨hd.edges, hd.pairs, fun p hp => ⟨(hd.av p hp).t, (hd.av p hp).g, (hd.av p hp).m⟩⟩
 have hlk : ∀ y1 y2 y3 i p (h' : World → Prop), (∀ w, h' w → σ.h w) → i ≠ c1 → i ≠ c2 → i ≠ c3 → (LF y1 y2 y3)[i]? = some p → Link F n P ops p.1 (fin ((LF y1 y2 y3).take i) {σ with h := h'}) p.2 := fun y1 y2 y3 i p h' hh e1 e2 e3 hp => by
  rw [fin_h]
  exact ((hA y1 y2 y3).2.1 i p e1 e2 e3 hp).more (fun w hw => by
   have : ∀ (L : List (Oper × Ef)) (τ : Sg), (fin L τ).h = τ.h := fun L => by
    induction L with
    | nil => intro τ; rfl
    | cons p L ih => intro τ; simp only [fin]; rw [ih]; rfl
   rw [this]; exact hh w hw)
 have hfm : ∀ y1 y2 y3 i f, fs3 c1 c2 c3 V1 x1 V2 x2 V3 x3 y1 y2 y3 i = some f → i < ops.size → ∃ oc rs rb, (LF y1 y2 y3)[i]? = some (oc, ⟨.v (f.V f.y), [], [], rs, rb⟩) ∧ (∀ d, oc.dst = some d → d < σ.nt) ∧ FamC F n P ops oc (fin ((LF y1 y2 y3).take i) {σ with h := knF (fs3 c1 c2 c3 V1 x1 V2 x2 V3 x3 y1 y2 y3) 0 i σ.h}) ⟨.v (f.V f.y), [], [], rs, rb⟩ f.V f.hx := fun y1 y2 y3 i f hf hi => by
  rw [fin_h]
  exact (hA y1 y2 y3).2.2.1 i f hf (by rw [hsz]; exact hi)
 have hops : ∀ y1 y2 y3 (i : Nat) (p : Oper × Ef), (LF y1 y2 y3)[i]? = some p → ops[i]? = some p.1 := fun y1 y2 y3 i p hp => by
  rw [← Array.getElem?_toList, (hA y1 y2 y3).1, List.getElem?_map, hp]; rfl
 have G3 : ∀ y1 y2 y3, GG X F n P ops (QΦ X Φ) (LF y1 y2 y3) {σ with h := fun w => ((σ.h w ∧ x1 y1 w) ∧ x2 y2 w) ∧ x3 y3 w} [c3, c2, c1] [] := fun y1 y2 y3 => by
  refine GG_end (hA y1 y2 y3).1 (hdr _ _ _ _) (fun i p hi hp => ?_) fun a w hs => ?_
  · simp only [List.mem_cons, List.not_mem_nil, or_false, not_or] at hi
    exact hlk y1 y2 y3 i p _ (fun w hw => hw.1.1.1) hi.2.2 hi.2.1 hi.1 hp
  · rw [fin_h] at hs
    obtain ⟨_, _, _, q1, q2, _⟩ := hA y1 y2 y3
    exact ⟨_, q1, ⟨⟨q2.wf.t, q2.wf.g, q2.wf.m⟩, q2.lt⟩, hs⟩
 have G2 : ∀ y1 y2, GG X F n P ops (QΦ X Φ) (LF y1 y2 d3) {σ with h := fun w => (σ.h w ∧ x1 y1 w) ∧ x2 y2 w} [c2, c1] [c3] := fun y1 y2 => by
  obtain ⟨oc, rs, rb, q1, q2, q3⟩ := hfm y1 y2 d3 c3 _ (f3 y1 y2 d3) h3
  have hoc := hops _ _ _ _ _ q1
  refine GG_fam (fun y => LF y1 y2 y) V3 x3 d3 c3 [] oc (fun y => (hA y1 y2 y).1) (fun y => hdr _ _ _ _) (fun y => ?_) (fun y y' i hi hdp => ?_) (fun i p hi hic _ hp => ?_) q2 (fun rs' rb' hE => ?_) (fun d hd => by cases hd) (fun y => G3 y1 y2 y)
  · obtain ⟨oc', rs', rb', p1, _, _⟩ := hfm y1 y2 y c3 _ (f3 y1 y2 y) h3
    have := hops _ _ _ _ _ p1
    rw [hoc, Option.some.injEq] at this
    have he : oc = oc' := this
    subst he
    exact ⟨rs', rb', p1⟩
  · have := indR_spec (hi3 y1 y2 y y') i (by rw [Nat.zero_add]; exact hi) (by rw [Nat.zero_add]; exact hdp)
    exact this
  · simp only [List.mem_cons, List.not_mem_nil, or_false, not_or] at hi
    exact hlk y1 y2 d3 i p _ (fun w hw => hw.1.1) hi.2 hi.1 hic hp
  · rw [q1] at hE
    simp only [Option.some.injEq, Prod.mk.injEq, Ef.mk.injEq, true_and] at hE
    obtain ⟨rfl, rfl⟩ := hE
    rw [hk3] at q3
    exact q3
 have G1 : ∀ y1, GG X F n P ops (QΦ X Φ) (LF y1 d2 d3) {σ with h := fun w => σ.h w ∧ x1 y1 w} [c1] [c2, c3] := fun y1 => by
  obtain ⟨oc, rs, rb, q1, q2, q3⟩ := hfm y1 d2 d3 c2 _ (f2 y1 d2 d3) (by omega)
  have hoc := hops _ _ _ _ _ q1
  refine GG_fam (fun y => LF y1 y d3) V2 x2 d2 c2 [c3] oc (fun y => (hA y1 y d3).1) (fun y => hdr _ _ _ _) (fun y => ?_) (fun y y' i hi hdp => ?_) (fun i p hi hic hdp hp => ?_) q2 (fun rs' rb' hE => ?_) (fun d hd => ?_) (fun y => G2 y1 y)
  · obtain ⟨oc', rs', rb', p1, _, _⟩ := hfm y1 y d3 c2 _ (f2 y1 y d3) (by omega)
    have := hops _ _ _ _ _ p1
    rw [hoc, Option.some.injEq] at this
    have he : oc = oc' := this
    subst he
    exact ⟨rs', rb', p1⟩
  · have := indR_spec (hi2 y1 y y' d3) i (by rw [Nat.zero_add]; exact hi) (by rw [Nat.zero_add]; exact hdp)
    exact this
  · simp only [List.mem_cons, List.not_mem_nil, or_false] at hi
    refine hlk y1 d2 d3 i p _ (fun w hw => hw.1) hi hic (fun e => ?_) hp
    subst e; rw [hd23] at hdp; cases hdp
  · rw [q1] at hE
    simp only [Option.some.injEq, Prod.mk.injEq, Ef.mk.injEq, true_and] at hE
    obtain ⟨rfl, rfl⟩ := hE
    rw [hk2] at q3
    exact q3
  · simp only [List.mem_cons, List.not_mem_nil, or_false] at hd
    subst hd
    exact ⟨by omega, hd23⟩
 have G0 : GG X F n P ops (QΦ X Φ) (LF d1 d2 d3) σ [] [c1, c2, c3] := by
  obtain ⟨oc, rs, rb, q1, q2, q3⟩ := hfm d1 d2 d3 c1 _ (f1 d1 d2 d3) (by omega)
  have hoc := hops _ _ _ _ _ q1
  refine GG_fam (fun y => LF y d2 d3) V1 x1 d1 c1 [c2, c3] oc (fun y => (hA y d2 d3).1) (fun y => hdr _ _ _ σ.h) (fun y => ?_) (fun y y' i hi hdp => ?_) (fun i p hi hic hdp hp => ?_) q2 (fun rs' rb' hE => ?_) (fun d hd => ?_) (fun y => G1 y)
  · obtain ⟨oc', rs', rb', p1, _, _⟩ := hfm y d2 d3 c1 _ (f1 y d2 d3) (by omega)
    have := hops _ _ _ _ _ p1
    rw [hoc, Option.some.injEq] at this
    have he : oc = oc' := this
    subst he
    exact ⟨rs', rb', p1⟩
  · have := indR_spec (hi1 y y' d2 d3) i (by rw [Nat.zero_add]; exact hi) (by rw [Nat.zero_add]; exact hdp)
    exact this
  · refine hlk d1 d2 d3 i p σ.h (fun w hw => hw) hic (fun e => ?_) (fun e => ?_) hp
    · subst e; rw [hd12] at hdp; cases hdp
    · subst e; rw [hd13] at hdp; cases hdp
  · rw [q1] at hE
    simp only [Option.some.injEq, Prod.mk.injEq, Ef.mk.injEq, true_and] at hE
    obtain ⟨rfl, rfl⟩ := hE
    rw [hk1] at q3
    exact q3
  · simp only [List.mem_cons, List.not_mem_nil, or_false] at hd
    rcases hd with rfl | rfl
    · exact ⟨by omega, hd12⟩
    · exact ⟨by omega, hd13⟩
 refine wpIn_region_any hm ?_
 have hrep : ∀ j, (Array.replicate ops.size false).getD j false = false := fun j => by
  simp only [Array.getD_eq_getD_getElem?, Array.getElem?_replicate]
  split <;> rfl
 refine G0 ops.size (Array.replicate ops.size false) a _ (by simp [hsz]) (by simp [List.countP_replicate]) (fun j hj => by rw [hrep] at hj; cases hj) (fun c hc => by cases hc) (fun c _ => hrep c) ?_
 obtain ⟨β, Dm, hs⟩ := hsat
 refine ⟨β, Dm, ?_⟩
 rw [foldS_none]
 · exact hs.drawn _
 · intro b hb
   simp only [Array.toList_replicate, List.mem_replicate] at hb
   exact hb.2
end Go.Proofs.YtkbfcofifhngfaaGreat.Tx
namespace Go.Proofs.YtkbfcofifhngfaaGreat.Tx
open Go Go.RowKit
noncomputable section
end
end Go.Proofs.YtkbfcofifhngfaaGreat.Tx
namespace Go.Proofs.YtkbfcofifhngfaaGreat.Tx
open Go Go.RowKit
noncomputable section
section
end
end
end Go.Proofs.YtkbfcofifhngfaaGreat.Tx
namespace Go.Proofs.YtkbfcofifhngfaaGreat.Tx
open Go Go.RowKit
noncomputable section
section
end
end
end Go.Proofs.YtkbfcofifhngfaaGreat.Tx
namespace Go.Proofs.YtkbfcofifhngfaaGreat.Tx
open Go Go.RowKit
noncomputable section
section
end
section
end
end
end Go.Proofs.YtkbfcofifhngfaaGreat.Tx
namespace Go.Proofs.YtkbfcofifhngfaaGreat.Tx
open Go Go.RowKit
noncomputable section
section
end
end
end Go.Proofs.YtkbfcofifhngfaaGreat.Tx
namespace Go.Proofs.YtkbfcofifhngfaaGreat.Tx
open Go Go.RowKit
noncomputable section
section
end
end
end Go.Proofs.YtkbfcofifhngfaaGreat.Tx
namespace Go.Proofs.YtkbfcofifhngfaaGreat.Tx
open Go Go.RowKit
noncomputable section
section
end
end
end Go.Proofs.YtkbfcofifhngfaaGreat.Tx
namespace Go.Proofs.YtkbfcofifhngfaaGreat.Tx
open Go Go.RowKit
noncomputable section
section
end
end
end Go.Proofs.YtkbfcofifhngfaaGreat.Tx
namespace Go.Proofs.YtkbfcofifhngfaaGreat.Tx
open Go Go.RowKit
noncomputable section
section
end
end
end Go.Proofs.YtkbfcofifhngfaaGreat.Tx
namespace Go.Proofs.YtkbfcofifhngfaaGreat
open Go Tx
end Go.Proofs.YtkbfcofifhngfaaGreat
namespace Go.Proofs.YtkbfcofifhngfaaGreat
open Go Go.RowKit Tx
end Go.Proofs.YtkbfcofifhngfaaGreat
namespace Go.Proofs.YtkbfcofifhngfaaGreat
open Go Tx Go.RowKit
def tbD (S : List Lr) : TbF (S.map Lr.L) := ⟨none, 0, S.map fun r => ⟨none, r.L.length, r.L⟩, by rw [List.map_map]; rfl, fun r hr => by
 obtain ⟨q, _, rfl⟩ := List.mem_map.1 hr
 exact ⟨Nat.le_refl _, fun h => ⟨rfl, by dsimp only at h ⊢; rw [h]; rfl⟩⟩⟩
theorem rWhy_len {D : SD} (hv : scOk D = true) {r : RD} (h : rWhy D = some r) : r.L.length ≤ 10 := by
 obtain ⟨hv1, hv2, hv3, hv4, hv5, hv6, hv7⟩ := scOk_iff.1 hv
 unfold rWhy at h
 split at h
 · cases h; simp
 · split at h
   · rename_i l hb
     cases h
     rw [bestK_G] at hb
     obtain ⟨_, ⟨m, h1, h2, h3⟩, _⟩ := bestG_some hb
     have hp : 0 < 2 ^ D.su.toNat := Nat.two_pow_pos _
     have := (mem_sub hv (n := m) (by omega)).1
     rw [h3] at this; exact this
   · split at h
     · cases h; simp
     · cases h
def SD.at (D : SD) (n : Int) : SD := { D with sl := n }
def lsF (D : SD) : Nat → Nat → Nat
 | 0, _ => 0
 | k + 1, n => if (rWhy (D.at n)).isSome = true then lsF D k (n + 1) else n
def lst (D : SD) : Nat := lsF D 40 1
def errL (D : SD) : Int := if scOk D = true then (if lst D = 0 then 7 else 0) else 1
theorem scOk_at {D : SD} (h : scOk D = true) {n : Nat} (h1 : 1 ≤ n ∧ n ≤ 40) : scOk (D.at n) = true := by
 obtain ⟨hv1, hv2⟩ := scOk_iff.1 h
 exact scOk_iff.2 ⟨by dsimp only [SD.at]; omega, hv2⟩
theorem ScB.sl {s : Sc} (h : ScB s) (n : Int) : ScB { s with sl := n } := ⟨h.1, h.2, h.3, h.4⟩
theorem Least_ok (s : Sc) (w : World) (h : ScIn s w) (hB : ScB s) :
 Calls Tryz.prog 19 #[s.v] w fun e w' => e = .returned (.tuple #[iv (if scOk s.d = true then (lst s.d : Int) else 0), iv (errL s.d)]) ∧ Below w.heap.size w w' := by
 have c37 := fun (w' : World) (hw : Below w.heap.size w w') => valid_ok s w' (h.below hw) hB
 cases hv : scOk s.d with
 | false =>
  rw [hv] at c37
  have e2 : errL s.d = 1 := by unfold errL; rw [hv]; rfl
  rw [e2]
  obtain ⟨sl, ro, su, go, gc, G, to, tc, T⟩ := s
  refine calls_val env mixed Tryz.func19 has19 Tryz.ntmps19 [.agg #[iv sl, iv ro, iv su, .slice go G.length gc, .slice to T.length tc]] (by simp) ?_
  repeat'
   conv => whnf
   first
    |refine zD ?_|refine splT ?_
    |((with_reducible show CallEv _ _ 37 ..); refine callE (fun β w' hbw => c37 _ hbw) ?_)
  all_goals exact ⟨fun β => rfl, fun w' h => h⟩
 | true =>
  rw [hv] at c37
  have e2 : errL s.d = if lst s.d = 0 then 7 else 0 := by unfold errL; rw [hv]; rfl
  rw [e2, if_pos rfl]
  have c38 : ∀ (n : Nat), 1 ≤ n ∧ n ≤ 40 → ∀ (w' : World), Below w.heap.size w w' → Calls Tryz.prog 38 #[({ s with sl := n } : Sc).v] w' fun e w2 => ∃ y : RnF (rWhy (s.d.at n)), e = .returned (.tuple #[y.1.v, .bool (rWhy (s.d.at n)).isSome]) ∧ Below w'.heap.size w' w2 ∧ St w'.heap.size (St w.heap.size fun _ => True) w2 := fun n hn w' hw => by
   have hx : ({ s with sl := n } : Sc).d = s.d.at n := rfl
   have h0 : ScIn { s with sl := n } w' := ⟨(h.below hw).1, (h.below hw).2, (h.below hw).3, (h.below hw).4⟩
   have := why_ok { s with sl := n } w' h0 (hB.sl n) (by rw [hx]; exact scOk_at hv hn)
   rw [hx] at this
   exact this.mono fun e w2 ⟨y, h1, h2, h3⟩ => ⟨y, h1, h2, fun _ _ _ _ => trivial⟩
  generalize s.d = D at *
  obtain ⟨sl, ro, su, go, gc, G, to, tc, T⟩ := s
  dsimp only at c38
  refine calls_val env mixed Tryz.func19 has19 Tryz.ntmps19 [.agg #[iv sl, iv ro, iv su, .slice go G.length gc, .slice to T.length tc]] (by simp) ?_
  repeat'
   conv => whnf
   first
    |refine zB ?_|refine zC ?_|refine zD ?_|refine splF ?_
    |((with_reducible show CallEv _ _ 37 ..); refine callE (fun β w' hbw => c37 _ hbw) ?_)
  refine loopN 10 (fun n : Nat => [(1, .ptr 0 0)]) (fun n => [(0, .cells [.v (iv n), .v (iv ro), .v (iv su), .v (.slice go G.length gc), .v (.slice to T.length tc)] 34)]) (fun n => 1 ≤ n ∧ n ≤ 41 ∧ lst D = lsF D (41 - n) n) (fun n => 41 - n) 1 ⟨Nat.le_refl _, by omega, rfl⟩ ⟨rfl, trivial⟩ ⟨rfl, trivial⟩ (fun _ _ => ⟨rfl, rfl⟩) ?_
  intro n ⟨h1, h2, h3⟩
  rcases Nat.lt_or_ge n 41 with hn | hn
  · have c38 := c38 n ⟨h1, by omega⟩
    rw [show 41 - n = (40 - n) + 1 from by omega, lsF] at h3
    cases hr : rWhy (D.at n) with
    | some r =>
     rw [hr] at c38 h3
     simp only [Option.isSome_some, if_true] at h3
     repeat'
      conv => whnf
      first
       |refine zB ?_|refine zC ?_|refine zD ?_|refine zF ?_|refine splF ?_
       |(refine splD ?_ ?_ <;> intro hc <;> first|(exfalso; omega)|skip)
       |((with_reducible show CallEv _ _ 38 ..); refine callF [] (fun y : RnF (some r) => .tuple #[y.1.v, .bool (some r : Option RD).isSome]) (fun y => St w.heap.size fun _ => True) (fun β w' _ hbw => c38 w' hbw) ?_; intro y)
     all_goals exact ⟨n + 1, ⟨by omega, by omega, by rw [h3]; congr 1; omega⟩, by omega, Ent.weak rfl ⟨rfl, trivial⟩ ⟨rfl, trivial⟩ fun _ h => h.1⟩
    | none =>
     rw [hr] at c38 h3
     simp only [Option.isSome_none, Bool.false_eq_true, if_false] at h3
     rw [h3, if_neg (by omega)]
     repeat'
      conv => whnf
      first
       |refine zB ?_|refine zC ?_|refine zD ?_|refine splT ?_
       |(refine splD ?_ ?_ <;> intro hc <;> first|(exfalso; omega)|skip)
       |((with_reducible show CallEv _ _ 38 ..); refine callF [] (fun y : RnF none => .tuple #[y.1.v, .bool (none : Option RD).isSome]) (fun y => St w.heap.size fun _ => True) (fun β w' _ hbw => c38 w' hbw) ?_; intro y)
     all_goals exact ⟨fun β => rfl, fun w' h => h.1⟩
  · obtain rfl : n = 41 := by omega
    have h3 : lst D = 0 := h3
    rw [h3]
    repeat'
     conv => whnf
     first
      |refine zB ?_|refine splF ?_
    all_goals exact ⟨fun β => rfl, fun w' h => h⟩
end Go.Proofs.YtkbfcofifhngfaaGreat
namespace Go.Proofs.YtkbfcofifhngfaaGreat.Tx
open Go Go.RowKit
theorem nlC {P : Program} {dst : Option Tmp} {ty : TypeId} {pos : String} {after : Array Edge} {gd : Option (Nat × Bool)} {gs : List Nat} {σ : Sg} {K : Ef → Prop} {KF : Option KT} {i o : Nat} {x : Operand}
 (hx : gv σ x = some (.ptr i o)) (hlt : Nat.blt i σ.nb = true) (hK : K ⟨.ptr i o, [], [], gs ++ os x, []⟩) : OpEvS P ⟨dst, .nilCheck x, ty, pos, after, gd⟩ gs σ K KF := by
 refine .mk ⟨.ptr i o, [], [], gs ++ os x, []⟩ (by simp [efB, eqs, modsLt, oldB, keysB, nodupB, SV.lt]; simpa using hlt) (fun k hk => by simp [hk]) rfl (runOK_pure fun β a w hss => ?_) hK
 have e1 := gv_eval hss hx (fun k hk => by simp [hk])
 simp [execOp, e1, SV.c]
end Go.Proofs.YtkbfcofifhngfaaGreat.Tx
namespace Go.Proofs.YtkbfcofifhngfaaGreat
open Go Tx Go.RowKit
section
variable {h0 h1 h2 h3 h4 h5 h6 : SV} {A B : Nat → Int} {K : List SV → Prop}
theorem drop7 {X : List SV} (k : Nat) : (h0 :: h1 :: h2 :: h3 :: h4 :: h5 :: h6 :: X).drop (7 + k) = X.drop k := by rw [Nat.add_comm]; rfl
theorem drA {off k : Nat} (ho : off = 7 + k) (hk : k < 320) (h : K (.v (iv (A k)) :: (tbS 320 A).drop (k + 1) ++ tbS 320 B)) : dropK off (h0 :: h1 :: h2 :: h3 :: h4 :: h5 :: h6 :: (tbS 320 A ++ tbS 320 B)) K := by
 subst ho
 refine dropK_to ?_ h
 rw [drop7, List.drop_append_of_le_length (by rw [tbS_len]; omega), tbS_drop A hk]
 rfl
theorem drB {off k : Nat} (ho : off = 327 + k) (hk : k < 320) (h : K (.v (iv (B k)) :: (tbS 320 B).drop (k + 1))) : dropK off (h0 :: h1 :: h2 :: h3 :: h4 :: h5 :: h6 :: (tbS 320 A ++ tbS 320 B)) K := by
 subst ho
 refine dropK_to ?_ h
 rw [show 327 + k = 7 + (320 + k) from by omega, drop7, List.drop_append, tbS_len, List.drop_of_length_le (by rw [tbS_len]; omega), Nat.add_sub_cancel_left, tbS_drop B hk]
 rfl
theorem spA {off k : Nat} {x : Int} (ho : off = 7 + k) (hk : k < 320) (h : K (h0 :: h1 :: h2 :: h3 :: h4 :: h5 :: h6 :: (tbS 320 (updF A k x) ++ tbS 320 B))) : splK off (h0 :: h1 :: h2 :: h3 :: h4 :: h5 :: h6 :: (tbS 320 A ++ tbS 320 B)) [.v (iv x)] K := by
 subst ho
 refine splK_to (by simp only [List.length_cons, List.length_append, tbS_len, List.length_nil]; omega) ?_ h
 rw [List.length_singleton, show 7 + k + 1 = 7 + (k + 1) from by omega, drop7, show (h0 :: h1 :: h2 :: h3 :: h4 :: h5 :: h6 :: (tbS 320 A ++ tbS 320 B)).take (7 + k) = h0 :: h1 :: h2 :: h3 :: h4 :: h5 :: h6 :: (tbS 320 A ++ tbS 320 B).take k from by rw [Nat.add_comm]; rfl,
  List.take_append_of_le_length (by rw [tbS_len]; omega), List.drop_append_of_le_length (by rw [tbS_len]; omega), ← tbS_set A x hk]
 simp only [List.cons_append, List.append_assoc]
theorem spB {off k : Nat} {x : Int} (ho : off = 327 + k) (hk : k < 320) (h : K (h0 :: h1 :: h2 :: h3 :: h4 :: h5 :: h6 :: (tbS 320 A ++ tbS 320 (updF B k x)))) : splK off (h0 :: h1 :: h2 :: h3 :: h4 :: h5 :: h6 :: (tbS 320 A ++ tbS 320 B)) [.v (iv x)] K := by
 subst ho
 refine splK_to (by simp only [List.length_cons, List.length_append, tbS_len, List.length_nil]; omega) ?_ h
 rw [List.length_singleton, show 327 + k + 1 = 7 + (320 + (k + 1)) from by omega, show 327 + k = 7 + (320 + k) from by omega, drop7, show (h0 :: h1 :: h2 :: h3 :: h4 :: h5 :: h6 :: (tbS 320 A ++ tbS 320 B)).take (7 + (320 + k)) = h0 :: h1 :: h2 :: h3 :: h4 :: h5 :: h6 :: (tbS 320 A ++ tbS 320 B).take (320 + k) from by rw [Nat.add_comm]; rfl,
  List.take_append, List.take_of_length_le (by rw [tbS_len]; omega), List.drop_append, List.drop_of_length_le (by rw [tbS_len]; omega), tbS_len, Nat.add_sub_cancel_left, Nat.add_sub_cancel_left, ← tbS_set B x hk]
 simp only [List.cons_append, List.append_assoc, List.nil_append]
end
structure Pn where
 S : Nat → Int
 A : Nat → Int
 B : Nat → Int
def gAt (x : Ln) (s : Int) : Nat := x.g.toNat * 40 + s.toNat
def tAt (x : Ln) (s : Int) : Nat := x.t.toNat * 40 + s.toNat
def putF (x : Ln) (p : Pn) (i : Nat) (s : Int) : Pn :=
 let q : Pn := if p.S i = -1 then p else ⟨p.S, updF p.A (gAt x (p.S i)) (-1), updF p.B (tAt x (p.S i)) (-1)⟩
 if s = -1 then ⟨updF p.S i s, q.A, q.B⟩ else ⟨updF p.S i s, updF q.A (gAt x s) i, updF q.B (tAt x s) i⟩
structure PH where
 sl : Int
 ro : Int
 su : Int
 gs : Value
 ts : Value
 lo : Option Addr
 n : Nat
 lc : Nat
 L : List Ln
abbrev plC (h : PH) (p : Pn) : List SV := .v (iv h.sl) :: .v (iv h.ro) :: .v (iv h.su) :: .v h.gs :: .v h.ts :: .v (.slice h.lo h.n h.lc) :: .os 1 2 h.n :: (tbS 320 p.A ++ tbS 320 p.B)
abbrev plM (h : PH) (p : Pn) : List (Nat × Blk) := [(0, .cells (plC h p) 93), (1, .own 2 h.n 1 (tbV h.n p.S) 3)]
theorem mPl (h : PH) (p : Pn) : mB 3 (plM h p) = true := by
 simp only [mB, Blk.lt, SV.lts, SV.lt, lts_append (tbS_lt _ _ _) (tbS_lt _ _ _)]
 decide
theorem livePl {h : PH} {p : Pn} : ∀ j b, lk (plM h p) j = some b → b.live = true := fun j b hj => by
 simp only [lk] at hj
 cases h0 : Nat.beq j 0 with
 | true => rw [h0, cond_true] at hj; cases hj; rfl
 | false =>
  rw [h0, cond_false] at hj
  cases h1 : Nat.beq j 1 with
  | true => rw [h1, cond_true] at hj; cases hj; rfl
  | false => rw [h1, cond_false] at hj; cases hj
structure PlOK (h : PH) (p : Pn) (β : Nat → Nat) (w : World) : Prop where
 ok : ∀ j b, lk (plM h p) j = some b → b.ok β w (β j)
 inj : ∀ j k bj bk, lk (plM h p) j = some bj → lk (plM h p) k = some bk → j ≠ k → β j ≠ β k
 st : ∀ w', Chg (fun b => ∃ j bk, lk (plM h p) j = some bk ∧ β j = b) w w' → Rd 3 Ln.cs (.slice h.lo h.n h.lc) h.L w'
structure PhOK (h : PH) : Prop where
 n : h.L.length = h.n
 l : h.n ≤ 10000
 x : ∀ x ∈ h.L, 0 ≤ x.g ∧ x.g ≤ 7 ∧ 0 ≤ x.t ∧ x.t ≤ 7
theorem put_ok (h : PH) (p : Pn) (i : Nat) (x : Ln) (s : Int) (hh : PhOK h) (hi : h.L[i]? = some x) (hS : -1 ≤ p.S i ∧ p.S i ≤ 39) (hs : -1 ≤ s ∧ s ≤ 39) {β : Nat → Nat} {w : World} (hp : PlOK h p β w) :
 Calls Tryz.prog 89 (SV.cs β [.ptr 0 0, .v (iv i), .v (iv s)]).toArray w fun e w' => e = .returned (.tuple #[]) ∧ Chg (fun b => ∃ j bk, lk (plM h p) j = some bk ∧ β j = b) w w' ∧ ∀ j b, lk (plM h (putF x p i s)) j = some b → b.ok β w' (β j) := by
 obtain ⟨hok, hinj, hst⟩ := hp
 obtain ⟨hn, hl, hx⟩ := hh
 obtain ⟨sl, ro, su, gs, ts, lo, n, lc, L⟩ := h
 dsimp only at hn hl hx hi hst
 have hin := (List.getElem?_eq_some_iff.1 hi).1
 obtain ⟨hg1, hg2, ht1, ht2⟩ := hx x (List.mem_of_getElem? hi)
 have hrd0 := hst w (Chg.refl _ _)
 rw [← hn] at hrd0
 obtain ⟨_, ad, rfl, _⟩ := hrd0.ptr (by omega)
 obtain ⟨S, A, B⟩ := p
 dsimp only at hS
 have hga : ∀ s : Int, gAt x s = x.g.toNat * 40 + s.toNat := fun _ => rfl
 have hta : ∀ s : Int, tAt x s = x.t.toNat * 40 + s.toNat := fun _ => rfl
 refine calls_WS env mixed Tryz.func89 has89 Tryz.ntmps89 [.ptr 0 0, .v (iv i), .v (iv s)] (plM ⟨sl, ro, su, gs, ts, some ad, n, lc, L⟩ ⟨S, A, B⟩) (plM ⟨sl, ro, su, gs, ts, some ad, n, lc, L⟩ (putF x ⟨S, A, B⟩ i s)) 3 (.tuple #[]) (Nat.le_of_ble_eq_true rfl) rfl (mPl _ _) (mPl _ _) livePl (Hp := fun w' => Rd 3 Ln.cs (.slice (some ad) L.length lc) L w') (fun h hh => ?_) hok hinj (fun w' hc => by rw [hn]; exact hst w' hc)
 have e1 := fun (w' : World) (hw' : h w') => rd_atz (hh w' hw') hi (i : Int) rfl
 dsimp only [plM, plC]
 by_cases h1 : S i = -1
 · by_cases h2 : s = -1
   · have hpf : putF x ⟨S, A, B⟩ i s = ⟨updF S i s, A, B⟩ := by unfold putF; simp only [if_pos h1, if_pos h2]
     rw [hpf]
     have hup := tbV_setE (n := n) (o := (i : Int).toNat * 1) (p := i) S s (by omega) (by omega)
     repeat'
      conv => whnf
      first
       |refine zB ?_|refine zC ?_|refine zG ?_|refine splNot ?_
       |(refine splD ?_ ?_ <;> intro hc <;> first|(exfalso; omega)|skip)
       |refine eL (Ln.cs x) ⟨⟨rfl, fun w' hw' => e1 w' hw'⟩, ?_⟩
       |refine eL [iv (S i)] ⟨⟨rfl, tbV_one (by show (i : Int).toNat * 1 = i; omega) S (by omega)⟩, ?_⟩
       |refine nlC rfl rfl ?_
       |refine And.intro (a := (_ : Nat) ≤ (tbV _ _).length) (by rw [tbV_len]; show (i : Int).toNat * 1 + 1 ≤ n; omega) ?_
     all_goals exact ⟨fun β => rfl, ⟨rfl, by rw [hup]; rfl, trivial⟩, fun _ h => h, rfl⟩
   · have hpf : putF x ⟨S, A, B⟩ i s = ⟨updF S i s, updF A (gAt x s) i, updF B (tAt x s) i⟩ := by unfold putF; simp only [if_pos h1, if_neg h2]
     rw [hpf]
     have hup := tbV_setE (n := n) (o := (i : Int).toNat * 1) (p := i) S s (by omega) (by omega)
     repeat'
      conv => whnf
      first
       |refine zA ?_|refine zB ?_|refine zC ?_|refine zG ?_|refine splNot ?_
       |(refine splD ?_ ?_ <;> intro hc <;> first|(exfalso; omega)|skip)
       |refine eL (Ln.cs x) ⟨⟨rfl, fun w' hw' => e1 w' hw'⟩, ?_⟩
       |refine eL [iv (S i)] ⟨⟨rfl, tbV_one (by show (i : Int).toNat * 1 = i; omega) S (by omega)⟩, ?_⟩
       |refine nlC rfl rfl ?_
       |refine And.intro (a := (_ : Nat) ≤ (tbV _ _).length) (by rw [tbV_len]; show (i : Int).toNat * 1 + 1 ≤ n; omega) ?_
       |refine spA (k := gAt x (s)) (by rw [hga]; show 0 + 7 + x.g.toNat * 40 + (s).toNat * 1 = _; omega) (by rw [hga]; omega) ?_
       |refine spB (k := tAt x (s)) (by rw [hta]; show 0 + 327 + x.t.toNat * 40 + (s).toNat * 1 = _; omega) (by rw [hta]; omega) ?_
     all_goals exact ⟨fun β => rfl, ⟨rfl, by rw [hup]; rfl, trivial⟩, fun _ h => h, rfl⟩
 · by_cases h2 : s = -1
   · have hpf : putF x ⟨S, A, B⟩ i s = ⟨updF S i s, updF A (gAt x (S i)) (-1), updF B (tAt x (S i)) (-1)⟩ := by unfold putF; simp only [if_neg h1, if_pos h2]
     rw [hpf]
     have hup := tbV_setE (n := n) (o := (i : Int).toNat * 1) (p := i) S s (by omega) (by omega)
     repeat'
      conv => whnf
      first
       |refine zA ?_|refine zB ?_|refine zC ?_|refine zG ?_|refine splNot ?_
       |(refine splD ?_ ?_ <;> intro hc <;> first|(exfalso; omega)|skip)
       |refine eL (Ln.cs x) ⟨⟨rfl, fun w' hw' => e1 w' hw'⟩, ?_⟩
       |refine eL [iv (S i)] ⟨⟨rfl, tbV_one (by show (i : Int).toNat * 1 = i; omega) S (by omega)⟩, ?_⟩
       |refine nlC rfl rfl ?_
       |refine And.intro (a := (_ : Nat) ≤ (tbV _ _).length) (by rw [tbV_len]; show (i : Int).toNat * 1 + 1 ≤ n; omega) ?_
       |refine spA (k := gAt x (S i)) (by rw [hga]; show 0 + 7 + x.g.toNat * 40 + (S i).toNat * 1 = _; omega) (by rw [hga]; omega) ?_
       |refine spB (k := tAt x (S i)) (by rw [hta]; show 0 + 327 + x.t.toNat * 40 + (S i).toNat * 1 = _; omega) (by rw [hta]; omega) ?_
     all_goals exact ⟨fun β => rfl, ⟨rfl, by rw [hup]; rfl, trivial⟩, fun _ h => h, rfl⟩
   · have hpf : putF x ⟨S, A, B⟩ i s = ⟨updF S i s, updF (updF A (gAt x (S i)) (-1)) (gAt x s) i, updF (updF B (tAt x (S i)) (-1)) (tAt x s) i⟩ := by unfold putF; simp only [if_neg h1, if_neg h2]
     rw [hpf]
     have hup := tbV_setE (n := n) (o := (i : Int).toNat * 1) (p := i) S s (by omega) (by omega)
     repeat'
      conv => whnf
      first
       |refine zA ?_|refine zB ?_|refine zC ?_|refine zG ?_|refine splNot ?_
       |(refine splD ?_ ?_ <;> intro hc <;> first|(exfalso; omega)|skip)
       |refine eL (Ln.cs x) ⟨⟨rfl, fun w' hw' => e1 w' hw'⟩, ?_⟩
       |refine eL [iv (S i)] ⟨⟨rfl, tbV_one (by show (i : Int).toNat * 1 = i; omega) S (by omega)⟩, ?_⟩
       |refine nlC rfl rfl ?_
       |refine And.intro (a := (_ : Nat) ≤ (tbV _ _).length) (by rw [tbV_len]; show (i : Int).toNat * 1 + 1 ≤ n; omega) ?_
       |refine spA (k := gAt x (S i)) (by rw [hga]; show 0 + 7 + x.g.toNat * 40 + (S i).toNat * 1 = _; omega) (by rw [hga]; omega) ?_
       |refine spB (k := tAt x (S i)) (by rw [hta]; show 0 + 327 + x.t.toNat * 40 + (S i).toNat * 1 = _; omega) (by rw [hta]; omega) ?_
       |refine spA (k := gAt x (s)) (by rw [hga]; show 0 + 7 + x.g.toNat * 40 + (s).toNat * 1 = _; omega) (by rw [hga]; omega) ?_
       |refine spB (k := tAt x (s)) (by rw [hta]; show 0 + 327 + x.t.toNat * 40 + (s).toNat * 1 = _; omega) (by rw [hta]; omega) ?_
     all_goals exact ⟨fun β => rfl, ⟨rfl, by rw [hup]; rfl, trivial⟩, fun _ h => h, rfl⟩
end Go.Proofs.YtkbfcofifhngfaaGreat
namespace Go.Proofs.YtkbfcofifhngfaaGreat.Tx
open Go Go.RowKit
theorem mB_mem {N : Nat} : ∀ {m : List (Nat × Blk)}, mB N m = true → ∀ i b, (i, b) ∈ m → i < N ∧ b.lt N = true
 | [], _, i, b, h => by cases h
 | (k, x) :: r, h, i, b, hm => by
  simp only [mB, Bool.and_eq_true, Nat.blt_eq] at h
  rcases List.mem_cons.1 hm with hm | hm
  · cases hm; exact h.1
  · exact mB_mem h.2 i b hm
theorem calls_WO {P : Program} (T : Env P) (hm : P.follows .mixedOrders = true) {k : Nat} {fn : Func} {c : Code} (hfn : P.funcs[k]? = some fn) (hb : fn.body = some c) {nt : Nat} (hnt : fn.ntmps = nt) (args : List SV) (m0 m1 : List (Nat × Blk)) (nb0 : Nat) (n sz : Nat) (xs : List Value) (ty : TypeId)
 (hlen : args.length ≤ nt) (hargs : SV.lts nb0 args = true) (hm0 : mB nb0 m0 = true) (hm1 : mB nb0 m1 = true) (hlive : ∀ i b, lk m0 i = some b → b.live = true) (hkeep : ∀ i b, lk m0 i = some b → ∃ b', lk m1 i = some b' ∧ b'.live = true)
 {Hp : World → Prop} (hvc : ∀ h : World → Prop, (∀ w', h w' → Hp w') → VC P c ⟨nt, slotsOf 0 args, m0, nb0, h, ⟨pinG nb0, [], 0⟩⟩ (endΦ T fn fun s σ => ∃ i j, (nb0 ≤ i ∧ s = .os i j n ∧ lk σ.m i = some (.own j n sz xs ty)) ∧ MSub σ.m m1 ∧ (∀ w', σ.h w' → h w') ∧ σ.z.g = pinG nb0))
 {β : Nat → Nat} {w : World} (hok : ∀ i b, lk m0 i = some b → b.ok β w (β i)) (hinj : ∀ i j bi bj, lk m0 i = some bi → lk m0 j = some bj → i ≠ j → β i ≠ β j) (hst : ∀ w', Chg (fun b => ∃ i bk, lk m0 i = some bk ∧ β i = b) w w' → Hp w') :
 Calls P k (SV.cs β args).toArray w fun e w' => ∃ b d, e = .returned (.slice (some ⟨b, 0, none⟩) n d) ∧ w.heap.size ≤ b ∧ Chg (fun b => ∃ i bk, lk m0 i = some bk ∧ β i = b) w w' ∧ (∀ i b, lk m1 i = some b → b.ok β w' (β i)) ∧ w'.ownsRow 0 ty sz (.slice (some ⟨b, 0, none⟩) n d) n xs := by
 have hmk := okB (nt := 0) (t := []) (m := m0) (nb := nb0) (h := fun _ => True) (z := ⟨[], [], 0⟩) rfl hm0 rfl
 have hm1k := okB (nt := 0) (t := []) (m := m1) (nb := nb0) (h := fun _ => True) (z := ⟨[], [], 0⟩) rfl hm1 rfl
 let D : Nat → Prop := fun b => b < w.heap.size ∧ ¬ ∃ i bk, lk m0 i = some bk ∧ β i = b
 let h0 : World → Prop := fun w' => Chg (fun b => ∃ i bk, lk m0 i = some bk ∧ β i = b) w w'
 let X : Cx := ⟨fun k => .pointer (some ⟨β k, 0, none⟩), [], []⟩
 have hmem : Mem ⟨nt, slotsOf 0 args, m0, nb0, h0, ⟨pinG nb0, [], 0⟩⟩ β D w :=
  ⟨hok, fun i j bi bj h1 h2 _ _ hne => hinj i j bi bj h1 h2 hne, fun i b hi _ hD => hD.2 ⟨i, b, hi, rfl⟩, fun b hD => hD.1,
   fun w' hc => ⟨hc.os, hc.tape, hc.output, hc.size, fun b hb hX => hc.same b hb (fun hD => hD ⟨hb, hX⟩)⟩⟩
 have hamb : Amb X ⟨pinG nb0, [], 0⟩ β D w :=
  ⟨fun k s hk => by rw [(pinG_all hk).2]; rfl, fun p hp => (by cases hp), fun i e hi => (by simp [lk] at hi), rfl, List.nodup_nil, fun d hd => (by cases hd)⟩
 have hg0 : ∀ k s, lk (pinG nb0) k = some s → s.lt nb0 = true := fun k s hk => by
  obtain ⟨h1, h2⟩ := pinG_all hk
  subst h2
  simp only [SV.lt, Nat.blt_eq]; exact h1
 refine (calls_VC T hm hfn hb hnt (args := args) (m0 := m0) (nb0 := nb0) (h := h0) (z0 := ⟨pinG nb0, [], 0⟩) hlen hargs hmk.wf.m hg0 (hvc h0 hst) X hamb hmem).mono fun e w' ⟨s, σ', β', D', he, ⟨i0, j0, ⟨hi0, hs0, hm2⟩, h2, h3, h4⟩, h5, h6, h7, h8⟩ => ?_
 have hpin : ∀ i, i < nb0 → β' i = β i := fun i hi => by
  have := h8.g i (.ptr i 0) (by rw [h4]; exact pinG_lk hi)
  simp only [X, SV.c, Value.pointer.injEq, Option.some.injEq, Addr.mk.injEq] at this
  exact this.1.symm
 have hch := h3 w' (h7.h w' (Chg.refl _ _))
 have hown := h7.m i0 _ hm2
 simp only [Blk.ok] at hown
 refine ⟨β' i0, β' j0, by rw [he, hs0]; rfl, Nat.le_of_not_lt fun hlt => ?_, hch, fun i b hi => ?_, hown⟩
 · by_cases hX : ∃ i bk, lk m0 i = some bk ∧ β i = β' i0
   · obtain ⟨i, bk, hi, hib⟩ := hX
     obtain ⟨b', hb', hl'⟩ := hkeep i bk hi
     have hin : i < nb0 := (hmk.wf.m i bk hi).1
     refine h7.inj i i0 b' _ (h2.get i b' hb') hm2 hl' rfl (by omega) ?_
     rw [hpin i hin]; exact hib
   · exact h7.out i0 _ hm2 rfl (h7.holds (w0 := w) (fun w2 hw2 => (h3 w2 hw2).same _ hlt hX) (Nat.lt_of_lt_of_le hlt hch.size))
 · obtain ⟨q1, q2⟩ := hm1k.wf.m i b hi
   have := h7.m i b (h2.get i b hi)
   rw [hpin i q1] at this
   exact Blk.ok_nm (fun j hj => (hpin j hj).symm) b q2 this
theorem callWO {P : Program} {σ : Sg} {k : Nat} {args : List SV} {rs : List Nat} {K : Ef → Prop} {KF : Option KT} (nb : Nat) (rb : List Nat) (m1 : List (Nat × Blk)) (n sz : Nat) (xs : List Value) (ty : TypeId) (hnb : σ.nb = nb)
 (hB : efB σ ⟨.os nb (nb + 1) n, [nb, nb + 1], (nb, .own (nb + 1) n sz xs ty) :: m1, [], rb⟩ = true) (hall : ∀ i ∈ rb, ∃ bk, (i, bk) ∈ m1) (hm1 : mB nb m1 = true)
 (h : ∀ β w, (∀ i ∈ rb, ∀ b, lk σ.m i = some b → b.ok β w (β i)) → (∀ i ∈ rb, ∀ j ∈ rb, ∀ bi bj, lk σ.m i = some bi → lk σ.m j = some bj → bi.live = true → bj.live = true → i ≠ j → β i ≠ β j) →
  (∀ w', Chg (fun b => ∃ i ∈ rb, (∃ bk, lk σ.m i = some bk ∧ bk.live = true) ∧ β i = b) w w' → σ.h w') →
  Calls P k (SV.cs β args).toArray w fun e w' => ∃ b d, e = .returned (.slice (some ⟨b, 0, none⟩) n d) ∧ w.heap.size ≤ b ∧ Chg (fun b => ∃ i ∈ rb, β i = b) w w' ∧ (∀ i b, (i, b) ∈ m1 → b.ok β w' (β i)) ∧ w'.ownsRow 0 ty sz (.slice (some ⟨b, 0, none⟩) n d) n xs)
 (hK : K ⟨.os nb (nb + 1) n, [nb, nb + 1], (nb, .own (nb + 1) n sz xs ty) :: m1, rs, rb⟩) : CallEv P σ k args (efB σ) rs K KF := by
 have hlt : ∀ i b, (i, b) ∈ m1 → i < nb ∧ b.lt nb = true := by
  exact fun i b hm => mB_mem hm1 i b hm
 exact .mk ⟨.os nb (nb + 1) n, [nb, nb + 1], (nb, .own (nb + 1) n sz xs ty) :: m1, [], rb⟩ hB (fun β w h1 h2 hst => (h β w h1 h2 hst).mono fun e w' ⟨b, d, he, hb, hc, ho, hown⟩ => by
  obtain ⟨γ, hγ1, hγ2, hβ⟩ : ∃ γ : Nat → Nat, γ nb = b ∧ γ (nb + 1) = d ∧ ∀ i, i ≠ nb → i ≠ nb + 1 → γ i = β i := ⟨fun i => if i = nb then b else if i = nb + 1 then d else β i, by simp, by simp, fun i h1 h2 => by simp [h1, h2]⟩
  have hn1 : ¬ nb + 1 = nb := by omega
  refine ⟨γ, by rw [he]; simp only [SV.c, hγ1, hγ2], fun i hi => ?_, ⟨hc.os, hc.tape, hc.output, hc.size, fun b' hb' hX => hc.same b' hb' fun ⟨i, hi, hib⟩ => ?_⟩, fun i bk hm => ?_, fun i hi hl => ?_, fun i hi j hj hl hl' hne => ?_⟩
  · simp only [List.mem_cons, List.not_mem_nil, or_false, not_or] at hi
    exact hβ i hi.1 hi.2
  · obtain ⟨bk, hbk⟩ := hall i hi
    have := (hlt i bk hbk).1
    exact hX ⟨i, bk, List.mem_cons_of_mem _ hbk, by simp; omega, hib⟩
  · rcases List.mem_cons.1 hm with hm | hm
    · cases hm
      simp only [Blk.ok, hγ1, hγ2]
      exact hown
    · obtain ⟨q1, q2⟩ := hlt i bk hm
      rw [hβ i (by omega) (by omega)]
      exact Blk.ok_nm (fun j hj => hβ j (by omega) (by omega)) bk q2 (ho i bk hm)
  · simp only [List.mem_cons, List.not_mem_nil, or_false] at hi
    obtain ⟨bk, hm, hlv⟩ := hl
    rcases List.mem_cons.1 hm with hm | hm
    · cases hm; rw [hγ1]; exact .inl hb
    · have := (hlt i bk hm).1; omega
  · simp only [List.mem_cons, List.not_mem_nil, or_false] at hi hj
    obtain ⟨bk, hm, _⟩ := hl
    obtain ⟨bk', hm', _⟩ := hl'
    rcases List.mem_cons.1 hm with hm | hm
    · rcases List.mem_cons.1 hm' with hm' | hm'
      · cases hm; cases hm'; exact absurd rfl hne
      · have := (hlt j bk' hm').1; omega
    · have := (hlt i bk hm).1; omega) hK
end Go.Proofs.YtkbfcofifhngfaaGreat.Tx
namespace Go.Proofs.YtkbfcofifhngfaaGreat
open Go Tx Go.RowKit
def nxP (L : List Ln) (p : Pn) (i : Nat) (s : Int) (te : Bool) : Int := if te = true then p.B (tAt (lnAt L i) s) else p.A (gAt (lnAt L i) s)
def ChL (L : List Ln) (p : Pn) (q : Int) (first : Nat) : List Nat → Int → Bool → Prop
 | [], _, _ => False
 | [i], s, te => i < L.length ∧ (nxP L p i (q - s) te = -1 ∨ nxP L p i (q - s) te = first)
 | i :: j :: r, s, te => (i < L.length ∧ nxP L p i (q - s) te = (j : Int) ∧ j ≠ first) ∧ ChL L p q first (j :: r) (q - s) (!te)
theorem ChL.lt {L : List Ln} {p : Pn} {q : Int} {f : Nat} : ∀ {l : List Nat} {s : Int} {te : Bool}, ChL L p q f l s te → ∀ i ∈ l, i < L.length
 | [i], s, te, h, k, hk => by simp only [List.mem_singleton] at hk; subst hk; exact h.1
 | i :: j :: r, s, te, h, k, hk => by
  rcases List.mem_cons.1 hk with rfl | hk
  · exact h.1.1
  · exact ChL.lt h.2 k hk
def nI (l : List Nat) : List Int := l.map fun i : Nat => (i : Int)
theorem lnAt_get {L : List Ln} {i : Nat} (h : i < L.length) : L[i]? = some (lnAt L i) := by
 unfold lnAt; rw [List.getD_eq_getElem?_getD, List.getElem?_eq_getElem h]; rfl
theorem drAv {h0 h1 h2 h3 h4 h5 h6 : SV} {A B : Nat → Int} {K : List SV → Prop} {off k : Nat} {v : Int} (ho : off = 7 + k) (hk : k < 320) (hv : A k = v) (h : K (.v (iv v) :: (tbS 320 A).drop (k + 1) ++ tbS 320 B)) : dropK off (h0 :: h1 :: h2 :: h3 :: h4 :: h5 :: h6 :: (tbS 320 A ++ tbS 320 B)) K := drA ho hk (hv ▸ h)
theorem drBv {h0 h1 h2 h3 h4 h5 h6 : SV} {A B : Nat → Int} {K : List SV → Prop} {off k : Nat} {v : Int} (ho : off = 327 + k) (hk : k < 320) (hv : B k = v) (h : K (.v (iv v) :: (tbS 320 B).drop (k + 1))) : dropK off (h0 :: h1 :: h2 :: h3 :: h4 :: h5 :: h6 :: (tbS 320 A ++ tbS 320 B)) K := drB ho hk (hv ▸ h)
theorem mB_up {a b : Nat} : ∀ {m : List (Nat × Blk)}, mB a m = true → a ≤ b → mB b m = true
 | [], _, _ => rfl
 | (k, x) :: r, h, hab => by
  simp only [mB, Bool.and_eq_true, Nat.blt_eq] at h ⊢
  exact ⟨⟨by omega, Blk.lt_mono hab x h.1.2⟩, mB_up h.2 hab⟩
theorem mB_app {a : Nat} : ∀ {m m' : List (Nat × Blk)}, mB a m = true → mB a m' = true → mB a (m ++ m') = true
 | [], _, _, h => h
 | (k, x) :: r, m', h, h' => by
  simp only [mB, Bool.and_eq_true, List.cons_append] at h ⊢
  exact ⟨h.1, mB_app h.2 h'⟩
theorem chain_ok (h : PH) (p : Pn) (i : Nat) (a b : Int) (te : Bool) (l : List Nat) (hh : PhOK h) (hl : ChL h.L p (a + b) i (i :: l) (p.S i) te) (hln : (i :: l).length ≤ h.n) (ha : 0 ≤ a ∧ a ≤ 39) (hb : 0 ≤ b ∧ b ≤ 39) (hS : p.S i = a ∨ p.S i = b) {β : Nat → Nat} {w : World} (hp : PlOK h p β w) :
 Calls Tryz.prog 88 (SV.cs β [.ptr 0 0, .v (iv i), .v (iv a), .v (iv b), .v (.bool te)]).toArray w fun e w' => ∃ bb d, e = .returned (.slice (some ⟨bb, 0, none⟩) (i :: l).length d) ∧ w.heap.size ≤ bb ∧ Chg (fun b => ∃ j bk, lk (plM h p) j = some bk ∧ β j = b) w w' ∧ (∀ j b, lk (plM h p) j = some b → b.ok β w' (β j)) ∧ w'.ownsRow 0 3 1 (.slice (some ⟨bb, 0, none⟩) (i :: l).length d) (i :: l).length ((nI (i :: l)).flatMap iF) := by
 obtain ⟨hok, hinj, hst⟩ := hp
 obtain ⟨hn, hnl, hx⟩ := hh
 obtain ⟨sl, ro, su, gs, ts, lo, n, lc, L⟩ := h
 dsimp only at hn hnl hx hl hln hst
 have hlt := hl.lt
 have hrd0 := hst w (Chg.refl _ _)
 rw [← hn] at hrd0
 have hi0 := hlt i List.mem_cons_self
 obtain ⟨_, ad, rfl, _⟩ := hrd0.ptr (by omega)
 obtain ⟨S, A, B⟩ := p
 dsimp only at hS hl
 refine calls_WO env mixed Tryz.func88 has88 Tryz.ntmps88 [.ptr 0 0, .v (iv i), .v (iv a), .v (iv b), .v (.bool te)] (plM ⟨sl, ro, su, gs, ts, some ad, n, lc, L⟩ ⟨S, A, B⟩) (plM ⟨sl, ro, su, gs, ts, some ad, n, lc, L⟩ ⟨S, A, B⟩) 3 _ 1 _ 3 (Nat.le_of_ble_eq_true rfl) rfl (mPl _ _) (mPl _ _) livePl (fun j b hj => ⟨b, hj, livePl j b hj⟩) (Hp := fun w' => Rd 3 Ln.cs (.slice (some ad) L.length lc) L w') (fun h hh => ?_) hok hinj (fun w' hc => by rw [hn]; exact hst w' hc)
 have eg := fun (k : Nat) (hk : k < L.length) (w' : World) (hw' : h w') => rd_fldz (hh w' hw') (lnAt_get hk) (k : Int) rfl 0 (iv (lnAt L k).g) rfl
 have et := fun (k : Nat) (hk : k < L.length) (w' : World) (hw' : h w') => rd_fldz (hh w' hw') (lnAt_get hk) (k : Int) rfl 2 (iv (lnAt L k).t) rfl
 dsimp only [plM, plC]
 refine VC.of env mixed ?_
 repeat'
  conv => whnf
  first
   |refine zB ?_|refine zG ?_
   |refine eL [iv (S i)] ⟨⟨rfl, tbV_one (by show (i : Int).toNat * 1 = i; omega) S (by omega)⟩, ?_⟩
   |refine nlC rfl rfl ?_
 conv => whnf
 refine loopN 5 (fun x : List Nat × List Nat × Int × Bool => [(0, .ptr 0 0), (1, .v (iv (x.2.1.headD 0 : Nat))), (2, .v (iv a)), (3, .v (iv b)), (4, .v (.bool x.2.2.2)), (10, oSV 3 4 (nI x.1)), (11, .v (iv x.2.2.1))]) (fun x => (0, .cells (.v (iv sl) :: .v (iv ro) :: .v (iv su) :: .v gs :: .v ts :: .v (.slice (some ad) n lc) :: .os 1 2 n :: (tbS 320 A ++ tbS 320 B)) 93) :: (1, .own 2 n 1 (tbV n S) 3) :: oM 3 4 1 iF 3 (nI x.1)) (fun x => x.1 ++ x.2.1 = i :: l ∧ ChL L ⟨S, A, B⟩ (a + b) i x.2.1 x.2.2.1 x.2.2.2 ∧ (x.2.2.1 = a ∨ x.2.2.1 = b)) (fun x => x.2.1.length) ([], i :: l, S i, te) ⟨rfl, hl, hS⟩ ⟨rfl, rfl, rfl, rfl, rfl, rfl, rfl, trivial⟩ ⟨rfl, rfl, trivial⟩ (fun x _ => ?_) ?_
 · obtain ⟨pr, su', s, te'⟩ := x
   have hmp := mPl ⟨sl, ro, su, gs, ts, some ad, n, lc, L⟩ ⟨S, A, B⟩
   cases pr with
   | nil => exact ⟨rfl, mB_up hmp (by decide)⟩
   | cons p0 pr => exact ⟨rfl, mB_app (mB_up hmp (by decide)) rfl⟩
 · rintro ⟨pr, sf, s, te'⟩ ⟨hps, hch, hs⟩
   dsimp only at hps hch hs
   cases sf with
   | nil => exact hch.elim
   | cons c r =>
   have hc := hch.lt c List.mem_cons_self
   obtain ⟨hg1, hg2, ht1, ht2⟩ := hx _ (List.mem_of_getElem? (lnAt_get hc))
   have hga : gAt (lnAt L c) (a + b - s) = (lnAt L c).g.toNat * 40 + (a + b - s).toNat := rfl
   have hta : tAt (lnAt L c) (a + b - s) = (lnAt L c).t.toNat * 40 + (a + b - s).toNat := rfl
   have hlen := congrArg List.length hps
   simp only [List.length_append, List.length_cons] at hlen hln
   cases pr with
   | nil =>
    have hci : c = i := by simpa using congrArg (fun l => l.headD 0) hps
    cases te' with
    | false =>
     cases r with
     | nil =>
      have hN : (i :: l).length = 0 + 1 := by rw [← hps]; rfl
      have hX : (nI (i :: l)).flatMap iF = ([] : List Value) ++ [iv (c : Int)] := by rw [← hps]; rfl
      rcases hch.2 with hnx | hnx
      ·
       have hv : A (gAt (lnAt L c) (a + b - s)) = -1 := hnx
       rw [hN, hX]
       change vc env _ ⟨73, [(0, .ptr 0 0), (1, .v (iv (c : Nat))), (2, .v (iv a)), (3, .v (iv b)), (4, .v (.bool false)), (10, .v (.slice none 0 0)), (11, .v (iv s))], (0, .cells (.v (iv sl) :: .v (iv ro) :: .v (iv su) :: .v gs :: .v ts :: .v (.slice (some ad) n lc) :: .os 1 2 n :: (tbS 320 A ++ tbS 320 B)) 93) :: (1, .own 2 n 1 (tbV n S) 3) :: [], 5, h, _⟩ _
       repeat'
        conv => whnf
        first
         |refine zA ?_|refine zB ?_|refine zF ?_|refine zG ?_|refine zI ?_|refine splT ?_|refine splF ?_
         |refine eL [iv (lnAt L c).g] ⟨⟨rfl, fun w' hw' => eg c hc w' hw'⟩, ?_⟩
         |refine drAv (k := gAt (lnAt L c) (a + b - s)) (by rw [hga]; show 0 + 7 + (lnAt L c).g.toNat * 40 + (a + b - s).toNat * 1 = _; omega) (by rw [hga]; omega) hv ?_
         |refine nlC rfl rfl ?_
       conv => whnf
       first | exact ⟨6, 7, ⟨by decide, rfl, rfl⟩, ⟨rfl, rfl, trivial⟩, fun _ h => h, rfl⟩
      ·
       have hv : A (gAt (lnAt L c) (a + b - s)) = (i : Int) := hnx
       rw [hN, hX]
       change vc env _ ⟨73, [(0, .ptr 0 0), (1, .v (iv (c : Nat))), (2, .v (iv a)), (3, .v (iv b)), (4, .v (.bool false)), (10, .v (.slice none 0 0)), (11, .v (iv s))], (0, .cells (.v (iv sl) :: .v (iv ro) :: .v (iv su) :: .v gs :: .v ts :: .v (.slice (some ad) n lc) :: .os 1 2 n :: (tbS 320 A ++ tbS 320 B)) 93) :: (1, .own 2 n 1 (tbV n S) 3) :: [], 5, h, _⟩ _
       have hfirst : ∀ (j : Nat) (v : Value), [iv (i : Int)][j]? = some v → (([] : List Value) ++ [iv (c : Int)])[(0 : Int).toNat * 1 + j]? = some v := by
        intro j v hj
        match j, hj with
        | 0, hj => cases hj; rw [hci]; rfl
       repeat'
        conv => whnf
        first
         |refine zA ?_|refine zB ?_|refine zF ?_|refine zG ?_|refine zI ?_|refine splF ?_
         |(refine splD ?_ ?_ <;> intro hc <;> first|(exfalso; omega)|skip)
         |refine eL [iv (lnAt L c).g] ⟨⟨rfl, fun w' hw' => eg c hc w' hw'⟩, ?_⟩
         |refine drAv (k := gAt (lnAt L c) (a + b - s)) (by rw [hga]; show 0 + 7 + (lnAt L c).g.toNat * 40 + (a + b - s).toNat * 1 = _; omega) (by rw [hga]; omega) hv ?_
         |refine nlC rfl rfl ?_
         |refine eL [iv (i : Int)] ⟨⟨rfl, hfirst⟩, ?_⟩
       conv => whnf
       first | exact ⟨6, 7, ⟨by decide, rfl, rfl⟩, ⟨rfl, rfl, trivial⟩, fun _ h => h, rfl⟩
     | cons j r =>
      have hji := hch.1.2.2
      have hv : A (gAt (lnAt L c) (a + b - s)) = (j : Int) := hch.1.2.1
      change vc env _ ⟨73, [(0, .ptr 0 0), (1, .v (iv (c : Nat))), (2, .v (iv a)), (3, .v (iv b)), (4, .v (.bool false)), (10, .v (.slice none 0 0)), (11, .v (iv s))], (0, .cells (.v (iv sl) :: .v (iv ro) :: .v (iv su) :: .v gs :: .v ts :: .v (.slice (some ad) n lc) :: .os 1 2 n :: (tbS 320 A ++ tbS 320 B)) 93) :: (1, .own 2 n 1 (tbV n S) 3) :: [], 5, h, _⟩ _
      have hfirst : ∀ (j : Nat) (v : Value), [iv (i : Int)][j]? = some v → (([] : List Value) ++ [iv (c : Int)])[(0 : Int).toNat * 1 + j]? = some v := by
       intro j v hj
       match j, hj with
       | 0, hj => cases hj; rw [hci]; rfl
      repeat'
       conv => whnf
       first
        |refine zA ?_|refine zB ?_|refine zF ?_|refine zG ?_|refine zI ?_|refine splF ?_
        |(refine splD ?_ ?_ <;> intro hc <;> first|(exfalso; omega)|skip)
        |refine eL [iv (lnAt L c).g] ⟨⟨rfl, fun w' hw' => eg c hc w' hw'⟩, ?_⟩
        |refine drAv (k := gAt (lnAt L c) (a + b - s)) (by rw [hga]; show 0 + 7 + (lnAt L c).g.toNat * 40 + (a + b - s).toNat * 1 = _; omega) (by rw [hga]; omega) hv ?_
        |refine nlC rfl rfl ?_
        |refine eL [iv (i : Int)] ⟨⟨rfl, hfirst⟩, ?_⟩
      conv => whnf
      first | exact ⟨([c], j :: r, a + b - s, true), ⟨by rw [← hps]; simp, hch.2, by dsimp only; omega⟩, by dsimp only; simp, Ent.ren (rho [(3, 6), (4, 7)]) rfl rfl ⟨rfl, rfl, rfl, rfl, rfl, by rfl, rfl, trivial⟩ ⟨rfl, rfl, by rfl, trivial⟩ (fun _ h => h) ⟨rfl, rfl, rfl, trivial⟩⟩
    | true =>
     cases r with
     | nil =>
      have hN : (i :: l).length = 0 + 1 := by rw [← hps]; rfl
      have hX : (nI (i :: l)).flatMap iF = ([] : List Value) ++ [iv (c : Int)] := by rw [← hps]; rfl
      rcases hch.2 with hnx | hnx
      ·
       have hv : B (tAt (lnAt L c) (a + b - s)) = -1 := hnx
       rw [hN, hX]
       change vc env _ ⟨73, [(0, .ptr 0 0), (1, .v (iv (c : Nat))), (2, .v (iv a)), (3, .v (iv b)), (4, .v (.bool true)), (10, .v (.slice none 0 0)), (11, .v (iv s))], (0, .cells (.v (iv sl) :: .v (iv ro) :: .v (iv su) :: .v gs :: .v ts :: .v (.slice (some ad) n lc) :: .os 1 2 n :: (tbS 320 A ++ tbS 320 B)) 93) :: (1, .own 2 n 1 (tbV n S) 3) :: [], 5, h, _⟩ _
       repeat'
        conv => whnf
        first
         |refine zA ?_|refine zB ?_|refine zF ?_|refine zG ?_|refine zI ?_|refine splT ?_
         |refine eL [iv (lnAt L c).g] ⟨⟨rfl, fun w' hw' => eg c hc w' hw'⟩, ?_⟩
         |refine drA (k := gAt (lnAt L c) (a + b - s)) (by rw [hga]; show 0 + 7 + (lnAt L c).g.toNat * 40 + (a + b - s).toNat * 1 = _; omega) (by rw [hga]; omega) ?_
         |refine eL [iv (lnAt L c).t] ⟨⟨rfl, fun w' hw' => et c hc w' hw'⟩, ?_⟩
         |refine drBv (k := tAt (lnAt L c) (a + b - s)) (by rw [hta]; show 0 + 327 + (lnAt L c).t.toNat * 40 + (a + b - s).toNat * 1 = _; omega) (by rw [hta]; omega) hv ?_
         |refine nlC rfl rfl ?_
       conv => whnf
       first | exact ⟨6, 7, ⟨by decide, rfl, rfl⟩, ⟨rfl, rfl, trivial⟩, fun _ h => h, rfl⟩
      ·
       have hv : B (tAt (lnAt L c) (a + b - s)) = (i : Int) := hnx
       rw [hN, hX]
       change vc env _ ⟨73, [(0, .ptr 0 0), (1, .v (iv (c : Nat))), (2, .v (iv a)), (3, .v (iv b)), (4, .v (.bool true)), (10, .v (.slice none 0 0)), (11, .v (iv s))], (0, .cells (.v (iv sl) :: .v (iv ro) :: .v (iv su) :: .v gs :: .v ts :: .v (.slice (some ad) n lc) :: .os 1 2 n :: (tbS 320 A ++ tbS 320 B)) 93) :: (1, .own 2 n 1 (tbV n S) 3) :: [], 5, h, _⟩ _
       have hfirst : ∀ (j : Nat) (v : Value), [iv (i : Int)][j]? = some v → (([] : List Value) ++ [iv (c : Int)])[(0 : Int).toNat * 1 + j]? = some v := by
        intro j v hj
        match j, hj with
        | 0, hj => cases hj; rw [hci]; rfl
       repeat'
        conv => whnf
        first
         |refine zA ?_|refine zB ?_|refine zF ?_|refine zG ?_|refine zI ?_|refine splT ?_|refine splF ?_
         |(refine splD ?_ ?_ <;> intro hc <;> first|(exfalso; omega)|skip)
         |refine eL [iv (lnAt L c).g] ⟨⟨rfl, fun w' hw' => eg c hc w' hw'⟩, ?_⟩
         |refine drA (k := gAt (lnAt L c) (a + b - s)) (by rw [hga]; show 0 + 7 + (lnAt L c).g.toNat * 40 + (a + b - s).toNat * 1 = _; omega) (by rw [hga]; omega) ?_
         |refine eL [iv (lnAt L c).t] ⟨⟨rfl, fun w' hw' => et c hc w' hw'⟩, ?_⟩
         |refine drBv (k := tAt (lnAt L c) (a + b - s)) (by rw [hta]; show 0 + 327 + (lnAt L c).t.toNat * 40 + (a + b - s).toNat * 1 = _; omega) (by rw [hta]; omega) hv ?_
         |refine nlC rfl rfl ?_
         |refine eL [iv (i : Int)] ⟨⟨rfl, hfirst⟩, ?_⟩
       conv => whnf
       first | exact ⟨6, 7, ⟨by decide, rfl, rfl⟩, ⟨rfl, rfl, trivial⟩, fun _ h => h, rfl⟩
     | cons j r =>
      have hji := hch.1.2.2
      have hv : B (tAt (lnAt L c) (a + b - s)) = (j : Int) := hch.1.2.1
      change vc env _ ⟨73, [(0, .ptr 0 0), (1, .v (iv (c : Nat))), (2, .v (iv a)), (3, .v (iv b)), (4, .v (.bool true)), (10, .v (.slice none 0 0)), (11, .v (iv s))], (0, .cells (.v (iv sl) :: .v (iv ro) :: .v (iv su) :: .v gs :: .v ts :: .v (.slice (some ad) n lc) :: .os 1 2 n :: (tbS 320 A ++ tbS 320 B)) 93) :: (1, .own 2 n 1 (tbV n S) 3) :: [], 5, h, _⟩ _
      have hfirst : ∀ (j : Nat) (v : Value), [iv (i : Int)][j]? = some v → (([] : List Value) ++ [iv (c : Int)])[(0 : Int).toNat * 1 + j]? = some v := by
       intro j v hj
       match j, hj with
       | 0, hj => cases hj; rw [hci]; rfl
      repeat'
       conv => whnf
       first
        |refine zA ?_|refine zB ?_|refine zF ?_|refine zG ?_|refine zI ?_|refine splT ?_|refine splF ?_
        |(refine splD ?_ ?_ <;> intro hc <;> first|(exfalso; omega)|skip)
        |refine eL [iv (lnAt L c).g] ⟨⟨rfl, fun w' hw' => eg c hc w' hw'⟩, ?_⟩
        |refine drA (k := gAt (lnAt L c) (a + b - s)) (by rw [hga]; show 0 + 7 + (lnAt L c).g.toNat * 40 + (a + b - s).toNat * 1 = _; omega) (by rw [hga]; omega) ?_
        |refine eL [iv (lnAt L c).t] ⟨⟨rfl, fun w' hw' => et c hc w' hw'⟩, ?_⟩
        |refine drBv (k := tAt (lnAt L c) (a + b - s)) (by rw [hta]; show 0 + 327 + (lnAt L c).t.toNat * 40 + (a + b - s).toNat * 1 = _; omega) (by rw [hta]; omega) hv ?_
        |refine nlC rfl rfl ?_
        |refine eL [iv (i : Int)] ⟨⟨rfl, hfirst⟩, ?_⟩
      conv => whnf
      first | exact ⟨([c], j :: r, a + b - s, false), ⟨by rw [← hps]; simp, hch.2, by dsimp only; omega⟩, by dsimp only; simp, Ent.ren (rho [(3, 6), (4, 7)]) rfl rfl ⟨rfl, rfl, rfl, rfl, rfl, by rfl, rfl, trivial⟩ ⟨rfl, rfl, by rfl, trivial⟩ (fun _ h => h) ⟨rfl, rfl, rfl, trivial⟩⟩
   | cons p0 pr =>
    have hnl2 : (nI pr).length = pr.length := by simp [nI]
    have hosv : oSV 3 4 (nI (p0 :: (pr ++ [c]))) = .os 3 4 ((nI pr).length + 1 + 1) := by simp [oSV, nI]
    have hom : oM 3 4 1 iF 3 (nI (p0 :: (pr ++ [c]))) = [(3, .own 4 ((nI pr).length + 1 + 1) 1 ((nI (p0 :: pr)).flatMap iF ++ [iv (c : Int)]) 3)] := by simp [oM, nI]
    simp only [List.length_cons] at hlen
    have hp0 : p0 = i := by simpa using congrArg (fun l => l.headD 0) hps
    cases te' with
    | false =>
     cases r with
     | nil =>
      have hN : (i :: l).length = (nI pr).length + 1 + 1 := by rw [← hps]; simp [nI]
      have hX : (nI (i :: l)).flatMap iF = (nI (p0 :: pr)).flatMap iF ++ [iv (c : Int)] := by rw [← hps, nI, List.map_append, List.flatMap_append]; rfl
      rcases hch.2 with hnx | hnx
      ·
       have hv : A (gAt (lnAt L c) (a + b - s)) = -1 := hnx
       rw [hN, hX]
       change vc env _ ⟨73, [(0, .ptr 0 0), (1, .v (iv (c : Nat))), (2, .v (iv a)), (3, .v (iv b)), (4, .v (.bool false)), (10, .os 3 4 ((nI pr).length + 1)), (11, .v (iv s))], (0, .cells (.v (iv sl) :: .v (iv ro) :: .v (iv su) :: .v gs :: .v ts :: .v (.slice (some ad) n lc) :: .os 1 2 n :: (tbS 320 A ++ tbS 320 B)) 93) :: (1, .own 2 n 1 (tbV n S) 3) :: [(3, .own 4 ((nI pr).length + 1) 1 ((nI (p0 :: pr)).flatMap iF) 3)], 5, h, _⟩ _
       repeat'
        conv => whnf
        first
         |refine zA ?_|refine zB ?_|refine zF ?_|refine zG ?_|refine zH ?_|refine zI ?_|refine splT ?_|refine splF ?_
         |refine eL [iv (lnAt L c).g] ⟨⟨rfl, fun w' hw' => eg c hc w' hw'⟩, ?_⟩
         |refine drAv (k := gAt (lnAt L c) (a + b - s)) (by rw [hga]; show 0 + 7 + (lnAt L c).g.toNat * 40 + (a + b - s).toNat * 1 = _; omega) (by rw [hga]; omega) hv ?_
         |refine nlC rfl rfl ?_
       conv => whnf
       first | exact ⟨6, 7, ⟨by decide, rfl, rfl⟩, ⟨rfl, rfl, trivial⟩, fun _ h => h, rfl⟩
      ·
       have hv : A (gAt (lnAt L c) (a + b - s)) = (i : Int) := hnx
       rw [hN, hX]
       change vc env _ ⟨73, [(0, .ptr 0 0), (1, .v (iv (c : Nat))), (2, .v (iv a)), (3, .v (iv b)), (4, .v (.bool false)), (10, .os 3 4 ((nI pr).length + 1)), (11, .v (iv s))], (0, .cells (.v (iv sl) :: .v (iv ro) :: .v (iv su) :: .v gs :: .v ts :: .v (.slice (some ad) n lc) :: .os 1 2 n :: (tbS 320 A ++ tbS 320 B)) 93) :: (1, .own 2 n 1 (tbV n S) 3) :: [(3, .own 4 ((nI pr).length + 1) 1 ((nI (p0 :: pr)).flatMap iF) 3)], 5, h, _⟩ _
       have hfirst : ∀ (j : Nat) (v : Value), [iv (i : Int)][j]? = some v → ((nI (p0 :: pr)).flatMap iF ++ [iv (c : Int)])[(0 : Int).toNat * 1 + j]? = some v := by
        intro j v hj
        match j, hj with
        | 0, hj => cases hj; rw [hp0]; rfl
       repeat'
        conv => whnf
        first
         |refine zA ?_|refine zB ?_|refine zF ?_|refine zG ?_|refine zH ?_|refine zI ?_|refine splF ?_
         |(refine splD ?_ ?_ <;> intro hc <;> first|(exfalso; omega)|skip)
         |refine eL [iv (lnAt L c).g] ⟨⟨rfl, fun w' hw' => eg c hc w' hw'⟩, ?_⟩
         |refine drAv (k := gAt (lnAt L c) (a + b - s)) (by rw [hga]; show 0 + 7 + (lnAt L c).g.toNat * 40 + (a + b - s).toNat * 1 = _; omega) (by rw [hga]; omega) hv ?_
         |refine nlC rfl rfl ?_
         |refine eL [iv (i : Int)] ⟨⟨rfl, hfirst⟩, ?_⟩
       conv => whnf
       first | exact ⟨6, 7, ⟨by decide, rfl, rfl⟩, ⟨rfl, rfl, trivial⟩, fun _ h => h, rfl⟩
     | cons j r =>
      have hji := hch.1.2.2
      have hv : A (gAt (lnAt L c) (a + b - s)) = (j : Int) := hch.1.2.1
      change vc env _ ⟨73, [(0, .ptr 0 0), (1, .v (iv (c : Nat))), (2, .v (iv a)), (3, .v (iv b)), (4, .v (.bool false)), (10, .os 3 4 ((nI pr).length + 1)), (11, .v (iv s))], (0, .cells (.v (iv sl) :: .v (iv ro) :: .v (iv su) :: .v gs :: .v ts :: .v (.slice (some ad) n lc) :: .os 1 2 n :: (tbS 320 A ++ tbS 320 B)) 93) :: (1, .own 2 n 1 (tbV n S) 3) :: [(3, .own 4 ((nI pr).length + 1) 1 ((nI (p0 :: pr)).flatMap iF) 3)], 5, h, _⟩ _
      have hfirst : ∀ (j : Nat) (v : Value), [iv (i : Int)][j]? = some v → ((nI (p0 :: pr)).flatMap iF ++ [iv (c : Int)])[(0 : Int).toNat * 1 + j]? = some v := by
       intro j v hj
       match j, hj with
       | 0, hj => cases hj; rw [hp0]; rfl
      repeat'
       conv => whnf
       first
        |refine zA ?_|refine zB ?_|refine zF ?_|refine zG ?_|refine zH ?_|refine zI ?_|refine splF ?_
        |(refine splD ?_ ?_ <;> intro hc <;> first|(exfalso; omega)|skip)
        |refine eL [iv (lnAt L c).g] ⟨⟨rfl, fun w' hw' => eg c hc w' hw'⟩, ?_⟩
        |refine drAv (k := gAt (lnAt L c) (a + b - s)) (by rw [hga]; show 0 + 7 + (lnAt L c).g.toNat * 40 + (a + b - s).toNat * 1 = _; omega) (by rw [hga]; omega) hv ?_
        |refine nlC rfl rfl ?_
        |refine eL [iv (i : Int)] ⟨⟨rfl, hfirst⟩, ?_⟩
      conv => whnf
      exact ⟨(p0 :: (pr ++ [c]), j :: r, a + b - s, true), ⟨by rw [← hps]; simp, hch.2, by dsimp only; omega⟩, by dsimp only; simp, Ent.ren (rho [(3, 6), (4, 7)]) rfl rfl ⟨rfl, rfl, rfl, rfl, rfl, by rw [hosv]; rfl, rfl, trivial⟩ (by show MRen _ _ (_ :: _ :: oM 3 4 1 iF 3 (nI (p0 :: (pr ++ [c])))); rw [hom]; exact ⟨rfl, rfl, rfl, trivial⟩) (fun _ h => h) ⟨rfl, rfl, rfl, trivial⟩⟩
    | true =>
     cases r with
     | nil =>
      have hN : (i :: l).length = (nI pr).length + 1 + 1 := by rw [← hps]; simp [nI]
      have hX : (nI (i :: l)).flatMap iF = (nI (p0 :: pr)).flatMap iF ++ [iv (c : Int)] := by rw [← hps, nI, List.map_append, List.flatMap_append]; rfl
      rcases hch.2 with hnx | hnx
      ·
       have hv : B (tAt (lnAt L c) (a + b - s)) = -1 := hnx
       rw [hN, hX]
       change vc env _ ⟨73, [(0, .ptr 0 0), (1, .v (iv (c : Nat))), (2, .v (iv a)), (3, .v (iv b)), (4, .v (.bool true)), (10, .os 3 4 ((nI pr).length + 1)), (11, .v (iv s))], (0, .cells (.v (iv sl) :: .v (iv ro) :: .v (iv su) :: .v gs :: .v ts :: .v (.slice (some ad) n lc) :: .os 1 2 n :: (tbS 320 A ++ tbS 320 B)) 93) :: (1, .own 2 n 1 (tbV n S) 3) :: [(3, .own 4 ((nI pr).length + 1) 1 ((nI (p0 :: pr)).flatMap iF) 3)], 5, h, _⟩ _
       repeat'
        conv => whnf
        first
         |refine zA ?_|refine zB ?_|refine zF ?_|refine zG ?_|refine zH ?_|refine zI ?_|refine splT ?_
         |refine eL [iv (lnAt L c).g] ⟨⟨rfl, fun w' hw' => eg c hc w' hw'⟩, ?_⟩
         |refine drA (k := gAt (lnAt L c) (a + b - s)) (by rw [hga]; show 0 + 7 + (lnAt L c).g.toNat * 40 + (a + b - s).toNat * 1 = _; omega) (by rw [hga]; omega) ?_
         |refine eL [iv (lnAt L c).t] ⟨⟨rfl, fun w' hw' => et c hc w' hw'⟩, ?_⟩
         |refine drBv (k := tAt (lnAt L c) (a + b - s)) (by rw [hta]; show 0 + 327 + (lnAt L c).t.toNat * 40 + (a + b - s).toNat * 1 = _; omega) (by rw [hta]; omega) hv ?_
         |refine nlC rfl rfl ?_
       conv => whnf
       first | exact ⟨6, 7, ⟨by decide, rfl, rfl⟩, ⟨rfl, rfl, trivial⟩, fun _ h => h, rfl⟩
      ·
       have hv : B (tAt (lnAt L c) (a + b - s)) = (i : Int) := hnx
       rw [hN, hX]
       change vc env _ ⟨73, [(0, .ptr 0 0), (1, .v (iv (c : Nat))), (2, .v (iv a)), (3, .v (iv b)), (4, .v (.bool true)), (10, .os 3 4 ((nI pr).length + 1)), (11, .v (iv s))], (0, .cells (.v (iv sl) :: .v (iv ro) :: .v (iv su) :: .v gs :: .v ts :: .v (.slice (some ad) n lc) :: .os 1 2 n :: (tbS 320 A ++ tbS 320 B)) 93) :: (1, .own 2 n 1 (tbV n S) 3) :: [(3, .own 4 ((nI pr).length + 1) 1 ((nI (p0 :: pr)).flatMap iF) 3)], 5, h, _⟩ _
       have hfirst : ∀ (j : Nat) (v : Value), [iv (i : Int)][j]? = some v → ((nI (p0 :: pr)).flatMap iF ++ [iv (c : Int)])[(0 : Int).toNat * 1 + j]? = some v := by
        intro j v hj
        match j, hj with
        | 0, hj => cases hj; rw [hp0]; rfl
       repeat'
        conv => whnf
        first
         |refine zA ?_|refine zB ?_|refine zF ?_|refine zG ?_|refine zH ?_|refine zI ?_|refine splT ?_|refine splF ?_
         |(refine splD ?_ ?_ <;> intro hc <;> first|(exfalso; omega)|skip)
         |refine eL [iv (lnAt L c).g] ⟨⟨rfl, fun w' hw' => eg c hc w' hw'⟩, ?_⟩
         |refine drA (k := gAt (lnAt L c) (a + b - s)) (by rw [hga]; show 0 + 7 + (lnAt L c).g.toNat * 40 + (a + b - s).toNat * 1 = _; omega) (by rw [hga]; omega) ?_
         |refine eL [iv (lnAt L c).t] ⟨⟨rfl, fun w' hw' => et c hc w' hw'⟩, ?_⟩
         |refine drBv (k := tAt (lnAt L c) (a + b - s)) (by rw [hta]; show 0 + 327 + (lnAt L c).t.toNat * 40 + (a + b - s).toNat * 1 = _; omega) (by rw [hta]; omega) hv ?_
         |refine nlC rfl rfl ?_
         |refine eL [iv (i : Int)] ⟨⟨rfl, hfirst⟩, ?_⟩
       conv => whnf
       first | exact ⟨6, 7, ⟨by decide, rfl, rfl⟩, ⟨rfl, rfl, trivial⟩, fun _ h => h, rfl⟩
     | cons j r =>
      have hji := hch.1.2.2
      have hv : B (tAt (lnAt L c) (a + b - s)) = (j : Int) := hch.1.2.1
      change vc env _ ⟨73, [(0, .ptr 0 0), (1, .v (iv (c : Nat))), (2, .v (iv a)), (3, .v (iv b)), (4, .v (.bool true)), (10, .os 3 4 ((nI pr).length + 1)), (11, .v (iv s))], (0, .cells (.v (iv sl) :: .v (iv ro) :: .v (iv su) :: .v gs :: .v ts :: .v (.slice (some ad) n lc) :: .os 1 2 n :: (tbS 320 A ++ tbS 320 B)) 93) :: (1, .own 2 n 1 (tbV n S) 3) :: [(3, .own 4 ((nI pr).length + 1) 1 ((nI (p0 :: pr)).flatMap iF) 3)], 5, h, _⟩ _
      have hfirst : ∀ (j : Nat) (v : Value), [iv (i : Int)][j]? = some v → ((nI (p0 :: pr)).flatMap iF ++ [iv (c : Int)])[(0 : Int).toNat * 1 + j]? = some v := by
       intro j v hj
       match j, hj with
       | 0, hj => cases hj; rw [hp0]; rfl
      repeat'
       conv => whnf
       first
        |refine zA ?_|refine zB ?_|refine zF ?_|refine zG ?_|refine zH ?_|refine zI ?_|refine splT ?_|refine splF ?_
        |(refine splD ?_ ?_ <;> intro hc <;> first|(exfalso; omega)|skip)
        |refine eL [iv (lnAt L c).g] ⟨⟨rfl, fun w' hw' => eg c hc w' hw'⟩, ?_⟩
        |refine drA (k := gAt (lnAt L c) (a + b - s)) (by rw [hga]; show 0 + 7 + (lnAt L c).g.toNat * 40 + (a + b - s).toNat * 1 = _; omega) (by rw [hga]; omega) ?_
        |refine eL [iv (lnAt L c).t] ⟨⟨rfl, fun w' hw' => et c hc w' hw'⟩, ?_⟩
        |refine drBv (k := tAt (lnAt L c) (a + b - s)) (by rw [hta]; show 0 + 327 + (lnAt L c).t.toNat * 40 + (a + b - s).toNat * 1 = _; omega) (by rw [hta]; omega) hv ?_
        |refine nlC rfl rfl ?_
        |refine eL [iv (i : Int)] ⟨⟨rfl, hfirst⟩, ?_⟩
      conv => whnf
      exact ⟨(p0 :: (pr ++ [c]), j :: r, a + b - s, false), ⟨by rw [← hps]; simp, hch.2, by dsimp only; omega⟩, by dsimp only; simp, Ent.ren (rho [(3, 6), (4, 7)]) rfl rfl ⟨rfl, rfl, rfl, rfl, rfl, by rw [hosv]; rfl, rfl, trivial⟩ (by show MRen _ _ (_ :: _ :: oM 3 4 1 iF 3 (nI (p0 :: (pr ++ [c])))); rw [hom]; exact ⟨rfl, rfl, rfl, trivial⟩) (fun _ h => h) ⟨rfl, rfl, rfl, trivial⟩⟩
end Go.Proofs.YtkbfcofifhngfaaGreat
namespace Go.Proofs.YtkbfcofifhngfaaGreat.Tx
open Go Go.RowKit
theorem mkO1 {P : Program} (T : Env P) {dst : Option Tmp} {ty : TypeId} {pos : String} {after : Array Edge} {gd : Option (Nat × Bool)} {gs : List Nat} {σ : Sg} {K : Ef → Prop} {KF : Option KT} {t e : Nat} {x : Operand} (nb m : Nat) (xs : List Value)
 {sz : Nat} {zr : List Value} {by_ : Nat} {ti : TI} (hx : gv σ x = some (.v (iv m))) (ht : T.ty t = some ⟨sz, zr, by_, .slice e⟩) (he : T.ty e = some ti)
 (h01 : 0 < ti.size) (h03 : ti.zero.length = ti.size) (hm : m ≤ 10000) (hby : ti.bytes ≤ 1000) (hxs : xs = (List.replicate m ti.zero).flatten)
 (hB : efB σ ⟨.os nb (nb + 1) m, [nb, nb + 1], [(nb, .own (nb + 1) m ti.size xs e)], gs ++ os x, []⟩ = true) (hK : K ⟨.os nb (nb + 1) m, [nb, nb + 1], [(nb, .own (nb + 1) m ti.size xs e)], gs ++ os x, []⟩) :
 OpEvS P ⟨dst, .makeSlice t x x, ty, pos, after, gd⟩ gs σ K KF := by
 subst hxs
 refine .mk _ hB (fun k hk => by simp [hk]) rfl (fun β a w hss => ?_) hK
 have e1 := gv_eval hss hx (fun k hk => by simp [hk])
 have hzl : ((List.replicate m ti.zero).flatten).length = m * ti.size := by
  simp [List.length_flatten, h03]
 refine ⟨fun j => if j = nb then w.heap.size else if j = nb + 1 then m else β j, w.alloc (.cells ((List.replicate m ti.zero).flatten).toArray e), ⟨fun i hi => ?_, ⟨rfl, rfl, rfl, by show w.heap.size ≤ (w.heap.push _).size; rw [Array.size_push]; omega, fun b hb _ => ?_⟩, fun i bk hi => ?_, fun i hi hL => ?_, fun i hi j hj hL hL' hne => ?_⟩, .inl ?_⟩
 · simp only [List.mem_cons, List.not_mem_nil, or_false, not_or] at hi
   simp [hi.1, hi.2]
 · simp only [World.alloc, Array.getElem?_push]
   rw [if_neg (show ¬ b = w.heap.size by omega)]
 · simp only [List.mem_singleton, Prod.mk.injEq] at hi
   obtain ⟨rfl, rfl⟩ := hi
   have hn1 : ¬ (i + 1 = i) := by omega
   simp only [Blk.ok, if_true, if_neg hn1]
   refine ⟨hzl, .inr ⟨w.heap.size, m, _, rfl, Nat.zero_le _, ?_, Nat.le_refl _, by unfold maxLen; omega, by rw [List.size_toArray, hzl], ?_⟩⟩
   · show (w.heap.push _)[w.heap.size]? = _
     rw [Array.getElem?_push, if_pos rfl]
   · rw [← hzl, List.toList_toArray, List.take_length]
 · obtain ⟨bk, hbk, _⟩ := hL
   simp only [List.mem_singleton, Prod.mk.injEq] at hbk
   obtain ⟨rfl, _⟩ := hbk
   exact .inl (by simp)
 · obtain ⟨bk, hbk, _⟩ := hL
   obtain ⟨bk', hbk', _⟩ := hL'
   simp only [List.mem_singleton, Prod.mk.injEq] at hbk hbk'
   exact absurd (hbk.1.trans hbk'.1.symm) hne
 obtain ⟨i, z, q1, q2, q3, q4, q5⟩ := (T.tok e ti he).row
 have hu := under_slice (T.tok t _ ht) rfl
 have hzc : (Array.range (m * ti.size)).map (fun i => z.cells[i % z.cells.size]!) = (List.replicate m ti.zero).flatten.toArray := by
  have hzz : z.cells = ti.zero.toArray := by rw [← q4]
  have hzs : z.cells.size = ti.size := by rw [hzz]; simpa using h03
  have := rep_zero (z := ti.zero) (by omega) m
  rw [h03] at this
  rw [← this, hzs, hzz]
 have hw1 : IntKind.i64.wrap (m : Int) = m := IR.wrap (And.intro (by omega) (by omega))
 have hn1 : ¬ (nb + 1 = nb) := by omega
 simp only [execOp, Instr.makeSlice, Sem.run_bind, Go.run_underlying hu w, Result.andThen_ok, e1, SV.c, asInt, asIntOf, Sem.run_pure, hw1, if_true, if_neg hn1]
 have hti : (typeInfo e).run P w = .ok i w := by simp [typeInfo, q1]
 have hb2 : (i.bytes : Int) * m ≤ 1000 * 10000 := by
  rw [q5]
  exact Int.mul_le_mul (by omega) (by omega) (by omega) (by omega)
 have c1 : (decide ((m : Int) < 0) || decide ((i.bytes : Int) * m > 2 ^ 48) || decide ((m : Int) < 0) || decide ((m : Int) > m)) = false := by
  simp; omega
 rw [hti]
 simp only [Result.andThen_ok, c1, Bool.false_eq_true, if_false, Sem.run_bind, askRoom, Int.toNat_natCast]
 have hroom : ¬ (m * i.bytes > roomBytes) := by
  have h2 : m * ti.bytes ≤ 10000 * 1000 := Nat.mul_le_mul hm hby
  rw [q5]
  simp only [roomBytes]
  omega
 rw [if_neg hroom]
 simp only [Sem.run_pure, Result.andThen_ok, (T.tok e ti he).run_sizeOf w]
 by_cases hm0 : m * ti.size = 0
 · have hm00 : m = 0 := by
    rcases Nat.mul_eq_zero.1 hm0 with h | h
    · exact h
    · omega
   subst hm00
   rw [if_pos hm0]
   simp [newRow, Sem.run_bind, Sem.run_pure]
   congr 2
   exact Array.eq_empty_of_size_eq_zero (by simp)
 · rw [if_neg hm0]
   have hzr : (zeroValue e).run P w = .ok z w := by simp [zeroValue, typeInfo, q1, q3]
   simp only [Sem.run_bind, hzr, Sem.run_pure, Result.andThen_ok]
   rw [hzc]
   simp [newRow, SV.c]
end Go.Proofs.YtkbfcofifhngfaaGreat.Tx
namespace Go.Proofs.YtkbfcofifhngfaaGreat
open Go Tx Go.RowKit
def PlTo (k : Nat) (args : List SV) (h : PH) (p p' : Pn) : Prop := ∀ (β : Nat → Nat) (w : World), PlOK h p β w →
 Calls Tryz.prog k (SV.cs β args).toArray w fun e w' => e = .returned (.tuple #[]) ∧ Chg (fun b => ∃ j bk, lk (plM h p) j = some bk ∧ β j = b) w w' ∧ ∀ j b, lk (plM h p') j = some b → b.ok β w' (β j)
theorem plM_lk {h : PH} {p : Pn} {j : Nat} {b : Blk} (hj : lk (plM h p) j = some b) : (j = 0 ∧ b = .cells (plC h p) 93) ∨ (j = 1 ∧ b = .own 2 h.n 1 (tbV h.n p.S) 3) := by
 by_cases h0 : j = 0
 · subst h0; rw [lk_cons_eq] at hj; cases hj; exact .inl ⟨rfl, rfl⟩
 · rw [lk_cons_ne h0] at hj
   by_cases h1 : j = 1
   · subst h1; rw [lk_cons_eq] at hj; cases hj; exact .inr ⟨rfl, rfl⟩
   · rw [lk_cons_ne h1] at hj; cases hj
theorem plOK_of {h : PH} {p : Pn} {σ : Sg} (e0 : lk σ.m 0 = some (.cells (plC h p) 93)) (e1 : lk σ.m 1 = some (.own 2 h.n 1 (tbV h.n p.S) 3)) {β : Nat → Nat} {w : World}
 (h1 : ∀ i ∈ [0, 1], ∀ b, lk σ.m i = some b → b.ok β w (β i)) (h2 : ∀ i ∈ [0, 1], ∀ j ∈ [0, 1], ∀ bi bj, lk σ.m i = some bi → lk σ.m j = some bj → bi.live = true → bj.live = true → i ≠ j → β i ≠ β j)
 (hrd : ∀ w', Chg (fun b => ∃ j bk, lk (plM h p) j = some bk ∧ β j = b) w w' → Rd 3 Ln.cs (.slice h.lo h.n h.lc) h.L w') : PlOK h p β w := by
 have key : ∀ j b, lk (plM h p) j = some b → j ∈ [0, 1] ∧ lk σ.m j = some b := fun j b hj => by
  rcases plM_lk hj with ⟨rfl, rfl⟩ | ⟨rfl, rfl⟩
  · exact ⟨by simp, e0⟩
  · exact ⟨by simp, e1⟩
 exact ⟨fun j b hj => h1 j (key j b hj).1 b (key j b hj).2, fun j k bj bk hj hk hne => h2 j (key j bj hj).1 k (key k bk hk).1 bj bk (key j bj hj).2 (key k bk hk).2 (livePl j bj hj) (livePl k bk hk) hne, hrd⟩
theorem callPl {σ : Sg} {k : Nat} {args : List SV} {rs : List Nat} {K : Ef → Prop} {KF : Option KT} (h : PH) (p p' : Pn) (hC : PlTo k args h p p')
 (e0 : lk σ.m 0 = some (.cells (plC h p) 93)) (e1 : lk σ.m 1 = some (.own 2 h.n 1 (tbV h.n p.S) 3)) (hnb : 3 ≤ σ.nb) (hrd : ∀ w', σ.h w' → Rd 3 Ln.cs (.slice h.lo h.n h.lc) h.L w')
 (hK : K ⟨.v (.tuple #[]), [], plM h p', rs, [0, 1]⟩) : CallEv Tryz.prog σ k args (efB σ) rs K KF := by
 have hlt := mB_up (mPl h p') hnb
 refine callWS [0, 1] (plM h p') (.tuple #[]) ?_ (fun i hi => ?_) (fun β w h1 h2 hst => ?_) hK
 · have h01 : Nat.blt 0 σ.nb = true := by rw [Nat.blt_eq]; omega
   have h11 : Nat.blt 1 σ.nb = true := by rw [Nat.blt_eq]; omega
   have h21 : Nat.blt 2 σ.nb = true := by rw [Nat.blt_eq]; omega
   simp [efB, eqs, modsLt, oldB, keysB, nodupB, SV.lt, nin, e0, e1, Blk.live, Blk.lt, SV.lts, h01, h11, h21, lts_append (tbS_lt _ _ _) (tbS_lt _ _ _)]
   rfl
 · simp only [List.mem_cons, List.not_mem_nil, or_false] at hi
   rcases hi with rfl | rfl
   · exact ⟨_, List.mem_cons_self⟩
   · exact ⟨_, List.mem_cons_of_mem _ List.mem_cons_self⟩
 · have hsub : ∀ b, (∃ j bk, lk (plM h p) j = some bk ∧ β j = b) → ∃ i ∈ [0, 1], (∃ bk, lk σ.m i = some bk ∧ bk.live = true) ∧ β i = b := fun b ⟨j, bk, hj, hb⟩ => by
    rcases plM_lk hj with ⟨rfl, rfl⟩ | ⟨rfl, rfl⟩
    · exact ⟨0, by simp, ⟨_, e0, rfl⟩, hb⟩
    · exact ⟨1, by simp, ⟨_, e1, rfl⟩, hb⟩
   refine (hC β w (plOK_of e0 e1 h1 h2 fun w' hc => hrd w' (hst w' ⟨hc.os, hc.tape, hc.output, hc.size, fun b hb hX => hc.same b hb fun hX2 => hX (hsub b hX2)⟩))).mono fun e w' ⟨q1, q2, q3⟩ => ⟨q1, ⟨q2.os, q2.tape, q2.output, q2.size, fun b hb hX => q2.same b hb fun hX2 => ?_⟩, fun i b hi => q3 i b ?_⟩
   · obtain ⟨i, hi, _, hib⟩ := hsub b hX2
     exact hX ⟨i, hi, hib⟩
   · simp only [plM, List.mem_cons, Prod.mk.injEq, List.not_mem_nil, or_false] at hi
     rcases hi with ⟨rfl, rfl⟩ | ⟨rfl, rfl⟩ <;> rfl
theorem put_to (h : PH) (p : Pn) (i : Nat) (x : Ln) (s : Int) (hh : PhOK h) (hi : h.L[i]? = some x) (hS : -1 ≤ p.S i ∧ p.S i ≤ 39) (hs : -1 ≤ s ∧ s ≤ 39) : PlTo 89 [.ptr 0 0, .v (iv i), .v (iv s)] h p (putF x p i s) :=
 fun β w hp => put_ok h p i x s hh hi hS hs hp
def offF (L : List Ln) : List Nat → Pn → Pn
 | [], p => p
 | i :: r, p => offF L r (putF (lnAt L i) p i (-1))
def onF (L : List Ln) (f : Nat → Int) : List Nat → Pn → Pn
 | [], p => p
 | i :: r, p => onF L f r (putF (lnAt L i) p i (f i))
def turnF (L : List Ln) (q : Int) (l : List Nat) (p : Pn) : Pn := onF L (fun i => q - p.S i) l (offF L l p)
theorem putF_S (x : Ln) (p : Pn) (i : Nat) (s : Int) : (putF x p i s).S = updF p.S i s := by
 unfold putF
 dsimp only
 split <;> rfl
theorem offF_S (L : List Ln) : ∀ (l : List Nat) (p : Pn) (j : Nat), (offF L l p).S j = if j ∈ l then -1 else p.S j
 | [], p, j => by simp [offF]
 | i :: r, p, j => by
  rw [offF, offF_S L r, putF_S]
  unfold updF
  by_cases hr : j ∈ r
  · simp [hr]
  · by_cases hi : j = i <;> simp [hr, hi]
theorem onF_S (L : List Ln) (f : Nat → Int) : ∀ (l : List Nat) (p : Pn) (j : Nat), (onF L f l p).S j = if j ∈ l then f j else p.S j
 | [], p, j => by simp [onF]
 | i :: r, p, j => by
  rw [onF, onF_S L f r, putF_S]
  unfold updF
  by_cases hr : j ∈ r
  · simp [hr]
  · by_cases hi : j = i
    · subst hi; simp
    · simp [hr, hi]
theorem offF_take {L : List Ln} {l : List Nat} {k i : Nat} (hk : l[k]? = some i) (p : Pn) : offF L (l.take (k + 1)) p = putF (lnAt L i) (offF L (l.take k) p) i (-1) := by
 induction l generalizing k p with
 | nil => simp at hk
 | cons a l ih =>
  cases k with
  | zero => simp only [List.getElem?_cons_zero, Option.some.injEq] at hk; subst hk; simp [offF]
  | succ k => simp only [List.getElem?_cons_succ] at hk; rw [List.take_succ_cons, offF, ih hk, List.take_succ_cons, offF]
theorem onF_take {L : List Ln} {f : Nat → Int} {l : List Nat} {k i : Nat} (hk : l[k]? = some i) (p : Pn) : onF L f (l.take (k + 1)) p = putF (lnAt L i) (onF L f (l.take k) p) i (f i) := by
 induction l generalizing k p with
 | nil => simp at hk
 | cons a l ih =>
  cases k with
  | zero => simp only [List.getElem?_cons_zero, Option.some.injEq] at hk; subst hk; simp [onF]
  | succ k => simp only [List.getElem?_cons_succ] at hk; rw [List.take_succ_cons, onF, ih hk, List.take_succ_cons, onF]
end Go.Proofs.YtkbfcofifhngfaaGreat
namespace Go.Proofs.YtkbfcofifhngfaaGreat
open Go Tx Go.RowKit
theorem nI_get {l : List Nat} {k i : Nat} (h : l[k]? = some i) : (nI l)[k]? = some (i : Int) := by unfold nI; rw [List.getElem?_map, h]; rfl
theorem mem_take_lt {l : List Nat} (hnd : l.Nodup) {k i : Nat} (h : l[k]? = some i) (m : Nat) : i ∈ l.take m ↔ k < m := by
 constructor
 · intro hm
   obtain ⟨j, hj, he⟩ := List.mem_take_iff_getElem.1 hm
   obtain ⟨hk, he2⟩ := List.getElem?_eq_some_iff.1 h
   have : j = k := (List.getElem_inj hnd).1 (he.trans he2.symm)
   omega
 · intro hm
   obtain ⟨hk, he2⟩ := List.getElem?_eq_some_iff.1 h
   exact List.mem_take_iff_getElem.2 ⟨k, by omega, he2⟩
theorem turn_ok (h : PH) (p : Pn) (a b : Int) (l : List Nat) (hh : PhOK h) (hnd : l.Nodup) (hll : ∀ i ∈ l, i < h.L.length) (hSl : ∀ i ∈ l, p.S i = a ∨ p.S i = b) (ha : 0 ≤ a ∧ a ≤ 39) (hb : 0 ≤ b ∧ b ≤ 39) (ad : Addr) (c : Nat) {β : Nat → Nat} {w : World} (hp : PlOK h p β w)
 (hlr : ∀ w', Chg (fun b => ∃ j bk, lk (plM h p) j = some bk ∧ β j = b) w w' → Rd 1 iF (.slice (some ad) (nI l).length c) (nI l) w') :
 Calls Tryz.prog 87 (SV.cs β [.ptr 0 0, .v (.slice (some ad) (nI l).length c), .v (iv a), .v (iv b)]).toArray w fun e w' => e = .returned (.tuple #[]) ∧ Chg (fun b => ∃ j bk, lk (plM h p) j = some bk ∧ β j = b) w w' ∧ ∀ j bk, lk (plM h (turnF h.L (a + b) l p)) j = some bk → bk.ok β w' (β j) := by
 obtain ⟨hok, hinj, hst⟩ := hp
 have hput := fun (p' : Pn) (i : Nat) (s : Int) (hi : i < h.L.length) => put_to h p' i (lnAt h.L i) s hh (lnAt_get hi)
 obtain ⟨hn, hnl, hx⟩ := hh
 obtain ⟨sl, ro, su, gs, ts, lo, n, lc, L⟩ := h
 dsimp only at hn hnl hx hst hll hput
 have hlen : (nI l).length = l.length := by simp [nI]
 have hl1 : l.length ≤ n := by
  rw [← hn]
  have h1 := List.Nodup.length_le_of_subset hnd (l₂ := List.range L.length) (fun i hi => List.mem_range.2 (hll i hi))
  simpa using h1
 refine calls_WS env mixed Tryz.func87 has87 Tryz.ntmps87 [.ptr 0 0, .v (.slice (some ad) (nI l).length c), .v (iv a), .v (iv b)] (plM ⟨sl, ro, su, gs, ts, lo, n, lc, L⟩ p) (plM ⟨sl, ro, su, gs, ts, lo, n, lc, L⟩ (turnF L (a + b) l p)) 3 (.tuple #[]) (Nat.le_of_ble_eq_true rfl) rfl (mPl _ _) (mPl _ _) livePl (Hp := fun w' => Rd 3 Ln.cs (.slice lo n lc) L w' ∧ Rd 1 iF (.slice (some ad) (nI l).length c) (nI l) w') (fun h hh => ?_) hok hinj (fun w' hc => ⟨hst w' hc, hlr w' hc⟩)
 have e1 := fun (k i : Nat) (hk : l[k]? = some i) (w' : World) (hw' : h w') => rd_ati (hh w' hw').2 (nI_get hk)
 have hrd := fun (w' : World) (hw' : h w') => (hh w' hw').1
 generalize hm : (nI l).length = m at *
 obtain ⟨FF, hFF⟩ : ∃ FF : Nat → Nat → Int, (fun k j => if j < k then a + b - p.S (l.getD j 0) else 0) = FF := ⟨_, rfl⟩
 dsimp only [plM, plC]
 repeat'
  conv => whnf
  first
   |refine mkO1 env 3 m (tbV m fun _ => 0) rfl rfl rfl (by decide) rfl (by omega) (by decide) (mk0 _) rfl ?_
 have hF0 : tbV m (FF 0) = tbV m fun _ => 0 := by
  rw [← hFF]
  unfold tbV
  refine List.map_congr_left fun j _ => ?_
  simp
 refine loopN 5 (fun k : Nat => [(0, .ptr 0 0), (1, .v (.slice (some ad) m c)), (2, .v (iv a)), (3, .v (iv b)), (8, .os 3 4 m), (16, .v (.slice (some ad) m c)), (17, .v (iv m)), (18, .v (iv k))]) (fun k => (0, .cells (.v (iv sl) :: .v (iv ro) :: .v (iv su) :: .v gs :: .v ts :: .v (.slice lo n lc) :: .os 1 2 n :: (tbS 320 (offF L (l.take k) p).A ++ tbS 320 (offF L (l.take k) p).B)) 93) :: (1, .own 2 n 1 (tbV n (offF L (l.take k) p).S) 3) :: [(3, .own 4 m 1 (tbV m (FF k)) 3)]) (fun k => k ≤ m) (fun k => m - k) 0 (Nat.zero_le _) ⟨rfl, rfl, rfl, rfl, rfl, rfl, rfl, rfl, trivial⟩ ⟨rfl, rfl, by rw [hF0]; rfl, trivial⟩ (fun k _ => ⟨rfl, ?_⟩) ?_
 · exact mB_app (mB_up (mPl ⟨sl, ro, su, gs, ts, lo, n, lc, L⟩ (offF L (l.take k) p)) (by decide)) rfl
 · intro k hk
   rcases Nat.lt_or_ge k m with hkm | hkm
   · obtain ⟨i, hki⟩ : ∃ i, l[k]? = some i := ⟨_, List.getElem?_eq_getElem (by omega)⟩
     have him := List.mem_of_getElem? hki
     have hil := hll i him
     have hSi := hSl i him
     have e1 := e1 k i hki
     have hP1 := offF_take (L := L) hki p
     have hPS : (offF L (l.take k) p).S i = p.S i := by
      rw [offF_S, if_neg (fun hm => by have := (mem_take_lt hnd hki k).1 hm; omega)]
     have hgd : l.getD k 0 = i := by rw [List.getD_eq_getElem?_getD, hki]; rfl
     have hFk : FF (k + 1) = updF (FF k) k (a + b - p.S i) := by
      rw [← hFF]
      funext j
      show (if j < k + 1 then a + b - p.S (l.getD j 0) else 0) = (if j = k then a + b - p.S i else (if j < k then a + b - p.S (l.getD j 0) else 0))
      by_cases h1 : j = k
      · rw [if_pos h1, if_pos (by omega), h1, hgd]
      · rw [if_neg h1]
        by_cases h2 : j < k
        · rw [if_pos h2, if_pos (by omega)]
        · rw [if_neg h2, if_neg (by omega)]
     have hup := tbV_setE (n := m) (o := (k : Int).toNat * 1) (p := k) (FF k) (a + b - p.S i) (by omega) hkm
     generalize offF L (l.take k) p = P at *
     have hro : ∀ (j : Nat) (v : Value), [iv (p.S i)][j]? = some v → (tbV n P.S)[(i : Int).toNat * 1 + j]? = some v := by
      rw [← hPS]; exact tbV_one (by omega) P.S (by omega)
     have hPb : -1 ≤ P.S i ∧ P.S i ≤ 39 := by rw [hPS]; omega
     repeat'
      conv => whnf
      first
       |refine zB ?_|refine zC ?_|refine zD ?_|refine zF ?_|refine zG ?_
       |(refine splD ?_ ?_ <;> intro hc <;> first|(exfalso; omega)|skip)
       |refine eL [iv (i : Int)] ⟨⟨rfl, fun w' hw' => e1 w' hw'⟩, ?_⟩
       |refine eL [iv (p.S i)] ⟨⟨rfl, hro⟩, ?_⟩
       |refine nlC rfl rfl ?_
       |refine And.intro (a := (_ : Nat) ≤ (tbV _ _).length) (by rw [tbV_len]; show (k : Int).toNat * 1 + 1 ≤ m; omega) ?_
       |(with_reducible show CallEv _ _ 89 ..); refine callPl ⟨sl, ro, su, gs, ts, lo, n, lc, L⟩ P (putF (lnAt L i) P i (-1)) (hput P i (-1) hil (hPb) (by omega)) rfl rfl (Nat.le_of_ble_eq_true rfl) hrd ?_
     conv => whnf
     exact ⟨k + 1, by omega, by omega, Ent.weak rfl ⟨rfl, rfl, rfl, rfl, rfl, rfl, rfl, rfl, trivial⟩ ⟨by rw [hP1]; rfl, by rw [hP1]; rfl, by rw [hFk, hup]; rfl, trivial⟩ fun _ h => h⟩
   · obtain rfl : k = m := by omega
     rw [show l.take k = l from List.take_of_length_le (by omega)]
     have hto : turnF L (a + b) l p = onF L (fun i => a + b - p.S i) l (offF L l p) := rfl
     have hP2S : ∀ i ∈ l, (offF L l p).S i = -1 := fun i hi => by rw [offF_S, if_pos hi]
     rw [hto]
     generalize offF L l p = P2 at *
     repeat'
      conv => whnf
      first
       |(refine splD ?_ ?_ <;> intro hc <;> first|(exfalso; omega)|skip)
     refine loopN 5 (fun j : Nat => [(0, .ptr 0 0), (8, .os 3 4 k), (41, .v (.slice (some ad) k c)), (42, .v (iv k)), (43, .v (iv j))]) (fun j => (0, .cells (.v (iv sl) :: .v (iv ro) :: .v (iv su) :: .v gs :: .v ts :: .v (.slice lo n lc) :: .os 1 2 n :: (tbS 320 (onF L (fun i => a + b - p.S i) (l.take j) P2).A ++ tbS 320 (onF L (fun i => a + b - p.S i) (l.take j) P2).B)) 93) :: (1, .own 2 n 1 (tbV n (onF L (fun i => a + b - p.S i) (l.take j) P2).S) 3) :: [(3, .own 4 k 1 (tbV k (FF k)) 3)]) (fun j => j ≤ k) (fun j => k - j) 0 (Nat.zero_le _) ⟨rfl, rfl, rfl, rfl, rfl, trivial⟩ ⟨rfl, rfl, rfl, trivial⟩ (fun j _ => ⟨rfl, ?_⟩) ?_
     · exact mB_app (mB_up (mPl ⟨sl, ro, su, gs, ts, lo, n, lc, L⟩ (onF L (fun i => a + b - p.S i) (l.take j) P2)) (by decide)) rfl
     · intro j hj
       rcases Nat.lt_or_ge j k with hjk | hjk
       · obtain ⟨i, hki⟩ : ∃ i, l[j]? = some i := ⟨_, List.getElem?_eq_getElem (by omega)⟩
         have him := List.mem_of_getElem? hki
         have hil := hll i him
         have hSi := hSl i him
         have e1 := e1 j i hki
         have hP1 := onF_take (L := L) (f := fun i => a + b - p.S i) hki P2
         have hPS : (onF L (fun i => a + b - p.S i) (l.take j) P2).S i = -1 := by
          rw [onF_S, if_neg (fun hm => by have := (mem_take_lt hnd hki j).1 hm; omega), hP2S i him]
         have hgd : l.getD j 0 = i := by rw [List.getD_eq_getElem?_getD, hki]; rfl
         have hFj : FF k j = a + b - p.S i := by
          rw [← hFF]; dsimp only; rw [if_pos hjk, hgd]
         generalize onF L (fun i => a + b - p.S i) (l.take j) P2 = P at *
         have hro : ∀ (t : Nat) (v : Value), [iv (a + b - p.S i)][t]? = some v → (tbV k (FF k))[(j : Int).toNat * 1 + t]? = some v := by
          rw [← hFj]; exact tbV_one (by omega) (FF k) hjk
         have hPb : -1 ≤ P.S i ∧ P.S i ≤ 39 := by rw [hPS]; omega
         repeat'
          conv => whnf
          first
           |refine zD ?_|refine zF ?_|refine zG ?_
           |(refine splD ?_ ?_ <;> intro hc <;> first|(exfalso; omega)|skip)
           |refine eL [iv (i : Int)] ⟨⟨rfl, fun w' hw' => e1 w' hw'⟩, ?_⟩
           |refine eL [iv (a + b - p.S i)] ⟨⟨rfl, hro⟩, ?_⟩
           |(with_reducible show CallEv _ _ 89 ..); refine callPl ⟨sl, ro, su, gs, ts, lo, n, lc, L⟩ P (putF (lnAt L i) P i (a + b - p.S i)) (hput P i (a + b - p.S i) hil (hPb) (by omega)) rfl rfl (Nat.le_of_ble_eq_true rfl) hrd ?_
         conv => whnf
         exact ⟨j + 1, by omega, by omega, Ent.weak rfl ⟨rfl, rfl, rfl, rfl, rfl, trivial⟩ ⟨by rw [hP1]; rfl, by rw [hP1]; rfl, rfl, trivial⟩ fun _ h => h⟩
       · obtain rfl : j = k := by omega
         rw [show l.take j = l from List.take_of_length_le (by omega)]
         repeat'
          conv => whnf
          first
           |(refine splD ?_ ?_ <;> intro hc <;> first|(exfalso; omega)|skip)
         conv => whnf
         exact ⟨fun β => rfl, ⟨rfl, rfl, trivial⟩, fun _ h => h, rfl⟩
end Go.Proofs.YtkbfcofifhngfaaGreat
namespace Go.Proofs.YtkbfcofifhngfaaGreat.Tx
open Go Go.RowKit
theorem slP {P : Program} (T : Env P) {dst : Option Tmp} {ty : TypeId} {pos : String} {after : Array Edge} {gd : Option (Nat × Bool)} {gs : List Nat} {σ : Sg} {K : Ef → Prop} {KF : Option KT} {t m e i o z : Nat} {x hi : Operand} {k : IntKind}
 {sz : Nat} {zr : List Value} {by_ : Nat} {ti : TI} (hx : gv σ x = some (.ptr i o)) (hl : gv σ hi = some (.v (.int k z))) (ht : T.ty t = some ⟨sz, zr, by_, .arr m e⟩) (he : T.ty e = some ti) (hz : z ≤ m) (hlt : Nat.blt i σ.nb = true)
 (hK : K ⟨.sl i o z m, [], [], gs ++ (os x ++ os hi), []⟩) : OpEvS P ⟨dst, .slice t x none (some hi) none, ty, pos, after, gd⟩ gs σ K KF := by
 refine .mk ⟨.sl i o z m, [], [], gs ++ (os x ++ os hi), []⟩ (by simp [efB, eqs, modsLt, oldB, keysB, nodupB, SV.lt]; simpa using hlt) (fun k hk => by simp [hk]) rfl (runOK_pure fun β a w hss => ?_) hK
 have e1 := gv_eval hss hx (fun k hk => by simp [hk])
 have e2 := gv_eval hss hl (fun k hk => by simp [hk])
 have hu := under_arr (T.tok t _ ht) rfl
 have hsz := (T.tok e ti he).run_sizeOf w
 have h1 : ¬ ((z : Int) < 0) := by omega
 have h2 : ¬ ((m : Int) < z) := by omega
 simp only [execOp, Instr.sliceAt, Instr.sliceBounds, Instr.sureAddr, e1, e2, SV.c, Option.map_none, Option.map_some, Sem.run_bind, Sem.run_pure, Result.andThen_ok, Go.run_underlying hu w, hsz, Nat.zero_mul, own_add, Nat.add_zero, ite_self, Nat.sub_zero]
 have hb : ∀ c, (Instr.sliceBound (.int k z) m c).run P w = .ok z w := fun c => by
  have := run_sliceBound (P := P) (w := w) k (z : Int) m c (by omega) (by omega)
  rw [Int.toNat_natCast] at this
  exact this
 rw [hb]
 simp only [Result.andThen_ok, hsz, Nat.zero_mul, Nat.add_zero, ite_self, Nat.sub_zero]
end Go.Proofs.YtkbfcofifhngfaaGreat.Tx
namespace Go.Proofs.YtkbfcofifhngfaaGreat
open Go Tx Go.RowKit
def maxF (x : Int) (l : List Int) : Int := l.foldl (fun a b => max a b) x
def minF (x : Int) (l : List Int) : Int := l.foldl (fun a b => min a b) x
theorem maxF_take {x : Int} {l : List Int} {k : Nat} {y : Int} (h : l[k]? = some y) : maxF x (l.take (k + 1)) = max (maxF x (l.take k)) y := by
 unfold maxF; rw [List.take_add_one, h]; simp
theorem minF_take {x : Int} {l : List Int} {k : Nat} {y : Int} (h : l[k]? = some y) : minF x (l.take (k + 1)) = min (minF x (l.take k)) y := by
 unfold minF; rw [List.take_add_one, h]; simp
theorem Max_ok (x0 : Int) (l : List Int) (o : Option Addr) (c : Nat) (w : World) (hrd : Rd 1 iF (.slice o (x0 :: l).length c) (x0 :: l) w) (hl : l.length ≤ 1000000) :
 Calls Tryz.prog 42 #[.slice o (x0 :: l).length c] w fun e w' => e = .returned (iv (maxF x0 l)) ∧ Below w.heap.size w w' := by
 refine calls_val env mixed Tryz.func42 has42 Tryz.ntmps42 [.slice o (x0 :: l).length c] (by simp) ?_
 obtain ⟨_, ad, rfl, _⟩ := hrd.ptr (by simp)
 have e0 := fun (w' : World) hw' => rd_ati (hrd.below (w' := w') hw') (k := 0) (b := x0) rfl
 have hlen : (x0 :: l).length = l.length + 1 := rfl
 generalize hN : (x0 :: l).length = N at *
 repeat'
  conv => whnf
  first
   |refine zG ?_
   |(refine splD ?_ ?_ <;> intro hc <;> first|(exfalso; omega)|skip)
   |refine eL [iv x0] ⟨⟨rfl, fun w' hw' => e0 w' hw'⟩, ?_⟩
 refine loopE (fun k : Nat => [(0, .v (.slice (some ad) N c)), (3, .v (iv (maxF x0 (l.take k)))), (4, .v (iv (k + 1 : Nat)))]) (fun _ => []) (fun k => k ≤ l.length) (fun k => l.length - k) 0 (Nat.zero_le _) ⟨rfl, rfl, rfl, trivial⟩ trivial (fun _ => ⟨rfl, rfl⟩) ?_
 intro k hk
 rcases Nat.lt_or_ge k l.length with hkl | hkl
 · obtain ⟨y, hy⟩ : ∃ b, l[k]? = some b := ⟨_, List.getElem?_eq_getElem hkl⟩
   have e1 := fun (w' : World) hw' => rd_ati (hrd.below (w' := w') hw') (k := k + 1) (b := y) hy
   rw [show Nat.cast (k + 1) = ((k + 1 : Nat) : Int) from rfl] at e1
   have hmx := maxF_take (x := x0) hy
   generalize maxF x0 (l.take k) = M at *
   repeat'
    conv => whnf
    first
     |refine zF ?_|refine zG ?_
     |(refine splD ?_ ?_ <;> intro hc <;> first|(exfalso; omega)|skip)
     |refine eL [iv y] ⟨⟨rfl, fun w' hw' => e1 w' hw'⟩, ?_⟩
   all_goals exact ⟨k + 1, by omega, by omega, Ent.weak rfl ⟨rfl, by rw [hmx, ← imax_eq]; rfl, rfl, trivial⟩ trivial fun _ h => h⟩
 · obtain rfl : k = l.length := by omega
   rw [show l.take l.length = l from List.take_length]
   repeat'
    conv => whnf
    first
     |(refine splD ?_ ?_ <;> intro hc <;> first|(exfalso; omega)|skip)
   all_goals exact ⟨fun β => rfl, fun w' h => h⟩
theorem Min_ok (x0 : Int) (l : List Int) (o : Option Addr) (c : Nat) (w : World) (hrd : Rd 1 iF (.slice o (x0 :: l).length c) (x0 :: l) w) (hl : l.length ≤ 1000000) :
 Calls Tryz.prog 45 #[.slice o (x0 :: l).length c] w fun e w' => e = .returned (iv (minF x0 l)) ∧ Below w.heap.size w w' := by
 refine calls_val env mixed Tryz.func45 has45 Tryz.ntmps45 [.slice o (x0 :: l).length c] (by simp) ?_
 obtain ⟨_, ad, rfl, _⟩ := hrd.ptr (by simp)
 have e0 := fun (w' : World) hw' => rd_ati (hrd.below (w' := w') hw') (k := 0) (b := x0) rfl
 have hlen : (x0 :: l).length = l.length + 1 := rfl
 generalize hN : (x0 :: l).length = N at *
 repeat'
  conv => whnf
  first
   |refine zG ?_
   |(refine splD ?_ ?_ <;> intro hc <;> first|(exfalso; omega)|skip)
   |refine eL [iv x0] ⟨⟨rfl, fun w' hw' => e0 w' hw'⟩, ?_⟩
 refine loopE (fun k : Nat => [(0, .v (.slice (some ad) N c)), (3, .v (iv (minF x0 (l.take k)))), (4, .v (iv (k + 1 : Nat)))]) (fun _ => []) (fun k => k ≤ l.length) (fun k => l.length - k) 0 (Nat.zero_le _) ⟨rfl, rfl, rfl, trivial⟩ trivial (fun _ => ⟨rfl, rfl⟩) ?_
 intro k hk
 rcases Nat.lt_or_ge k l.length with hkl | hkl
 · obtain ⟨y, hy⟩ : ∃ b, l[k]? = some b := ⟨_, List.getElem?_eq_getElem hkl⟩
   have e1 := fun (w' : World) hw' => rd_ati (hrd.below (w' := w') hw') (k := k + 1) (b := y) hy
   have hmx := minF_take (x := x0) hy
   generalize minF x0 (l.take k) = M at *
   repeat'
    conv => whnf
    first
     |refine zF ?_|refine zG ?_
     |(refine splD ?_ ?_ <;> intro hc <;> first|(exfalso; omega)|skip)
     |refine eL [iv y] ⟨⟨rfl, fun w' hw' => e1 w' hw'⟩, ?_⟩
   all_goals exact ⟨k + 1, by omega, by omega, Ent.weak rfl ⟨rfl, by rw [hmx, ← imin_eq]; rfl, rfl, trivial⟩ trivial fun _ h => h⟩
 · obtain rfl : k = l.length := by omega
   rw [show l.take l.length = l from List.take_length]
   repeat'
    conv => whnf
    first
     |(refine splD ?_ ?_ <;> intro hc <;> first|(exfalso; omega)|skip)
   all_goals exact ⟨fun β => rfl, fun w' h => h⟩
end Go.Proofs.YtkbfcofifhngfaaGreat
namespace Go.Proofs.YtkbfcofifhngfaaGreat
open Go Tx Go.RowKit
theorem Chg.sub {Z Z' : Nat → Prop} {w w' : World} (h : Chg Z w w') (hs : ∀ b, Z b → Z' b) : Chg Z' w w' := ⟨h.os, h.tape, h.output, h.size, fun b hb hn => h.same b hb fun hz => hn (hs b hz)⟩
theorem callTurn {σ : Sg} {rs : List Nat} {K : Ef → Prop} {KF : Option KT} (h : PH) (p : Pn) (a b : Int) (l : List Nat) (i j m : Nat) (hh : PhOK h) (hnd : l.Nodup) (hll : ∀ i ∈ l, i < h.L.length) (hSl : ∀ i ∈ l, p.S i = a ∨ p.S i = b) (ha : 0 ≤ a ∧ a ≤ 39) (hb : 0 ≤ b ∧ b ≤ 39) (hm : m = l.length)
 (e0 : lk σ.m 0 = some (.cells (plC h p) 93)) (e1 : lk σ.m 1 = some (.own 2 h.n 1 (tbV h.n p.S) 3)) (e3 : lk σ.m i = some (.own j m 1 ((nI l).flatMap iF) 3)) (hi : 3 ≤ i ∧ i < σ.nb) (hj : j < σ.nb) (hrd : ∀ w', σ.h w' → Rd 3 Ln.cs (.slice h.lo h.n h.lc) h.L w')
 (hK : K ⟨.v (.tuple #[]), [], (i, .own j m 1 ((nI l).flatMap iF) 3) :: plM h (turnF h.L (a + b) l p), rs, [0, 1, i]⟩) : CallEv Tryz.prog σ 87 [.ptr 0 0, .os i j m, .v (iv a), .v (iv b)] (efB σ) rs K KF := by
 subst hm
 refine callWS [0, 1, i] ((i, .own j l.length 1 ((nI l).flatMap iF) 3) :: plM h (turnF h.L (a + b) l p)) (.tuple #[]) ?_ (fun k hk => ?_) (fun β w h1 h2 hst => ?_) hK
 · have h01 : Nat.blt 0 σ.nb = true := by rw [Nat.blt_eq]; omega
   have h11 : Nat.blt 1 σ.nb = true := by rw [Nat.blt_eq]; omega
   have h21 : Nat.blt 2 σ.nb = true := by rw [Nat.blt_eq]; omega
   have hi1 : Nat.blt i σ.nb = true := by rw [Nat.blt_eq]; omega
   have hj1 : Nat.blt j σ.nb = true := by rw [Nat.blt_eq]; omega
   have b0 : Nat.beq i 0 = false := beq_ne (by omega)
   have b1 : Nat.beq i 1 = false := beq_ne (by omega)
   have b2 : Nat.beq 0 i = false := beq_ne (by omega)
   have b3 : Nat.beq 1 i = false := beq_ne (by omega)
   have b4 : Nat.beq 0 1 = false := rfl
   have b5 : Nat.beq 1 0 = false := rfl
   simp [efB, eqs, modsLt, oldB, keysB, nodupB, SV.lt, nin, e0, e1, e3, Blk.live, Blk.lt, SV.lts, h01, h11, h21, hi1, hj1, lts_append (tbS_lt _ _ _) (tbS_lt _ _ _), b0, b1, b2, b3, b4, b5]
 · simp only [List.mem_cons, List.not_mem_nil, or_false] at hk
   rcases hk with rfl | rfl | rfl
   · exact ⟨_, List.mem_cons_of_mem _ List.mem_cons_self⟩
   · exact ⟨_, List.mem_cons_of_mem _ (List.mem_cons_of_mem _ List.mem_cons_self)⟩
   · exact ⟨_, List.mem_cons_self⟩
 · have hne0 : β 0 ≠ β i := h2 0 (by simp) i (by simp) _ _ e0 e3 rfl rfl (by omega)
   have hne1 : β 1 ≠ β i := h2 1 (by simp) i (by simp) _ _ e1 e3 rfl rfl (by omega)
   have hsub : ∀ b, (∃ j bk, lk (plM h p) j = some bk ∧ β j = b) → ∃ k ∈ [0, 1, i], (∃ bk, lk σ.m k = some bk ∧ bk.live = true) ∧ β k = b := fun b ⟨j, bk, hj, hb⟩ => by
    rcases plM_lk hj with ⟨rfl, rfl⟩ | ⟨rfl, rfl⟩
    · exact ⟨0, by simp, ⟨_, e0, rfl⟩, hb⟩
    · exact ⟨1, by simp, ⟨_, e1, rfl⟩, hb⟩
   have hni : ¬ ∃ j bk, lk (plM h p) j = some bk ∧ β j = β i := fun ⟨j, bk, hj, hb⟩ => by
    rcases plM_lk hj with ⟨rfl, rfl⟩ | ⟨rfl, rfl⟩
    · exact hne0 hb
    · exact hne1 hb
   have hbi := h1 i (by simp) _ e3
   have hblt : β i < w.heap.size := Blk.ok_lt (k := .own j l.length 1 ((nI l).flatMap iF) 3) rfl hbi
   have hpl := plOK_of (h := h) (p := p) e0 e1 (fun k hk => h1 k (by simp at hk ⊢; omega)) (fun k hk k' hk' => h2 k (by simp at hk ⊢; omega) k' (by simp at hk' ⊢; omega)) fun w' hc => hrd w' (hst w' (Chg.sub hc hsub))
   have hlen : (nI l).length = l.length := by simp [nI]
   have hrow : ∀ w', w'.heap[β i]? = w.heap[β i]? → Blk.ok β w' (β i) (.own j l.length 1 ((nI l).flatMap iF) 3) := fun w' he => Blk.ok_congr (fr := []) (fun _ _ => rfl) (.own j l.length 1 ((nI l).flatMap iF) 3) (Blk.av_nil _) (fun _ => he) hbi
   have hT := turn_ok h p a b l hh hnd hll hSl ha hb ⟨β i, 0, none⟩ (β j) hpl (fun w' hc => by
    rw [hlen]
    exact Rd.of_owns (sz := 1) (f := iF) (fun _ => rfl) rfl hlen.symm (hrow w' (hc.same _ hblt hni)))
   rw [hlen] at hT
   refine hT.mono fun e w' ⟨q1, q2, q3⟩ => ⟨q1, Chg.sub q2 fun b hb => ?_, fun k bk hk => ?_⟩
   · obtain ⟨k, hk, _, hkb⟩ := hsub b hb
     exact ⟨k, hk, hkb⟩
   · rcases List.mem_cons.1 hk with hk | hk
     · cases hk; exact hrow w' (q2.same _ hblt hni)
     · simp only [plM, List.mem_cons, Prod.mk.injEq, List.not_mem_nil, or_false] at hk
       rcases hk with ⟨rfl, rfl⟩ | ⟨rfl, rfl⟩
       · exact q3 0 _ rfl
       · exact q3 1 _ rfl
theorem callChain {σ : Sg} {rs : List Nat} {K : Ef → Prop} {KF : Option KT} (nb : Nat) (h : PH) (p : Pn) (i : Nat) (a b : Int) (te : Bool) (l : List Nat) (hh : PhOK h) (hl : ChL h.L p (a + b) i (i :: l) (p.S i) te) (hln : (i :: l).length ≤ h.n) (ha : 0 ≤ a ∧ a ≤ 39) (hb : 0 ≤ b ∧ b ≤ 39) (hS : p.S i = a ∨ p.S i = b)
 (e0 : lk σ.m 0 = some (.cells (plC h p) 93)) (e1 : lk σ.m 1 = some (.own 2 h.n 1 (tbV h.n p.S) 3)) (hnb : σ.nb = nb) (h3 : 3 ≤ nb) (hrd : ∀ w', σ.h w' → Rd 3 Ln.cs (.slice h.lo h.n h.lc) h.L w')
 (hK : K ⟨.os nb (nb + 1) (i :: l).length, [nb, nb + 1], (nb, .own (nb + 1) (i :: l).length 1 ((nI (i :: l)).flatMap iF) 3) :: plM h p, rs, [0, 1]⟩) : CallEv Tryz.prog σ 88 [.ptr 0 0, .v (iv i), .v (iv a), .v (iv b), .v (.bool te)] (efB σ) rs K KF := by
 subst hnb
 refine callWO σ.nb [0, 1] (plM h p) _ 1 _ 3 rfl ?_ (fun k hk => ?_) (mB_up (mPl h p) h3) (fun β w h1 h2 hst => ?_) hK
 · have h01 : Nat.blt 0 σ.nb = true := by rw [Nat.blt_eq]; omega
   have h11 : Nat.blt 1 σ.nb = true := by rw [Nat.blt_eq]; omega
   have h02 : Nat.blt 0 (σ.nb + 2) = true := by rw [Nat.blt_eq]; omega
   have h12 : Nat.blt 1 (σ.nb + 2) = true := by rw [Nat.blt_eq]; omega
   have h22 : Nat.blt 2 (σ.nb + 2) = true := by rw [Nat.blt_eq]; omega
   have hi1 : Nat.blt σ.nb (σ.nb + 2) = true := by rw [Nat.blt_eq]; omega
   have hj1 : Nat.blt (σ.nb + 1) (σ.nb + 2) = true := by rw [Nat.blt_eq]; omega
   have hn : Nat.blt σ.nb σ.nb = false := by
    cases hb : Nat.blt σ.nb σ.nb with
    | false => rfl
    | true => rw [Nat.blt_eq] at hb; omega
   have b0 : Nat.beq σ.nb 0 = false := beq_ne (by omega)
   have b1 : Nat.beq σ.nb 1 = false := beq_ne (by omega)
   have b2 : Nat.beq σ.nb σ.nb = true := Nat.beq_refl _
   have b3 : Nat.beq (σ.nb + 1) (σ.nb + 1) = true := Nat.beq_refl _
   have b4 : Nat.beq 0 1 = false := rfl
   have b5 : Nat.beq 1 0 = false := rfl
   simp [efB, eqs, modsLt, oldB, keysB, nodupB, SV.lt, nin, e0, e1, Blk.live, Blk.lt, SV.lts, h01, h11, h02, h12, h22, hi1, hj1, hn, lts_append (tbS_lt _ _ _) (tbS_lt _ _ _), b0, b1, b2, b3, b4, b5]
 · simp only [List.mem_cons, List.not_mem_nil, or_false] at hk
   rcases hk with rfl | rfl
   · exact ⟨_, List.mem_cons_self⟩
   · exact ⟨_, List.mem_cons_of_mem _ List.mem_cons_self⟩
 · have hsub : ∀ b, (∃ j bk, lk (plM h p) j = some bk ∧ β j = b) → ∃ k ∈ [0, 1], (∃ bk, lk σ.m k = some bk ∧ bk.live = true) ∧ β k = b := fun b ⟨j, bk, hj, hb⟩ => by
    rcases plM_lk hj with ⟨rfl, rfl⟩ | ⟨rfl, rfl⟩
    · exact ⟨0, by simp, ⟨_, e0, rfl⟩, hb⟩
    · exact ⟨1, by simp, ⟨_, e1, rfl⟩, hb⟩
   refine (chain_ok h p i a b te l hh hl hln ha hb hS (plOK_of e0 e1 h1 h2 fun w' hc => hrd w' (hst w' (Chg.sub hc hsub)))).mono fun e w' ⟨bb, d, q1, q2, q3, q4, q5⟩ => ⟨bb, d, q1, q2, Chg.sub q3 fun b hb => ?_, fun k bk hk => ?_, q5⟩
   · obtain ⟨k, hk, _, hkb⟩ := hsub b hb
     exact ⟨k, hk, hkb⟩
   · simp only [plM, List.mem_cons, Prod.mk.injEq, List.not_mem_nil, or_false] at hk
     rcases hk with ⟨rfl, rfl⟩ | ⟨rfl, rfl⟩
     · exact q4 0 _ rfl
     · exact q4 1 _ rfl
theorem plC_A {h : PH} {p : Pn} {β : Nat → Nat} {k : Nat} (hk : k < 320) : (SV.cs β (plC h p))[7 + k]? = some (iv (p.A k)) := by
 rw [cs_getElem?, show (plC h p)[7 + k]? = (tbS 320 p.A ++ tbS 320 p.B)[k]? from by rw [Nat.add_comm]; rfl, List.getElem?_append_left (by rw [tbS_len]; exact hk), tbS_at, if_pos hk]; rfl
theorem plC_B {h : PH} {p : Pn} {β : Nat → Nat} {k : Nat} (hk : k < 320) : (SV.cs β (plC h p))[327 + k]? = some (iv (p.B k)) := by
 rw [cs_getElem?, show (plC h p)[327 + k]? = (tbS 320 p.A ++ tbS 320 p.B)[320 + k]? from by rw [show 327 + k = 320 + k + 7 from by omega]; rfl, List.getElem?_append_right (by rw [tbS_len]; omega), tbS_len, Nat.add_sub_cancel_left, tbS_at, if_pos hk]; rfl
def rwF (f : Nat → Int) (g z : Nat) : List Int := (List.range z).map fun s => f (g * 40 + s)
theorem rwF_len (f : Nat → Int) (g z : Nat) : (rwF f g z).length = z := by simp [rwF]
theorem rwF_at (f : Nat → Int) (g z : Nat) {s : Nat} (h : s < z) : (rwF f g z)[s]? = some (f (g * 40 + s)) := by simp [rwF, h]
theorem rowA {h : PH} {p : Pn} {β : Nat → Nat} {w : World} (hb : Blk.ok β w (β 0) (.cells (plC h p) 93)) {g z : Nat} (hg : g < 8) (hz : z ≤ 40) : Rd 1 iF (.slice (some ⟨β 0, 0 + 7 + g * 40, none⟩) (rwF p.A g z).length 40) (rwF p.A g z) w := by
 simp only [Blk.ok] at hb
 refine .inr ⟨_, _, rfl, fun k x hk j v hj => ?_⟩
 match j, hj with
 | 0, hj =>
  simp only [List.getElem?_cons_zero, Option.some.injEq] at hj
  subst hj
  have hkz : k < z := by have := (List.getElem?_eq_some_iff.1 hk).1; rw [rwF_len] at this; exact this
  rw [rwF_at _ _ _ hkz, Option.some.injEq] at hk
  subst hk
  rw [Nat.mul_one, own_add, own_add, cell_of_row w (β 0) (0 + 7 + g * 40 + k + 0) _ 93 (0, 0) hb, List.getElem?_toArray, show 0 + 7 + g * 40 + k + 0 = 7 + (g * 40 + k) from by omega, plC_A (by omega)]
theorem rowB {h : PH} {p : Pn} {β : Nat → Nat} {w : World} (hb : Blk.ok β w (β 0) (.cells (plC h p) 93)) {g z : Nat} (hg : g < 8) (hz : z ≤ 40) : Rd 1 iF (.slice (some ⟨β 0, 0 + 327 + g * 40, none⟩) (rwF p.B g z).length 40) (rwF p.B g z) w := by
 simp only [Blk.ok] at hb
 refine .inr ⟨_, _, rfl, fun k x hk j v hj => ?_⟩
 match j, hj with
 | 0, hj =>
  simp only [List.getElem?_cons_zero, Option.some.injEq] at hj
  subst hj
  have hkz : k < z := by have := (List.getElem?_eq_some_iff.1 hk).1; rw [rwF_len] at this; exact this
  rw [rwF_at _ _ _ hkz, Option.some.injEq] at hk
  subst hk
  rw [Nat.mul_one, own_add, own_add, cell_of_row w (β 0) (0 + 327 + g * 40 + k + 0) _ 93 (0, 0) hb, List.getElem?_toArray, show 0 + 327 + g * 40 + k + 0 = 327 + (g * 40 + k) from by omega, plC_B (by omega)]
theorem ix_rw {f : Nat → Int} {g z a : Nat} (ha : a < z) (h1 : f (g * 40 + a) = -1) (h2 : ∀ s, s < a → f (g * 40 + s) ≠ -1) : ixN (eqL (rwF f g z) (-1)) (rwF f g z).length = a := by
 have key : ∀ s, s < z → eqL (rwF f g z) (-1) s = decide (f (g * 40 + s) = -1) := fun s hs => by
  unfold eqL
  rw [List.getD_eq_getElem?_getD, rwF_at _ _ _ hs, Option.getD_some]
  by_cases h : f (g * 40 + s) = -1
  · rw [h]; rfl
  · rw [decide_eq_false h]; simpa using h
 refine ixN_hit (fun s hs => ?_) ?_ (by rw [rwF_len]; exact ha)
 · rw [key s (by omega)]; exact decide_eq_false (h2 s hs)
 · rw [key a ha]; exact decide_eq_true h1
theorem place_ok (h : PH) (p p' : Pn) (i z a b : Nat) (x : Ln) (hh : PhOK h) (hi : h.L[i]? = some x) (hz : h.sl = z) (hz40 : z ≤ 40) (hSi : p.S i = -1)
 (ha : a < z) (hb : b < z) (hga1 : p.A (x.g.toNat * 40 + a) = -1) (hga2 : ∀ s, s < a → p.A (x.g.toNat * 40 + s) ≠ -1) (htb1 : p.B (x.t.toNat * 40 + b) = -1) (htb2 : ∀ s, s < b → p.B (x.t.toNat * 40 + s) ≠ -1)
 (hk : (p.B (tAt x a) = -1 ∧ p' = putF x p i a) ∨ ∃ (k : Nat) (l : List Nat), p.B (tAt x a) = (k : Int) ∧ p.S k = a ∧ ChL h.L p ((a : Int) + b) k (k :: l) (p.S k) false ∧ (k :: l).Nodup ∧ (∀ j ∈ k :: l, p.S j = a ∨ p.S j = b) ∧ p' = putF x (turnF h.L ((a : Int) + b) (k :: l) p) i a) :
 PlTo 40 [.ptr 0 0, .v (iv i)] h p p' := by
 intro β w hp
 have hput := fun (p' : Pn) (s : Int) => put_to h p' i x s hh hi
 have hcT := fun (σ : Sg) (rs : List Nat) (K : Ef → Prop) (KF : Option KT) (l : List Nat) (ii jj m : Nat) => callTurn (σ := σ) (rs := rs) (K := K) (KF := KF) h p a b l ii jj m hh
 have hcC := fun (σ : Sg) (rs : List Nat) (K : Ef → Prop) (KF : Option KT) (nb k : Nat) (l : List Nat) => callChain (σ := σ) (rs := rs) (K := K) (KF := KF) nb h p k a b false l hh
 obtain ⟨hok, hinj, hst⟩ := hp
 obtain ⟨hn, hnl, hx⟩ := hh
 obtain ⟨sl, ro, su, gs, ts, lo, n, lc, L⟩ := h
 dsimp only at hn hnl hx hi hst hz hk
 subst hz
 have hin := (List.getElem?_eq_some_iff.1 hi).1
 obtain ⟨hg1, hg2, ht1, ht2⟩ := hx x (List.mem_of_getElem? hi)
 have hrd0 := hst w (Chg.refl _ _)
 rw [← hn] at hrd0
 obtain ⟨_, ad, rfl, _⟩ := hrd0.ptr (by omega)
 have c44a : ∀ (β : Nat → Nat) (w' : World), Blk.ok β w' (β 0) (.cells (plC ⟨z, ro, su, gs, ts, some ad, n, lc, L⟩ p) 93) → Calls Tryz.prog 44 #[.slice (some ⟨β 0, 0 + 7 + x.g.toNat * 40, none⟩) z 40, iv (-1)] w' fun e w2 => e = .returned (iv (a : Int)) ∧ Below w'.heap.size w' w2 := fun β w' hbk => by
  have := Index_ok (rwF p.A x.g.toNat z) _ 40 (-1) w' (rowA hbk (by omega) hz40) (by rw [rwF_len]; omega)
  rw [ix_rw ha hga1 hga2, rwF_len] at this
  exact this
 have c44b : ∀ (β : Nat → Nat) (w' : World), Blk.ok β w' (β 0) (.cells (plC ⟨z, ro, su, gs, ts, some ad, n, lc, L⟩ p) 93) → Calls Tryz.prog 44 #[.slice (some ⟨β 0, 0 + 327 + x.t.toNat * 40, none⟩) z 40, iv (-1)] w' fun e w2 => e = .returned (iv (b : Int)) ∧ Below w'.heap.size w' w2 := fun β w' hbk => by
  have := Index_ok (rwF p.B x.t.toNat z) _ 40 (-1) w' (rowB hbk (by omega) hz40) (by rw [rwF_len]; omega)
  rw [ix_rw hb htb1 htb2, rwF_len] at this
  exact this
 have hga : tAt x (a : Int) = x.t.toNat * 40 + (a : Int).toNat := rfl
 refine calls_WS env mixed Tryz.func40 has40 Tryz.ntmps40 [.ptr 0 0, .v (iv i)] (plM ⟨z, ro, su, gs, ts, some ad, n, lc, L⟩ p) (plM ⟨z, ro, su, gs, ts, some ad, n, lc, L⟩ p') 3 (.tuple #[]) (Nat.le_of_ble_eq_true rfl) rfl (mPl _ _) (mPl _ _) livePl (Hp := fun w' => Rd 3 Ln.cs (.slice (some ad) L.length lc) L w') (fun h hh => ?_) hok hinj (fun w' hc => by rw [hn]; exact hst w' hc)
 have e1 := fun (w' : World) (hw' : h w') => rd_atz (hh w' hw') hi (i : Int) rfl
 have hrd := fun (w' : World) (hw' : h w') => (by have := hh w' hw'; rw [hn] at this; exact this : Rd 3 Ln.cs (.slice (some ad) n lc) L w')
 dsimp only [plM, plC]
 rcases hk with ⟨hk1, rfl⟩ | ⟨k, l, hk1, hSk, hch, hnd, hSl, rfl⟩
 · have hP := hput p a (by omega) (by omega)
   repeat'
    conv => whnf
    first
     |refine zA ?_|refine zB ?_|refine zC ?_|refine zD ?_|refine zG ?_|refine splF ?_
     |refine eL (Ln.cs x) ⟨⟨rfl, fun w' hw' => e1 w' hw'⟩, ?_⟩
     |refine nlC rfl rfl ?_
     |(with_reducible show OpEvS _ _ _ _ _ _); refine slP env (z := z) rfl rfl rfl rfl (by omega) rfl ?_
     |((with_reducible show CallEv _ _ 44 [.sl 0 (0 + 7 + _) _ _, _] _ _ _ _); refine callM (k := 44) [0] (fun β w' hbk hbw => c44a β w' (hbk 0 (by simp) _ rfl)) ?_)
     |((with_reducible show CallEv _ _ 44 [.sl 0 (0 + 327 + _) _ _, _] _ _ _ _); refine callM (k := 44) [0] (fun β w' hbk hbw => c44b β w' (hbk 0 (by simp) _ rfl)) ?_)
     |refine drBv (k := tAt x a) (by rw [hga]; show 0 + 327 + x.t.toNat * 40 + (a : Int).toNat * 1 = _; omega) (by rw [hga]; omega) hk1 ?_
     |(with_reducible show CallEv _ _ 89 ..); refine callPl ⟨z, ro, su, gs, ts, some ad, n, lc, L⟩ p (putF x p i a) hP rfl rfl (Nat.le_of_ble_eq_true rfl) hrd ?_
   conv => whnf
   exact ⟨fun β => rfl, ⟨rfl, rfl, trivial⟩, fun _ h => h, rfl⟩
 · have hkl := hch.lt k List.mem_cons_self
   have hcl : (k :: l).length ≤ n := by
    rw [← hn]
    have h1 := List.Nodup.length_le_of_subset hnd (l₂ := List.range L.length) (fun j hj => List.mem_range.2 (hch.lt j hj))
    simpa using h1
   have hTS : (turnF L ((a : Int) + b) (k :: l) p).S i = -1 := by
    unfold turnF
    rw [onF_S, offF_S]
    have hni : i ∉ k :: l := fun hm => by have := hSl i hm; omega
    rw [if_neg hni, if_neg hni]
    exact hSi
   have hP := hput (turnF L ((a : Int) + b) (k :: l) p) a (by omega) (by omega)
   have hlen2 : (k :: l).length = (nI (k :: l)).length := by simp [nI]
   repeat'
    conv => whnf
    first
     |refine zA ?_|refine zB ?_|refine zC ?_|refine zD ?_|refine zG ?_|refine splT ?_
     |refine eL (Ln.cs x) ⟨⟨rfl, fun w' hw' => e1 w' hw'⟩, ?_⟩
     |refine nlC rfl rfl ?_
     |(with_reducible show OpEvS _ _ _ _ _ _); refine slP env (z := z) rfl rfl rfl rfl (by omega) rfl ?_
     |((with_reducible show CallEv _ _ 44 [.sl 0 (0 + 7 + _) _ _, _] _ _ _ _); refine callM (k := 44) [0] (fun β w' hbk hbw => c44a β w' (hbk 0 (by simp) _ rfl)) ?_)
     |((with_reducible show CallEv _ _ 44 [.sl 0 (0 + 327 + _) _ _, _] _ _ _ _); refine callM (k := 44) [0] (fun β w' hbk hbw => c44b β w' (hbk 0 (by simp) _ rfl)) ?_)
     |refine drBv (k := tAt x a) (by rw [hga]; show 0 + 327 + x.t.toNat * 40 + (a : Int).toNat * 1 = _; omega) (by rw [hga]; omega) hk1 ?_
     |(with_reducible show CallEv _ _ 88 ..); refine hcC _ _ _ _ 4 k l hch hcl (by omega) (by omega) (.inl hSk) rfl rfl rfl (by decide) hrd ?_
     |(with_reducible show CallEv _ _ 87 ..); refine hcT _ _ _ _ (k :: l) 4 5 _ hnd (fun j hj => hch.lt j hj) hSl (by omega) (by omega) rfl rfl rfl rfl ⟨by decide, by show (4 : Nat) < 6; decide⟩ (by show (5 : Nat) < 6; decide) hrd ?_
     |(with_reducible show CallEv _ _ 89 ..); refine callPl ⟨z, ro, su, gs, ts, some ad, n, lc, L⟩ (turnF L ((a : Int) + b) (k :: l) p) (putF x (turnF L ((a : Int) + b) (k :: l) p) i a) hP rfl rfl (Nat.le_of_ble_eq_true rfl) hrd ?_
   conv => whnf
   exact ⟨fun β => rfl, ⟨rfl, rfl, trivial⟩, fun _ h => h, rfl⟩
def cntS (S : Nat → Int) : Nat → Nat → Int
 | 0, _ => 0
 | n + 1, t => cntS S n t + if S n = t then 1 else 0
theorem cntS_bd (S : Nat → Int) : ∀ n t, 0 ≤ cntS S n t ∧ cntS S n t ≤ n
 | 0, t => by simp [cntS]
 | n + 1, t => by
  have := cntS_bd S n t
  rw [cntS]
  split <;> omega
theorem counts_ok (h : PH) (p : Pn) (z : Nat) (hh : PhOK h) (hz : h.sl = z) (hz40 : z ≤ 40) (hS : ∀ i, i < h.n → 0 ≤ p.S i ∧ p.S i < z) {β : Nat → Nat} {w : World} (hp : PlOK h p β w) :
 Calls Tryz.prog 41 (SV.cs β [.ptr 0 0]).toArray w fun e w' => ∃ bb d, e = .returned (.slice (some ⟨bb, 0, none⟩) z d) ∧ w.heap.size ≤ bb ∧ Chg (fun b => ∃ j bk, lk (plM h p) j = some bk ∧ β j = b) w w' ∧ (∀ j b, lk (plM h p) j = some b → b.ok β w' (β j)) ∧ w'.ownsRow 0 3 1 (.slice (some ⟨bb, 0, none⟩) z d) z (tbV z fun t => cntS p.S h.n t) := by
 obtain ⟨hok, hinj, hst⟩ := hp
 obtain ⟨hn, hnl, hx⟩ := hh
 obtain ⟨sl, ro, su, gs, ts, lo, n, lc, L⟩ := h
 dsimp only at hn hnl hx hst hz hS
 subst hz
 obtain ⟨S, A, B⟩ := p
 dsimp only at hS
 refine calls_WO env mixed Tryz.func41 has41 Tryz.ntmps41 [.ptr 0 0] (plM ⟨z, ro, su, gs, ts, lo, n, lc, L⟩ ⟨S, A, B⟩) (plM ⟨z, ro, su, gs, ts, lo, n, lc, L⟩ ⟨S, A, B⟩) 3 _ 1 _ 3 (Nat.le_of_ble_eq_true rfl) rfl (mPl _ _) (mPl _ _) livePl (fun j b hj => ⟨b, hj, livePl j b hj⟩) (Hp := fun w' => Rd 3 Ln.cs (.slice lo n lc) L w') (fun h hh => ?_) hok hinj hst
 dsimp only [plM, plC]
 refine VC.of env mixed ?_
 repeat'
  conv => whnf
  first
   |refine zB ?_
   |refine nlC rfl rfl ?_
   |refine mkO1 env 3 z (tbV z fun _ => 0) rfl rfl rfl (by decide) rfl (by omega) (by decide) (mk0 _) rfl ?_
 conv => whnf
 refine loopN 5 (fun k : Nat => [(0, .ptr 0 0), (3, .os 3 4 z), (15, .os 1 2 n), (16, .v (iv n)), (17, .v (iv k))]) (fun k => [(0, .cells (.v (iv z) :: .v (iv ro) :: .v (iv su) :: .v gs :: .v ts :: .v (.slice lo n lc) :: .os 1 2 n :: (tbS 320 A ++ tbS 320 B)) 93), (1, .own 2 n 1 (tbV n S) 3), (3, .own 4 z 1 (tbV z fun t => cntS S k t) 3)]) (fun k => k ≤ n) (fun k => n - k) 0 (Nat.zero_le _) ⟨rfl, rfl, rfl, rfl, rfl, trivial⟩ ⟨rfl, rfl, rfl, trivial⟩ (fun k _ => ⟨rfl, ?_⟩) ?_
 · exact mB_app (m := plM ⟨z, ro, su, gs, ts, lo, n, lc, L⟩ ⟨S, A, B⟩) (mB_up (mPl _ _) (by decide)) rfl
 · intro k hk
   rcases Nat.lt_or_ge k n with hkn | hkn
   · have hSk := hS k hkn
     obtain ⟨t, ht⟩ : ∃ t : Nat, S k = t := ⟨(S k).toNat, by omega⟩
     have htz : t < z := by omega
     have hbd := cntS_bd S k t
     have hup := tbV_setE (n := z) (o := (t : Int).toNat * 1) (p := t) (fun t => cntS S k t) (cntS S k t + 1) (by omega) htz
     have hst : tbV z (fun t => cntS S (k + 1) t) = tbV z (updF (fun t => cntS S k t) t (cntS S k t + 1)) := by
      congr 1
      funext u
      unfold updF
      rw [cntS]
      by_cases hu : u = t
      · subst hu; rw [if_pos ht, if_pos rfl]
      · rw [if_neg hu, if_neg (by omega)]; exact Int.add_zero _
     have hro : ∀ (j : Nat) (v : Value), [iv (t : Int)][j]? = some v → (tbV n S)[(k : Int).toNat * 1 + j]? = some v := by
      rw [← ht]; exact tbV_one (by omega) S hkn
     have hr2 : ∀ (j : Nat) (v : Value), [iv (cntS S k t)][j]? = some v → (tbV z fun t => cntS S k t)[(t : Int).toNat * 1 + j]? = some v := tbV_one (by omega) (fun t => cntS S k t) htz
     generalize cntS S k t = C at *
     repeat'
      conv => whnf
      first
       |refine zC ?_|refine zF ?_|refine zG ?_
       |(refine splD ?_ ?_ <;> intro hc <;> first|(exfalso; omega)|skip)
       |refine eL [iv (t : Int)] ⟨⟨rfl, hro⟩, ?_⟩
       |refine eL [iv C] ⟨⟨rfl, hr2⟩, ?_⟩
       |refine And.intro (a := (_ : Nat) ≤ (tbV _ _).length) (by rw [tbV_len]; show (t : Int).toNat * 1 + 1 ≤ z; omega) ?_
     conv => whnf
     exact ⟨k + 1, by omega, by omega, Ent.weak rfl ⟨rfl, rfl, rfl, rfl, rfl, trivial⟩ ⟨rfl, rfl, by rw [hst, hup]; rfl, trivial⟩ fun _ h => h⟩
   · obtain rfl : k = n := by omega
     repeat'
      conv => whnf
      first
       |(refine splD ?_ ?_ <;> intro hc <;> first|(exfalso; omega)|skip)
     conv => whnf
     exact ⟨3, 4, ⟨by decide, rfl, rfl⟩, ⟨rfl, rfl, trivial⟩, fun _ h => h, rfl⟩
end Go.Proofs.YtkbfcofifhngfaaGreat
