/- The engine, part 14: code that is right from a state on, said of runs; cuts between statements; calls of functions by it. -/
import Derived.Test.YtlehjapeomallaaTm
namespace Go.Proofs.Ytlehjapeomallaa.Tx
open Go Go.RowKit
set_option linter.unusedVariables false
set_option linter.unusedSimpArgs false

/-- From the state the code comes to an end of which Φ holds, in whatever company. -/
def VC (P : Program) (c : Code) (σ : Sg) (Φ : Exit → Sg → Prop) : Prop :=
  ∀ (F : Fence) (n : Nat) (X : Cx) (a : Act) (w : World), Wd F → (∀ l, F.round = some l → ∃ r, (l, r) ∈ X.L) → σ.Ok → Sat X σ a w → c.wpIn F n P (QΦ X Φ) a w

section
variable {P : Program} (T : Env P)
theorem VC.of (hm : P.follows .mixedOrders = true) {c : Code} {σ : Sg} {Φ : Exit → Sg → Prop} (h : vc T c σ Φ) : VC P c σ Φ :=
  fun F n X a w hF hlp hσ hs => vc_sound T hF hlp hm c σ Φ a w hσ h hs
theorem VC.ent {c : Code} {σ σ' : Sg} {Φ : Exit → Sg → Prop} (h : VC P c σ' Φ) (he : Ent σ σ') (ho : σ'.Ok) : VC P c σ Φ :=
  fun F n X a w hF hlp _ hs => h F n X a w hF hlp ho (he X a w hs)
theorem VC.mono {c : Code} {σ : Sg} {Φ Φ' : Exit → Sg → Prop} (h : VC P c σ Φ) (hi : ∀ e σ', Φ e σ' → Φ' e σ') : VC P c σ Φ' :=
  fun F n X a w hF hlp hσ hs => wpIn_mono (h F n X a w hF hlp hσ hs) fun _ _ _ ⟨σ', h1, h2, h3⟩ => ⟨σ', hi _ _ h1, h2, h3⟩
theorem VC.seq {a b : Code} {σ : Sg} {Φ : Exit → Sg → Prop} {f : Sg → Prop} (h : VC P a σ (seqΦ f Φ)) (hb : ∀ σ', f σ' → VC P b σ' Φ) : VC P (.seq a b) σ Φ := by
  intro F n X ac w hF hlp hσ hs
  refine wpIn_seq (wpIn_mono (h F n X ac w hF hlp hσ hs) fun e a' w' hq => ?_)
  obtain ⟨σ', h1, h2, h3⟩ := hq
  cases e with
  | normal => exact hb σ' h1 F n X a' w' hF hlp h2 h3
  | _ => exact ⟨σ', h1, h2, h3⟩

/-- Some statements evaluated, then what is said of the rest. -/
def vcTo : Nat → Code → Sg → (Code → Sg → Prop) → (Exit → Sg → Prop) → Prop
  | n + 1, .seq a b, σ, f, Φ => vc T a σ (seqΦ (fun σ' => vcTo n b σ' f Φ) Φ)
  | _, c, σ, f, _ => f c σ
theorem vcTo_VC (hm : P.follows .mixedOrders = true) {Φ : Exit → Sg → Prop} {f : Code → Sg → Prop} (hf : ∀ c σ, f c σ → VC P c σ Φ) : ∀ (n : Nat) (c : Code) (σ : Sg), vcTo T n c σ f Φ → VC P c σ Φ
  | 0, c, σ, h => hf c σ (by cases c <;> exact h)
  | n + 1, c, σ, h => by
    cases c with
    | seq a b => exact VC.seq (VC.of T hm h) fun σ' hσ' => vcTo_VC hm hf n b σ' hσ'
    | _ => exact hf _ σ h
/-- What is left of a row of statements. -/
def rest : Nat → Code → Code
  | n + 1, .seq _ b => rest n b
  | _, c => c

/-- **A CUT**: behind so many statements one of a family of states holds; from each of these the rest is right. -/
theorem VC.cut (hm : P.follows .mixedOrders = true) {α : Type} (n : Nat) (I : α → Sg) (pre : α → Prop) {c : Code} {σ : Sg} {Φ : Exit → Sg → Prop}
    (h : vcTo T n c σ (fun c' σ' => c' = rest n c ∧ ∃ x, pre x ∧ Ent σ' (I x)) Φ) (hr : ∀ x, pre x → (I x).Ok ∧ VC P (rest n c) (I x) Φ) : VC P c σ Φ :=
  vcTo_VC T hm (fun c' σ' ⟨hc, x, hx, he⟩ => by
    subst hc
    exact (hr x hx).2.ent he (hr x hx).1) n c σ h

/-- `VC.cut` at a state in pieces: the slots and own blocks that are known behind so many statements. -/
theorem VC.cutE (hm : P.follows .mixedOrders = true) {nt nb0 : Nat} {t0 : List (Nat × SV)} {m0 : List (Nat × Blk)} {h : World → Prop} {z : Gz} {α : Type} (n nb : Nat) (t : α → List (Nat × SV)) (m : α → List (Nat × Blk)) (pre : α → Prop) {c : Code} {Φ : Exit → Sg → Prop}
    (hok : ∀ x, pre x → tB nt nb (t x) = true ∧ mB nb (m x) = true)
    (hv : vcTo T n c ⟨nt, t0, m0, nb0, h, z⟩ (fun c' σ' => c' = rest n c ∧ ∃ x, pre x ∧ Ent σ' ⟨nt, t x, m x, nb, h, z⟩) Φ) (hr : ∀ x, pre x → VC P (rest n c) ⟨nt, t x, m x, nb, h, z⟩ Φ) (hz : gB nb z.g = true := by rfl) : VC P c ⟨nt, t0, m0, nb0, h, z⟩ Φ :=
  VC.cut T hm n (fun x => ⟨nt, t x, m x, nb, h, z⟩) pre hv fun x hx => ⟨okB (hok x hx).1 (hok x hx).2 hz, hr x hx⟩

/-- THE CALL OF A FUNCTION. σ0's slots are the arguments. -/
theorem calls_VC (hm : P.follows .mixedOrders = true) {k : Nat} {fn : Func} {c : Code} (hfn : P.funcs[k]? = some fn) (hb : fn.body = some c) {nt : Nat} (hnt : fn.ntmps = nt) {args : List SV} {m0 : List (Nat × Blk)} {nb0 : Nat} {h : World → Prop} {z0 : Gz}
    {K : SV → Sg → Prop} (hlen : args.length ≤ nt) (hargs : SV.lts nb0 args = true) (hm0 : ∀ i b, lk m0 i = some b → i < nb0 ∧ b.lt nb0 = true) (hg0 : ∀ k s, lk z0.g k = some s → s.lt nb0 = true)
    (hvc : VC P c ⟨nt, slotsOf 0 args, m0, nb0, h, z0⟩ (endΦ T fn K))
    {β : Nat → Nat} {D : Nat → Prop} {w : World} (X : Cx) (hamb : Amb X z0 β D w) (hmem : Mem ⟨nt, slotsOf 0 args, m0, nb0, h, z0⟩ β D w) :
    Calls P k (SV.cs β args).toArray w fun e w' => ∃ s σ' β' D', e = .returned (s.c β') ∧ K s σ' ∧ σ'.Ok ∧ s.lt σ'.nb = true ∧ Mem σ' β' D' w' ∧ Amb X σ'.z β' D' w' := by
  have hok : Sg.Ok ⟨nt, slotsOf 0 args, m0, nb0, h, z0⟩ := by
    refine ⟨⟨fun i s hi => ?_, hg0, hm0⟩, fun i s hi => ?_⟩
    · obtain ⟨_, _, h3⟩ := slotsOf_lk args 0 i s hi
      rw [lts_iff] at hargs
      exact hargs s (List.mem_of_getElem? h3)
    · obtain ⟨_, h2, _⟩ := slotsOf_lk args 0 i s hi
      exact Nat.lt_of_lt_of_le h2 (by simpa using hlen)
  have hlen' : (SV.cs β args).length = args.length := by rw [SV.cs_eq, List.length_map]
  have hsat : Sat X ⟨nt, slotsOf 0 args, m0, nb0, h, z0⟩ { tmps := (SV.cs β args).toArray ++ Array.replicate (fn.ntmps - (SV.cs β args).toArray.size) undef, defers := [] } w := by
    refine ⟨β, D, ⟨[], rfl, List.nodup_nil, fun d hd => (by cases hd)⟩, ?_, fun i s hi => ?_, hmem.m, hmem.inj, hmem.out, hmem.dlt, hmem.h, hamb⟩
    · simp only [Array.size_append, List.size_toArray, Array.size_replicate, hlen', hnt]
      omega
    · obtain ⟨_, h2, h3⟩ := slotsOf_lk args 0 i s hi
      simp only [Nat.sub_zero, Nat.zero_add] at h2 h3
      simp only [Array.getD_eq_getD_getElem?]
      rw [Array.getElem?_append_left (by simp only [List.size_toArray, hlen']; exact h2)]
      rw [List.getElem?_toArray, cs_getElem?, h3]
      rfl
  refine callsIn_wide.1 (callsIn_of_wp_marks (n := 0) hfn hb trivial (wpIn_mono (hvc _ 0 X _ w (.inl rfl) (fun l h => by cases h) hok hsat) fun e a' w' hq => ?_) rfl)
  obtain ⟨σ', h1, h2, β', D', h3⟩ := hq
  have close : (resK T σ' fn.results.toList fun l => oneK l fun s => K s σ') → LeavesInM Fence.wide 0 P fn a'.tmps (fun e w' => ∃ s σ' β' D', e = .returned (s.c β') ∧ K s σ' ∧ σ'.Ok ∧ s.lt σ'.nb = true ∧ Mem σ' β' D' w' ∧ Amb X σ'.z β' D' w') a'.defers .returning w' := fun hr => by
    obtain ⟨s, q1, q2, q3⟩ := results_run T (D := D') h3.t h2 hr
    obtain ⟨l, l1, l2, l3⟩ := h3.defers
    rw [l1]
    exact leaves_dfr (D := D') (pr := X.pr) (Z := fun w2 => Mem σ' β' D' w2 ∧ Amb X σ'.z β' D' w2) (fun w2 hz => q3 w2 hz.1)
      (fun w2 hz => ⟨s, σ', β', D', rfl, q1, h2, q2, hz.1, hz.2⟩) (fun w2 d hz hd hD hp => ⟨hz.1.turn _ hd (fun _ _ _ h => by cases h) hD, hz.2.shut hd hp⟩) l w' ⟨h3.mem, h3.amb⟩ l2 l3
  cases e with
  | normal => exact close h1
  | ret => exact close h1
  | _ => exact h1.elim


end

theorem calls_pureV {P : Program} (T : Env P) (hm : P.follows .mixedOrders = true) {k : Nat} {fn : Func} {c : Code} (hfn : P.funcs[k]? = some fn) (hb : fn.body = some c) {nt : Nat} (hnt : fn.ntmps = nt) (args : List Value)
    (hlen : args.length ≤ nt) {w : World} {V : Value → Prop}
    (hvc : VC P c ⟨nt, slotsOf 0 (args.map .v), [], 0, Below w.heap.size w, z0⟩ (endΦ T fn fun s σ => (∀ β, V (s.c β)) ∧ ∀ w', σ.h w' → Below w.heap.size w w')) :
    Calls P k args.toArray w fun e w' => ∃ v, e = .returned v ∧ V v ∧ Below w.heap.size w w' := by
  have h0 : Mem ⟨nt, slotsOf 0 (args.map .v), [], 0, Below w.heap.size w, z0⟩ (fun _ => 0) (fun b => b < w.heap.size) w :=
    ⟨fun i b h => (by simp [lk] at h), fun i j bi bj h => (by simp [lk] at h), fun i b h => (by simp [lk] at h), fun b h => h,
     fun w' hc => ⟨hc.os, hc.tape, hc.output, hc.size, fun b hb => hc.same b hb (fun h => h hb)⟩⟩
  have h1 := calls_VC T hm hfn hb hnt (args := args.map .v) (m0 := []) (nb0 := 0) (h := Below w.heap.size w) (K := fun s σ => (∀ β, V (s.c β)) ∧ ∀ w', σ.h w' → Below w.heap.size w w') (by simpa using hlen) (lts_v _ _) (fun i b h => by simp [lk] at h) (fun k s h => by simp [z0, lk] at h) hvc cx0 (amb0 _ _ _) h0
  rw [cs_v] at h1
  exact h1.mono fun e w' ⟨s, σ', β', D', he, hv, _, _, hmem, _⟩ => ⟨_, he, hv.1 β', hv.2 w' (hmem.h w' (Chg.refl _ _))⟩

theorem calls_valV {P : Program} (T : Env P) (hm : P.follows .mixedOrders = true) {k : Nat} {fn : Func} {c : Code} (hfn : P.funcs[k]? = some fn) (hb : fn.body = some c) {nt : Nat} (hnt : fn.ntmps = nt) (args : List Value)
    (hlen : args.length ≤ nt) {w : World} {v : Value}
    (hvc : VC P c ⟨nt, slotsOf 0 (args.map .v), [], 0, Below w.heap.size w, z0⟩ (endΦ T fn fun s σ => (∀ β, s.c β = v) ∧ ∀ w', σ.h w' → Below w.heap.size w w')) :
    Calls P k args.toArray w fun e w' => e = .returned v ∧ Below w.heap.size w w' :=
  (calls_pureV T hm hfn hb hnt args hlen (V := fun x => x = v) hvc).mono fun _ _ ⟨_, he, hv, hb⟩ => ⟨by rw [he, hv], hb⟩

/-- A function whose result lies in memory that it has made. -/
theorem calls_famV {P : Program} (T : Env P) (hm : P.follows .mixedOrders = true) {k : Nat} {fn : Func} {c : Code} (hfn : P.funcs[k]? = some fn) (hb : fn.body = some c) {nt : Nat} (hnt : fn.ntmps = nt) (args : List Value)
    (hlen : args.length ≤ nt) {w : World} {α : Type} {V : α → Value} {hx : α → World → Prop}
    (hvc : VC P c ⟨nt, slotsOf 0 (args.map .v), [], 0, Below w.heap.size w, z0⟩ (endΦ T fn fun s σ => (∀ w', σ.h w' → Below w.heap.size w w') ∧ ∀ β w', σ.h w' →
      (∀ i b, lk σ.m i = some b → b.live = true → St w.heap.size (fun w2 => b.ok β w2 (β i)) w') → ∃ x, s.c β = V x ∧ St w.heap.size (hx x) w')) :
    Calls P k args.toArray w fun e w' => ∃ x, e = .returned (V x) ∧ Below w.heap.size w w' ∧ St w.heap.size (hx x) w' := by
  have h0 : Mem ⟨nt, slotsOf 0 (args.map .v), [], 0, Below w.heap.size w, z0⟩ (fun _ => 0) (fun b => b < w.heap.size) w :=
    ⟨fun i b h => (by simp [lk] at h), fun i j bi bj h => (by simp [lk] at h), fun i b h => (by simp [lk] at h), fun b h => h,
     fun w' hc => ⟨hc.os, hc.tape, hc.output, hc.size, fun b hb => hc.same b hb (fun h => h hb)⟩⟩
  have h1 := calls_VC T hm hfn hb hnt (args := args.map .v) (m0 := []) (nb0 := 0) (h := Below w.heap.size w) (by simpa using hlen) (lts_v _ _) (fun i b h => by simp [lk] at h) (fun k s h => by simp [z0, lk] at h) hvc cx0 (amb0 _ _ _) h0
  rw [cs_v] at h1
  refine h1.mono fun e w' ⟨s, σ', β', D', he, hv, _, _, hmem, _⟩ => ?_
  have hh := hmem.h w' (Chg.refl _ _)
  have hB := hv.1 w' hh
  obtain ⟨x, h2, h3⟩ := hv.2 β' w' hh fun i b hi hl w2 hk => Blk.keep hl (hmem.m i b hi) (Nat.le_of_not_lt fun hlt => hmem.out i b hi hl (hmem.old hv.1 hlt)) hk
  exact ⟨x, by rw [he, h2], hB, h3⟩

/-- `calls_famV`, with the places of own blocks told to be new. -/
theorem calls_fam2V {P : Program} (T : Env P) (hm : P.follows .mixedOrders = true) {k : Nat} {fn : Func} {c : Code} (hfn : P.funcs[k]? = some fn) (hb : fn.body = some c) {nt : Nat} (hnt : fn.ntmps = nt) (args : List Value)
    (hlen : args.length ≤ nt) {w : World} {R : Ending → World → Prop}
    (hvc : VC P c ⟨nt, slotsOf 0 (args.map .v), [], 0, Below w.heap.size w, z0⟩ (endΦ T fn fun s σ => (∀ w', σ.h w' → Below w.heap.size w w') ∧ ∀ β w', σ.h w' → Below w.heap.size w w' →
      (∀ i b, lk σ.m i = some b → b.live = true → w.heap.size ≤ β i ∧ b.ok β w' (β i)) → R (.returned (s.c β)) w')) :
    Calls P k args.toArray w R := by
  have h0 : Mem ⟨nt, slotsOf 0 (args.map .v), [], 0, Below w.heap.size w, z0⟩ (fun _ => 0) (fun b => b < w.heap.size) w :=
    ⟨fun i b h => (by simp [lk] at h), fun i j bi bj h => (by simp [lk] at h), fun i b h => (by simp [lk] at h), fun b h => h,
     fun w' hc => ⟨hc.os, hc.tape, hc.output, hc.size, fun b hb => hc.same b hb (fun h => h hb)⟩⟩
  have h1 := calls_VC T hm hfn hb hnt (args := args.map .v) (m0 := []) (nb0 := 0) (h := Below w.heap.size w) (by simpa using hlen) (lts_v _ _) (fun i b h => by simp [lk] at h) (fun k s h => by simp [z0, lk] at h) hvc cx0 (amb0 _ _ _) h0
  rw [cs_v] at h1
  refine h1.mono fun e w' ⟨s, σ', β', D', he, hv, _, _, hmem, _⟩ => ?_
  have hh := hmem.h w' (Chg.refl _ _)
  subst he
  exact hv.2 β' w' hh (hv.1 w' hh) fun i b hi hl => ⟨Nat.le_of_not_lt fun hlt => hmem.out i b hi hl (hmem.old hv.1 hlt), hmem.m i b hi⟩

end Go.Proofs.Ytlehjapeomallaa.Tx
