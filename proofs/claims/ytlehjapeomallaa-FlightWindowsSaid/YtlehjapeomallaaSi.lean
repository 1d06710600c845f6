/- The engine, part 9: the evaluator of code, and that it is right; calls. -/
import Derived.Test.YtlehjapeomallaaSh
import Derived.Deep.LoopGhost
import Derived.Scope
namespace Go.Proofs.Ytlehjapeomallaa.Sx
open Go Go.RowKit

section
variable {P : Program} (T : Env P)

def isG : List Oper → Nat → Bool
  | [], _ => false
  | o :: r, j => (match o.guard with | some (k, _) => Nat.beq k j | none => false) || isG r j

def dstB (o : Oper) (nt : Nat) : Bool :=
  match o.dst with
  | some d => Nat.blt d nt
  | none => true

/-- One operation, its guard looked at. -/
def vO (L0 : List Oper) (o : Oper) (σ : Sg) (K : Ef → Prop) (KF : Option (Value → (World → Prop) → Prop)) : Prop :=
  match o.guard with
  | none => ev T o [] σ K KF
  | some (j, want) => match (L0[j]?).bind (·.dst) with
    | some k => (match lk σ.t k with
      | some (.v (.bool true)) => (match want with | true => ev T o [k] σ K KF | false => K ⟨.v undef, [], [], [k], []⟩)
      | some (.v (.bool false)) => (match want with | false => ev T o [k] σ K KF | true => K ⟨.v undef, [], [], [k], []⟩)
      | some (.v (.tuple _)) => K ⟨.v undef, [], [], [k], []⟩
      | _ => False)
    | none => False

/-- A bool that guards later operations parts the ways. -/
def gSplit (isg : Bool) (E : Ef) (K : Ef → Prop) : Prop :=
  match isg with
  | false => K E
  | true => match E with
    | ⟨.v (.bool b), fr, mods, rs, rb⟩ => (b = true → K ⟨.v (.bool true), fr, mods, rs, rb⟩) ∧ (b = false → K ⟨.v (.bool false), fr, mods, rs, rb⟩)
    | E => K E

def catK : List (Nat × Blk) → List (Nat × Blk) → (List (Nat × Blk) → Prop) → Prop
  | [], m, K => K m
  | x :: r, m, K => catK r m fun l => K (x :: l)
theorem catK_spec : ∀ {l m : List (Nat × Blk)} {K : List (Nat × Blk) → Prop}, catK l m K → K (l ++ m)
  | [], _, _, h => h
  | _ :: r, _, _, h => catK_spec (l := r) h
def cntK : List Nat → Nat → (Nat → Prop) → Prop
  | [], n, K => K n
  | _ :: r, n, K => cntK r (n + 1) K
theorem cntK_spec : ∀ {l : List Nat} {n : Nat} {K : Nat → Prop}, cntK l n K → K (n + l.length)
  | [], _, _, h => h
  | _ :: r, n, K, h => by
    have := cntK_spec (l := r) h
    rw [show n + 1 + r.length = n + (r.length + 1) from by omega] at this
    exact this

def appK : Sg → Option Tmp → Ef → (Sg → Prop) → Prop
  | ⟨nt, t, m, nb, h⟩, dst, ⟨val, fr, mods, _, _⟩, K => catK mods m fun m' => cntK fr nb fun nb' => match dst with
    | some d => K ⟨nt, (d, val) :: t, m', nb', h⟩
    | none => K ⟨nt, t, m', nb', h⟩

theorem appK_spec {σ : Sg} {dst : Option Tmp} {E : Ef} {K : Sg → Prop} (h : appK σ dst E K) : K (σ.app dst E) := by
  have h := cntK_spec (catK_spec h)
  cases dst <;> exact h

def extK : Sg → Option Tmp → Value → (World → Prop) → (Sg → Prop) → Prop
  | ⟨nt, t, m, nb, h⟩, dst, v, hx, K => match dst with
    | some d => K ⟨nt, (d, .v v) :: t, m, nb, fun w => h w ∧ hx w⟩
    | none => K ⟨nt, t, m, nb, fun w => h w ∧ hx w⟩
theorem extK_spec {σ : Sg} {dst : Option Tmp} {v : Value} {hx : World → Prop} {K : Sg → Prop} (h : extK σ dst v hx K) : K (σ.ext dst v hx) := by
  cases dst <;> exact h

def vOps (L0 : List Oper) : List Oper → Nat → Sg → (Sg → Prop) → Prop
  | [], _, σ, K => K σ
  | o :: r, j, σ, K => match dstB o σ.nt with
    | true => vO T L0 o σ (fun E => gSplit (isG L0 j) E fun E => appK σ o.dst E fun σ' => vOps L0 r (j + 1) σ' K) (some fun v hx => extK σ o.dst v hx fun σ' => vOps L0 r (j + 1) σ' K)
    | false => False

def drawB (L : List (Oper × Ef)) : Bool := edgesB 0 (L.map (·.1)) && allB (bef (L.map (·.1)) []) L 0 L

def vOpsD (L0 : List Oper) : List Oper → Nat → Sg → List (Oper × Ef) → (Sg → Prop) → Prop
  | [], _, σ, acc, K => drawB acc = true ∧ K σ
  | o :: r, j, σ, acc, K => match dstB o σ.nt with
    | true => vO T L0 o σ (fun E => gSplit (isG L0 j) E fun E => appK σ o.dst E fun σ' => vOpsD L0 r (j + 1) σ' (acc ++ [(o, E)]) K) none
    | false => False

structure Sg.Ok (σ : Sg) : Prop where
  wf : σ.Wf
  lt : ∀ k s, lk σ.t k = some s → k < σ.nt

theorem Sg.Ok.app {σ : Sg} {o : Oper} {E : Ef} (h : σ.Ok) (hE : EfOK σ E) (hd : ∀ d, o.dst = some d → d < σ.nt) : (σ.app o.dst E).Ok := by
  refine ⟨hE.wf h.wf o.dst, fun k s hk => ?_⟩
  cases ho : o.dst with
  | none =>
    rw [ho] at hk
    exact h.lt k s hk
  | some d =>
    rw [ho] at hk
    have hk : lk ((d, E.val) :: σ.t) k = some s := hk
    simp only [lk] at hk
    cases hb : Nat.beq k d with
    | true =>
      obtain rfl := Nat.eq_of_beq_eq_true hb
      exact hd k ho
    | false =>
      rw [hb, cond_false] at hk
      exact h.lt k s hk

theorem dstB_spec {o : Oper} {nt : Nat} (h : dstB o nt = true) : ∀ d, o.dst = some d → d < nt := by
  intro d hd
  simp only [dstB, hd, Nat.blt_eq] at h
  exact h

theorem gSplit_spec {F : Fence} {n : Nat} {ops : Array Oper} {o : Oper} {σ : Sg} {isg : Bool} {E : Ef} {K : Ef → Prop} (h : gSplit isg E K) (h1 : EfOK σ E) (h2 : OpOK F n P ops o σ E) :
    ∃ E', K E' ∧ EfOK σ E' ∧ OpOK F n P ops o σ E' := by
  cases isg with
  | false => exact ⟨E, h, h1, h2⟩
  | true =>
    obtain ⟨val, fr, mods, rs, rb⟩ := E
    cases val with
    | v x =>
      cases x with
      | bool b =>
        have h : (b = true → K ⟨.v (.bool true), fr, mods, rs, rb⟩) ∧ (b = false → K ⟨.v (.bool false), fr, mods, rs, rb⟩) := h
        cases b with
        | true => exact ⟨_, h.1 rfl, h1, h2⟩
        | false => exact ⟨_, h.2 rfl, h1, h2⟩
      | _ => exact ⟨_, h, h1, h2⟩
    | _ => exact ⟨_, h, h1, h2⟩

theorem vO_spec {F : Fence} {n : Nat} {ops : Array Oper} {L0 : List Oper} {o : Oper} {σ : Sg} {K : Ef → Prop} {KF : Option (Value → (World → Prop) → Prop)} (hF : Wd F) (hL : ops.toList = L0) (hσ : σ.Ok) (h : vO T L0 o σ K KF) : Good F n P ops o σ K ∨ FamGood F n P ops o σ KF := by
  have hget : ∀ j : Nat, ops[j]? = L0[j]? := fun j => by rw [← hL, Array.getElem?_toList]
  unfold vO at h
  split at h
  · rename_i hg
    exact ev_sound T hF hσ.wf hσ.lt (.inl hg) h
  · rename_i j want hg
    split at h
    · rename_i k hk
      have hk' : (ops[j]?).bind (·.dst) = some k := by rw [hget]; exact hk
      split at h
      · rename_i hl
        cases want with
        | true => exact ev_sound T hF hσ.wf hσ.lt (.inr ⟨j, true, k, hg, hk', by simp, hl⟩) h
        | false => exact .inl ⟨_, h, efOK_pure rfl, skip_op (want := false) hF hg hk' hl hσ.lt⟩
      · rename_i hl
        cases want with
        | false => exact ev_sound T hF hσ.wf hσ.lt (.inr ⟨j, false, k, hg, hk', by simp, hl⟩) h
        | true => exact .inl ⟨_, h, efOK_pure rfl, skip_op (want := true) hF hg hk' hl hσ.lt⟩
      · rename_i hl
        exact .inl ⟨_, h, efOK_pure rfl, skip_undef hF hg hk' hl hσ.lt⟩
      · exact h.elim
    · exact h.elim

theorem Sg.Ok.ext {σ : Sg} (h : σ.Ok) {dst : Option Tmp} {v : Value} {hx : World → Prop} (hd : ∀ d, dst = some d → d < σ.nt) : (σ.ext dst v hx).Ok := by
  cases dst with
  | none => exact ⟨⟨h.wf.t, h.wf.m⟩, h.lt⟩
  | some d =>
    have key : ∀ k s, lk ((d, SV.v v) :: σ.t) k = some s → (k = d ∧ s = .v v) ∨ lk σ.t k = some s := fun k s hk => by
      simp only [lk] at hk
      cases hb : Nat.beq k d with
      | true =>
        rw [hb, cond_true, Option.some.injEq] at hk
        exact .inl ⟨Nat.eq_of_beq_eq_true hb, hk.symm⟩
      | false =>
        rw [hb, cond_false] at hk
        exact .inr hk
    refine ⟨⟨fun k s hk => ?_, h.wf.m⟩, fun k s hk => ?_⟩
    · rcases key k s hk with ⟨_, rfl⟩ | hk
      · rfl
      · exact h.wf.t k s hk
    · rcases key k s hk with ⟨rfl, _⟩ | hk
      · exact hd _ rfl
      · exact h.lt k s hk

/-- In the order of the text. -/
theorem vOps_sound {F : Fence} {n : Nat} {ops : Array Oper} {L0 : List Oper} {Q : Exit → Act → World → Prop} {K : Sg → Prop} (hF : Wd F) (hL : ops.toList = L0) (hQ : ∀ σ a w, K σ → σ.Ok → Sat σ a w → Q .normal a w) :
    ∀ (l : List Oper) (j : Nat) (σ : Sg) (a : Act) (w : World), (∀ i, ops[j + i]? = l[i]?) → σ.Ok → vOps T L0 l j σ K → Sat σ a w → wpOpsIn F n P ops Q (List.range' j l.length) a w
  | [], _, σ, a, w, _, hσ, h, hs => hQ σ a w h hσ hs
  | o :: r, j, σ, a, w, hops, hσ, h, hs => by
    simp only [vOps] at h
    split at h
    · rename_i hd
      have hd := dstB_spec hd
      have h0 : ops[j]? = some o := by simpa using hops 0
      have hr : ∀ i, ops[j + 1 + i]? = r[i]? := fun i => by
        have := hops (i + 1)
        rw [show j + 1 + i = j + (i + 1) from by omega, this]
        simp
      simp only [List.length_cons, List.range'_succ, wpOpsIn, h0]
      rcases vO_spec T (n := n) hF hL hσ h with ⟨E, h1, h2, h3⟩ | ⟨kf, hkf, hfam⟩
      · obtain ⟨E', h4, h5, h6⟩ := gSplit_spec h1 h2 h3
        exact ((h5.link hσ.wf hd h6).step hs Q).mono fun a' w' hs' => vOps_sound hF hL hQ r (j + 1) _ a' w' hr (hσ.app (o := o) h5 hd) (appK_spec h4) hs'
      · simp only [Option.some.injEq] at hkf
        subst hkf
        exact (hfam Q a w hd hs).mono fun a' w' ⟨v, hx, hk, hs'⟩ => vOps_sound hF hL hQ r (j + 1) _ a' w' hr (hσ.ext hd) (extK_spec hk) hs'
    · exact h.elim

theorem vOpsD_spec {F : Fence} {n : Nat} {ops : Array Oper} {L0 : List Oper} (hF : Wd F) (hL : ops.toList = L0) : ∀ (l : List Oper) (j : Nat) (σ : Sg) (acc : List (Oper × Ef)) (K : Sg → Prop), σ.Ok → vOpsD T L0 l j σ acc K →
    ∃ L : List (Oper × Ef), l = L.map (·.1) ∧ Path F n P ops L σ ∧ K (fin L σ) ∧ (fin L σ).Ok ∧ drawB (acc ++ L) = true ∧ (∀ p ∈ L, ∃ m, σ.nb ≤ m ∧ p.2.fr = List.range' m p.2.fr.length)
  | [], _, σ, acc, K, hσ, h => ⟨[], rfl, trivial, h.2, hσ, by simpa using h.1, fun p hp => (by cases hp)⟩
  | o :: r, j, σ, acc, K, hσ, h => by
    simp only [vOpsD] at h
    split at h
    · rename_i hd
      have hd := dstB_spec hd
      rcases vO_spec T (n := n) hF hL hσ h with ⟨E, h1, h2, h3⟩ | ⟨kf, hkf, _⟩
      case inr => cases hkf
      obtain ⟨E', h4, h5, h6⟩ := gSplit_spec h1 h2 h3
      obtain ⟨L, g1, g2, g3, g4, g5, g6⟩ := vOpsD_spec hF hL r (j + 1) _ _ K (hσ.app (o := o) h5 hd) (appK_spec h4)
      refine ⟨(o, E') :: L, by simp [g1], ⟨h5.link hσ.wf hd h6, g2⟩, g3, g4, by simpa using g5, fun p hp => ?_⟩
      rcases List.mem_cons.1 hp with rfl | hp
      · exact ⟨σ.nb, Nat.le_refl _, h5.fr⟩
      · obtain ⟨m, q1, q2⟩ := g6 p hp
        exact ⟨m, Nat.le_trans (Nat.le_add_right _ _) q1, q2⟩
    · exact h.elim

theorem Sg.Wf.av {σ : Sg} (h : σ.Wf) {fr : List Nat} {m : Nat} (hm : σ.nb ≤ m) (hf : fr = List.range' m fr.length) : σ.Av fr := by
  refine ⟨fun k s hk => ?_, fun i b hi => ⟨fun hfr => ?_, ?_⟩⟩
  · rw [hf]; exact SV.lt_av s (SV.lt_mono hm s (h.t k s hk))
  · rw [hf, List.mem_range'_1] at hfr
    have := (h.m i b hi).1
    omega
  · rw [hf]
    have := Blk.lt_mono hm b (h.m i b hi).2
    exact Blk.lt_av b this

/-! ### Code -/
/-- Whatever holds of an act and a world by the first state holds by the second. -/
def Ent (σ σ' : Sg) : Prop := ∀ a w, Sat σ a w → Sat σ' a w

def seqΦ (f : Sg → Prop) (Φ : Exit → Sg → Prop) : Exit → Sg → Prop
  | .normal, σ => f σ
  | e, σ => Φ e σ
def blockΦ (id : Nat) (Φ : Exit → Sg → Prop) : Exit → Sg → Prop
  | .exit j, σ => (match Nat.beq j id with | true => Φ .normal σ | false => Φ (.exit j) σ)
  | e, σ => Φ e σ
def scopeΦ (Φ : Exit → Sg → Prop) : Exit → Sg → Prop
  | .goto _, _ => False
  | e, σ => Φ e σ

/-- The event of a loop: what holds at each round's head, and how many rounds may come, is said by hand. -/
inductive LoopEv (V : Sg → (Exit → Sg → Prop) → Prop) (σ : Sg) (Φ : Exit → Sg → Prop) : Prop
  | mk (α : Type) (I : α → Sg) (pre : α → Prop) (μ : α → Nat) (h0 : ∃ x, pre x ∧ Ent σ (I x))
      (hr : ∀ x, pre x → (I x).Ok ∧ V (I x) (seqΦ (fun σ' => ∃ x', pre x' ∧ μ x' < μ x ∧ Ent σ' (I x')) Φ)) : LoopEv V σ Φ

def vc : Code → Sg → (Exit → Sg → Prop) → Prop
  | .skip, σ, Φ => Φ .normal σ
  | .region _ ops draw, σ, Φ => match draw with
    | false => vOps T ops.toList ops.toList 0 σ (Φ .normal)
    | true => vOpsD T ops.toList ops.toList 0 σ [] (Φ .normal)
  | .seq a b, σ, Φ => vc a σ (seqΦ (fun σ' => vc b σ' Φ) Φ)
  | .cond c x y, σ, Φ => match gv σ c with
    | some (.v (.bool b)) => (b = true → vc x σ Φ) ∧ (b = false → vc y σ Φ)
    | _ => False
  | .block id c, σ, Φ => vc c σ (blockΦ id Φ)
  | .loop c, σ, Φ => LoopEv (vc c) σ Φ
  | .scope c, σ, Φ => vc c σ (scopeΦ Φ)
  | .exit id, σ, Φ => Φ (.exit id) σ
  | .ret, σ, Φ => Φ .ret σ
  | .label _, σ, Φ => Φ .normal σ
  | .goto l, σ, Φ => Φ (.goto l) σ
  | .rangeFunc .., _, _ => False
  | .refuse _, _, _ => False

theorem stepR_scope {P : Program} {b : Frame} {a : Act} {k : List Item} {cs : List Frame} {w : World} {c : Code} : step P (lone (b.atR a (.code (.scope c) :: k)) cs w) = .next (lone (b.atR a (.code c :: .inScope c :: k)) cs w) :=
  step_lone_go (by simp [stepG, stepG.exec, Frame.atR])
theorem stepR_inScope {P : Program} {b : Frame} {a : Act} {k : List Item} {cs : List Frame} {w : World} {c : Code} : step P (lone (b.atR a (.inScope c :: k)) cs w) = .next (lone (b.atR a k) cs w) :=
  step_lone_go (by simp [stepG, stepG.exec, Frame.atR])

theorem wpIn_scope {F : Fence} {n : Nat} {c : Code} {Q : Exit → Act → World → Prop} {a : Act} {w : World} (h : c.wpIn F n P (Exit.noGoto Q) a w) : (Code.scope c).wpIn F n P Q a w := by
  intro b k cs hro hb hr
  have h0 : Machine.fenced P F (lone (b.atR a (.code (.scope c) :: k)) cs w) := fenced_calm hb hr rfl
  obtain ⟨e, a₁, w₁, hq, harr⟩ := h b (.inScope c :: k) cs hro hb hr
  cases e with
  | normal => exact ⟨.normal, a₁, w₁, hq, .head h0 stepR_scope (StepsIn.trans harr (.one (fenced_calm hb hr rfl) stepR_inScope))⟩
  | exit id =>
    have hx : exitTo id (.inScope c :: k) = exitTo id k := by simp [exitTo]
    exact ⟨.exit id, a₁, w₁, hq, fun k' hk => .head h0 stepR_scope (harr.1 k' (by rw [hx]; exact hk)),
      fun hr' hk => let ⟨k₁, h1, h2⟩ := harr.2 hr' (by rw [hx]; exact hk); ⟨k₁, h1, .head h0 stepR_scope h2⟩⟩
  | goto l => exact hq.elim
  | ret => exact ⟨_, a₁, w₁, hq, .of_steps (.one h0 stepR_scope) harr⟩
  | panic ch => exact ⟨_, a₁, w₁, hq, .of_steps (.one h0 stepR_scope) harr⟩
  | outgrown => exact ⟨_, a₁, w₁, hq, .of_steps (.one h0 stepR_scope) harr⟩

/-- What the evaluator says is so: from the state the code comes to an end of which Φ holds. -/
def QΦ (Φ : Exit → Sg → Prop) : Exit → Act → World → Prop := fun e a w => ∃ σ, Φ e σ ∧ σ.Ok ∧ Sat σ a w

theorem vc_sound {F : Fence} {n : Nat} (hF : Wd F) (hm : P.follows .mixedOrders = true) : ∀ (c : Code) (σ : Sg) (Φ : Exit → Sg → Prop) (a : Act) (w : World), σ.Ok → vc T c σ Φ → Sat σ a w → c.wpIn F n P (QΦ Φ) a w := by
  intro c
  induction c with
  | skip => intro σ Φ a w hσ h hs; exact wpIn_skip ⟨σ, h, hσ, hs⟩
  | region id ops draw =>
    intro σ Φ a w hσ h hs
    cases draw with
    | false =>
      refine wpIn_region ?_
      have := vOps_sound T (F := F) (n := n) (ops := ops) (Q := QΦ Φ) hF rfl (fun σ' a w h1 h2 h3 => ⟨σ', h1, h2, h3⟩) _ 0 σ a w (fun i => by rw [Nat.zero_add, Array.getElem?_toList]) hσ h hs
      rwa [← List.range_eq_range', Array.length_toList] at this
    | true =>
      obtain ⟨L, h1, h2, h3, h4, h5, h6⟩ := vOpsD_spec T (F := F) (n := n) (ops := ops) hF rfl _ 0 σ [] _ hσ h
      simp only [List.nil_append, drawB, Bool.and_eq_true] at h5
      refine region_any hm h1 h2 ⟨h5.1, h5.2, fun p hp => ?_⟩ hs fun a w hs' => ⟨_, h3, h4, hs'⟩
      obtain ⟨m, q1, q2⟩ := h6 p hp
      exact hσ.wf.av q1 q2
  | seq x y ihx ihy =>
    intro σ Φ a w hσ h hs
    refine wpIn_seq (wpIn_mono (ihx σ _ a w hσ h hs) fun e a w hq => ?_)
    obtain ⟨σ', h1, h2, h3⟩ := hq
    cases e with
    | normal => exact ihy σ' Φ a w h2 h1 h3
    | _ => exact ⟨σ', h1, h2, h3⟩
  | cond o x y ihx ihy =>
    intro σ Φ a w hσ h hs
    simp only [vc] at h
    split at h
    · rename_i b hg
      have hev : a.eval o = .bool b := by
        obtain ⟨β, D, hs'⟩ := hs
        exact gv_eval (hs'.sees ⟨.v undef, [], [], os o, []⟩) hg (fun k hk => hk)
      refine wpIn_cond hev ?_
      cases b with
      | true => exact ihx σ Φ a w hσ (h.1 rfl) hs
      | false => exact ihy σ Φ a w hσ (h.2 rfl) hs
    · exact h.elim
  | block id c ih =>
    intro σ Φ a w hσ h hs
    refine wpIn_block (wpIn_mono (ih σ _ a w hσ h hs) fun e a w hq => ?_)
    obtain ⟨σ', h1, h2, h3⟩ := hq
    cases e with
    | exit j =>
      simp only [Exit.inBlock]
      by_cases hj : j = id
      · subst hj
        rw [if_pos rfl]
        have h1 : (match Nat.beq j j with | true => Φ .normal σ' | false => Φ (.exit j) σ') := h1
        have hb : Nat.beq j j = true := Nat.beq_refl j
        rw [hb] at h1
        exact ⟨σ', h1, h2, h3⟩
      · rw [if_neg hj]
        have hb : Nat.beq j id = false := by
          cases hb : Nat.beq j id with
          | false => rfl
          | true => exact absurd (Nat.eq_of_beq_eq_true hb) hj
        have h1 : (match Nat.beq j id with | true => Φ .normal σ' | false => Φ (.exit j) σ') := h1
        rw [hb] at h1
        exact ⟨σ', h1, h2, h3⟩
    | _ => exact ⟨σ', h1, h2, h3⟩
  | loop c ih =>
    intro σ Φ a w hσ h hs
    obtain ⟨α, I, pre, μ, ⟨x0, hx0, he0⟩, hround⟩ := h
    -- the number: the least μ of a fitting x
    let J : Nat → Act → World → Prop := fun m a w => ∃ x, μ x = m ∧ pre x ∧ Sat (I x) a w
    refine wpIn_loop (fun a w => ∃ m, J m a w) (fun a w => leastOf (fun m => J m a w)) ⟨_, x0, rfl, hx0, he0 a w hs⟩ fun a w hI => ?_
    obtain ⟨x, hx1, hx2, hx3⟩ := (leastOf_spec hI).1
    obtain ⟨hok, hvc⟩ := hround x hx2
    refine wpIn_mono (ih (I x) _ a w hok hvc hx3) fun e a' w' hq => ?_
    obtain ⟨σ', h1, h2, h3⟩ := hq
    cases e with
    | normal =>
      obtain ⟨x', q1, q2, q3⟩ := h1
      have hJ : J (μ x') a' w' := ⟨x', rfl, q1, q3 a' w' h3⟩
      exact ⟨⟨_, hJ⟩, Nat.lt_of_le_of_lt ((leastOf_spec (p := fun m => J m a' w') ⟨_, hJ⟩).2 _ hJ) (by rw [← hx1]; exact q2)⟩
    | _ => exact ⟨σ', h1, h2, h3⟩
  | rangeFunc f ps x y _ _ => intro σ Φ a w hσ h hs; exact h.elim
  | exit id => intro σ Φ a w hσ h hs; exact wpIn_exit ⟨σ, h, hσ, hs⟩
  | scope c ih =>
    intro σ Φ a w hσ h hs
    refine wpIn_scope (wpIn_mono (ih σ _ a w hσ h hs) fun e a w hq => ?_)
    obtain ⟨σ', h1, h2, h3⟩ := hq
    cases e with
    | goto l => exact h1.elim
    | _ => exact ⟨σ', h1, h2, h3⟩
  | label l => intro σ Φ a w hσ h hs; exact wpIn_label ⟨σ, h, hσ, hs⟩
  | goto l => intro σ Φ a w hσ h hs; exact wpIn_goto ⟨σ, h, hσ, hs⟩
  | ret => intro σ Φ a w hσ h hs; exact wpIn_ret ⟨σ, h, hσ, hs⟩
  | refuse why => intro σ Φ a w hσ h hs; exact h.elim

/-! ### A function's end, and its call -/
def resK (σ : Sg) : List ResultVar → (List SV → Prop) → Prop
  | [], K => K []
  | .tmp t :: r, K => match lk σ.t t with
    | some s => resK σ r fun l => K (s :: l)
    | none => False
  | .cell t ty :: r, K => match lk σ.t t, T.ty ty with
    | some (.ptr i o), some ti => (match lk σ.m i with
      | some (.cells l _) => dropK o l fun l1 => takeK ti.size l1 fun l2 => valK ti.kind.agg l2 fun s => resK σ r fun l => K (s :: l)
      | _ => False)
    | _, _ => False

def oneK (l : List SV) (K : SV → Prop) : Prop :=
  match l with
  | [s] => K s
  | l => K (.tup l)

theorem resK_spec {σ : Sg} {β : Nat → Nat} {D : Nat → Prop} {a : Act} {w : World} (hs : Sat' σ β D a w) (hσ : σ.Ok) : ∀ (rs : List ResultVar) (K : List SV → Prop), resK T σ rs K →
    ∃ l, K l ∧ SV.lts σ.nb l = true ∧ (rs.mapM fun | .tmp t => pure (a.tmps.getD t undef) | .cell p t => do loadVar t (← asAddr (a.tmps.getD p undef)) : Sem (List Value)).run P w = .ok (SV.cs β l) w
  | [], K, h => ⟨[], h, rfl, rfl⟩
  | .tmp t :: r, K, h => by
    simp only [resK] at h
    split at h
    · rename_i s ht
      obtain ⟨l, h1, h2, h3⟩ := resK_spec hs hσ r _ h
      refine ⟨s :: l, h1, by simp only [SV.lts, Bool.and_eq_true]; exact ⟨hσ.wf.t t s ht, h2⟩, ?_⟩
      rw [List.mapM_cons]
      simp only [Sem.run_bind, Sem.run_pure, Result.andThen_ok, h3, hs.t t s ht]
      rfl
    · exact h.elim
  | .cell t ty :: r, K, h => by
    simp only [resK] at h
    split at h
    · rename_i i o ti ht hty
      split at h
      · rename_i l0 ty' hm
        obtain ⟨h1, h2⟩ := dropK_spec o l0 _ h
        obtain ⟨h3, h4⟩ := takeK_spec _ _ _ h2
        obtain ⟨s, h5, h6⟩ := valK_spec h4
        obtain ⟨l, g1, g2, g3⟩ := resK_spec hs hσ r _ h5
        have hl : SV.lts σ.nb l0 = true := (hσ.wf.m i _ hm).2
        refine ⟨s :: l, g1, by simp only [SV.lts, Bool.and_eq_true]; exact ⟨valK_lt h6 (lts_take (lts_drop hl)), g2⟩, ?_⟩
        have e2 : w.heap[β i]? = some (.cells (SV.cs β l0).toArray ty' (0, 0)) := hs.m i _ hm
        have e3 := run_loadVar_cells (P := P) (T.tok ty ti hty) (β := β) (w := w) (ad := ⟨β i, o, none⟩) (l := (l0.drop o).take ti.size) (s := s) (by rw [List.length_take]; omega) (fun j v hv => by
          rw [own_add, cell_of_row w (β i) (o + j) _ ty' (0, 0) e2]
          rw [cs_getElem?] at hv
          rw [List.getElem?_toArray, cs_getElem?]
          rw [List.getElem?_take] at hv
          split at hv
          · rw [List.getElem?_drop] at hv; exact hv
          · simp at hv) h6
        have e0 : (asAddr (a.tmps.getD t undef)).run P w = .ok ⟨β i, o, none⟩ w := by rw [hs.t t _ ht]; rfl
        rw [List.mapM_cons]
        simp only [Sem.run_bind, e0, Sem.run_pure, Result.andThen_ok, e3, g3]
        rfl
      · exact h.elim
    · exact h.elim

theorem results_run {fn : Func} {σ : Sg} {β : Nat → Nat} {D : Nat → Prop} {a : Act} {w : World} (hs : Sat' σ β D a w) (hσ : σ.Ok) {K : SV → Prop} (h : resK T σ fn.results.toList fun l => oneK l K) :
    ∃ s, K s ∧ s.lt σ.nb = true ∧ (results fn a.tmps).run P w = .ok (s.c β) w := by
  obtain ⟨l, h1, h2, h3⟩ := resK_spec T hs hσ _ _ h
  have harr : (results fn a.tmps).run P w = .ok (if h : (SV.cs β l).toArray.size = 1 then (SV.cs β l).toArray[0] else .tuple (SV.cs β l).toArray) w := by
    unfold results
    rw [Array.mapM_eq_mapM_toList]
    simp only [Sem.run_bind, Sem.run_map]
    have e : ∀ r : Result (List Value), r = .ok (SV.cs β l) w → ((r.andThen fun a w' => Result.ok a.toArray w').andThen fun a w' => Sem.run P (pure (if h : a.size = 1 then a[0] else Value.tuple a)) w') =
        .ok (if h : (SV.cs β l).toArray.size = 1 then (SV.cs β l).toArray[0] else .tuple (SV.cs β l).toArray) w := by rintro r rfl; rfl
    exact e _ h3
  rw [harr]
  match l, h1, h2 with
  | [], h1, h2 => exact ⟨_, h1, h2, rfl⟩
  | [s], h1, h2 => exact ⟨s, h1, by simpa [SV.lts] using h2, rfl⟩
  | s :: s' :: r, h1, h2 => exact ⟨_, h1, h2, by simp [SV.cs, SV.c]⟩

/-- What is left of a state when the function has ended: the memory. -/
structure Mem (σ : Sg) (β : Nat → Nat) (D : Nat → Prop) (w : World) : Prop where
  m : ∀ i b, lk σ.m i = some b → b.ok β w (β i)
  inj : ∀ i j bi bj, lk σ.m i = some bi → lk σ.m j = some bj → bi.live = true → bj.live = true → i ≠ j → β i ≠ β j
  out : ∀ i b, lk σ.m i = some b → b.live = true → ¬ D (β i)
  dlt : ∀ b, D b → b < w.heap.size
  h : ∀ w', Chg (fun b => ¬ D b) w w' → σ.h w'

def slotsOf : Nat → List SV → List (Nat × SV)
  | _, [] => []
  | k, s :: r => (k, s) :: slotsOf (k + 1) r

theorem slotsOf_lk : ∀ (l : List SV) (k i : Nat) (s : SV), lk (slotsOf k l) i = some s → k ≤ i ∧ i < k + l.length ∧ l[i - k]? = some s
  | [], _, _, _, h => by simp [slotsOf, lk] at h
  | x :: r, k, i, s, h => by
    simp only [slotsOf, lk] at h
    cases hb : Nat.beq i k with
    | true =>
      obtain rfl := Nat.eq_of_beq_eq_true hb
      rw [hb, cond_true, Option.some.injEq] at h
      subst h
      exact ⟨Nat.le_refl _, by simp, by simp⟩
    | false =>
      rw [hb, cond_false] at h
      obtain ⟨h1, h2, h3⟩ := slotsOf_lk r (k + 1) i s h
      refine ⟨by omega, by simp; omega, ?_⟩
      rw [show i - k = (i - (k + 1)) + 1 from by omega]
      simpa using h3

/-- A function's end. -/
def endΦ (fn : Func) (K : SV → Sg → Prop) : Exit → Sg → Prop
  | .ret, σ => resK T σ fn.results.toList fun l => oneK l fun s => K s σ
  | .normal, σ => resK T σ fn.results.toList fun l => oneK l fun s => K s σ
  | _, _ => False

/-- THE CALL OF A FUNCTION. σ0's slots are the arguments. -/
theorem calls_vc (hm : P.follows .mixedOrders = true) {k : Nat} {fn : Func} {c : Code} (hfn : P.funcs[k]? = some fn) (hb : fn.body = some c) {nt : Nat} (hnt : fn.ntmps = nt) {args : List SV} {m0 : List (Nat × Blk)} {nb0 : Nat} {h : World → Prop}
    {K : SV → Sg → Prop} (hlen : args.length ≤ nt) (hargs : SV.lts nb0 args = true) (hm0 : ∀ i b, lk m0 i = some b → i < nb0 ∧ b.lt nb0 = true)
    (hvc : vc T c ⟨nt, slotsOf 0 args, m0, nb0, h⟩ (endΦ T fn K))
    {β : Nat → Nat} {D : Nat → Prop} {w : World} (hmem : Mem ⟨nt, slotsOf 0 args, m0, nb0, h⟩ β D w) :
    Calls P k (SV.cs β args).toArray w fun e w' => ∃ s σ' β' D', e = .returned (s.c β') ∧ K s σ' ∧ σ'.Ok ∧ s.lt σ'.nb = true ∧ Mem σ' β' D' w' := by
  have hok : Sg.Ok ⟨nt, slotsOf 0 args, m0, nb0, h⟩ := by
    refine ⟨⟨fun i s hi => ?_, hm0⟩, fun i s hi => ?_⟩
    · obtain ⟨_, _, h3⟩ := slotsOf_lk args 0 i s hi
      rw [lts_iff] at hargs
      exact hargs s (List.mem_of_getElem? h3)
    · obtain ⟨_, h2, _⟩ := slotsOf_lk args 0 i s hi
      exact Nat.lt_of_lt_of_le h2 (by simpa using hlen)
  have hlen' : (SV.cs β args).length = args.length := by rw [SV.cs_eq, List.length_map]
  have hsat : Sat ⟨nt, slotsOf 0 args, m0, nb0, h⟩ { tmps := (SV.cs β args).toArray ++ Array.replicate (fn.ntmps - (SV.cs β args).toArray.size) undef, defers := [] } w := by
    refine ⟨β, D, rfl, ?_, fun i s hi => ?_, hmem.m, hmem.inj, hmem.out, hmem.dlt, hmem.h⟩
    · simp only [Array.size_append, List.size_toArray, Array.size_replicate, hlen', hnt]
      omega
    · obtain ⟨_, h2, h3⟩ := slotsOf_lk args 0 i s hi
      simp only [Nat.sub_zero, Nat.zero_add] at h2 h3
      simp only [Array.getD_eq_getD_getElem?]
      rw [Array.getElem?_append_left (by simp only [List.size_toArray, hlen']; exact h2)]
      rw [List.getElem?_toArray, cs_getElem?, h3]
      rfl
  have hw : c.wpIn Fence.wide 0 P (bodyPost P fn fun e w' => ∃ s σ' β' D', e = .returned (s.c β') ∧ K s σ' ∧ σ'.Ok ∧ s.lt σ'.nb = true ∧ Mem σ' β' D' w') { tmps := (SV.cs β args).toArray ++ Array.replicate (fn.ntmps - (SV.cs β args).toArray.size) undef, defers := [] } w := by
    refine wpIn_mono (vc_sound T (.inl rfl) hm c _ _ _ w hok hvc hsat) fun e a' w' hq => ?_
    obtain ⟨σ', h1, h2, β', D', h3⟩ := hq
    have close : (resK T σ' fn.results.toList fun l => oneK l fun s => K s σ') → a'.defers = [] ∧ ∃ v, (results fn a'.tmps).run P w' = .ok v w' ∧ ∃ s σ' β' D', Ending.returned v = .returned (s.c β') ∧ K s σ' ∧ σ'.Ok ∧ s.lt σ'.nb = true ∧ Mem σ' β' D' w' := fun hr => by
      obtain ⟨s, q1, q2, q3⟩ := results_run T h3 h2 hr
      exact ⟨h3.defers, _, q3, s, σ', β', D', rfl, q1, h2, q2, h3.m, h3.inj, h3.out, h3.dlt, h3.h⟩
    cases e with
    | normal => exact close h1
    | ret => exact close h1
    | _ => exact h1.elim
  exact callsIn_wide.1 (callsIn_of_wp hfn hb trivial hw)

end
end Go.Proofs.Ytlehjapeomallaa.Sx
