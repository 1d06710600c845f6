/- The engine, part 2: a region whose operations may be carried out in any order that its edges allow comes to the state that the order of the text comes to. -/
import Derived.Test.YtlehjapeomallaaSa
namespace Go.Proofs.Ytlehjapeomallaa.Sx
open Go

/-- A fence that lets everything pass, in a round of a range over a function or not. -/
def Wd (F : Fence) : Prop := F = Fence.wide ∨ ∃ l, F = Fence.wide.inRound l
theorem Wd.fn {F : Fence} (h : Wd F) (f : FuncId) : F.fn f := by
  rcases h with rfl | ⟨l, rfl⟩ <;> trivial
theorem Wd.depth {F : Fence} (h : Wd F) : F.depth = none := by
  rcases h with rfl | ⟨l, rfl⟩ <;> rfl
theorem Wd.calls {F : Fence} (h : Wd F) {n : Nat} {P : Program} {f : FuncId} {args : Array Value} {w : World} {R : Ending → World → Prop} (hc : Calls P f args w R) : CallsIn F n P f args w R := by
  rcases h with rfl | ⟨l, rfl⟩
  · exact callsIn_wide.2 hc
  · exact callsIn_wide.2 hc

def StepB (F : Fence) (n : Nat) (P : Program) (ops : Array Oper) (Q : Exit → Act → World → Prop) (o : Oper) (K : Act → World → Prop) (a : Act) (w : World) : Prop :=
  if Region.wanted o (yielded ops a.tmps) = true then o.wpIn F n P a w K Q else (∀ f, o.about P w a.eval = some f → F.fn f) ∧ K (a.put o.dst undef) w

theorem StepB.mono {F : Fence} {n : Nat} {P : Program} {ops : Array Oper} {Q : Exit → Act → World → Prop} {o : Oper} {K K' : Act → World → Prop} {a : Act} {w : World}
    (h : StepB F n P ops Q o K a w) (hk : ∀ a w, K a w → K' a w) : StepB F n P ops Q o K' a w := by
  unfold StepB at *
  split
  · rename_i hw; simp only [hw, if_true] at h; exact Oper.wpIn_mono hk h
  · rename_i hw; simp only [hw, Bool.false_eq_true, if_false] at h; exact ⟨h.1, hk _ _ h.2⟩

/-- What a state tells of the slots and blocks that E looks at holds of the act and the world. -/
structure Sees (σ : Sg) (E : Ef) (β : Nat → Nat) (a : Act) (w : World) : Prop where
  t : ∀ k ∈ E.rs, ∀ s, lk σ.t k = some s → a.tmps.getD k undef = s.c β
  m : ∀ i ∈ E.rb, ∀ b, lk σ.m i = some b → b.ok β w (β i)
  inj : ∀ i ∈ E.rb, ∀ j ∈ E.rb, ∀ bi bj, lk σ.m i = some bi → lk σ.m j = some bj → bi.live = true → bj.live = true → i ≠ j → β i ≠ β j
  h : σ.h w
  size : a.tmps.size = σ.nt

def OpOK (F : Fence) (n : Nat) (P : Program) (ops : Array Oper) (o : Oper) (σ : Sg) (E : Ef) : Prop :=
  ∀ (Q : Exit → Act → World → Prop) (β : Nat → Nat) (a : Act) (w : World) (K : Act → World → Prop), Sees σ E β a w →
    (∀ β' w', EfPost E β β' w w' → K (a.put o.dst (E.val.c β')) w') → StepB F n P ops Q o K a w

/-- One operation's part of a path through a region. -/
structure Link (F : Fence) (n : Nat) (P : Program) (ops : Array Oper) (o : Oper) (σ : Sg) (E : Ef) : Prop where
  ok : OpOK F n P ops o σ E
  wf : E.Wf σ
  av : σ.Av E.fr
  rb : ∀ i b, (i, b) ∈ E.mods → i ∉ E.fr → i ∈ E.rb
  dst : ∀ d, o.dst = some d → d < σ.nt

def Path (F : Fence) (n : Nat) (P : Program) (ops : Array Oper) : List (Oper × Ef) → Sg → Prop
  | [], _ => True
  | (o, E) :: r, σ => Link F n P ops o σ E ∧ Path F n P ops r (σ.app o.dst E)

def fin : List (Oper × Ef) → Sg → Sg
  | [], σ => σ
  | (o, E) :: r, σ => fin r (σ.app o.dst E)

theorem Sat'.sees {σ : Sg} {β : Nat → Nat} {D : Nat → Prop} {a : Act} {w : World} (h : Sat' σ β D a w) (E : Ef) : Sees σ E β a w :=
  ⟨fun k _ s hs => h.t k s hs, fun i _ b hb => h.m i b hb, fun i _ j _ bi bj h1 h2 h3 h4 h5 => h.inj i j bi bj h1 h2 h3 h4 h5, h.h w (Chg.refl _ _), h.size⟩

theorem Link.step {F : Fence} {n : Nat} {P : Program} {ops : Array Oper} {o : Oper} {σ : Sg} {E : Ef} (h : Link F n P ops o σ E) {a : Act} {w : World} (hs : Sat σ a w)
    (Q : Exit → Act → World → Prop) : StepB F n P ops Q o (Sat (σ.app o.dst E)) a w := by
  obtain ⟨β, D, hs⟩ := hs
  exact h.ok Q β a w _ (hs.sees E) fun β' w' hp => ⟨β', D, hs.app h.av h.wf h.dst hp⟩

/-- In the order of the text. -/
theorem path_ops {F : Fence} {n : Nat} {P : Program} {ops : Array Oper} {Q : Exit → Act → World → Prop} : ∀ (L : List (Oper × Ef)) (i : Nat) (σ : Sg) (a : Act) (w : World),
    (∀ j, ops[i + j]? = (L[j]?).map (·.1)) → Path F n P ops L σ → Sat σ a w → (∀ a w, Sat (fin L σ) a w → Q .normal a w) →
    wpOpsIn F n P ops Q (List.range' i L.length) a w := by
  intro L
  induction L with
  | nil => intro i σ a w _ _ hs hq; exact hq a w hs
  | cons p r ih =>
    intro i σ a w hops hp hs hq
    obtain ⟨o, E⟩ := p
    have h0 : ops[i]? = some o := by simpa using hops 0
    simp only [List.length_cons, List.range'_succ, wpOpsIn, h0]
    have hstep := hp.1.step hs Q
    have := hstep.mono (K' := wpOpsIn F n P ops Q (List.range' (i + 1) r.length)) fun a' w' hs' =>
      ih (i + 1) _ a' w' (fun j => by
        have := hops (j + 1)
        rw [show i + 1 + j = i + (j + 1) from by omega, this]
        simp) hp.2 hs' hq
    exact this

theorem region_text {F : Fence} {n : Nat} {P : Program} {id : Nat} {ops : Array Oper} {Q : Exit → Act → World → Prop} {L : List (Oper × Ef)} {σ : Sg} {a : Act} {w : World}
    (hL : ops.toList = L.map (·.1)) (hp : Path F n P ops L σ) (hs : Sat σ a w) (hq : ∀ a w, Sat (fin L σ) a w → Q .normal a w) : (Code.region id ops false).wpIn F n P Q a w := by
  refine wpIn_region ?_
  have hsz : ops.size = L.length := by
    have := congrArg List.length hL
    simpa using this
  rw [hsz, List.range_eq_range']
  refine path_ops L 0 σ a w (fun j => ?_) hp hs hq
  rw [Nat.zero_add, ← List.getElem?_map, ← hL, Array.getElem?_toList]

/-! ### Any order -/

theorem Sat'.congr {σ σ' : Sg} (ht : ∀ k, lk σ'.t k = lk σ.t k) (hm : ∀ i, lk σ'.m i = lk σ.m i) (hn : σ'.nt = σ.nt) (hh : σ'.h = σ.h) {β : Nat → Nat} {D : Nat → Prop} {a : Act} {w : World}
    (h : Sat' σ β D a w) : Sat' σ' β D a w :=
  ⟨h.defers, by rw [hn]; exact h.size, fun k s hk => h.t k s (by rw [← ht]; exact hk), fun i b hi => h.m i b (by rw [← hm]; exact hi),
   fun i j bi bj h1 h2 => h.inj i j bi bj (by rw [← hm]; exact h1) (by rw [← hm]; exact h2), fun i b hi => h.out i b (by rw [← hm]; exact hi), h.dlt, by rw [hh]; exact h.h⟩

/-- A slot (true) or a block (false). -/
abbrev Key := Bool × Nat
def look (σ : Sg) : Key → Option (SV ⊕ Blk)
  | (true, k) => (lk σ.t k).map .inl
  | (false, i) => (lk σ.m i).map .inr
def Wr (p : Oper × Ef) : Key → Prop
  | (true, k) => p.1.dst = some k
  | (false, i) => ∃ b, (i, b) ∈ p.2.mods
def look1 (p : Oper × Ef) : Key → Option (SV ⊕ Blk)
  | (true, _) => some (.inl p.2.val)
  | (false, i) => (lk p.2.mods i).map .inr

theorem look_app_wr {σ : Sg} {p : Oper × Ef} {κ : Key} (h : Wr p κ) : look (σ.app p.1.dst p.2) κ = look1 p κ := by
  obtain ⟨o, E⟩ := p
  obtain ⟨b, i⟩ := κ
  cases b with
  | true =>
    have h' : o.dst = some i := h
    simp [look, look1, Sg.app, h', lk]
  | false =>
    obtain ⟨b, hb⟩ := h
    obtain ⟨y, hy⟩ := lk_isSome hb
    simp [look, look1, Sg.app, lk_append, hy]

theorem look_app_not {σ : Sg} {p : Oper × Ef} {κ : Key} (h : ¬ Wr p κ) : look (σ.app p.1.dst p.2) κ = look σ κ := by
  obtain ⟨o, E⟩ := p
  obtain ⟨b, i⟩ := κ
  cases b with
  | true =>
    have h' : ¬ o.dst = some i := h
    simp only [look, Sg.app]
    cases hd : o.dst with
    | none => rfl
    | some d =>
      have hne : ¬ i = d := fun e => h' (by rw [hd, e])
      have hb : Nat.beq i d = false := by
        cases hb : Nat.beq i d with
        | false => rfl
        | true => exact absurd (Nat.eq_of_beq_eq_true hb) hne
      simp [lk, hb]
  | false =>
    have hn : lk E.mods i = none := by
      cases hm : lk E.mods i with
      | none => rfl
      | some y => exact absurd ⟨y, lk_mem hm⟩ h
    simp [look, Sg.app, lk_append, hn]

/-- The effects of those operations that the list picks, in the order of the text. -/
def foldS : List (Oper × Ef) → List Bool → Sg → Sg
  | p :: L, b :: S, σ => foldS L S (if b then σ.app p.1.dst p.2 else σ)
  | _, _, σ => σ

theorem foldS_meta : ∀ (L : List (Oper × Ef)) (S : List Bool) (σ : Sg), (foldS L S σ).nt = σ.nt ∧ (foldS L S σ).h = σ.h
  | [], _, _ => by simp [foldS]
  | p :: L, [], σ => by simp [foldS]
  | p :: L, b :: S, σ => by
    simp only [foldS]
    obtain ⟨h1, h2⟩ := foldS_meta L S (if b then σ.app p.1.dst p.2 else σ)
    rw [h1, h2]
    cases b <;> simp [Sg.app]

theorem foldS_look {κ : Key} : ∀ (L : List (Oper × Ef)) (S S' : List Bool) (σ σ' : Sg), S.length = L.length → S'.length = L.length → look σ κ = look σ' κ →
    (∀ (i : Nat) (p : Oper × Ef), L[i]? = some p → S[i]? ≠ S'[i]? → ¬ Wr p κ) → look (foldS L S σ) κ = look (foldS L S' σ') κ
  | [], _, _, _, _, _, _, h, _ => by simpa [foldS] using h
  | p :: L, [], _, _, _, h, _, _, _ => by simp at h
  | p :: L, _ :: _, [], _, _, _, h, _, _ => by simp at h
  | p :: L, b :: S, b' :: S', σ, σ', h1, h2, h, hd => by
    simp only [foldS]
    refine foldS_look L S S' _ _ (by simpa using h1) (by simpa using h2) ?_ (fun i q hi hne => hd (i + 1) q (by simpa using hi) (by simpa using hne))
    by_cases hw : Wr p κ
    · have hb : b = b' := Classical.byContradiction fun hne => hd 0 p (by simp) (by simpa using hne) hw
      subst hb
      cases b
      · exact h
      · simp only [if_true]; rw [look_app_wr hw, look_app_wr hw]
    · cases b <;> cases b' <;> simp only [if_true, Bool.false_eq_true, if_false] <;> (try rw [look_app_not hw]) <;> (try rw [look_app_not hw]) <;> exact h

/-- Nothing picked: nothing done. -/
theorem foldS_none : ∀ (L : List (Oper × Ef)) (S : List Bool) (σ : Sg), (∀ b ∈ S, b = false) → foldS L S σ = σ
  | [], _, _, _ => by simp [foldS]
  | p :: L, [], σ, _ => by simp [foldS]
  | p :: L, b :: S, σ, h => by
    have hb : b = false := h b List.mem_cons_self
    subst hb
    simp only [foldS, Bool.false_eq_true, if_false]
    exact foldS_none L S σ fun b hb => h b (List.mem_cons_of_mem _ hb)

/-- All picked: the path's end. -/
theorem foldS_all : ∀ (L : List (Oper × Ef)) (S : List Bool) (σ : Sg), S.length = L.length → (∀ b ∈ S, b = true) → foldS L S σ = fin L σ
  | [], _, _, _, _ => by simp [foldS, fin]
  | p :: L, [], σ, h, _ => by simp at h
  | (o, E) :: L, b :: S, σ, h, hb => by
    have hb' : b = true := hb b List.mem_cons_self
    subst hb'
    simp only [foldS, fin, if_true]
    exact foldS_all L S _ (by simpa using h) fun b h => hb b (List.mem_cons_of_mem _ h)

/-- The state in which the text comes to operation j. -/
theorem foldS_take : ∀ (L : List (Oper × Ef)) (j : Nat) (σ : Sg), j ≤ L.length → foldS L (List.replicate j true ++ List.replicate (L.length - j) false) σ = fin (L.take j) σ
  | L, 0, σ, _ => by
    simp only [List.replicate_zero, List.nil_append, List.take_zero, fin]
    exact foldS_none _ _ _ fun b hb => (List.mem_replicate.1 hb).2
  | [], j + 1, σ, h => by simp at h
  | (o, E) :: L, j + 1, σ, h => by
    simp only [List.replicate_succ, List.cons_append, foldS, if_true, List.take_succ_cons, fin, List.length_cons, Nat.add_sub_add_right]
    exact foldS_take L j _ (by simpa using h)

theorem Path.link {F : Fence} {n : Nat} {P : Program} {ops : Array Oper} : ∀ (L : List (Oper × Ef)) (σ : Sg) (j : Nat) (p : Oper × Ef), Path F n P ops L σ → L[j]? = some p →
    Link F n P ops p.1 (fin (L.take j) σ) p.2
  | [], _, _, _, _, h => by simp at h
  | (o, E) :: L, σ, 0, p, hp, h => by
    simp only [List.getElem?_cons_zero, Option.some.injEq] at h
    subst h
    exact hp.1
  | (o, E) :: L, σ, j + 1, p, hp, h => by
    simp only [List.take_succ_cons, fin]
    exact Path.link L _ j p hp.2 (by simpa using h)

/-- The numbers of the operations that must go ahead of operation j. -/
def deps (after : Nat → List Nat) : Nat → Nat → List Nat
  | 0, _ => []
  | f + 1, j => (after j).flatMap fun k => k :: deps after f k

end Go.Proofs.Ytlehjapeomallaa.Sx
