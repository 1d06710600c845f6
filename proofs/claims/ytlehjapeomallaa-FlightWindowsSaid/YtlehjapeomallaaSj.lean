/- The engine, part 10: tables; calls without own memory; small closers. -/
import Derived.Test.YtlehjapeomallaaSi
import Derived.KernelRfl
namespace Go.Proofs.Ytlehjapeomallaa.Sx
open Go Go.RowKit

def AllT (P : Program) : List (Nat × TI) → Prop
  | [] => True
  | (t, ti) :: r => TOK P t ti ∧ AllT P r
theorem AllT.get {P : Program} : ∀ {l : List (Nat × TI)}, AllT P l → ∀ t ti, lk l t = some ti → TOK P t ti
  | [], _, _, _, h => by simp [lk] at h
  | (k, x) :: r, ha, t, ti, h => by
    simp only [lk] at h
    cases hb : Nat.beq t k with
    | true =>
      obtain rfl := Nat.eq_of_beq_eq_true hb
      rw [hb, cond_true, Option.some.injEq] at h
      subst h; exact ha.1
    | false =>
      rw [hb, cond_false] at h
      exact ha.2.get t ti h
def AllF (P : Program) : List Nat → Prop
  | [] => True
  | k :: r => (∀ args w, (callFunc k args).run P w = .ok (.enter k args) w) ∧ AllF P r
theorem AllF.get {P : Program} : ∀ {l : List Nat}, AllF P l → ∀ k, (!(nin k l)) = true → ∀ args w, (callFunc k args).run P w = .ok (.enter k args) w
  | [], _, _, h => by simp [nin] at h
  | j :: r, ha, k, h => by
    simp only [nin, Bool.not_and, Bool.not_not, Bool.or_eq_true] at h
    rcases h with h | h
    · obtain rfl := Nat.eq_of_beq_eq_true h
      exact ha.1
    · exact ha.2.get k h
def Env.of {P : Program} (tys : List (Nat × TI)) (ht : AllT P tys) (fns : List Nat) (hf : AllF P fns) : Env P :=
  ⟨lk tys, ht.get, fun k => !(nin k fns), hf.get⟩
theorem callFunc_in {P : Program} {f : FuncId} {fn : Func} (hf : P.funcs[f]? = some fn) (hname : (fn.name == "runtime.NumGoroutine") = false) (hb : fn.body.isNone = false) (args : Array Value) (w : World) :
    (callFunc f args).run P w = .ok (.enter f args) w := by
  cases hc : fn.body with
  | none => rw [hc] at hb; cases hb
  | some c => exact callFunc_enter hf hname hc args w

/-- A call that makes new memory at most, told by its value. -/
theorem calls_pure {P : Program} (T : Env P) (hm : P.follows .mixedOrders = true) {k : Nat} {fn : Func} {c : Code} (hfn : P.funcs[k]? = some fn) (hb : fn.body = some c) {nt : Nat} (hnt : fn.ntmps = nt) (args : List Value)
    (hlen : args.length ≤ nt) {w : World} {V : Value → Prop}
    (hvc : vc T c ⟨nt, slotsOf 0 (args.map .v), [], 0, Below w.heap.size w⟩ (endΦ T fn fun s σ => (∀ β, V (s.c β)) ∧ ∀ w', σ.h w' → Below w.heap.size w w')) :
    Calls P k args.toArray w fun e w' => ∃ v, e = .returned v ∧ V v ∧ Below w.heap.size w w' := by
  have h0 : Mem ⟨nt, slotsOf 0 (args.map .v), [], 0, Below w.heap.size w⟩ (fun _ => 0) (fun b => b < w.heap.size) w :=
    ⟨fun i b h => (by simp [lk] at h), fun i j bi bj h => (by simp [lk] at h), fun i b h => (by simp [lk] at h), fun b h => h,
     fun w' hc => ⟨hc.os, hc.tape, hc.output, hc.size, fun b hb => hc.same b hb (fun h => h hb)⟩⟩
  have h1 := calls_vc T hm hfn hb hnt (args := args.map .v) (m0 := []) (nb0 := 0) (h := Below w.heap.size w) (K := fun s σ => (∀ β, V (s.c β)) ∧ ∀ w', σ.h w' → Below w.heap.size w w') (by simpa using hlen) (lts_v _ _) (fun i b h => by simp [lk] at h) hvc h0
  rw [cs_v] at h1
  exact h1.mono fun e w' ⟨s, σ', β', D', he, hv, _, _, hmem⟩ => ⟨_, he, hv.1 β', hv.2 w' (hmem.h w' (Chg.refl _ _))⟩

theorem calls_val {P : Program} (T : Env P) (hm : P.follows .mixedOrders = true) {k : Nat} {fn : Func} {c : Code} (hfn : P.funcs[k]? = some fn) (hb : fn.body = some c) {nt : Nat} (hnt : fn.ntmps = nt) (args : List Value)
    (hlen : args.length ≤ nt) {w : World} {v : Value}
    (hvc : vc T c ⟨nt, slotsOf 0 (args.map .v), [], 0, Below w.heap.size w⟩ (endΦ T fn fun s σ => (∀ β, s.c β = v) ∧ ∀ w', σ.h w' → Below w.heap.size w w')) :
    Calls P k args.toArray w fun e w' => e = .returned v ∧ Below w.heap.size w w' :=
  (calls_pure T hm hfn hb hnt args hlen (V := fun x => x = v) hvc).mono fun _ _ ⟨_, he, hv, hb⟩ => ⟨by rw [he, hv], hb⟩

/-- A callee that makes new memory at most. -/
theorem CallOK.pure {P : Program} {σ : Sg} {k : Nat} {args : List SV} {v : Value} {rs : List Nat} (h : ∀ β w, σ.h w → Calls P k (SV.cs β args).toArray w fun e w' => e = .returned v ∧ Below w.heap.size w w') :
    CallOK P σ k args ⟨.v v, [], [], rs, []⟩ := fun β w _ _ hh => (h β w hh).mono fun _ _ ⟨he, hb⟩ => ⟨β, he, fun _ _ => rfl, ⟨hb.os, hb.tape, hb.output, hb.size, fun b hb' _ => hb.block b hb'⟩, fun i b h => (by cases h), fun i h => (by cases h), fun i h => (by cases h)⟩

theorem callE {P : Program} {σ : Sg} {k : Nat} {args : List SV} {v : Value} {rs : List Nat} {K : Ef → Prop} {KF : Option (Value → (World → Prop) → Prop)} (h : ∀ β w, σ.h w → Calls P k (SV.cs β args).toArray w fun e w' => e = .returned v ∧ Below w.heap.size w w')
    (hK : K ⟨.v v, [], [], rs, []⟩) : CallEv P σ k args (efB σ) rs K KF :=
  .mk ⟨.v v, [], [], [], []⟩ rfl (CallOK.pure h) hK

/-- A callee that makes new memory at most and may look at own blocks of the caller. -/
theorem callM {P : Program} {σ : Sg} {k : Nat} {args : List SV} {v : Value} {rs : List Nat} {K : Ef → Prop} {KF : Option (Value → (World → Prop) → Prop)} (rb : List Nat)
    (h : ∀ β w, (∀ i ∈ rb, ∀ b, lk σ.m i = some b → b.ok β w (β i)) → σ.h w → Calls P k (SV.cs β args).toArray w fun e w' => e = .returned v ∧ Below w.heap.size w w')
    (hK : K ⟨.v v, [], [], rs, rb⟩) : CallEv P σ k args (efB σ) rs K KF :=
  .mk ⟨.v v, [], [], [], rb⟩ rfl (fun β w h1 _ hh => (h β w h1 hh).mono fun _ _ ⟨he, hb⟩ => ⟨β, he, fun _ _ => rfl, ⟨hb.os, hb.tape, hb.output, hb.size, fun b hb' _ => hb.block b hb'⟩, fun i b h => (by cases h), fun i h => (by cases h), fun i h => (by cases h)⟩) hK

/-- A callee that makes new memory, of which something is said that abides. -/
theorem callF {P : Program} {σ : Sg} {k : Nat} {args : List SV} {B : Ef → Bool} {rs : List Nat} {K : Ef → Prop} {kf : Value → (World → Prop) → Prop} (rb : List Nat) {α : Type} (V : α → Value) (hx : α → World → Prop)
    (h : ∀ β w, (∀ i ∈ rb, ∀ b, lk σ.m i = some b → b.ok β w (β i)) → σ.h w → Calls P k (SV.cs β args).toArray w fun e w' => ∃ x, e = .returned (V x) ∧ Below w.heap.size w w' ∧ St w.heap.size (hx x) w')
    (hK : ∀ x, kf (V x) (hx x)) : CallEv P σ k args B rs K (some kf) :=
  .fam kf rfl rb α V hx h hK

theorem Blk.keep {β : Nat → Nat} {n : Nat} {w w' : World} {b : Nat} {k : Blk} (hl : k.live = true) (h : k.ok β w b) (hn : n ≤ b) (hk : Keep n w w') : k.ok β w' b :=
  Blk.ok_congr (fr := []) (fun _ _ => rfl) k (Blk.av_nil k) (fun _ => hk.same b hn (Blk.ok_lt hl h)) h

/-- Old memory of which all is known is no own block. -/
theorem Mem.old {σ : Sg} {β : Nat → Nat} {D : Nat → Prop} {w w0 : World} (hm : Mem σ β D w) (hb : ∀ w', σ.h w' → Below w0.heap.size w0 w') {b : Nat} (hlt : b < w0.heap.size) : D b := by
  refine Classical.byContradiction fun hD => ?_
  have h0 := hb w (hm.h w (Chg.refl _ _))
  have hne : ∃ o : Obj, w.heap[b]? ≠ some o := by
    by_cases h : w.heap[b]? = some (.cells #[] 0)
    · exact ⟨.cells #[undef] 0, by rw [h]; simp⟩
    · exact ⟨_, h⟩
  obtain ⟨o, ho⟩ := hne
  have hb' : b < w.heap.size := Nat.lt_of_lt_of_le hlt h0.size
  have h1 := hb { w with heap := w.heap.setIfInBounds b o } (hm.h _ ⟨rfl, rfl, rfl, by simp, fun k _ hk => by
    have hne : b ≠ k := fun e => hk (by subst e; exact hD)
    show (w.heap.setIfInBounds b o)[k]? = _
    rw [Array.getElem?_setIfInBounds_ne hne]⟩)
  have h2 := h1.block b hlt
  rw [← h0.block b hlt] at h2
  have h3 : (w.heap.setIfInBounds b o)[b]? = some o := by simp [hb']
  have h2 : (w.heap.setIfInBounds b o)[b]? = w.heap[b]? := h2
  rw [h3] at h2
  exact ho h2.symm

/-- A function whose result lies in memory that it has made: what is said of it at its end is said of the blocks, each at its place. -/
theorem calls_fam {P : Program} (T : Env P) (hm : P.follows .mixedOrders = true) {k : Nat} {fn : Func} {c : Code} (hfn : P.funcs[k]? = some fn) (hb : fn.body = some c) {nt : Nat} (hnt : fn.ntmps = nt) (args : List Value)
    (hlen : args.length ≤ nt) {w : World} {α : Type} {V : α → Value} {hx : α → World → Prop}
    (hvc : vc T c ⟨nt, slotsOf 0 (args.map .v), [], 0, Below w.heap.size w⟩ (endΦ T fn fun s σ => (∀ w', σ.h w' → Below w.heap.size w w') ∧ ∀ β w', σ.h w' →
      (∀ i b, lk σ.m i = some b → b.live = true → St w.heap.size (fun w2 => b.ok β w2 (β i)) w') → ∃ x, s.c β = V x ∧ St w.heap.size (hx x) w')) :
    Calls P k args.toArray w fun e w' => ∃ x, e = .returned (V x) ∧ Below w.heap.size w w' ∧ St w.heap.size (hx x) w' := by
  have h0 : Mem ⟨nt, slotsOf 0 (args.map .v), [], 0, Below w.heap.size w⟩ (fun _ => 0) (fun b => b < w.heap.size) w :=
    ⟨fun i b h => (by simp [lk] at h), fun i j bi bj h => (by simp [lk] at h), fun i b h => (by simp [lk] at h), fun b h => h,
     fun w' hc => ⟨hc.os, hc.tape, hc.output, hc.size, fun b hb => hc.same b hb (fun h => h hb)⟩⟩
  have h1 := calls_vc T hm hfn hb hnt (args := args.map .v) (m0 := []) (nb0 := 0) (h := Below w.heap.size w) (by simpa using hlen) (lts_v _ _) (fun i b h => by simp [lk] at h) hvc h0
  rw [cs_v] at h1
  refine h1.mono fun e w' ⟨s, σ', β', D', he, hv, _, _, hmem⟩ => ?_
  have hh := hmem.h w' (Chg.refl _ _)
  have hB := hv.1 w' hh
  obtain ⟨x, h2, h3⟩ := hv.2 β' w' hh fun i b hi hl w2 hk => Blk.keep hl (hmem.m i b hi) (Nat.le_of_not_lt fun hlt => hmem.out i b hi hl (hmem.old hv.1 hlt)) hk
  exact ⟨x, by rw [he, h2], hB, h3⟩

/-! ### Loops -/
def TSub (t : List (Nat × SV)) : List (Nat × SV) → Prop
  | [] => True
  | (k, s) :: r => lk t k = some s ∧ TSub t r
def MSub (m : List (Nat × Blk)) : List (Nat × Blk) → Prop
  | [] => True
  | (k, b) :: r => lk m k = some b ∧ MSub m r

theorem TSub.get {t : List (Nat × SV)} : ∀ {l : List (Nat × SV)}, TSub t l → ∀ k s, lk l k = some s → lk t k = some s
  | [], _, _, _, h => by simp [lk] at h
  | (j, x) :: r, ha, k, s, h => by
    simp only [lk] at h
    cases hb : Nat.beq k j with
    | true =>
      obtain rfl := Nat.eq_of_beq_eq_true hb
      rw [hb, cond_true, Option.some.injEq] at h
      subst h; exact ha.1
    | false =>
      rw [hb, cond_false] at h
      exact ha.2.get k s h
theorem MSub.get {t : List (Nat × Blk)} : ∀ {l : List (Nat × Blk)}, MSub t l → ∀ k s, lk l k = some s → lk t k = some s
  | [], _, _, _, h => by simp [lk] at h
  | (j, x) :: r, ha, k, s, h => by
    simp only [lk] at h
    cases hb : Nat.beq k j with
    | true =>
      obtain rfl := Nat.eq_of_beq_eq_true hb
      rw [hb, cond_true, Option.some.injEq] at h
      subst h; exact ha.1
    | false =>
      rw [hb, cond_false] at h
      exact ha.2.get k s h

theorem Ent.weak {σ σ' : Sg} (hn : σ'.nt = σ.nt) (ht : TSub σ.t σ'.t) (hm : MSub σ.m σ'.m) (hh : ∀ w, σ.h w → σ'.h w) : Ent σ σ' := by
  rintro a w ⟨β, D, h⟩
  exact ⟨β, D, h.defers, by rw [hn]; exact h.size, fun k s hk => h.t k s (ht.get k s hk), fun i b hi => h.m i b (hm.get i b hi),
    fun i j bi bj h1 h2 => h.inj i j bi bj (hm.get i bi h1) (hm.get j bj h2), fun i b hi => h.out i b (hm.get i b hi), h.dlt, fun w' hc => hh w' (h.h w' hc)⟩

def tB (nt nb : Nat) : List (Nat × SV) → Bool
  | [] => true
  | (k, s) :: r => Nat.blt k nt && s.lt nb && tB nt nb r
def mB (nb : Nat) : List (Nat × Blk) → Bool
  | [] => true
  | (i, b) :: r => Nat.blt i nb && b.lt nb && mB nb r
theorem okB {nt nb : Nat} {t : List (Nat × SV)} {m : List (Nat × Blk)} {h : World → Prop} (ht : tB nt nb t = true) (hm : mB nb m = true) : Sg.Ok ⟨nt, t, m, nb, h⟩ := by
  have h1 : ∀ {t : List (Nat × SV)}, tB nt nb t = true → ∀ k s, lk t k = some s → k < nt ∧ s.lt nb = true := by
    intro t
    induction t with
    | nil => intro _ k s hk; simp [lk] at hk
    | cons p r ih =>
      obtain ⟨j, x⟩ := p
      intro h k s hk
      simp only [tB, Bool.and_eq_true, Nat.blt_eq] at h
      simp only [lk] at hk
      cases hb : Nat.beq k j with
      | true =>
        obtain rfl := Nat.eq_of_beq_eq_true hb
        rw [hb, cond_true, Option.some.injEq] at hk
        subst hk; exact h.1
      | false =>
        rw [hb, cond_false] at hk
        exact ih h.2 k s hk
  have h2 : ∀ {m : List (Nat × Blk)}, mB nb m = true → ∀ k s, lk m k = some s → k < nb ∧ s.lt nb = true := by
    intro t
    induction t with
    | nil => intro _ k s hk; simp [lk] at hk
    | cons p r ih =>
      obtain ⟨j, x⟩ := p
      intro h k s hk
      simp only [mB, Bool.and_eq_true, Nat.blt_eq] at h
      simp only [lk] at hk
      cases hb : Nat.beq k j with
      | true =>
        obtain rfl := Nat.eq_of_beq_eq_true hb
        rw [hb, cond_true, Option.some.injEq] at hk
        subst hk; exact h.1
      | false =>
        rw [hb, cond_false] at hk
        exact ih h.2 k s hk
  exact ⟨⟨fun k s hk => (h1 ht k s hk).2, h2 hm⟩, fun k s hk => (h1 ht k s hk).1⟩

/-- A loop at whose head the named slots and blocks are known; what is known of the rest of the world stays. -/
theorem loopE {V : Sg → (Exit → Sg → Prop) → Prop} {nt nb : Nat} {t0 : List (Nat × SV)} {m0 : List (Nat × Blk)} {h : World → Prop} {Φ : Exit → Sg → Prop} {α : Type} (t : α → List (Nat × SV)) (m : α → List (Nat × Blk))
    (pre : α → Prop) (μ : α → Nat) (x0 : α) (h0 : pre x0) (ht : TSub t0 (t x0)) (hm : MSub m0 (m x0)) (hok : ∀ x, tB nt nb (t x) = true ∧ mB nb (m x) = true)
    (hr : ∀ x, pre x → V ⟨nt, t x, m x, nb, h⟩ (seqΦ (fun σ' => ∃ x', pre x' ∧ μ x' < μ x ∧ Ent σ' ⟨nt, t x', m x', nb, h⟩) Φ)) : LoopEv V ⟨nt, t0, m0, nb, h⟩ Φ :=
  ⟨α, fun x => ⟨nt, t x, m x, nb, h⟩, pre, μ, ⟨x0, h0, Ent.weak rfl ht hm fun _ h => h⟩, fun x hx => ⟨okB (hok x).1 (hok x).2, hr x hx⟩⟩

/-! ### Numbers, ways -/
theorem IR.div {k : IntKind} {a b : Int} (h : IR k a) (h0 : 0 ≤ a) (h1 : 0 < b) : IR k (a / b) := by
  have h2 : 0 ≤ a / b := Int.ediv_nonneg h0 (Int.le_of_lt h1)
  have h3 : a / b ≤ a := by
    have := Int.ediv_le_self b h0
    exact this
  cases k <;> simp only [IR] at * <;> omega
theorem quoE {k : IntKind} {a b : Int} {K : Int → Prop} (h0 : 0 ≤ a) (h1 : 0 < b) (h2 : IR k a) (h : K (a / b)) : ∃ q : Int, (b ≠ 0 ∧ a.tdiv b = q ∧ IR k q) ∧ K q :=
  ⟨a / b, ⟨by omega, Int.tdiv_eq_ediv_of_nonneg h0, h2.div h0 h1⟩, h⟩
theorem remE {a b : Int} {K : Int → Prop} (h0 : 0 ≤ a) (h1 : 0 < b) (h : K (a % b)) : ∃ q : Int, (b ≠ 0 ∧ a.tmod b = q) ∧ K q :=
  ⟨a % b, ⟨by omega, Int.tmod_eq_emod_of_nonneg h0⟩, h⟩

theorem splT {A B : Prop} (h : A) : (true = true → A) ∧ (true = false → B) := ⟨fun _ => h, fun h => (by cases h)⟩
theorem splF {A B : Prop} (h : B) : (false = true → A) ∧ (false = false → B) := ⟨fun h => (by cases h), fun _ => h⟩
theorem splD {p : Prop} [Decidable p] {A B : Prop} (h1 : p → A) (h2 : ¬ p → B) : (decide p = true → A) ∧ (decide p = false → B) := ⟨fun h => h1 (of_decide_eq_true h), fun h => h2 (of_decide_eq_false h)⟩
theorem splE {a b : Int} {A B : Prop} (h1 : a = b → A) (h2 : a ≠ b → B) : ((a == b) = true → A) ∧ ((a == b) = false → B) := ⟨fun h => h1 (by simpa using h), fun h => h2 (by simpa using h)⟩
theorem splNE {a b : Int} {A B : Prop} (h1 : a ≠ b → A) (h2 : a = b → B) : ((a != b) = true → A) ∧ ((a != b) = false → B) := ⟨fun h => h1 (by simpa using h), fun h => h2 (by simpa using h)⟩
theorem splNot {b : Bool} {A B : Prop} (h : (b = true → B) ∧ (b = false → A)) : ((!b) = true → A) ∧ ((!b) = false → B) := ⟨fun e => h.2 (by simpa using e), fun e => h.1 (by simpa using e)⟩
theorem splB {b : Bool} {A B : Prop} (h1 : b = true → A) (h2 : b = false → B) : (b = true → A) ∧ (b = false → B) := ⟨h1, h2⟩

/-- A number from low to high. -/
def inB (n lo hi : Int) : Bool := decide (lo ≤ n) && decide (n ≤ hi)
theorem inB_iff {n lo hi : Int} : inB n lo hi = true ↔ lo ≤ n ∧ n ≤ hi := by simp [inB]
theorem splIn {n lo hi : Int} {A B : Prop} (h1 : lo ≤ n ∧ n ≤ hi → A) (h2 : ¬ (lo ≤ n ∧ n ≤ hi) → B) : (inB n lo hi = true → A) ∧ (inB n lo hi = false → B) :=
  ⟨fun h => h1 (inB_iff.1 h), fun h => h2 fun e => by rw [inB_iff.2 e] at h; cases h⟩

end Go.Proofs.Ytlehjapeomallaa.Sx
