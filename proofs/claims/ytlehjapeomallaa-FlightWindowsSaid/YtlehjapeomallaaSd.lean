/- The engine, part 4: what single operations do: types, operands, memory. -/
import Derived.Test.YtlehjapeomallaaSc
namespace Go.Proofs.Ytlehjapeomallaa.Sx
open Go

/-! ### Types -/
inductive TK where
  | plain
  | int (k : IntKind)
  | struct (fs : List (Nat × Nat))
  | arr (n e : Nat)
  | slice (e : Nat)

structure TI where
  size : Nat
  zero : List Value
  bytes : Nat
  kind : TK

def TK.agg : TK → Bool
  | .struct _ | .arr _ _ => true
  | _ => false

def kindOf : TypeDesc → TK
  | .int k => .int k
  | .struct fs => .struct (fs.toList.map fun f => (f.offset, f.type))
  | .array n e => .arr n e
  | .slice e => .slice e
  | _ => .plain

structure TOK (P : Program) (t : TypeId) (ti : TI) : Prop where
  info : (P.info? t).map (fun i => (i.size, i.zero.map (fun z => z.cells.toList), i.bytes)) = some (ti.size, some ti.zero, ti.bytes)
  kind : (P.underlying t).map kindOf = some ti.kind

/-- A table of types, and of functions that are entered when called, that is right of a program. -/
structure Env (P : Program) where
  ty : Nat → Option TI
  tok : ∀ t ti, ty t = some ti → TOK P t ti
  fn : Nat → Bool
  fok : ∀ k, fn k = true → ∀ args w, (callFunc k args).run P w = .ok (.enter k args) w

theorem callFunc_enter {P : Program} {f : FuncId} {fn : Func} {c : Code} (hf : P.funcs[f]? = some fn) (hname : (fn.name == "runtime.NumGoroutine") = false) (hb : fn.body = some c) (args : Array Value) (w : World) :
    (callFunc f args).run P w = .ok (.enter f args) w := by
  have hne : ¬ fn.name = "runtime.NumGoroutine" := by simpa using hname
  simp [callFunc, hf, hne, hb]

section
variable {P : Program} {t : TypeId} {ti : TI}

theorem TOK.row (h : TOK P t ti) : ∃ i z, P.info? t = some i ∧ i.size = ti.size ∧ i.zero = some z ∧ z.cells.toList = ti.zero ∧ i.bytes = ti.bytes := by
  have h1 := h.info
  cases hi : P.info? t with
  | none => rw [hi] at h1; cases h1
  | some i =>
    rw [hi] at h1
    simp only [Option.map_some, Option.some.injEq, Prod.mk.injEq] at h1
    cases hz : i.zero with
    | none => rw [hz] at h1; cases h1.2.1
    | some z =>
      rw [hz] at h1
      simp only [Option.map_some, Option.some.injEq] at h1
      exact ⟨i, z, rfl, h1.1, hz, h1.2.1, h1.2.2⟩

theorem TOK.under (h : TOK P t ti) : ∃ d, P.underlying t = some d ∧ kindOf d = ti.kind := by
  have h1 := h.kind
  cases hd : P.underlying t with
  | none => rw [hd] at h1; cases h1
  | some d => rw [hd] at h1; exact ⟨d, rfl, by simpa using h1⟩

theorem TOK.run_typeInfo (h : TOK P t ti) (w : World) : ∃ i z, (typeInfo t).run P w = .ok i w ∧ i.size = ti.size ∧ i.zero = some z ∧ z.cells.toList = ti.zero ∧ i.bytes = ti.bytes := by
  obtain ⟨i, z, h1, h2, h3, h4, h5⟩ := h.row
  exact ⟨i, z, by simp [typeInfo, h1], h2, h3, h4, h5⟩

theorem TOK.run_sizeOf (h : TOK P t ti) (w : World) : (sizeOf t).run P w = .ok ti.size w := by
  obtain ⟨i, z, h1, h2, _⟩ := h.run_typeInfo w
  simp [sizeOf, h1, h2]

theorem TOK.run_zero (h : TOK P t ti) : ∃ z : Value, z.cells.toList = ti.zero ∧ ∀ w, (zeroValue t).run P w = .ok z w := by
  obtain ⟨i, z, h1, _, h3, h4, _⟩ := h.row
  exact ⟨z, h4, fun w => by simp [zeroValue, typeInfo, h1, h3]⟩

theorem TOK.run_isAgg (h : TOK P t ti) (w : World) : (isAgg t).run P w = .ok ti.kind.agg w := by
  obtain ⟨d, h1, h2⟩ := h.under
  unfold isAgg
  rw [Sem.run_bind, Go.run_underlying h1 w, Result.andThen_ok, ← h2]
  cases d <;> rfl

theorem kindOf_struct {d : TypeDesc} {fs : List (Nat × Nat)} (h : kindOf d = .struct fs) : ∃ a : Array Field, d = .struct a ∧ a.toList.map (fun f => (f.offset, f.type)) = fs := by
  cases d <;> simp [kindOf] at h
  exact ⟨_, rfl, h⟩
theorem kindOf_arr {d : TypeDesc} {n e : Nat} (h : kindOf d = .arr n e) : d = .array n e := by
  cases d <;> simp [kindOf] at h
  obtain ⟨rfl, rfl⟩ := h; rfl
theorem kindOf_slice {d : TypeDesc} {e : Nat} (h : kindOf d = .slice e) : d = .slice e := by
  cases d <;> simp [kindOf] at h
  subst h; rfl
theorem kindOf_int {d : TypeDesc} {k : IntKind} (h : kindOf d = .int k) : d = .int k := by
  cases d <;> simp [kindOf] at h
  subst h; rfl
end

/-! ### Operands -/
def gv (σ : Sg) : Operand → Option SV
  | .tmp k => lk σ.t k
  | .const x => some (.v x)
  | .func f => some (.v (.func (.func f) #[] #[]))
  | .global _ => none
def os : Operand → List Nat
  | .tmp k => [k]
  | _ => []

theorem gv_eval {σ : Sg} {E : Ef} {β : Nat → Nat} {a : Act} {w : World} (h : Sees σ E β a w) {x : Operand} {s : SV} (hx : gv σ x = some s) (ho : ∀ k ∈ os x, k ∈ E.rs) : a.eval x = s.c β := by
  cases x with
  | tmp k => exact h.t k (ho k (by simp [os])) s hx
  | const v => simp only [gv, Option.some.injEq] at hx; subst hx; rfl
  | func f => simp only [gv, Option.some.injEq] at hx; subst hx; rfl
  | global g => cases hx

def SV.cells : SV → List SV
  | .v (.agg cs) => cs.toList.map .v
  | .agg l => l
  | s => [s]

theorem SV.cells_c (β : Nat → Nat) (s : SV) : (s.c β).cells.toList = SV.cs β s.cells := by
  cases s with
  | v x =>
    cases x <;> simp [SV.c, SV.cells, Value.cells, SV.cs_eq]
    rename_i cs
    exact (List.map_id' _).symm.trans (List.map_congr_left fun x _ => rfl)
  | agg l => simp [SV.c, SV.cells, Value.cells]
  | ptr i o => simp [SV.c, SV.cells, Value.cells, SV.cs]
  | sl i o n k => simp [SV.c, SV.cells, Value.cells, SV.cs]
  | os i j n => simp [SV.c, SV.cells, Value.cells, SV.cs]
  | fn f cap => simp [SV.c, SV.cells, Value.cells, SV.cs]
  | tup l => simp [SV.c, SV.cells, Value.cells, SV.cs]

theorem lts_iff {n : Nat} : ∀ {l : List SV}, SV.lts n l = true ↔ ∀ s ∈ l, s.lt n = true
  | [] => by simp [SV.lts]
  | x :: r => by simp [SV.lts, lts_iff (l := r)]

theorem avs_iff {fr : List Nat} : ∀ {l : List SV}, SV.avs fr l = true ↔ ∀ s ∈ l, s.av fr = true
  | [] => by simp [SV.avs]
  | x :: r => by simp [SV.avs, avs_iff (l := r)]

theorem SV.cells_lt {n : Nat} {s : SV} (h : s.lt n = true) : SV.lts n s.cells = true := by
  cases s with
  | v x => cases x <;> simp [SV.cells, SV.lts, SV.lt, lts_iff]
  | agg l => simpa [SV.cells, SV.lt] using h
  | ptr i o => simpa [SV.cells, SV.lts] using h
  | sl i o n k => simpa [SV.cells, SV.lts] using h
  | os i j n => simpa [SV.cells, SV.lts] using h
  | fn f cap => simpa [SV.cells, SV.lts] using h
  | tup l => simpa [SV.cells, SV.lts] using h

mutual
theorem SV.lt_mono {n m : Nat} (hm : n ≤ m) : ∀ s : SV, s.lt n = true → s.lt m = true
  | .v _, _ => rfl
  | .ptr i _, h => by simp only [SV.lt, Nat.blt_eq] at *; omega
  | .sl i _ _ _, h => by simp only [SV.lt, Nat.blt_eq] at *; omega
  | .os i j _, h => by simp only [SV.lt, Bool.and_eq_true, Nat.blt_eq] at *; omega
  | .agg l, h => by simp only [SV.lt] at *; exact SV.lts_mono hm l h
  | .fn _ cap, h => by simp only [SV.lt] at *; exact SV.lts_mono hm cap h
  | .tup l, h => by simp only [SV.lt] at *; exact SV.lts_mono hm l h
theorem SV.lts_mono {n m : Nat} (hm : n ≤ m) : ∀ l : List SV, SV.lts n l = true → SV.lts m l = true
  | [], _ => rfl
  | x :: r, h => by
    simp only [SV.lts, Bool.and_eq_true] at *
    exact ⟨SV.lt_mono hm x h.1, SV.lts_mono hm r h.2⟩
end
theorem Blk.lt_mono {n m : Nat} (hm : n ≤ m) (b : Blk) (h : b.lt n = true) : b.lt m = true := by
  cases b with
  | cells l ty => exact SV.lts_mono hm l h
  | own j k sz xs ty => simp only [Blk.lt, Nat.blt_eq] at *; omega
  | _ => rfl

mutual
theorem SV.lt_av {n c : Nat} : ∀ s : SV, s.lt n = true → s.av (List.range' n c) = true
  | .v _, _ => rfl
  | .ptr i _, h => by simp only [SV.lt, Nat.blt_eq] at h; simp only [SV.av, nin_iff, List.mem_range'_1]; omega
  | .sl i _ _ _, h => by simp only [SV.lt, Nat.blt_eq] at h; simp only [SV.av, nin_iff, List.mem_range'_1]; omega
  | .os i j _, h => by simp only [SV.lt, Bool.and_eq_true, Nat.blt_eq] at h; simp only [SV.av, Bool.and_eq_true, nin_iff, List.mem_range'_1]; omega
  | .agg l, h => by simp only [SV.lt] at h; simp only [SV.av]; exact SV.lts_avs l h
  | .fn _ cap, h => by simp only [SV.lt] at h; simp only [SV.av]; exact SV.lts_avs cap h
  | .tup l, h => by simp only [SV.lt] at h; simp only [SV.av]; exact SV.lts_avs l h
theorem SV.lts_avs {n c : Nat} : ∀ l : List SV, SV.lts n l = true → SV.avs (List.range' n c) l = true
  | [], _ => rfl
  | x :: r, h => by
    simp only [SV.lts, SV.avs, Bool.and_eq_true] at *
    exact ⟨SV.lt_av x h.1, SV.lts_avs r h.2⟩
end

theorem Blk.lt_av {n c : Nat} (b : Blk) (h : b.lt n = true) : b.av (List.range' n c) = true := by
  cases b with
  | cells l ty => exact SV.lts_avs l h
  | own j k sz xs ty => simp only [Blk.lt, Nat.blt_eq] at h; simp only [Blk.av, nin_iff, List.mem_range'_1]; omega
  | _ => rfl

/-- The state names no own block that has no number. -/
structure Sg.Wf (σ : Sg) : Prop where
  t : ∀ k s, lk σ.t k = some s → s.lt σ.nb = true
  m : ∀ i b, lk σ.m i = some b → i < σ.nb ∧ b.lt σ.nb = true

theorem Sg.Wf.gv {σ : Sg} (h : σ.Wf) {x : Operand} {s : SV} (hx : gv σ x = some s) : s.lt σ.nb = true := by
  cases x with
  | tmp k => exact h.t k s hx
  | const v => simp only [Sx.gv, Option.some.injEq] at hx; subst hx; rfl
  | func f => simp only [Sx.gv, Option.some.injEq] at hx; subst hx; rfl
  | global g => cases hx

/-- The closed part of what an effect must be. -/
structure EfOK (σ : Sg) (E : Ef) : Prop where
  fr : E.fr = List.range' σ.nb E.fr.length
  val : E.val.lt (σ.nb + E.fr.length) = true
  mods : ∀ i b, (i, b) ∈ E.mods → i < σ.nb + E.fr.length ∧ b.lt (σ.nb + E.fr.length) = true
  old : ∀ i b, (i, b) ∈ E.mods → i < σ.nb → i ∈ E.rb ∧ ∃ bk, lk σ.m i = some bk ∧ bk.live = true
  once : ∀ i b b', (i, b) ∈ E.mods → (i, b') ∈ E.mods → b = b'

theorem EfOK.link {F : Fence} {n : Nat} {P : Program} {ops : Array Oper} {o : Oper} {σ : Sg} {E : Ef} (h : EfOK σ E) (hw : σ.Wf) (hd : ∀ d, o.dst = some d → d < σ.nt) (hok : OpOK F n P ops o σ E) :
    Link F n P ops o σ E := by
  have hfr : ∀ i, i ∈ E.fr → σ.nb ≤ i := fun i hi => by
    rw [h.fr, List.mem_range'_1] at hi
    exact hi.1
  refine ⟨hok, ⟨fun i b hi hf => ?_, h.once⟩, ⟨fun k s hk => ?_, fun i b hi => ⟨fun hf => ?_, ?_⟩⟩, fun i b hi hf => ?_, hd⟩
  · have hlt : i < σ.nb := by
      have h1 := (h.mods i b hi).1
      rcases Nat.lt_or_ge i σ.nb with h2 | h2
      · exact h2
      · exfalso; apply hf
        rw [h.fr, List.mem_range'_1]
        exact ⟨h2, h1⟩
    exact (h.old i b hi hlt).2
  · rw [h.fr]; exact SV.lt_av s (hw.t k s hk)
  · have := hfr i hf
    have := (hw.m i b hi).1
    omega
  · rw [h.fr]
    have := (hw.m i b hi).2
    exact Blk.lt_av b this
  · have hlt : i < σ.nb := by
      have h1 := (h.mods i b hi).1
      rcases Nat.lt_or_ge i σ.nb with h2 | h2
      · exact h2
      · exfalso; apply hf
        rw [h.fr, List.mem_range'_1]
        exact ⟨h2, h1⟩
    exact (h.old i b hi hlt).1

theorem EfOK.wf {σ : Sg} {E : Ef} (h : EfOK σ E) (hw : σ.Wf) (dst : Option Tmp) : (σ.app dst E).Wf := by
  constructor
  · intro k s hk
    cases dst with
    | none => exact SV.lt_mono (Nat.le_add_right _ _) s (hw.t k s hk)
    | some d =>
      have hk : lk ((d, E.val) :: σ.t) k = some s := hk
      simp only [lk] at hk
      cases hb : Nat.beq k d with
      | true =>
        rw [hb, cond_true, Option.some.injEq] at hk
        subst hk; exact h.val
      | false =>
        rw [hb, cond_false] at hk
        exact SV.lt_mono (Nat.le_add_right _ _) s (hw.t k s hk)
  · intro i b hi
    have hi' : lk (E.mods ++ σ.m) i = some b := hi
    rw [lk_append] at hi'
    cases hm : lk E.mods i with
    | some y =>
      rw [hm] at hi'
      have hyb : y = b := Option.some.inj hi'
      subst hyb
      exact h.mods i y (lk_mem hm)
    | none =>
      rw [hm] at hi'
      have := hw.m i b (by simpa using hi')
      exact ⟨Nat.lt_of_lt_of_le this.1 (Nat.le_add_right _ _), Blk.lt_mono (Nat.le_add_right _ _) b this.2⟩

/-! ### From the operation's run -/
def RunOK (P : Program) (o : Oper) (σ : Sg) (E : Ef) : Prop :=
  ∀ β a w, Sees σ E β a w → ∃ β' w', EfPost E β β' w w' ∧ ((execOp a.eval o).run P w = .ok (.value (E.val.c β')) w' ∨ (execOp a.eval o).run P w = .ok .skip w' ∧ E.val.c β' = undef)

def notDefer : Op → Bool
  | .defer _ => false
  | _ => true

/-- The operation is carried out. -/
structure GuardOn (ops : Array Oper) (o : Oper) (σ : Sg) (E : Ef) : Prop where
  h : o.guard = none ∨ ∃ j want k, o.guard = some (j, want) ∧ (ops[j]?).bind (·.dst) = some k ∧ k ∈ E.rs ∧ lk σ.t k = some (.v (.bool want))

theorem GuardOn.wanted {ops : Array Oper} {o : Oper} {σ : Sg} {E : Ef} (h : GuardOn ops o σ E) {β : Nat → Nat} {a : Act} {w : World} (hs : Sees σ E β a w) (hlt : ∀ k s, lk σ.t k = some s → k < σ.nt) :
    Region.wanted o (yielded ops a.tmps) = true := by
  rcases h.h with h | ⟨j, want, k, h1, h2, h3, h4⟩
  · simp [Region.wanted, h]
  · have := hs.t k h3 _ h4
    have hk := hlt k _ h4
    rw [← hs.size] at hk
    simp only [Region.wanted, h1, yielded, h2, Option.bind_some]
    have h5 : a.tmps[k]? = some (.bool want) := by
      rw [Array.getElem?_eq_getElem hk]
      simpa [hk, SV.c] using this
    simp [h5]

theorem RunOK.op {F : Fence} {n : Nat} {P : Program} {ops : Array Oper} {o : Oper} {σ : Sg} {E : Ef} (hF : Wd F) (hnd : notDefer o.op = true) (hg : GuardOn ops o σ E) (hlt : ∀ k s, lk σ.t k = some s → k < σ.nt)
    (h : RunOK P o σ E) : OpOK F n P ops o σ E := by
  intro Q β a w K hs hk
  obtain ⟨β', w', hp, hr⟩ := h β a w hs
  unfold StepB
  rw [hg.wanted hs hlt, if_pos rfl]
  refine ⟨fun f _ => hF.fn f, ?_⟩
  have hsem : o.semAt F.round a.eval = execOp a.eval o := Oper.semAt_eq _ _ _ (fun c hc => by rw [hc] at hnd; cases hnd)
  rw [hsem]
  rcases hr with hr | ⟨hr, hu⟩
  · rw [hr, Oper.uponIn_value]; exact hk β' w' hp
  · rw [hr, Oper.uponIn_skip, ← hu]; exact hk β' w' hp

/-- An operation that is passed over. -/
theorem skip_op {F : Fence} {n : Nat} {P : Program} {ops : Array Oper} {o : Oper} {σ : Sg} {j : Nat} {want : Bool} {k : Nat} (hF : Wd F) (hg : o.guard = some (j, want)) (hk : (ops[j]?).bind (·.dst) = some k)
    (hl : lk σ.t k = some (.v (.bool (!want)))) (hlt : ∀ k s, lk σ.t k = some s → k < σ.nt) : OpOK F n P ops o σ ⟨.v undef, [], [], [k], []⟩ := by
  intro Q β a w K hs hK
  have := hs.t k (by simp) _ hl
  have hkk := hlt k _ hl
  rw [← hs.size] at hkk
  have h5 : a.tmps[k]? = some (.bool (!want)) := by
    rw [Array.getElem?_eq_getElem hkk]
    simpa [hkk, SV.c] using this
  unfold StepB
  have hw : Region.wanted o (yielded ops a.tmps) = false := by
    simp only [Region.wanted, hg, yielded, hk, Option.bind_some, h5]
    cases want <;> rfl
  rw [hw, if_neg (by simp)]
  exact ⟨fun f _ => hF.fn f, hK β w ⟨fun _ _ => rfl, Chg.refl _ _, fun i b h => (by cases h), fun i h => (by cases h), fun i h => (by cases h)⟩⟩

theorem skip_undef {F : Fence} {n : Nat} {P : Program} {ops : Array Oper} {o : Oper} {σ : Sg} {j : Nat} {want : Bool} {k : Nat} {vs : Array Value} (hF : Wd F) (hg : o.guard = some (j, want)) (hk : (ops[j]?).bind (·.dst) = some k)
    (hl : lk σ.t k = some (.v (.tuple vs))) (hlt : ∀ k s, lk σ.t k = some s → k < σ.nt) : OpOK F n P ops o σ ⟨.v undef, [], [], [k], []⟩ := by
  intro Q β a w K hs hK
  have := hs.t k (by simp) _ hl
  have hkk := hlt k _ hl
  rw [← hs.size] at hkk
  have h5 : a.tmps[k]? = some (.tuple vs) := by
    rw [Array.getElem?_eq_getElem hkk]
    simpa [hkk, SV.c] using this
  unfold StepB
  have hw : Region.wanted o (yielded ops a.tmps) = false := by
    simp only [Region.wanted, hg, yielded, hk, Option.bind_some, h5]
    cases want <;> rfl
  rw [hw, if_neg (by simp)]
  exact ⟨fun f _ => hF.fn f, hK β w ⟨fun _ _ => rfl, Chg.refl _ _, fun i b h => (by cases h), fun i h => (by cases h), fun i h => (by cases h)⟩⟩

theorem EfPost.pure (E : Ef) (hf : E.fr = []) (hm : E.mods = []) (β : Nat → Nat) (w : World) : EfPost E β β w w :=
  ⟨fun _ _ => rfl, Chg.refl _ _, fun i b h => (by rw [hm] at h; cases h), fun i h => (by rw [hf] at h; cases h), fun i h => (by rw [hf] at h; cases h)⟩

/-- A new block. -/
theorem EfPost.newBlk {β : Nat → Nat} {w : World} {i : Nat} {l : List SV} {ty : TypeId} {v : SV} {rs rb : List Nat} (hi : SV.lts i l = true) :
    EfPost ⟨v, [i], [(i, .cells l ty)], rs, rb⟩ β (fun j => if j = i then w.heap.size else β j) w (w.alloc (.cells (SV.cs β l).toArray ty)) := by
  have hag : ∀ j, j ∉ ([i] : List Nat) → (fun j => if j = i then w.heap.size else β j) j = β j := fun j hj => by
    simp only [List.mem_singleton] at hj; simp [hj]
  refine ⟨hag, ⟨rfl, rfl, rfl, by simp, fun b hb _ => ?_⟩, fun j b hj => ?_, fun j hj _ => ?_, fun j hj k hk _ _ hne => ?_⟩
  · simp only [World.alloc, Array.getElem?_push]
    rw [if_neg (by omega)]
  · simp only [List.mem_singleton, Prod.mk.injEq] at hj
    obtain ⟨rfl, rfl⟩ := hj
    simp only [Blk.ok, if_true]
    rw [SV.cs_congr hag l (by have := SV.lts_avs (c := 1) l hi; simpa using this)]
    show (w.heap.push _)[w.heap.size]? = _
    rw [Array.getElem?_push, if_pos rfl]
  · simp only [List.mem_singleton] at hj
    subst hj
    exact .inl (by simp)
  · simp only [List.mem_singleton] at hj hk
    omega

/-- An old block with other cells. -/
theorem EfPost.set {β : Nat → Nat} {w : World} {i : Nat} {l l' : List SV} {ty : TypeId} {v : SV} {rs rb : List Nat} (h : w.heap[β i]? = some (.cells (SV.cs β l).toArray ty (0, 0))) :
    EfPost ⟨v, [], [(i, .cells l' ty)], rs, rb⟩ β β w (w.setRow (β i) (SV.cs β l').toArray) := by
  have hlt : β i < w.heap.size := (Array.getElem?_eq_some_iff.1 h).1
  refine ⟨fun _ _ => rfl, ⟨rfl, rfl, rfl, by simp [World.setRow], fun b hb hX => ?_⟩, fun j b hj => ?_, fun j hj => (by cases hj), fun j hj => (by cases hj)⟩
  · have hne : β i ≠ b := fun e => hX ⟨i, _, List.mem_singleton.2 rfl, by simp, e⟩
    simp only [World.setRow, Array.getElem?_modify]
    rw [if_neg hne]
  · simp only [List.mem_singleton, Prod.mk.injEq] at hj
    obtain ⟨rfl, rfl⟩ := hj
    simp only [Blk.ok, World.setRow, Array.getElem?_modify, if_true, h, Option.map_some]

end Go.Proofs.Ytlehjapeomallaa.Sx
