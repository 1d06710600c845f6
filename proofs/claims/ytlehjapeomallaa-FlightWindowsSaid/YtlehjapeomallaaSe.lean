/- The engine, part 5: the evaluator of single operations, and that it is right. -/
import Derived.Test.YtlehjapeomallaaSd
import Derived.Below
namespace Go.Proofs.Ytlehjapeomallaa.Sx
open Go Go.RowKit

/-! ### Lists, said so that what is handed on is written out -/
def takeK : Nat → List SV → (List SV → Prop) → Prop
  | 0, _, K => K []
  | n + 1, x :: r, K => takeK n r fun l => K (x :: l)
  | _ + 1, [], _ => False
def dropK : Nat → List SV → (List SV → Prop) → Prop
  | 0, l, K => K l
  | n + 1, _ :: r, K => dropK n r K
  | _ + 1, [], _ => False
def replK : List SV → List SV → (List SV → Prop) → Prop
  | l, [], K => K l
  | _ :: r, y :: ys, K => replK r ys fun l => K (y :: l)
  | [], _ :: _, _ => False
def splK : Nat → List SV → List SV → (List SV → Prop) → Prop
  | 0, l, ys, K => replK l ys K
  | n + 1, x :: r, ys, K => splK n r ys fun l => K (x :: l)
  | _ + 1, [], _, _ => False

def normK : List SV → (List SV → Prop) → Prop
  | [], K => K []
  | x :: r, K => normK r fun l => K (x :: l)
theorem normK_spec : ∀ {l : List SV} {K : List SV → Prop}, normK l K → K l
  | [], _, h => h
  | _ :: r, _, h => normK_spec (l := r) h
def nbK : Sg → (Nat → Prop) → Prop
  | ⟨_, _, _, nb, _⟩, K => K nb
theorem nbK_spec {σ : Sg} {K : Nat → Prop} (h : nbK σ K) : K σ.nb := h

theorem takeK_spec : ∀ (n : Nat) (l : List SV) (K : List SV → Prop), takeK n l K → n ≤ l.length ∧ K (l.take n)
  | 0, l, K, h => ⟨Nat.zero_le _, by simpa [takeK] using h⟩
  | n + 1, x :: r, K, h => by
    obtain ⟨h1, h2⟩ := takeK_spec n r _ h
    exact ⟨by simp; omega, by simpa using h2⟩
  | n + 1, [], K, h => h.elim
theorem dropK_spec : ∀ (n : Nat) (l : List SV) (K : List SV → Prop), dropK n l K → n ≤ l.length ∧ K (l.drop n)
  | 0, l, K, h => ⟨Nat.zero_le _, by simpa [dropK] using h⟩
  | n + 1, x :: r, K, h => by
    obtain ⟨h1, h2⟩ := dropK_spec n r K h
    exact ⟨by simp; omega, by simpa using h2⟩
  | n + 1, [], K, h => h.elim
theorem replK_spec : ∀ (l ys : List SV) (K : List SV → Prop), replK l ys K → ys.length ≤ l.length ∧ K (ys ++ l.drop ys.length)
  | l, [], K, h => ⟨Nat.zero_le _, by cases l <;> simpa [replK] using h⟩
  | _ :: r, y :: ys, K, h => by
    obtain ⟨h1, h2⟩ := replK_spec r ys _ h
    exact ⟨by simp; omega, by simpa using h2⟩
  | [], _ :: _, K, h => h.elim
theorem splK_spec : ∀ (n : Nat) (l ys : List SV) (K : List SV → Prop), splK n l ys K → n + ys.length ≤ l.length ∧ K (l.take n ++ ys ++ l.drop (n + ys.length))
  | 0, l, ys, K, h => by
    obtain ⟨h1, h2⟩ := replK_spec l ys K h
    exact ⟨by omega, by simpa using h2⟩
  | n + 1, x :: r, ys, K, h => by
    obtain ⟨h1, h2⟩ := splK_spec n r ys _ h
    refine ⟨by simp; omega, ?_⟩
    have e : n + 1 + ys.length = (n + ys.length) + 1 := by omega
    rw [e]
    simpa using h2
  | n + 1, [], ys, K, h => h.elim

theorem lts_take {n k : Nat} {l : List SV} (h : SV.lts n l = true) : SV.lts n (l.take k) = true := by
  rw [lts_iff] at *; exact fun s hs => h s (List.mem_of_mem_take hs)
theorem lts_drop {n k : Nat} {l : List SV} (h : SV.lts n l = true) : SV.lts n (l.drop k) = true := by
  rw [lts_iff] at *; exact fun s hs => h s (List.mem_of_mem_drop hs)
theorem lts_append {n : Nat} {l r : List SV} (h : SV.lts n l = true) (h' : SV.lts n r = true) : SV.lts n (l ++ r) = true := by
  rw [lts_iff] at *
  intro s hs
  rcases List.mem_append.1 hs with hs | hs
  · exact h s hs
  · exact h' s hs

/-- A variable's value out of its cells. -/
def valK (agg : Bool) (l : List SV) (K : SV → Prop) : Prop :=
  match agg with
  | true => K (.agg l)
  | false => match l with
    | [s] => K s
    | _ => False

def SV.one : SV → Bool
  | .v x => x.oneCell'
  | .agg _ => false
  | .tup _ => false
  | _ => true
def ones : List SV → Bool
  | [] => true
  | s :: r => s.one && ones r
theorem ones_c (β : Nat → Nat) : ∀ {l : List SV}, ones l = true → ∀ v ∈ SV.cs β l, v.oneCell' = true
  | [], _, v, hv => by simp [SV.cs] at hv
  | s :: r, h, v, hv => by
    simp only [ones, Bool.and_eq_true] at h
    simp only [SV.cs, List.mem_cons] at hv
    rcases hv with rfl | hv
    · cases s with
      | v x => exact h.1
      | agg l => cases h.1
      | tup l => cases h.1
      | ptr i o => rfl
      | sl i o n k => rfl
      | os i j n => rfl
      | fn f cap => rfl
    · exact ones_c β h.2 v hv

/-! ### Numbers -/
/-- The number fits the kind. -/
def IR : IntKind → Int → Prop
  | .i8, z => -128 ≤ z ∧ z ≤ 127
  | .i16, z => -32768 ≤ z ∧ z ≤ 32767
  | .i32, z => -2147483648 ≤ z ∧ z ≤ 2147483647
  | .i64, z => -9223372036854775808 ≤ z ∧ z ≤ 9223372036854775807
  | .u8, z => 0 ≤ z ∧ z ≤ 255
  | .u16, z => 0 ≤ z ∧ z ≤ 65535
  | .u32, z => 0 ≤ z ∧ z ≤ 4294967295
  | .u64, z => 0 ≤ z ∧ z ≤ 18446744073709551615

theorem IR.wrap {k : IntKind} {z : Int} (h : IR k z) : k.wrap z = z := by
  cases k <;> simp only [IR] at h <;> simp only [IntKind.wrap, IntKind.bits, IntKind.signed] <;> simp <;> omega

def imax (x y : Int) : Int := if y > x then y else x
def imin (x y : Int) : Int := if y < x then y else x
theorem imax_eq (x y : Int) : imax x y = max x y := by unfold imax; omega
theorem imin_eq (x y : Int) : imin x y = min x y := by unfold imin; omega

def arithK (op : BinOp) (k : IntKind) (a b : Int) (K : SV → Prop) : Prop :=
  match op with
  | .add => IR k (a + b) ∧ K (.v (.int k (a + b)))
  | .sub => IR k (a - b) ∧ K (.v (.int k (a - b)))
  | .mul => IR k (a * b) ∧ K (.v (.int k (a * b)))
  | .quo => ∃ q : Int, (b ≠ 0 ∧ a.tdiv b = q ∧ IR k q) ∧ K (.v (.int k q))
  | .rem => ∃ q : Int, (b ≠ 0 ∧ a.tmod b = q) ∧ K (.v (.int k q))
  | .eql => K (.v (.bool (a == b)))
  | .neq => K (.v (.bool (a != b)))
  | .lss => K (.v (.bool (decide (a < b))))
  | .leq => K (.v (.bool (decide (a ≤ b))))
  | .gtr => K (.v (.bool (decide (a > b))))
  | .geq => K (.v (.bool (decide (a ≥ b))))
  | _ => False

theorem arithK_spec {P : Program} {op : BinOp} {k : IntKind} {a b : Int} {K : SV → Prop} (xt : TypeId) (x y : Operand) (h : arithK op k a b K) :
    ∃ v : Value, K (.v v) ∧ ∀ w, ((do eqGuard op xt x y (.int k a) (.int k b); binOp op xt (.int k a) (.int k b) : Sem Value)).run P w = .ok v w := by
  cases op <;> simp only [arithK] at h
  case add => exact ⟨_, h.2, fun w => by simp [eqGuard, binOp, Op.intArith, h.1.wrap]⟩
  case sub => exact ⟨_, h.2, fun w => by simp [eqGuard, binOp, Op.intArith, h.1.wrap]⟩
  case mul => exact ⟨_, h.2, fun w => by simp [eqGuard, binOp, Op.intArith, h.1.wrap]⟩
  case quo =>
    obtain ⟨q, ⟨h1, rfl, h3⟩, h4⟩ := h
    exact ⟨_, h4, fun w => by simp [eqGuard, binOp, Op.intDiv, h1, h3.wrap]⟩
  case rem =>
    obtain ⟨q, ⟨h1, rfl⟩, h4⟩ := h
    exact ⟨_, h4, fun w => by simp [eqGuard, binOp, Op.intDiv, h1]⟩
  all_goals exact ⟨_, h, fun w => by simp [eqGuard, binOp, Op.intCmp]⟩

/-! ### The evaluator -/
def gvs (σ : Sg) : List Operand → (List SV → Prop) → Prop
  | [], K => K []
  | x :: r, K => match gv σ x with
    | some s => gvs σ r fun l => K (s :: l)
    | none => False
def oss : List Operand → List Nat
  | [] => []
  | x :: r => os x ++ oss r

theorem gvs_spec {σ : Sg} : ∀ {xs : List Operand} {K : List SV → Prop}, gvs σ xs K → ∃ l, K l ∧ xs.map (gv σ) = l.map some
  | [], K, h => ⟨[], h, rfl⟩
  | x :: r, K, h => by
    simp only [gvs] at h
    cases hx : gv σ x with
    | none => rw [hx] at h; exact h.elim
    | some s =>
      rw [hx] at h
      obtain ⟨l, h1, h2⟩ := gvs_spec h
      exact ⟨s :: l, h1, by simp [hx, h2]⟩

theorem gvs_eval {σ : Sg} {E : Ef} {β : Nat → Nat} {a : Act} {w : World} (h : Sees σ E β a w) : ∀ {xs : List Operand} {l : List SV}, xs.map (gv σ) = l.map some → (∀ k ∈ oss xs, k ∈ E.rs) → xs.map a.eval = SV.cs β l
  | [], [], _, _ => rfl
  | [], _ :: _, hx, _ => by simp at hx
  | _ :: _, [], hx, _ => by simp at hx
  | x :: r, s :: l, hx, ho => by
    simp only [List.map_cons, List.cons.injEq] at hx
    simp only [List.map_cons, SV.cs, List.cons.injEq]
    exact ⟨gv_eval h hx.1 (fun k hk => ho k (by simp [oss, hk])), gvs_eval h hx.2 (fun k hk => ho k (by simp [oss, hk]))⟩

theorem gvs_lt {σ : Sg} (hw : σ.Wf) : ∀ {xs : List Operand} {l : List SV}, xs.map (gv σ) = l.map some → SV.lts σ.nb l = true
  | [], [], _ => rfl
  | [], _ :: _, hx => by simp at hx
  | _ :: _, [], hx => by simp at hx
  | x :: r, s :: l, hx => by
    simp only [List.map_cons, List.cons.injEq] at hx
    simp only [SV.lts, Bool.and_eq_true]
    exact ⟨hw.gv hx.1, gvs_lt hw hx.2⟩

/-- A struct's (or array's) parts laid over its zero cells. -/
def fillK (place : Nat → Option (Nat × Nat)) : List SV → List (Nat × SV) → (List SV → Prop) → Prop
  | l, [], K => K l
  | l, (i, s) :: r, K => match place i with
    | some (off, size) => (Nat.beq s.cells.length size = true) ∧ splK off l s.cells fun l' => fillK place l' r K
    | none => False

def placeS (ty : Nat → Option TI) (fs : List (Nat × Nat)) (i : Nat) : Option (Nat × Nat) :=
  match fs[i]? with
  | some (off, t) => match ty t with
    | some ti => some (off, ti.size)
    | none => none
  | none => none

/-- What a callee does: its value, its fresh blocks, the blocks behind it; the blocks that it may look at. -/
def CallOK (P : Program) (σ : Sg) (k : Nat) (args : List SV) (E : Ef) : Prop :=
  ∀ β w, (∀ i ∈ E.rb, ∀ b, lk σ.m i = some b → b.ok β w (β i)) →
    (∀ i ∈ E.rb, ∀ j ∈ E.rb, ∀ bi bj, lk σ.m i = some bi → lk σ.m j = some bj → bi.live = true → bj.live = true → i ≠ j → β i ≠ β j) → σ.h w →
    Calls P k (SV.cs β args).toArray w fun e w' => ∃ β', e = .returned (E.val.c β') ∧ EfPost E β β' w w'

/-- w' has the blocks from number n on as w has them. -/
structure Keep (n : Nat) (w w' : World) : Prop where
  size : w.heap.size ≤ w'.heap.size
  same : ∀ b, n ≤ b → b < w.heap.size → w'.heap[b]? = w.heap[b]?
theorem Keep.refl (n : Nat) (w : World) : Keep n w w := ⟨Nat.le_refl _, fun _ _ _ => rfl⟩
theorem Keep.trans {n : Nat} {a b c : World} (h : Keep n a b) (k : Keep n b c) : Keep n a c :=
  ⟨Nat.le_trans h.size k.size, fun i h1 h2 => (k.same i h1 (Nat.lt_of_lt_of_le h2 h.size)).trans (h.same i h1 h2)⟩
theorem Keep.mono {n m : Nat} {a b : World} (h : Keep n a b) (hm : n ≤ m) : Keep m a b := ⟨h.size, fun i h1 h2 => h.same i (Nat.le_trans hm h1) h2⟩
/-- It holds and abides whatever happens to blocks of lower numbers. -/
def St (n : Nat) (p : World → Prop) : World → Prop := fun w => ∀ w', Keep n w w' → p w'
theorem St.now {n : Nat} {p : World → Prop} {w : World} (h : St n p w) : p w := h w (Keep.refl n w)
theorem St.keep {n : Nat} {p : World → Prop} {w w' : World} (h : St n p w) (k : Keep n w w') : St n p w' := fun w2 k2 => h w2 (k.trans k2)
theorem St.mono {n m : Nat} {p : World → Prop} {w : World} (h : St m p w) (hm : n ≤ m) : St n p w := fun w2 k => h w2 (k.mono hm)
theorem St.imp {n : Nat} {p q : World → Prop} {w : World} (h : St n p w) (hi : ∀ w, p w → q w) : St n q w := fun w2 k => hi w2 (h w2 k)
theorem St.st {n : Nat} {p : World → Prop} {w : World} (h : St n p w) : St n (St n p) w := fun _ k => h.keep k
theorem St.and {n : Nat} {p q : World → Prop} {w : World} (h : St n p w) (h' : St n q w) : St n (fun w => p w ∧ q w) w := fun w2 k => ⟨h w2 k, h' w2 k⟩

/-- A callee that makes new memory, of which something is said, which abides. -/
def FamOK (P : Program) (σ : Sg) (k : Nat) (args : List SV) (rb : List Nat) {α : Type} (V : α → Value) (hx : α → World → Prop) : Prop :=
  ∀ β w, (∀ i ∈ rb, ∀ b, lk σ.m i = some b → b.ok β w (β i)) → σ.h w →
    Calls P k (SV.cs β args).toArray w fun e w' => ∃ x, e = .returned (V x) ∧ Below w.heap.size w w' ∧ St w.heap.size (hx x) w'

/-- The event of a call: what the callee does is said by hand. -/
inductive CallEv (P : Program) (σ : Sg) (k : Nat) (args : List SV) (B : Ef → Bool) (rs : List Nat) (K : Ef → Prop) (KF : Option (Value → (World → Prop) → Prop)) : Prop
  | mk (E : Ef) (h1 : B ⟨E.val, E.fr, E.mods, rs, E.rb⟩ = true) (h2 : CallOK P σ k args E) (h3 : K ⟨E.val, E.fr, E.mods, rs, E.rb⟩) : CallEv P σ k args B rs K KF
  | fam (kf : Value → (World → Prop) → Prop) (hkf : KF = some kf) (rb : List Nat) (α : Type) (V : α → Value) (hx : α → World → Prop) (h2 : FamOK P σ k args rb V hx) (h3 : ∀ x, kf (V x) (hx x)) : CallEv P σ k args B rs K KF

def keysB : List (Nat × Blk) → List Nat
  | [] => []
  | (i, _) :: r => i :: keysB r
def nodupB : List Nat → Bool
  | [] => true
  | i :: r => nin i r && nodupB r
def oldB (σ : Sg) (rb : List Nat) : List (Nat × Blk) → Bool
  | [] => true
  | (i, _) :: r => (!(Nat.blt i σ.nb) || (!(nin i rb) && (match lk σ.m i with | some b => b.live | none => false))) && oldB σ rb r
def modsLt (n : Nat) : List (Nat × Blk) → Bool
  | [] => true
  | (i, b) :: r => Nat.blt i n && b.lt n && modsLt n r
def eqs : List Nat → Nat → Bool
  | [], _ => true
  | i :: r, n => Nat.beq i n && eqs r (n + 1)

def efB (σ : Sg) (E : Ef) : Bool :=
  eqs E.fr σ.nb && E.val.lt (σ.nb + E.fr.length) && modsLt (σ.nb + E.fr.length) E.mods && oldB σ E.rb E.mods && nodupB (keysB E.mods)

theorem eqs_spec : ∀ {l : List Nat} {n : Nat}, eqs l n = true → l = List.range' n l.length
  | [], _, _ => rfl
  | i :: r, n, h => by
    simp only [eqs, Bool.and_eq_true] at h
    have := Nat.eq_of_beq_eq_true h.1
    subst this
    have ih := eqs_spec h.2
    simp only [List.length_cons, List.range'_succ, List.cons.injEq, true_and]
    exact ih

theorem efB_spec {σ : Sg} {E : Ef} (h : efB σ E = true) : EfOK σ E := by
  simp only [efB, Bool.and_eq_true] at h
  obtain ⟨⟨⟨⟨h1, h2⟩, h3⟩, h4⟩, h5⟩ := h
  have hm : ∀ {l : List (Nat × Blk)} {n : Nat}, modsLt n l = true → ∀ i b, (i, b) ∈ l → i < n ∧ b.lt n = true := by
    intro l n
    induction l with
    | nil => intro _ i b hb; cases hb
    | cons p r ih =>
      obtain ⟨k, y⟩ := p
      intro h i b hb
      simp only [modsLt, Bool.and_eq_true, Nat.blt_eq] at h
      rcases List.mem_cons.1 hb with hb | hb
      · simp only [Prod.mk.injEq] at hb
        obtain ⟨rfl, rfl⟩ := hb
        exact h.1
      · exact ih h.2 i b hb
  have ho : ∀ {l : List (Nat × Blk)}, oldB σ E.rb l = true → ∀ i b, (i, b) ∈ l → i < σ.nb → i ∈ E.rb ∧ ∃ bk, lk σ.m i = some bk ∧ bk.live = true := by
    intro l
    induction l with
    | nil => intro _ i b hb; cases hb
    | cons p r ih =>
      obtain ⟨k, y⟩ := p
      intro h i b hb hlt
      simp only [oldB, Bool.and_eq_true, Bool.or_eq_true, Bool.not_eq_true'] at h
      rcases List.mem_cons.1 hb with hb | hb
      · simp only [Prod.mk.injEq] at hb
        obtain ⟨rfl, rfl⟩ := hb
        rcases h.1 with h' | h'
        · have : Nat.blt i σ.nb = true := by rw [Nat.blt_eq]; exact hlt
          rw [this] at h'; cases h'
        · refine ⟨Classical.byContradiction fun hn => ?_, ?_⟩
          · rw [nin_iff.2 hn] at h'; cases h'.1
          · cases hk : lk σ.m i with
            | none => rw [hk] at h'; cases h'.2
            | some bk => rw [hk] at h'; exact ⟨bk, rfl, h'.2⟩
      · exact ih h.2 i b hb hlt
  have hk : ∀ {l : List (Nat × Blk)} {i : Nat} {b : Blk}, (i, b) ∈ l → i ∈ keysB l := by
    intro l i b
    induction l with
    | nil => intro hb; cases hb
    | cons p r ih =>
      obtain ⟨k, y⟩ := p
      intro hb
      rcases List.mem_cons.1 hb with hb | hb
      · simp only [Prod.mk.injEq] at hb
        obtain ⟨rfl, rfl⟩ := hb
        exact List.mem_cons_self
      · exact List.mem_cons_of_mem _ (ih hb)
  have hn : ∀ {l : List (Nat × Blk)}, nodupB (keysB l) = true → ∀ i b b', (i, b) ∈ l → (i, b') ∈ l → b = b' := by
    intro l
    induction l with
    | nil => intro _ i b b' hb; cases hb
    | cons p r ih =>
      obtain ⟨k, y⟩ := p
      intro h i b b' hb hb'
      simp only [keysB, nodupB, Bool.and_eq_true, nin_iff] at h
      rcases List.mem_cons.1 hb with ha | ha <;> rcases List.mem_cons.1 hb' with ha' | ha'
      · simp only [Prod.mk.injEq] at ha ha'
        rw [ha.2, ha'.2]
      · simp only [Prod.mk.injEq] at ha
        exact absurd (ha.1 ▸ hk ha') h.1
      · simp only [Prod.mk.injEq] at ha'
        exact absurd (ha'.1 ▸ hk ha) h.1
      · exact ih h.2 i b b' ha ha'
  exact ⟨eqs_spec h1, h2, hm h3, ho h4, hn h5⟩

/-- A pure operation whose run is told by hand. -/
def RunIs (P : Program) (s : Sem Value) (v : Value) : Prop := ∀ w, s.run P w = .ok v w

section
variable {P : Program} (T : Env P)

/-- The cells that lie at an address of the rest of the world. -/
def ExtCells (σ : Sg) (ad : Addr) (cs : List Value) : Prop := ∀ w, σ.h w → ∀ j v, cs[j]? = some v → w.cell? (ad.add j) = some v

def foldI (f : Int → Int → Int) (k : IntKind) : Int → List SV → (SV → Prop) → Prop
  | x, [], K => K (.v (.int k x))
  | x, .v (.int k' y) :: r, K => match decide (k = k') with
    | true => foldI f k (f x y) r K
    | false => False
  | _, _ :: _, _ => False

def _root_.Go.Proofs.Ytlehjapeomallaa.Sx.SV.isAgg : SV → Bool
  | .agg _ => true
  | .v (.agg _) => true
  | _ => false

def valsK : List SV → (List Value → Prop) → Prop
  | [], K => K []
  | .v x :: r, K => valsK r fun l => K (x :: l)
  | _ :: _, _ => False
def repK : Nat → List SV → (List SV → Prop) → Prop
  | 0, _, K => K []
  | n + 1, z, K => repK n z fun l => appK' z l K
where appK' : List SV → List SV → (List SV → Prop) → Prop
  | [], l, K => K l
  | x :: r, l, K => appK' r l fun l' => K (x :: l')

def oneV : List Value → Bool
  | [] => true
  | x :: r => x.oneCell' && oneV r

/-- The elements of a slice, where they lie, and the blocks that this looks at. -/
def srcK (σ : Sg) (size : Nat) (s : SV) (K : Nat → List Value → List Nat → Prop) : Prop :=
  match s with
  | .sl i o m _ => (match lk σ.m i with
    | some (.cells l _) => dropK o l fun l1 => takeK (m * size) l1 fun l2 => valsK l2 fun news => (oneV news = true) ∧ K m news [i]
    | some (.own _ _ _ xs _) => ∃ news : List Value, (news.length = m * size ∧ (∀ j v, news[j]? = some v → xs[o + j]? = some v) ∧ ∀ v ∈ news, v.oneCell' = true) ∧ K m news [i]
    | _ => False)
  | .os i _ m => (match lk σ.m i with
    | some (.own _ n' _ xs _) => (Nat.beq m n' = true ∧ (xs.length = m * size ∧ ∀ v ∈ xs, v.oneCell' = true)) ∧ K m xs [i]
    | _ => False)
  | .v (.slice (some ad) m _) => ∃ news : List Value, (news.length = m * size ∧ ExtCells σ ad news ∧ ∀ v ∈ news, v.oneCell' = true) ∧ K m news []
  | _ => False

/-- The slice onto which something is appended: how many elements it has, which, whether it is nil, and the block that goes. -/
def baseK (σ : Sg) (size : Nat) (e : Nat) (s : SV) (K : Nat → List Value → Bool → List Nat → Prop) : Prop :=
  match s with
  | .v (.slice none 0 0) => K 0 [] true []
  | .os i j n => (match lk σ.m i with
    | some (.own j' n' sz xs e') => ((Nat.beq j j' && Nat.beq n n' && Nat.beq sz size && Nat.beq e e') = true) ∧ K n xs false [i]
    | _ => False)
  | .sl i 0 n c => (match lk σ.m i with
    | some (.cells l e') => ((Nat.beq l.length (c * size) && Nat.ble n c && Nat.beq e e' && Nat.ble c 1000000) = true) ∧ takeK (n * size) l fun l1 => valsK l1 fun xs => K n xs false [i]
    | _ => False)
  | _ => False

def goneK : List Nat → (List (Nat × Blk) → Prop) → Prop
  | [], K => K []
  | i :: r, K => goneK r fun l => K ((i, .gone) :: l)
def catN : List Nat → List Nat → (List Nat → Prop) → Prop
  | [], m, K => K m
  | x :: r, m, K => catN r m fun l => K (x :: l)

/-- What one operation does, its guard aside. gs: the slot of its guard. -/
def ev (o : Oper) (gs : List Nat) (σ : Sg) (K : Ef → Prop) (KF : Option (Value → (World → Prop) → Prop)) : Prop :=
  match o.op with
  | .move x | .assign x => match gv σ x with
    | some s => K ⟨s, [], [], gs ++ os x, []⟩
    | none => False
  | .pick c a b => match gv σ c with
    | some (.v (.bool true)) => (match gv σ a with | some s => K ⟨s, [], [], gs ++ (os c ++ os a), []⟩ | none => False)
    | some (.v (.bool false)) => (match gv σ b with | some s => K ⟨s, [], [], gs ++ (os c ++ os b), []⟩ | none => False)
    | _ => False
  | .alloc t => match T.ty t with
    | some ti => nbK σ fun nb => normK (ti.zero.map .v) fun z => K ⟨.ptr nb 0, [nb], [(nb, .cells z t)], gs, []⟩
    | none => False
  | .box t x => match gv σ x with
    | some s => nbK σ fun nb => normK s.cells fun z => K ⟨.ptr nb 0, [nb], [(nb, .cells z t)], gs ++ os x, []⟩
    | none => False
  | .load t x => match gv σ x, T.ty t with
    | some (.ptr i o), some ti => (match lk σ.m i with
      | some (.cells l _) => dropK o l fun l1 => takeK ti.size l1 fun l2 => valK ti.kind.agg l2 fun s => K ⟨s, [], [], gs ++ os x, [i]⟩
      | some (.row xs _) => ∃ cs : List Value, (cs.length = ti.size ∧ ∀ j v, cs[j]? = some v → xs[o + j]? = some v) ∧ normK (cs.map .v) fun l2 => valK ti.kind.agg l2 fun s => K ⟨s, [], [], gs ++ os x, [i]⟩
      | some (.own _ _ _ xs _) => ∃ cs : List Value, (cs.length = ti.size ∧ ∀ j v, cs[j]? = some v → xs[o + j]? = some v) ∧ normK (cs.map .v) fun l2 => valK ti.kind.agg l2 fun s => K ⟨s, [], [], gs ++ os x, [i]⟩
      | _ => False)
    | some (.v (.pointer (some ad))), some ti => ∃ cs : List Value, (cs.length = ti.size ∧ ExtCells σ ad cs) ∧ normK (cs.map .v) fun l2 => valK ti.kind.agg l2 fun s => K ⟨s, [], [], gs ++ os x, []⟩
    | _, _ => False
  | .store t x y => match gv σ x, gv σ y, T.ty t with
    | some (.ptr i o), some s, some ti => (match lk σ.m i with
      | some (.cells l ty) => (Nat.beq s.cells.length ti.size = true ∧ ones s.cells = true) ∧ splK o l s.cells fun l' => K ⟨.v undef, [], [(i, .cells l' ty)], gs ++ (os x ++ os y), [i]⟩
      | some (.own j n sz xs ty) => (Nat.beq s.cells.length ti.size = true ∧ ones s.cells = true) ∧ valsK s.cells fun vs => (o + vs.length ≤ xs.length) ∧ K ⟨.v undef, [], [(i, .own j n sz (xs.take o ++ vs ++ xs.drop (o + vs.length)) ty)], gs ++ (os x ++ os y), [i]⟩
      | _ => False)
    | _, _, _ => False
  | .fieldAddr t x f => match gv σ x, T.ty t with
    | some (.ptr i o), some ⟨_, _, _, .struct fs⟩ => (match fs[f]? with | some (off, ft) => (match T.ty ft with | some ti => Nat.blt 0 ti.size = true ∧ K ⟨.ptr i (o + off), [], [], gs ++ os x, []⟩ | none => False) | none => False)
    | _, _ => False
  | .field t x f => match gv σ x, T.ty t with
    | some s, some ⟨_, _, _, .struct fs⟩ => (match fs[f]? with
      | some (off, ft) => (match T.ty ft with
        | some ti => (s.isAgg = true) ∧ dropK off s.cells fun l1 => takeK ti.size l1 fun l2 => valK ti.kind.agg l2 fun s' => K ⟨s', [], [], gs ++ os x, []⟩
        | none => False)
      | none => False)
    | _, _ => False
  | .indexAddr t x ix => match gv σ x, gv σ ix, T.ty t with
    | some (.ptr i o), some (.v (.int _ z)), some ⟨_, _, _, .arr n e⟩ => (match T.ty e with
      | some ti => (0 ≤ z ∧ z < n) ∧ K ⟨.ptr i (o + z.toNat * ti.size), [], [], gs ++ (os x ++ os ix), []⟩
      | none => False)
    | some (.sl i o n _), some (.v (.int _ z)), some ⟨_, _, _, .slice e⟩ => (match T.ty e with
      | some ti => (0 ≤ z ∧ z < n) ∧ K ⟨.ptr i (o + z.toNat * ti.size), [], [], gs ++ (os x ++ os ix), []⟩
      | none => False)
    | some (.os i _ n), some (.v (.int _ z)), some ⟨_, _, _, .slice e⟩ => (match T.ty e with
      | some ti => (0 ≤ z ∧ z < n) ∧ K ⟨.ptr i (z.toNat * ti.size), [], [], gs ++ (os x ++ os ix), []⟩
      | none => False)
    | some (.v (.slice (some ad) n _)), some (.v (.int _ z)), some ⟨_, _, _, .slice e⟩ => (match T.ty e with
      | some ti => (0 ≤ z ∧ z < n) ∧ K ⟨.v (.pointer (some (ad.add (z.toNat * ti.size)))), [], [], gs ++ (os x ++ os ix), []⟩
      | none => False)
    | _, _, _ => False
  | .build t parts => match T.ty t with
    | some ⟨_, zero, _, .struct fs⟩ => (fs.all (fun p => (T.ty p.2).isSome) = true) ∧ gvs σ (parts.toList.map (·.2)) fun l => fillK (placeS T.ty fs) (zero.map .v) ((parts.toList.map (·.1)).zip l) fun cs => K ⟨.agg cs, [], [], gs ++ oss (parts.toList.map (·.2)), []⟩
    | some ⟨_, zero, _, .arr _ e⟩ => (match T.ty e with
      | some ti => gvs σ (parts.toList.map (·.2)) fun l => fillK (fun i => some (i * ti.size, ti.size)) (zero.map .v) ((parts.toList.map (·.1)).zip l) fun cs => K ⟨.agg cs, [], [], gs ++ oss (parts.toList.map (·.2)), []⟩
      | none => False)
    | _ => False
  | .buildSlice t n parts => match T.ty t with
    | some ⟨_, _, _, .slice e⟩ => (match T.ty e with
      | some ti => ((Nat.ble (n * ti.size) 16777216 && Nat.blt 0 ti.size && Nat.beq ti.zero.length ti.size) = true) ∧ nbK σ fun nb => gvs σ (parts.toList.map (·.2)) fun l => repK n (ti.zero.map .v) fun z =>
          fillK (fun i => some (i * ti.size, ti.size)) z ((parts.toList.map (·.1)).zip l) fun cs => K ⟨.sl nb 0 n n, [nb], [(nb, .cells cs e)], gs ++ oss (parts.toList.map (·.2)), []⟩
      | none => False)
    | _ => False
  | .slice t x none none none => match gv σ x, T.ty t with
    | some (.ptr i o), some ⟨_, _, _, .arr n e⟩ => (match T.ty e with
      | some _ => K ⟨.sl i o n n, [], [], gs ++ os x, []⟩
      | none => False)
    | _, _ => False
  | .binOp op t x y _ => match gv σ x, gv σ y with
    | some (.v (.int k a)), some (.v (.int k' b)) => (match decide (k = k') with
      | true => arithK op k a b fun s => K ⟨s, [], [], gs ++ (os x ++ os y), []⟩
      | false => False)
    | some s1, some s2 => ∃ v : Value, (∀ β, RunIs P (do eqGuard op t x y (s1.c β) (s2.c β); binOp op t (s1.c β) (s2.c β)) v) ∧ K ⟨.v v, [], [], gs ++ (os x ++ os y), []⟩
    | _, _ => False
  | .unOp op _ x => match gv σ x with
    | some (.v (.bool b)) => (match op with | .not => K ⟨.v (.bool (!b)), [], [], gs ++ os x, []⟩ | _ => False)
    | some (.v (.int k a)) => (match op with | .neg => IR k (-a) ∧ K ⟨.v (.int k (-a)), [], [], gs ++ os x, []⟩ | _ => False)
    | _ => False
  | .convert s d x => match gv σ x with
    | some (.v v) => ∃ v' : Value, RunIs P (convert s d v) v' ∧ K ⟨.v v', [], [], gs ++ os x, []⟩
    | _ => False
  | .extract x i => match gv σ x with
    | some (.v (.tuple vs)) => (match vs.toList[i]? with | some v => K ⟨.v v, [], [], gs ++ os x, []⟩ | none => False)
    | some (.tup l) => (match l[i]? with | some s => K ⟨s, [], [], gs ++ os x, []⟩ | none => False)
    | _ => False
  | .makeFunc f first cap => match first.toList with
    | [] => gvs σ cap.toList fun l => K ⟨.fn f l, [], [], gs ++ oss cap.toList, []⟩
    | _ => False
  | .call ⟨.builtin .len, args, ts⟩ => match args.toList, ts.toList with
    | [x], t :: _ => (match gv σ x, T.ty t with
      | some (.sl _ _ n _), some ⟨_, _, _, .slice _⟩ => K ⟨.v (.int .i64 n), [], [], gs ++ oss args.toList, []⟩
      | some (.os _ _ n), some ⟨_, _, _, .slice _⟩ => K ⟨.v (.int .i64 n), [], [], gs ++ oss args.toList, []⟩
      | some (.v (.slice _ n _)), some ⟨_, _, _, .slice _⟩ => K ⟨.v (.int .i64 n), [], [], gs ++ oss args.toList, []⟩
      | _, _ => False)
    | _, _ => False
  | .call ⟨.builtin .max, args, _⟩ => gvs σ args.toList fun l => match l with
    | .v (.int k x) :: r => foldI imax k x r fun s => K ⟨s, [], [], gs ++ oss args.toList, []⟩
    | _ => False
  | .call ⟨.builtin .min, args, _⟩ => gvs σ args.toList fun l => match l with
    | .v (.int k x) :: r => foldI imin k x r fun s => K ⟨s, [], [], gs ++ oss args.toList, []⟩
    | _ => False
  | .call ⟨.builtin .append, args, ts⟩ => match args.toList, ts.toList with
    | [x, y], [t, t'] => (match gv σ x, gv σ y, T.ty t with
      | some sx, some sy, some ⟨_, _, _, .slice e⟩ => (match T.ty e with
        | some ⟨size, zero, bytes, _⟩ => ((Nat.beq t t' && Nat.blt 0 size && Nat.beq zero.length size) = true) ∧ nbK σ fun nb => baseK σ size e sx fun n xs nil rb => srcK σ size sy fun m news rb' =>
            ((nil = true → 1 ≤ m) ∧ n + m ≤ 9223372036854775807 ∧ (n + m) * bytes ≤ 140737488355328) ∧ goneK rb fun gn => catN rb rb' fun rb2 =>
            K ⟨.os nb (nb + 1) (n + m), [nb, nb + 1], (nb, .own (nb + 1) (n + m) size (xs ++ news) e) :: gn, gs ++ (os x ++ os y), rb2⟩
        | none => False)
      | _, _, _ => False)
    | _, _ => False
  | .call ⟨.value f, args, _⟩ => match gv σ f with
    | some (.v (.func (.func k) first cap)) => (T.fn k = true ∧ first.toList = []) ∧ gvs σ args.toList fun l => normK (l ++ cap.toList.map .v) fun l' => CallEv P σ k l' (efB σ) (gs ++ (os f ++ oss args.toList)) K KF
    | some (.fn (.func k) cap) => T.fn k = true ∧ gvs σ args.toList fun l => normK (l ++ cap) fun l' => CallEv P σ k l' (efB σ) (gs ++ (os f ++ oss args.toList)) K KF
    | _ => False
  | _ => False

end

end Go.Proofs.Ytlehjapeomallaa.Sx
