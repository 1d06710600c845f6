/- Part 1 of the proof: texts merged. -/
import Derived.WalkKit
import Derived.WalkLawsBesides
import Derived.OrdersIn
import Derived.Laws.AppendOwn
import Derived.RangeFuncSeq
import Derived.RangeFuncBound
import Derived.Below
set_option maxHeartbeats 8000000
set_option maxRecDepth 100000
set_option linter.unusedSectionVars false
set_option linter.unusedSimpArgs false
set_option linter.unusedVariables false
namespace Go.Proofs.YtkbfcofifhngfaaGreat.Tx
open Go
theorem eL {p : List Value → Prop} (a : List Value) (h : p a) : ∃ x, p x := ⟨a, h⟩
end Go.Proofs.YtkbfcofifhngfaaGreat.Tx
namespace Go.Proofs.YtkbfcofifhngfaaGreat.Tx
open Go
inductive SV where
 | v (x : Value)
 | ptr (i off : Nat)
 | sl (i off len cap : Nat)
 | os (i j n : Nat)
 | agg (l : List SV)
 | fn (f : Fn) (cap : List SV)
 | mv (f : Fn) (first : List SV)
 | tup (l : List SV)
mutual
def SV.c (β : Nat → Nat) : SV → Value
 | .v x => x
 | .ptr i o => .pointer (some ⟨β i, o, none⟩)
 | .sl i o n k => .slice (some ⟨β i, o, none⟩) n k
 | .os i j n => .slice (some ⟨β i, 0, none⟩) n (β j)
 | .agg l => .agg (SV.cs β l).toArray
 | .fn f cap => .func f #[] (SV.cs β cap).toArray
 | .mv f cap => .func f (SV.cs β cap).toArray #[]
 | .tup l => .tuple (SV.cs β l).toArray
def SV.cs (β : Nat → Nat) : List SV → List Value
 | [] => []
 | x :: r => SV.c β x :: SV.cs β r
end
mutual
def SV.lt (n : Nat) : SV → Bool
 | .v _ => true
 | .ptr i _ => Nat.blt i n
 | .sl i _ _ _ => Nat.blt i n
 | .os i j _ => Nat.blt i n && Nat.blt j n
 | .agg l => SV.lts n l
 | .fn _ cap => SV.lts n cap
 | .mv _ cap => SV.lts n cap
 | .tup l => SV.lts n l
def SV.lts (n : Nat) : List SV → Bool
 | [] => true
 | x :: r => SV.lt n x && SV.lts n r
end
def nin (i : Nat) : List Nat → Bool
 | [] => true
 | k :: r => !(Nat.beq i k) && nin i r
theorem nin_iff {i : Nat} {l : List Nat} : nin i l = true ↔ i ∉ l := by
 induction l with
 | nil => simp [nin]
 | cons k r ih =>
  simp only [nin, Bool.and_eq_true, ih, List.mem_cons, not_or, Bool.not_eq_true']
  refine and_congr ⟨fun h e => ?_, fun h => ?_⟩ Iff.rfl
  · subst e; simp at h
  · cases hb : Nat.beq i k with
    | false => rfl
    | true => exact absurd (Nat.eq_of_beq_eq_true hb) h
mutual
def SV.av (fr : List Nat) : SV → Bool
 | .v _ => true
 | .ptr i _ => nin i fr
 | .sl i _ _ _ => nin i fr
 | .os i j _ => nin i fr && nin j fr
 | .agg l => SV.avs fr l
 | .fn _ cap => SV.avs fr cap
 | .mv _ cap => SV.avs fr cap
 | .tup l => SV.avs fr l
def SV.avs (fr : List Nat) : List SV → Bool
 | [] => true
 | x :: r => SV.av fr x && SV.avs fr r
end
mutual
theorem SV.c_congr {β β' : Nat → Nat} {fr : List Nat} (h : ∀ i, i ∉ fr → β' i = β i) : ∀ s : SV, s.av fr = true → s.c β' = s.c β
 | .v _, _ => rfl
 | .ptr i o, hs => by simp only [SV.av, nin_iff] at hs; simp only [SV.c, h i hs]
 | .sl i _ _ _, hs => by simp only [SV.av, nin_iff] at hs; simp only [SV.c, h i hs]
 | .os i j _, hs => by simp only [SV.av, Bool.and_eq_true, nin_iff] at hs; simp only [SV.c, h i hs.1, h j hs.2]
 | .agg l, hs => by simp only [SV.av] at hs; simp only [SV.c, SV.cs_congr h l hs]
 | .fn _ cap, hs => by simp only [SV.av] at hs; simp only [SV.c, SV.cs_congr h cap hs]
 | .mv _ cap, hs => by simp only [SV.av] at hs; simp only [SV.c, SV.cs_congr h cap hs]
 | .tup l, hs => by simp only [SV.av] at hs; simp only [SV.c, SV.cs_congr h l hs]
theorem SV.cs_congr {β β' : Nat → Nat} {fr : List Nat} (h : ∀ i, i ∉ fr → β' i = β i) : ∀ l : List SV, SV.avs fr l = true → SV.cs β' l = SV.cs β l
 | [], _ => rfl
 | x :: r, hs => by
  simp only [SV.avs, Bool.and_eq_true] at hs
  simp only [SV.cs, SV.c_congr h x hs.1, SV.cs_congr h r hs.2]
end
theorem SV.cs_eq (β : Nat → Nat) : ∀ l : List SV, SV.cs β l = l.map (SV.c β)
 | [] => rfl
 | x :: r => by simp only [SV.cs, List.map_cons, SV.cs_eq β r]
inductive Blk where
 | gone
 | cells (l : List SV) (ty : TypeId)
 | row (xs : List Value) (ty : TypeId)
 | own (j n sz : Nat) (xs : List Value) (ty : TypeId)
 | grow (j n sz : Nat) (xs : List SV) (ty : TypeId)
 | mix (j n sz : Nat) (vs : List Value) (xs : List SV) (ty : TypeId)
 | obj (n : Nat) (p : Obj → Prop)
def IsMem : Obj → Prop
 | .cells .. => True
 | .map .. => True
 | _ => False
def Blk.live : Blk → Bool
 | .gone => false
 | _ => true
def Blk.ok (β : Nat → Nat) (w : World) (b : Nat) : Blk → Prop
 | .gone => True
 | .cells l ty => w.heap[b]? = some (.cells (SV.cs β l).toArray ty (0, 0))
 | .row xs ty => ∃ cur : Array Value, w.heap[b]? = some (.cells cur ty (0, 0)) ∧ ∀ (j : Nat) (x : Value), xs[j]? = some x → cur[j]? = some x
 | .own j n sz xs ty => w.ownsRow 0 ty sz (.slice (some ⟨b, 0, none⟩) n (β j)) n xs
 | .grow j n sz xs ty => w.ownsRow 0 ty sz (.slice (some ⟨b, 0, none⟩) n (β j)) n (SV.cs β xs)
 | .mix j n sz vs xs ty => w.ownsRow 0 ty sz (.slice (some ⟨b, 0, none⟩) n (β j)) n (vs ++ SV.cs β xs)
 | .obj n p => b = n ∧ ∃ o, w.heap[b]? = some o ∧ IsMem o ∧ p o
def Blk.lt (n : Nat) : Blk → Bool
 | .cells l _ => SV.lts n l
 | .own j _ _ _ _ => Nat.blt j n
 | .grow j _ _ xs _ => Nat.blt j n && SV.lts n xs
 | .mix j _ _ _ xs _ => Nat.blt j n && SV.lts n xs
 | _ => true
def Blk.av (fr : List Nat) : Blk → Bool
 | .cells l _ => SV.avs fr l
 | .own j _ _ _ _ => nin j fr
 | .grow j _ _ xs _ => nin j fr && SV.avs fr xs
 | .mix j _ _ _ xs _ => nin j fr && SV.avs fr xs
 | _ => true
theorem Blk.ok_congr {β β' : Nat → Nat} {w w' : World} {b : Nat} {fr : List Nat} (h : ∀ i, i ∉ fr → β' i = β i) (k : Blk) (hk : k.av fr = true)
 (hw : k.live = true → w'.heap[b]? = w.heap[b]?) (ho : k.ok β w b) : k.ok β' w' b := by
 cases k with
 | gone => trivial
 | cells l ty =>
  simp only [Blk.ok] at *
  rw [hw rfl, SV.cs_congr h l hk]; exact ho
 | row xs ty =>
  obtain ⟨cur, h1, h2⟩ := ho
  exact ⟨cur, by rw [hw rfl]; exact h1, h2⟩
 | own j n sz xs ty =>
  simp only [Blk.av, nin_iff] at hk
  simp only [Blk.ok, h j hk] at *
  refine ⟨ho.1, ?_⟩
  rcases ho.2 with ⟨h0, _⟩ | ⟨g, cap, cur, h0, h1, h2, h3⟩
  · cases h0
  · have hg := h0
    simp only [Value.slice.injEq, Option.some.injEq, Addr.mk.injEq] at hg
    obtain ⟨⟨rfl, _⟩, _⟩ := hg
    exact .inr ⟨_, cap, cur, h0, h1, by rw [hw rfl]; exact h2, h3⟩
 | grow j n sz xs ty =>
  simp only [Blk.av, Bool.and_eq_true, nin_iff] at hk
  simp only [Blk.ok, h j hk.1, SV.cs_congr h xs hk.2] at *
  refine ⟨ho.1, ?_⟩
  rcases ho.2 with ⟨h0, _⟩ | ⟨g, cap, cur, h0, h1, h2, h3⟩
  · cases h0
  · have hg := h0
    simp only [Value.slice.injEq, Option.some.injEq, Addr.mk.injEq] at hg
    obtain ⟨⟨rfl, _⟩, _⟩ := hg
    exact .inr ⟨_, cap, cur, h0, h1, by rw [hw rfl]; exact h2, h3⟩
 | mix j n sz vs xs ty =>
  simp only [Blk.av, Bool.and_eq_true, nin_iff] at hk
  simp only [Blk.ok, h j hk.1, SV.cs_congr h xs hk.2] at *
  refine ⟨ho.1, ?_⟩
  rcases ho.2 with ⟨h0, _⟩ | ⟨g, cap, cur, h0, h1, h2, h3⟩
  · cases h0
  · have hg := h0
    simp only [Value.slice.injEq, Option.some.injEq, Addr.mk.injEq] at hg
    obtain ⟨⟨rfl, _⟩, _⟩ := hg
    exact .inr ⟨_, cap, cur, h0, h1, by rw [hw rfl]; exact h2, h3⟩
 | obj n p =>
  obtain ⟨h1, o, h2, h3⟩ := ho
  exact ⟨h1, o, by rw [hw rfl]; exact h2, h3⟩
theorem Blk.ok_lt {β : Nat → Nat} {w : World} {b : Nat} {k : Blk} (hl : k.live = true) (ho : k.ok β w b) : b < w.heap.size := by
 cases k with
 | gone => cases hl
 | cells l ty => exact (Array.getElem?_eq_some_iff.1 ho).1
 | row xs ty => obtain ⟨cur, h1, _⟩ := ho; exact (Array.getElem?_eq_some_iff.1 h1).1
 | own j n sz xs ty => exact (World.ownsRow.lt ho b rfl).2
 | grow j n sz xs ty => exact (World.ownsRow.lt ho b rfl).2
 | mix j n sz vs xs ty => exact (World.ownsRow.lt ho b rfl).2
 | obj n p => obtain ⟨_, o, h1, _⟩ := ho; exact (Array.getElem?_eq_some_iff.1 h1).1
def lk {α : Type} : List (Nat × α) → Nat → Option α
 | [], _ => none
 | (k, x) :: r, i => bif Nat.beq i k then some x else lk r i
theorem lk_mem {α : Type} {l : List (Nat × α)} {i : Nat} {x : α} (h : lk l i = some x) : (i, x) ∈ l := by
 induction l with
 | nil => cases h
 | cons p r ih =>
  obtain ⟨k, y⟩ := p
  simp only [lk] at h
  cases hb : Nat.beq i k with
  | true =>
   simp only [hb, cond_true, Option.some.injEq] at h
   obtain rfl := Nat.eq_of_beq_eq_true hb
   subst h
   exact List.mem_cons_self
  | false =>
   simp only [hb, cond_false] at h
   exact List.mem_cons_of_mem _ (ih h)
theorem lk_append {α : Type} (l r : List (Nat × α)) (i : Nat) : lk (l ++ r) i = (lk l i).or (lk r i) := by
 induction l with
 | nil => simp [lk]
 | cons p l ih =>
  obtain ⟨k, y⟩ := p
  simp only [List.cons_append, lk]
  cases hb : Nat.beq i k <;> simp [ih]
theorem lk_isSome {α : Type} {l : List (Nat × α)} {i : Nat} {x : α} (h : (i, x) ∈ l) : ∃ y, lk l i = some y := by
 induction l with
 | nil => cases h
 | cons p r ih =>
  obtain ⟨k, y⟩ := p
  simp only [lk]
  cases hb : Nat.beq i k with
  | true => exact ⟨y, rfl⟩
  | false =>
   rcases List.mem_cons.1 h with h | h
   · simp only [Prod.mk.injEq] at h
     obtain ⟨rfl, _⟩ := h
     simp at hb
   · exact ih h
inductive LS where
 | ready
 | busy
 | done (c : Code)
structure LE where
 l : Nat
 s : LS
 nt : Nat
 base : Nat
 ps : Array Tmp
 asg : Code
 bdy : Code
structure Gz where
 g : List (Nat × SV)
 q : List (Nat × LE)
 d : Nat
structure Sg where
 nt : Nat
 t : List (Nat × SV)
 m : List (Nat × Blk)
 nb : Nat
 h : World → Prop
 z : Gz
structure Cx where
 G : Nat → Value
 L : List (Nat × Loop)
 pr : List Nat
def LS.put (r : Loop) : LS → Loop
 | .ready => { r with state := .ready, pending := none }
 | .busy => { r with state := .busy, pending := none }
 | .done c => { r with state := .done, pending := some c }
structure LE.Fit (e : LE) (G : Nat → Value) (r : Loop) : Prop where
 ps : r.params = e.ps
 asg : r.assign = e.asg
 bdy : r.body = e.bdy
 nt : r.tmps.size = e.nt
 G : ∀ k, k < e.nt → G (e.base + k) = r.tmps.getD k undef
structure Chg (X : Nat → Prop) (w w' : World) : Prop where
 os : w'.os = w.os
 tape : w'.tape = w.tape
 output : w'.output = w.output
 size : w.heap.size ≤ w'.heap.size
 same : ∀ b, b < w.heap.size → ¬ X b → w'.heap[b]? = w.heap[b]?
theorem Chg.refl (X : Nat → Prop) (w : World) : Chg X w w := ⟨rfl, rfl, rfl, Nat.le_refl _, fun _ _ _ => rfl⟩
def Dfr (pr : List Nat) (D : Nat → Prop) (ds : List Deferred) (w : World) : Prop :=
 ∃ l : List Nat, ds = l.map (fun d => { target := .collected d, args := #[] }) ∧ l.Nodup ∧ ∀ d ∈ l, w.heap[d]? = some (.deferred (some [])) ∧ ¬ D d ∧ d ∉ pr
structure Amb (X : Cx) (z : Gz) (β : Nat → Nat) (D : Nat → Prop) (w : World) : Prop where
 g : ∀ k s, lk z.g k = some s → X.G k = s.c β
 la : ∀ p ∈ X.L, (∃ st pd, w.heap[p.1]? = some (.loop { p.2 with state := st, pending := pd })) ∧ ¬ D p.1
 lq : ∀ i e, lk z.q i = some e → ∃ r, X.L[i]? = some (e.l, r) ∧ e.Fit X.G r ∧ w.heap[e.l]? = some (.loop (e.s.put r))
 dep : X.L.length = z.d
 nd : (X.L.map Prod.fst).Nodup
 pr : ∀ d ∈ X.pr, w.heap[d]? = some (.deferred (some [])) ∧ ¬ D d
def Other (o : Obj) : Prop := ¬ IsMem o
theorem Amb.keep {X : Cx} {z : Gz} {β β' : Nat → Nat} {D D' : Nat → Prop} {w w' : World} (h : Amb X z β D w) (hβ : ∀ k s, lk z.g k = some s → s.c β' = s.c β)
 (hw : ∀ (b : Nat) (o : Obj), w.heap[b]? = some o → Other o → w'.heap[b]? = some o) (hD : ∀ b, b < w.heap.size → D' b → D b) : Amb X z β' D' w' := by
 refine ⟨fun k s hk => (h.g k s hk).trans (hβ k s hk).symm, fun p hp => ?_, fun i e hi => ?_, h.dep, h.nd, fun d hd => ?_⟩
 · obtain ⟨⟨st, pd, h1⟩, h2⟩ := h.la p hp
   exact ⟨⟨st, pd, hw _ _ h1 (fun h => h)⟩, fun hd => h2 (hD _ (Array.getElem?_eq_some_iff.1 h1).1 hd)⟩
 · obtain ⟨r, h1, h2, h3⟩ := h.lq i e hi
   exact ⟨r, h1, h2, hw _ _ h3 (fun h => h)⟩
 · obtain ⟨h1, h2⟩ := h.pr d hd
   exact ⟨hw _ _ h1 (fun h => h), fun hd' => h2 (hD _ (Array.getElem?_eq_some_iff.1 h1).1 hd')⟩
structure Sat' (X : Cx) (σ : Sg) (β : Nat → Nat) (D : Nat → Prop) (a : Act) (w : World) : Prop where
 defers : Dfr X.pr D a.defers w
 size : a.tmps.size = σ.nt
 t : ∀ k s, lk σ.t k = some s → a.tmps.getD k undef = s.c β
 m : ∀ i b, lk σ.m i = some b → b.ok β w (β i)
 inj : ∀ i j bi bj, lk σ.m i = some bi → lk σ.m j = some bj → bi.live = true → bj.live = true → i ≠ j → β i ≠ β j
 out : ∀ i b, lk σ.m i = some b → b.live = true → ¬ D (β i)
 dlt : ∀ b, D b → b < w.heap.size
 h : ∀ w', Chg (fun b => ¬ D b) w w' → σ.h w'
 amb : Amb X σ.z β D w
def Sat (X : Cx) (σ : Sg) (a : Act) (w : World) : Prop := ∃ β D, Sat' X σ β D a w
theorem Blk.ok_cells {β : Nat → Nat} {w : World} {b : Nat} {k : Blk} (hl : k.live = true) (ho : k.ok β w b) : ∃ o, w.heap[b]? = some o ∧ IsMem o := by
 cases k with
 | gone => cases hl
 | cells l ty => exact ⟨_, ho, trivial⟩
 | row xs ty => obtain ⟨cur, h1, _⟩ := ho; exact ⟨_, h1, trivial⟩
 | own j n sz xs ty =>
  rcases ho.2 with ⟨h, _⟩ | ⟨g, cap, cur, h0, h1, h2, _⟩
  · cases h
  · simp only [Value.slice.injEq, Option.some.injEq, Addr.mk.injEq] at h0
    obtain ⟨⟨rfl, _⟩, _⟩ := h0
    exact ⟨_, h2, trivial⟩
 | grow j n sz xs ty =>
  rcases ho.2 with ⟨h, _⟩ | ⟨g, cap, cur, h0, h1, h2, _⟩
  · cases h
  · simp only [Value.slice.injEq, Option.some.injEq, Addr.mk.injEq] at h0
    obtain ⟨⟨rfl, _⟩, _⟩ := h0
    exact ⟨_, h2, trivial⟩
 | mix j n sz vs xs ty =>
  rcases ho.2 with ⟨h, _⟩ | ⟨g, cap, cur, h0, h1, h2, _⟩
  · cases h
  · simp only [Value.slice.injEq, Option.some.injEq, Addr.mk.injEq] at h0
    obtain ⟨⟨rfl, _⟩, _⟩ := h0
    exact ⟨_, h2, trivial⟩
 | obj n p => obtain ⟨_, o, h1, h2, _⟩ := ho; exact ⟨o, h1, h2⟩
structure Ef where
 val : SV
 fr : List Nat
 mods : List (Nat × Blk)
 rs : List Nat
 rb : List Nat
def Ef.Liv (E : Ef) (i : Nat) : Prop := ∃ b, (i, b) ∈ E.mods ∧ b.live = true
structure EfPost (E : Ef) (β β' : Nat → Nat) (w w' : World) : Prop where
 agree : ∀ i, i ∉ E.fr → β' i = β i
 chg : Chg (fun b => ∃ i bk, (i, bk) ∈ E.mods ∧ i ∉ E.fr ∧ β i = b) w w'
 ok : ∀ i b, (i, b) ∈ E.mods → b.ok β' w' (β' i)
 new : ∀ i ∈ E.fr, E.Liv i → w.heap.size ≤ β' i ∨ ∃ j, (j, Blk.gone) ∈ E.mods ∧ j ∉ E.fr ∧ β' i = β j
 inj : ∀ i ∈ E.fr, ∀ j ∈ E.fr, E.Liv i → E.Liv j → i ≠ j → β' i ≠ β' j
def Sg.app (σ : Sg) (dst : Option Tmp) (E : Ef) : Sg :=
 { σ with t := (match dst with | some d => (d, E.val) :: σ.t | none => σ.t), m := E.mods ++ σ.m, nb := σ.nb + E.fr.length }
structure Sg.Av (fr : List Nat) (σ : Sg) : Prop where
 t : ∀ k s, lk σ.t k = some s → s.av fr = true
 g : ∀ k s, lk σ.z.g k = some s → s.av fr = true
 m : ∀ i b, lk σ.m i = some b → i ∉ fr ∧ b.av fr = true
structure Ef.Wf (E : Ef) (σ : Sg) : Prop where
 old : ∀ i b, (i, b) ∈ E.mods → i ∉ E.fr → ∃ bk, lk σ.m i = some bk ∧ bk.live = true
 once : ∀ i b b', (i, b) ∈ E.mods → (i, b') ∈ E.mods → b = b'
theorem Sat'.app {X : Cx} {σ : Sg} {β β' : Nat → Nat} {D : Nat → Prop} {a : Act} {w w' : World} {dst : Option Tmp} {E : Ef} (hs : Sat' X σ β D a w) (hav : σ.Av E.fr) (hwf : E.Wf σ)
 (hd : ∀ d, dst = some d → d < σ.nt) (hp : EfPost E β β' w w') : Sat' X (σ.app dst E) β' D (a.put dst (E.val.c β')) w' := by
 have hkey : ∀ i b, lk (E.mods ++ σ.m) i = some b → (i, b) ∈ E.mods ∨ ((∀ b', (i, b') ∉ E.mods) ∧ lk σ.m i = some b) := by
  intro i b hl
  rw [lk_append] at hl
  cases hm : lk E.mods i with
  | some y =>
   rw [hm] at hl
   have hyb : y = b := Option.some.inj hl
   subst hyb
   exact .inl (lk_mem hm)
  | none =>
   rw [hm] at hl
   refine .inr ⟨fun b' hb' => ?_, by simpa using hl⟩
   obtain ⟨y, hy⟩ := lk_isSome hb'
   rw [hm] at hy; cases hy
 have hplace : ∀ i b, lk (E.mods ++ σ.m) i = some b → b.live = true →
  (i ∉ E.fr ∧ (∃ bk, lk σ.m i = some bk ∧ bk.live = true ∧ ((i, b) ∈ E.mods ∨ ∀ b', (i, b') ∉ E.mods)) ∧ β' i = β i) ∨
  (i ∈ E.fr ∧ E.Liv i ∧ (w.heap.size ≤ β' i ∨ ∃ j, (j, Blk.gone) ∈ E.mods ∧ j ∉ E.fr ∧ β' i = β j)) := by
  intro i b hl hlive
  by_cases hf : i ∈ E.fr
  · have hL : E.Liv i := by
     rcases hkey i b hl with hm | ⟨_, hl'⟩
     · exact ⟨b, hm, hlive⟩
     · exact absurd hf (hav.m i b hl').1
    exact .inr ⟨hf, hL, hp.new i hf hL⟩
  · refine .inl ⟨hf, ?_, hp.agree i hf⟩
    rcases hkey i b hl with hm | ⟨hm, hl'⟩
    · obtain ⟨bk, h1, h2⟩ := hwf.old i b hm hf
      exact ⟨bk, h1, h2, .inl hm⟩
    · exact ⟨b, hl', hlive, .inr hm⟩
 have holdlt : ∀ i b, lk σ.m i = some b → b.live = true → β i < w.heap.size := fun i b h1 h2 => Blk.ok_lt h2 (hs.m i b h1)
 have hchg : ∀ w2, Chg (fun b => ¬ D b) w' w2 → Chg (fun b => ¬ D b) w w2 := fun w2 hc =>
  ⟨hc.os.trans hp.chg.os, hc.tape.trans hp.chg.tape, hc.output.trans hp.chg.output, Nat.le_trans hp.chg.size hc.size, fun b hb hnD => by
   have hD : D b := Classical.byContradiction hnD
   rw [hc.same b (Nat.lt_of_lt_of_le hb hp.chg.size) (fun h => h hD)]
   refine hp.chg.same b hb ?_
   rintro ⟨j, bk, hj, hjf, hjb⟩
   obtain ⟨bj, h1, h2⟩ := hwf.old j bk hj hjf
   exact hs.out j bj h1 h2 (hjb ▸ hD)⟩
 have hother : ∀ b o, w.heap[b]? = some o → Other o → w'.heap[b]? = some o := fun b o hb ho => by
  rw [hp.chg.same b (Array.getElem?_eq_some_iff.1 hb).1, hb]
  rintro ⟨j, bk, hj, hjf, hjb⟩
  obtain ⟨bj, h1, h2⟩ := hwf.old j bk hj hjf
  obtain ⟨o3, h3, h4⟩ := Blk.ok_cells h2 (hs.m j bj h1)
  rw [hjb, hb] at h3
  cases h3
  exact ho h4
 constructor
 · obtain ⟨l, h1, h2, h3⟩ := hs.defers
   refine ⟨l, ?_, h2, fun d hd => ⟨hother d _ (h3 d hd).1 (fun h => h), (h3 d hd).2⟩⟩
   cases dst <;> exact h1
 · cases dst with
   | none => exact hs.size
   | some d => simp only [Act.put, Array.size_setIfInBounds]; exact hs.size
 · intro k s hk
   cases dst with
   | none =>
    have hk' : lk σ.t k = some s := hk
    show a.tmps.getD k undef = _
    rw [hs.t k s hk', SV.c_congr hp.agree s (hav.t k s hk')]
   | some d =>
    have hk : lk ((d, E.val) :: σ.t) k = some s := hk
    simp only [lk] at hk
    show (a.tmps.setIfInBounds d (E.val.c β')).getD k undef = _
    cases hb : Nat.beq k d with
    | true =>
     obtain rfl := Nat.eq_of_beq_eq_true hb
     simp only [hb, cond_true, Option.some.injEq] at hk
     subst hk
     have := hd k rfl
     rw [← hs.size] at this
     simp [this]
    | false =>
     simp only [hb, cond_false] at hk
     have hne : d ≠ k := fun e => by subst e; simp at hb
     rw [SV.c_congr hp.agree s (hav.t k s hk), ← hs.t k s hk]
     simp only [Array.getD_eq_getD_getElem?]
     rw [Array.getElem?_setIfInBounds_ne hne]
 · intro i b hl
   simp only [Sg.app] at hl
   rcases hkey i b hl with hm | ⟨hm, hl'⟩
   · exact hp.ok i b hm
   · obtain ⟨hif, hba⟩ := hav.m i b hl'
     rw [hp.agree i hif]
     refine Blk.ok_congr hp.agree b hba (fun hlive => ?_) (hs.m i b hl')
     refine hp.chg.same _ (holdlt i b hl' hlive) ?_
     rintro ⟨j, bk, hj, hjf, hjb⟩
     obtain ⟨bj, h1, h2⟩ := hwf.old j bk hj hjf
     have hne : j ≠ i := fun e => hm bk (e ▸ hj)
     exact hs.inj j i bj b h1 hl' h2 hlive hne hjb
 · intro i j bi bj hi hj hbi hbj hij
   simp only [Sg.app] at hi hj
   have one : ∀ i j bi bj, lk (E.mods ++ σ.m) i = some bi → lk (E.mods ++ σ.m) j = some bj → bi.live = true → bj.live = true → i ≠ j → i ∈ E.fr → j ∉ E.fr → β' i ≠ β' j := by
    intro i j bi bj hi hj hbi hbj hij hif hjf
    rcases hplace j bj hj hbj with ⟨_, ⟨bk, hk1, hk2, hk3⟩, he⟩ | ⟨hjf', _⟩
    · rw [he]
      rcases hplace i bi hi hbi with ⟨hif', _⟩ | ⟨_, _, hn⟩
      · exact absurd hif hif'
      rcases hn with hn | ⟨g, hg1, hg2, hg3⟩
      · have := holdlt j bk hk1 hk2
        omega
      · rw [hg3]
        obtain ⟨bg, h1, h2⟩ := hwf.old g _ hg1 hg2
        have hne : g ≠ j := by
         rintro rfl
         rcases hk3 with hk3 | hk3
         · have := hwf.once g _ _ hg1 hk3
           subst this
           cases hbj
         · exact hk3 _ hg1
        exact hs.inj g j bg bk h1 hk1 h2 hk2 hne
    · exact absurd hjf' hjf
   by_cases hif : i ∈ E.fr <;> by_cases hjf : j ∈ E.fr
   · rcases hplace i bi hi hbi with ⟨h, _⟩ | ⟨_, hLi, _⟩
     · exact absurd hif h
     · rcases hplace j bj hj hbj with ⟨h, _⟩ | ⟨_, hLj, _⟩
       · exact absurd hjf h
       · exact hp.inj i hif j hjf hLi hLj hij
   · exact one i j bi bj hi hj hbi hbj hij hif hjf
   · exact fun h => one j i bj bi hj hi hbj hbi (Ne.symm hij) hjf hif h.symm
   · rcases hplace i bi hi hbi with ⟨_, ⟨b1, h1, h2, _⟩, e1⟩ | ⟨h, _⟩
     · rcases hplace j bj hj hbj with ⟨_, ⟨b2, g1, g2, _⟩, e2⟩ | ⟨h, _⟩
       · rw [e1, e2]; exact hs.inj i j b1 b2 h1 g1 h2 g2 hij
       · exact absurd h hjf
     · exact absurd h hif
 · intro i b hl hlive
   simp only [Sg.app] at hl
   rcases hplace i b hl hlive with ⟨_, ⟨bk, h1, h2, _⟩, e⟩ | ⟨hif, _, hn⟩
   · rw [e]; exact hs.out i bk h1 h2
   · rcases hn with hn | ⟨g, hg1, hg2, hg3⟩
     · intro hD
       have := hs.dlt _ hD
       omega
     · rw [hg3]
       obtain ⟨bg, h1, h2⟩ := hwf.old g _ hg1 hg2
       exact hs.out g bg h1 h2
 · exact fun b hb => Nat.lt_of_lt_of_le (hs.dlt b hb) hp.chg.size
 · exact fun w2 hc => hs.h w2 (hchg w2 hc)
 · exact hs.amb.keep (fun k s hk => SV.c_congr hp.agree s (hav.g k s hk)) hother (fun b _ h => h)
end Go.Proofs.YtkbfcofifhngfaaGreat.Tx
namespace Go.Proofs.YtkbfcofifhngfaaGreat.Tx
open Go
variable {X : Cx}
def Wd (F : Fence) : Prop := F = Fence.wide ∨ ∃ l, F = Fence.wide.inRound l
theorem Wd.fn {F : Fence} (h : Wd F) (f : FuncId) : F.fn f := by
 rcases h with rfl | ⟨l, rfl⟩ <;> trivial
theorem Wd.depth {F : Fence} (h : Wd F) : F.depth = none := by
 rcases h with rfl | ⟨l, rfl⟩ <;> rfl
theorem Wd.calls {F : Fence} (h : Wd F) {n : Nat} {P : Program} {f : FuncId} {args : Array Value} {w : World} {R : Ending → World → Prop} (hc : Calls P f args w R) : CallsIn F n P f args w R := by
 rcases h with rfl | ⟨l, rfl⟩
 · exact callsIn_wide.2 hc
 · exact callsIn_wide.2 hc
def StepB (F : Fence) (n : Nat) (P : Program) (ops : Array Oper) (Q : Exit → Act → World → Prop) (o : Oper) (K : Act → World → Prop) (a : Act) (w : World) : Prop :=
 if Region.wanted o (yielded ops a.tmps) = true then o.wpIn F n P a w K Q else (∀ f, o.about P w a.eval = some f → F.fn f) ∧ K (a.put o.dst undef) w
theorem StepB.mono {F : Fence} {n : Nat} {P : Program} {ops : Array Oper} {Q : Exit → Act → World → Prop} {o : Oper} {K K' : Act → World → Prop} {a : Act} {w : World}
 (h : StepB F n P ops Q o K a w) (hk : ∀ a w, K a w → K' a w) : StepB F n P ops Q o K' a w := by
 unfold StepB at *
 split
 · rename_i hw; simp only [hw, if_true] at h; exact Oper.wpIn_mono hk h
 · rename_i hw; simp only [hw, Bool.false_eq_true, if_false] at h; exact ⟨h.1, hk _ _ h.2⟩
structure Sees (σ : Sg) (E : Ef) (β : Nat → Nat) (a : Act) (w : World) : Prop where
 t : ∀ k ∈ E.rs, ∀ s, lk σ.t k = some s → a.tmps.getD k undef = s.c β
 m : ∀ i ∈ E.rb, ∀ b, lk σ.m i = some b → b.ok β w (β i)
 inj : ∀ i ∈ E.rb, ∀ j ∈ E.rb, ∀ bi bj, lk σ.m i = some bi → lk σ.m j = some bj → bi.live = true → bj.live = true → i ≠ j → β i ≠ β j
 h : σ.h w
 size : a.tmps.size = σ.nt
 st : ∀ w', Chg (fun b => ∃ i ∈ E.rb, (∃ bk, lk σ.m i = some bk ∧ bk.live = true) ∧ β i = b) w w' → σ.h w'
def OpOK (F : Fence) (n : Nat) (P : Program) (ops : Array Oper) (o : Oper) (σ : Sg) (E : Ef) : Prop :=
 ∀ (Q : Exit → Act → World → Prop) (β : Nat → Nat) (a : Act) (w : World) (K : Act → World → Prop), Sees σ E β a w →
  (∀ β' w', EfPost E β β' w w' → K (a.put o.dst (E.val.c β')) w') → StepB F n P ops Q o K a w
structure Link (F : Fence) (n : Nat) (P : Program) (ops : Array Oper) (o : Oper) (σ : Sg) (E : Ef) : Prop where
 ok : OpOK F n P ops o σ E
 wf : E.Wf σ
 av : σ.Av E.fr
 rb : ∀ i b, (i, b) ∈ E.mods → i ∉ E.fr → i ∈ E.rb
 dst : ∀ d, o.dst = some d → d < σ.nt
def Path (F : Fence) (n : Nat) (P : Program) (ops : Array Oper) : List (Oper × Ef) → Sg → Prop
 | [], _ => True
 | (o, E) :: r, σ => Link F n P ops o σ E ∧ Path F n P ops r (σ.app o.dst E)
def fin : List (Oper × Ef) → Sg → Sg
 | [], σ => σ
 | (o, E) :: r, σ => fin r (σ.app o.dst E)
theorem Sat'.sees {σ : Sg} {β : Nat → Nat} {D : Nat → Prop} {a : Act} {w : World} (h : Sat' X σ β D a w) (E : Ef) : Sees σ E β a w :=
 ⟨fun k _ s hs => h.t k s hs, fun i _ b hb => h.m i b hb, fun i _ j _ bi bj h1 h2 h3 h4 h5 => h.inj i j bi bj h1 h2 h3 h4 h5, h.h w (Chg.refl _ _), h.size,
  fun w' hc => h.h w' ⟨hc.os, hc.tape, hc.output, hc.size, fun b hb hX => hc.same b hb fun ⟨i, _, ⟨bk, h1, h2⟩, hib⟩ => hX (by rw [← hib]; exact h.out i bk h1 h2)⟩⟩
theorem Link.step {F : Fence} {n : Nat} {P : Program} {ops : Array Oper} {o : Oper} {σ : Sg} {E : Ef} (h : Link F n P ops o σ E) {a : Act} {w : World} (hs : Sat X σ a w)
 (Q : Exit → Act → World → Prop) : StepB F n P ops Q o (Sat X (σ.app o.dst E)) a w := by
 obtain ⟨β, D, hs⟩ := hs
 exact h.ok Q β a w _ (hs.sees E) fun β' w' hp => ⟨β', D, hs.app h.av h.wf h.dst hp⟩
theorem Sat'.congr {σ σ' : Sg} (ht : ∀ k, lk σ'.t k = lk σ.t k) (hm : ∀ i, lk σ'.m i = lk σ.m i) (hn : σ'.nt = σ.nt) (hh : σ'.h = σ.h) (hz : σ'.z = σ.z) {β : Nat → Nat} {D : Nat → Prop} {a : Act} {w : World}
 (h : Sat' X σ β D a w) : Sat' X σ' β D a w :=
 ⟨h.defers, by rw [hn]; exact h.size, fun k s hk => h.t k s (by rw [← ht]; exact hk), fun i b hi => h.m i b (by rw [← hm]; exact hi),
  fun i j bi bj h1 h2 => h.inj i j bi bj (by rw [← hm]; exact h1) (by rw [← hm]; exact h2), fun i b hi => h.out i b (by rw [← hm]; exact hi), h.dlt, by rw [hh]; exact h.h, by rw [hz]; exact h.amb⟩
abbrev Key := Bool × Nat
def look (σ : Sg) : Key → Option (SV ⊕ Blk)
 | (true, k) => (lk σ.t k).map .inl
 | (false, i) => (lk σ.m i).map .inr
def Wr (p : Oper × Ef) : Key → Prop
 | (true, k) => p.1.dst = some k
 | (false, i) => ∃ b, (i, b) ∈ p.2.mods
def look1 (p : Oper × Ef) : Key → Option (SV ⊕ Blk)
 | (true, _) => some (.inl p.2.val)
 | (false, i) => (lk p.2.mods i).map .inr
theorem look_app_wr {σ : Sg} {p : Oper × Ef} {κ : Key} (h : Wr p κ) : look (σ.app p.1.dst p.2) κ = look1 p κ := by
 obtain ⟨o, E⟩ := p
 obtain ⟨b, i⟩ := κ
 cases b with
 | true =>
  have h' : o.dst = some i := h
  simp [look, look1, Sg.app, h', lk]
 | false =>
  obtain ⟨b, hb⟩ := h
  obtain ⟨y, hy⟩ := lk_isSome hb
  simp [look, look1, Sg.app, lk_append, hy]
theorem look_app_not {σ : Sg} {p : Oper × Ef} {κ : Key} (h : ¬ Wr p κ) : look (σ.app p.1.dst p.2) κ = look σ κ := by
 obtain ⟨o, E⟩ := p
 obtain ⟨b, i⟩ := κ
 cases b with
 | true =>
  have h' : ¬ o.dst = some i := h
  simp only [look, Sg.app]
  cases hd : o.dst with
  | none => rfl
  | some d =>
   have hne : ¬ i = d := fun e => h' (by rw [hd, e])
   have hb : Nat.beq i d = false := by
    cases hb : Nat.beq i d with
    | false => rfl
    | true => exact absurd (Nat.eq_of_beq_eq_true hb) hne
   simp [lk, hb]
 | false =>
  have hn : lk E.mods i = none := by
   cases hm : lk E.mods i with
   | none => rfl
   | some y => exact absurd ⟨y, lk_mem hm⟩ h
  simp [look, Sg.app, lk_append, hn]
def foldS : List (Oper × Ef) → List Bool → Sg → Sg
 | p :: L, b :: S, σ => foldS L S (if b then σ.app p.1.dst p.2 else σ)
 | _, _, σ => σ
theorem foldS_meta : ∀ (L : List (Oper × Ef)) (S : List Bool) (σ : Sg), (foldS L S σ).nt = σ.nt ∧ (foldS L S σ).h = σ.h
 | [], _, _ => by simp [foldS]
 | p :: L, [], σ => by simp [foldS]
 | p :: L, b :: S, σ => by
  simp only [foldS]
  obtain ⟨h1, h2⟩ := foldS_meta L S (if b then σ.app p.1.dst p.2 else σ)
  rw [h1, h2]
  cases b <;> simp [Sg.app]
theorem foldS_z : ∀ (L : List (Oper × Ef)) (S : List Bool) (σ : Sg), (foldS L S σ).z = σ.z
 | [], _, _ => by simp [foldS]
 | p :: L, [], σ => by simp [foldS]
 | p :: L, b :: S, σ => by
  simp only [foldS]
  rw [foldS_z L S (if b then σ.app p.1.dst p.2 else σ)]
  cases b <;> simp [Sg.app]
theorem foldS_look {κ : Key} : ∀ (L : List (Oper × Ef)) (S S' : List Bool) (σ σ' : Sg), S.length = L.length → S'.length = L.length → look σ κ = look σ' κ →
 (∀ (i : Nat) (p : Oper × Ef), L[i]? = some p → S[i]? ≠ S'[i]? → ¬ Wr p κ) → look (foldS L S σ) κ = look (foldS L S' σ') κ
 | [], _, _, _, _, _, _, h, _ => by simpa [foldS] using h
 | p :: L, [], _, _, _, h, _, _, _ => by simp at h
 | p :: L, _ :: _, [], _, _, _, h, _, _ => by simp at h
 | p :: L, b :: S, b' :: S', σ, σ', h1, h2, h, hd => by
  simp only [foldS]
  refine foldS_look L S S' _ _ (by simpa using h1) (by simpa using h2) ?_ (fun i q hi hne => hd (i + 1) q (by simpa using hi) (by simpa using hne))
  by_cases hw : Wr p κ
  · have hb : b = b' := Classical.byContradiction fun hne => hd 0 p (by simp) (by simpa using hne) hw
    subst hb
    cases b
    · exact h
    · simp only [if_true]; rw [look_app_wr hw, look_app_wr hw]
  · cases b <;> cases b' <;> simp only [if_true, Bool.false_eq_true, if_false] <;> (try rw [look_app_not hw]) <;> (try rw [look_app_not hw]) <;> exact h
theorem foldS_none : ∀ (L : List (Oper × Ef)) (S : List Bool) (σ : Sg), (∀ b ∈ S, b = false) → foldS L S σ = σ
 | [], _, _, _ => by simp [foldS]
 | p :: L, [], σ, _ => by simp [foldS]
 | p :: L, b :: S, σ, h => by
  have hb : b = false := h b List.mem_cons_self
  subst hb
  simp only [foldS, Bool.false_eq_true, if_false]
  exact foldS_none L S σ fun b hb => h b (List.mem_cons_of_mem _ hb)
theorem foldS_all : ∀ (L : List (Oper × Ef)) (S : List Bool) (σ : Sg), S.length = L.length → (∀ b ∈ S, b = true) → foldS L S σ = fin L σ
 | [], _, _, _, _ => by simp [foldS, fin]
 | p :: L, [], σ, h, _ => by simp at h
 | (o, E) :: L, b :: S, σ, h, hb => by
  have hb' : b = true := hb b List.mem_cons_self
  subst hb'
  simp only [foldS, fin, if_true]
  exact foldS_all L S _ (by simpa using h) fun b h => hb b (List.mem_cons_of_mem _ h)
theorem foldS_take : ∀ (L : List (Oper × Ef)) (j : Nat) (σ : Sg), j ≤ L.length → foldS L (List.replicate j true ++ List.replicate (L.length - j) false) σ = fin (L.take j) σ
 | L, 0, σ, _ => by
  simp only [List.replicate_zero, List.nil_append, List.take_zero, fin]
  exact foldS_none _ _ _ fun b hb => (List.mem_replicate.1 hb).2
 | [], j + 1, σ, h => by simp at h
 | (o, E) :: L, j + 1, σ, h => by
  simp only [List.replicate_succ, List.cons_append, foldS, if_true, List.take_succ_cons, fin, List.length_cons, Nat.add_sub_add_right]
  exact foldS_take L j _ (by simpa using h)
theorem Path.link {F : Fence} {n : Nat} {P : Program} {ops : Array Oper} : ∀ (L : List (Oper × Ef)) (σ : Sg) (j : Nat) (p : Oper × Ef), Path F n P ops L σ → L[j]? = some p →
 Link F n P ops p.1 (fin (L.take j) σ) p.2
 | [], _, _, _, _, h => by simp at h
 | (o, E) :: L, σ, 0, p, hp, h => by
  simp only [List.getElem?_cons_zero, Option.some.injEq] at h
  subst h
  exact hp.1
 | (o, E) :: L, σ, j + 1, p, hp, h => by
  simp only [List.take_succ_cons, fin]
  exact Path.link L _ j p hp.2 (by simpa using h)
end Go.Proofs.YtkbfcofifhngfaaGreat.Tx
namespace Go.Proofs.YtkbfcofifhngfaaGreat.Tx
open Go
variable {X : Cx}
def maskOf (acc : List Nat) : List Edge → Nat
 | [] => 0
 | e :: r => if Region.binds .any e then (1 <<< e.on) ||| (acc.getD e.on 0 ||| maskOf acc r) else maskOf acc r
def bef : List Oper → List Nat → List Nat
 | [], acc => acc
 | o :: r, acc => bef r (acc ++ [maskOf acc o.after.toList])
theorem bef_length : ∀ (l : List Oper) (acc : List Nat), (bef l acc).length = acc.length + l.length
 | [], acc => by simp [bef]
 | o :: r, acc => by
  simp only [bef]
  rw [bef_length r]
  simp
  omega
theorem bef_prefix : ∀ (l : List Oper) (acc : List Nat) (j : Nat), j < acc.length → (bef l acc)[j]? = acc[j]?
 | [], _, _, _ => rfl
 | o :: r, acc, j, h => by
  simp only [bef]
  rw [bef_prefix r _ j (by simp; omega)]
  rw [List.getElem?_append_left h]
theorem bef_get : ∀ (l : List Oper) (acc : List Nat) (j : Nat) (o : Oper), l[j]? = some o → ∃ acc', acc'.length = acc.length + j ∧ (bef l acc)[acc.length + j]? = some (maskOf acc' o.after.toList) ∧
 ∀ k, k < acc'.length → (bef l acc)[k]? = acc'[k]?
 | [], _, _, _, h => by simp at h
 | o' :: r, acc, 0, o, h => by
  simp only [List.getElem?_cons_zero, Option.some.injEq] at h
  subst h
  refine ⟨acc, rfl, ?_, fun k hk => ?_⟩
  · simp only [bef]
    rw [bef_prefix r _ _ (by simp)]
    simp
  · simp only [bef]
    rw [bef_prefix r _ _ (by simp; omega), List.getElem?_append_left hk]
 | o' :: r, acc, j + 1, o, h => by
  obtain ⟨acc', h1, h2, h3⟩ := bef_get r (acc ++ [maskOf acc o'.after.toList]) j o (by simpa using h)
  refine ⟨acc', by simp at h1; omega, ?_, h3⟩
  simp only [bef]
  rw [show acc.length + (j + 1) = (acc ++ [maskOf acc o'.after.toList]).length + j from by simp; omega]
  exact h2
theorem maskOf_bit {acc : List Nat} {k : Nat} : ∀ {l : List Edge}, (maskOf acc l).testBit k = true → ∃ e ∈ l, Region.binds .any e = true ∧ (k = e.on ∨ (acc.getD e.on 0).testBit k = true)
 | [], h => by simp [maskOf] at h
 | e :: r, h => by
  simp only [maskOf] at h
  split at h
  · rename_i hb
    simp only [Nat.testBit_or, Bool.or_eq_true] at h
    rcases h with h | h | h
    · refine ⟨e, List.mem_cons_self, hb, .inl ?_⟩
      rw [Nat.one_shiftLeft, Nat.testBit_two_pow] at h
      simpa using (of_decide_eq_true h).symm
    · exact ⟨e, List.mem_cons_self, hb, .inr h⟩
    · obtain ⟨e', he, h1, h2⟩ := maskOf_bit h
      exact ⟨e', List.mem_cons_of_mem _ he, h1, h2⟩
  · obtain ⟨e', he, h1, h2⟩ := maskOf_bit h
    exact ⟨e', List.mem_cons_of_mem _ he, h1, h2⟩
def edgesB : Nat → List Oper → Bool
 | _, [] => true
 | j, o :: r => (o.after.toList.all fun e => !(Region.binds .any e) || Nat.blt e.on j) && edgesB (j + 1) r
theorem edgesB_get : ∀ (l : List Oper) (i j : Nat) (o : Oper), edgesB i l = true → l[j]? = some o → ∀ e ∈ o.after, Region.binds .any e = true → e.on < i + j
 | [], _, _, _, _, h => by simp at h
 | o' :: r, i, 0, o, hb, h => by
  simp only [List.getElem?_cons_zero, Option.some.injEq] at h
  subst h
  intro e he hbind
  simp only [edgesB, Bool.and_eq_true, List.all_eq_true] at hb
  have := hb.1 e (by simpa using he)
  simp only [hbind, Bool.not_true, Bool.false_or] at this
  rw [Nat.blt_eq] at this
  omega
 | o' :: r, i, j + 1, o, hb, h => by
  simp only [edgesB, Bool.and_eq_true] at hb
  intro e he hbind
  have := edgesB_get r (i + 1) j o hb.2 (by simpa using h) e he hbind
  omega
section
variable {ops : List Oper} (he : edgesB 0 ops = true) (listed : Nat → Prop) (hdown : ∀ j, listed j → ∀ o, ops[j]? = some o → ∀ e ∈ o.after, Region.binds .any e = true → listed e.on)
include he hdown
theorem bef_listed : ∀ (n j : Nat), j ≤ n → ∀ o, ops[j]? = some o → (∀ e ∈ o.after, Region.binds .any e = true → listed e.on) → ∀ k, ((bef ops []).getD j 0).testBit k = true → listed k ∧ k < j := by
 intro n
 induction n with
 | zero =>
  intro j hj o ho hl k hk
  obtain rfl : j = 0 := by omega
  obtain ⟨acc', h1, h2, h3⟩ := bef_get ops [] 0 o ho
  simp only [List.length_nil, Nat.add_zero] at h1 h2
  rw [List.getD_eq_getElem?_getD, h2] at hk
  obtain ⟨e, hem, hb, _⟩ := maskOf_bit hk
  have := edgesB_get ops 0 0 o he ho e (by simpa using hem) hb
  omega
 | succ n ih =>
  intro j hj o ho hl k hk
  obtain ⟨acc', h1, h2, h3⟩ := bef_get ops [] j o ho
  simp only [List.length_nil, Nat.zero_add] at h1 h2
  rw [List.getD_eq_getElem?_getD, h2] at hk
  obtain ⟨e, hem, hb, hor⟩ := maskOf_bit hk
  have hem' : e ∈ o.after := by simpa using hem
  have hlt := edgesB_get ops 0 j o he ho e hem' hb
  rw [Nat.zero_add] at hlt
  rcases hor with rfl | hor
  · exact ⟨hl e hem' hb, hlt⟩
  · have hjl : j < ops.length := (List.getElem?_eq_some_iff.1 ho).1
    have ho' : ops[e.on]? = some ops[e.on] := List.getElem?_eq_getElem (by omega)
    have := ih e.on (by omega) _ ho' (fun e' he' hb' => hdown e.on (hl e hem' hb) _ ho' e' he' hb') k (by
     rw [List.getD_eq_getElem?_getD, h3 e.on (by omega), ← List.getD_eq_getElem?_getD]; exact hor)
    exact ⟨this.1, by omega⟩
end
theorem bef_lt {ops : List Oper} (he : edgesB 0 ops = true) {j k : Nat} (h : ((bef ops []).getD j 0).testBit k = true) : k < j := by
 have hj : j < ops.length := by
  rcases Nat.lt_or_ge j ops.length with h' | h'
  · exact h'
  · rw [List.getD_eq_getElem?_getD, List.getElem?_eq_none (by rw [bef_length]; simpa using h')] at h
    simp at h
 exact (bef_listed he (fun _ => True) (fun _ _ _ _ _ _ _ => trivial) j j (Nat.le_refl _) _ (List.getElem?_eq_getElem hj) (fun _ _ _ => trivial) k h).2
def apartB (pj pk : Oper × Ef) : Bool :=
 (match pk.1.dst with
  | some d => nin d pj.2.rs && (match pj.1.dst with | some d' => !(Nat.beq d d') | none => true)
  | none => true) &&
 pk.2.mods.all fun x => nin x.1 pj.2.rb && nin x.1 (pj.2.mods.map (·.1))
def avB (pj pk : Oper × Ef) : Bool :=
 pk.2.val.av pj.2.fr && pk.2.mods.all fun x => nin x.1 pj.2.fr && x.2.av pj.2.fr
def pairB (bs : List Nat) (j k : Nat) (pj pk : Oper × Ef) : Bool :=
 Nat.beq j k || (((bs.getD j 0).testBit k || (bs.getD k 0).testBit j || apartB pj pk) && ((bs.getD k 0).testBit j || avB pj pk))
def rowB (bs : List Nat) (j : Nat) (pj : Oper × Ef) : Nat → List (Oper × Ef) → Bool
 | _, [] => true
 | k, pk :: r => pairB bs j k pj pk && rowB bs j pj (k + 1) r
def allB (bs : List Nat) (L : List (Oper × Ef)) : Nat → List (Oper × Ef) → Bool
 | _, [] => true
 | j, pj :: r => rowB bs j pj 0 L && allB bs L (j + 1) r
theorem rowB_get {bs : List Nat} {j : Nat} {pj : Oper × Ef} : ∀ (l : List (Oper × Ef)) (i k : Nat) (pk : Oper × Ef), rowB bs j pj i l = true → l[k]? = some pk → pairB bs j (i + k) pj pk = true
 | [], _, _, _, _, h => by simp at h
 | p :: r, i, 0, pk, hb, h => by
  simp only [List.getElem?_cons_zero, Option.some.injEq] at h
  subst h
  simp only [rowB, Bool.and_eq_true] at hb
  exact hb.1
 | p :: r, i, k + 1, pk, hb, h => by
  simp only [rowB, Bool.and_eq_true] at hb
  have := rowB_get r (i + 1) k pk hb.2 (by simpa using h)
  rw [show i + (k + 1) = i + 1 + k from by omega]
  exact this
theorem allB_get {bs : List Nat} {L : List (Oper × Ef)} : ∀ (l : List (Oper × Ef)) (i j : Nat) (pj : Oper × Ef), allB bs L i l = true → l[j]? = some pj → rowB bs (i + j) pj 0 L = true
 | [], _, _, _, _, h => by simp at h
 | p :: r, i, 0, pj, hb, h => by
  simp only [List.getElem?_cons_zero, Option.some.injEq] at h
  subst h
  simp only [allB, Bool.and_eq_true] at hb
  exact hb.1
 | p :: r, i, j + 1, pj, hb, h => by
  simp only [allB, Bool.and_eq_true] at hb
  have := allB_get r (i + 1) j pj hb.2 (by simpa using h)
  rw [show i + (j + 1) = i + 1 + j from by omega]
  exact this
def Touch (p : Oper × Ef) : Key → Prop
 | (true, k) => k ∈ p.2.rs ∨ p.1.dst = some k
 | (false, i) => i ∈ p.2.rb ∨ ∃ b, (i, b) ∈ p.2.mods
theorem apartB_spec {pj pk : Oper × Ef} (h : apartB pj pk = true) {κ : Key} (ht : Touch pj κ) : ¬ Wr pk κ := by
 obtain ⟨b, i⟩ := κ
 simp only [apartB, Bool.and_eq_true, List.all_eq_true] at h
 cases b with
 | true =>
  intro hw
  have hw' : pk.1.dst = some i := hw
  rw [hw'] at h
  simp only [Bool.and_eq_true, nin_iff] at h
  rcases ht with ht | ht
  · exact h.1.1 ht
  · have h2 := h.1.2
    rw [ht] at h2
    simp at h2
 | false =>
  rintro ⟨b, hb⟩
  have := h.2 _ hb
  simp only [nin_iff] at this
  rcases ht with ht | ⟨b', hb'⟩
  · exact this.1 ht
  · exact this.2 (List.mem_map.2 ⟨_, hb', rfl⟩)
theorem avB_app {pj pk : Oper × Ef} {σ : Sg} (h : avB pj pk = true) (hs : σ.Av pj.2.fr) : (σ.app pk.1.dst pk.2).Av pj.2.fr := by
 simp only [avB, Bool.and_eq_true, List.all_eq_true] at h
 constructor
 · intro k s hk
   by_cases hw : Wr pk (true, k)
   · have := look_app_wr (σ := σ) hw
     simp only [look, look1, hk, Option.map_some, Option.some.injEq, Sum.inl.injEq] at this
     rw [this]; exact h.1
   · have := look_app_not (σ := σ) hw
     simp only [look, hk, Option.map_some] at this
     cases ho : lk σ.t k with
     | none => rw [ho] at this; simp at this
     | some s' =>
      rw [ho] at this
      simp only [Option.map_some, Option.some.injEq, Sum.inl.injEq] at this
      subst this
      exact hs.t k _ ho
 · intro k s hk
   exact hs.g k s hk
 · intro i b hi
   have hi' : lk (pk.2.mods ++ σ.m) i = some b := hi
   rw [lk_append] at hi'
   cases hm : lk pk.2.mods i with
   | some y =>
    rw [hm] at hi'
    have hyb : y = b := Option.some.inj hi'
    subst hyb
    have := h.2 _ (lk_mem hm)
    simp only [nin_iff] at this
    exact this
   | none =>
    rw [hm] at hi'
    exact hs.m i b (by simpa using hi')
theorem foldS_av {fr : List Nat} : ∀ (L : List (Oper × Ef)) (S : List Bool) (σ : Sg), σ.Av fr → (∀ (k : Nat) (p : Oper × Ef), L[k]? = some p → S[k]? = some true → ∀ σ : Sg, σ.Av fr → (σ.app p.1.dst p.2).Av fr) →
 (foldS L S σ).Av fr
 | [], _, _, h, _ => by simpa [foldS] using h
 | p :: L, [], σ, h, _ => by simpa [foldS] using h
 | p :: L, b :: S, σ, h, hk => by
  simp only [foldS]
  refine foldS_av L S _ ?_ (fun k q hq hS => hk (k + 1) q (by simpa using hq) (by simpa using hS))
  cases b with
  | false => simpa using h
  | true => simpa using hk 0 p (by simp) (by simp) σ h
theorem foldS_last : ∀ (L : List (Oper × Ef)) (S : List Bool) (σ : Sg) (j : Nat) (p : Oper × Ef), S.length = L.length → L[j]? = some p → S[j]? = some true → (∀ k, j < k → k < L.length → S[k]? = some false) →
 ∃ σ' : Sg, foldS L S σ = σ'.app p.1.dst p.2
 | [], _, _, _, _, _, h, _, _ => by simp at h
 | q :: L, [], _, _, _, h, _, _, _ => by simp at h
 | q :: L, b :: S, σ, 0, p, hl, hp, hS, hk => by
  simp only [List.getElem?_cons_zero, Option.some.injEq] at hp hS
  subst hp hS
  refine ⟨σ, ?_⟩
  simp only [foldS, if_true]
  refine foldS_none L S _ fun b hb => ?_
  obtain ⟨k, hk', rfl⟩ := List.mem_iff_getElem.1 hb
  have := hk (k + 1) (by omega) (by simp at hl ⊢; omega)
  simp only [List.getElem?_cons_succ, List.getElem?_eq_getElem hk', Option.some.injEq] at this
  exact this
 | q :: L, b :: S, σ, j + 1, p, hl, hp, hS, hk => by
  simp only [foldS]
  exact foldS_last L S _ j p (by simpa using hl) (by simpa using hp) (by simpa using hS) fun k h1 h2 => by
   have := hk (k + 1) (by omega) (by simp; omega)
   simpa using this
theorem look_inl {σ σ' : Sg} {k : Nat} (h : look σ (true, k) = look σ' (true, k)) : lk σ.t k = lk σ'.t k := by
 simp only [look] at h
 cases h1 : lk σ.t k <;> cases h2 : lk σ'.t k <;> simp_all
theorem look_inr {σ σ' : Sg} {i : Nat} (h : look σ (false, i) = look σ' (false, i)) : lk σ.m i = lk σ'.m i := by
 simp only [look] at h
 cases h1 : lk σ.m i <;> cases h2 : lk σ'.m i <;> simp_all
theorem Sat'.drawn {σ : Sg} {β : Nat → Nat} {D : Nat → Prop} {a : Act} {w : World} (h : Sat' X σ β D a w) (d : Nat) : Sat' X σ β D a { w with drawn := d } :=
 ⟨h.defers, h.size, h.t, fun i b hi => by
  have := h.m i b hi
  cases b <;> exact this, h.inj, h.out, h.dlt, fun w' hc => h.h w' ⟨hc.os, hc.tape, hc.output, hc.size, hc.same⟩, h.amb.keep (fun _ _ _ => rfl) (fun _ _ h _ => h) (fun _ _ h => h)⟩
structure DrawOK (L : List (Oper × Ef)) (σ : Sg) : Prop where
 edges : edgesB 0 (L.map (·.1)) = true
 pairs : allB (bef (L.map (·.1)) []) L 0 L = true
 av : ∀ p ∈ L, σ.Av p.2.fr
theorem region_any {F : Fence} {n : Nat} {P : Program} {id : Nat} {ops : Array Oper} {Q : Exit → Act → World → Prop} {L : List (Oper × Ef)} {σ : Sg} {a : Act} {w : World}
 (hm : P.follows .mixedOrders = true) (hL : ops.toList = L.map (·.1)) (hp : Path F n P ops L σ) (hd : DrawOK L σ) (hs : Sat X σ a w) (hq : ∀ a w, Sat X (fin L σ) a w → Q .normal a w) :
 (Code.region id ops true).wpIn F n P Q a w := by
 refine wpIn_region_any hm ?_
 have hsz : ops.size = L.length := by
  have := congrArg List.length hL
  simpa using this
 have hget : ∀ i : Nat, ops[i]? = (L[i]?).map (fun p : Oper × Ef => p.1) := fun i => by rw [← List.getElem?_map, ← hL, Array.getElem?_toList]
 have key : ∀ (fuel : Nat) (listed : Array Bool) (a : Act) (w : World), listed.size = L.length → (listed.toList.countP (! ·)) = fuel →
  (∀ j, listed.getD j false = true → ∀ o, (L.map (·.1))[j]? = some o → ∀ e ∈ o.after, Region.binds .any e = true → listed.getD e.on false = true) →
  Sat X (foldS L listed.toList σ) a w → wpAnyIn F n P .any ops Q fuel listed a w := by
  intro fuel
  have done : ∀ (listed : Array Bool) (a : Act) (w : World), listed.size = L.length → Region.ready .any ops listed = [] → Sat X (foldS L listed.toList σ) a w → Q .normal a w := by
   intro listed a w hls hr hsat
   refine hq a w ?_
   rw [← foldS_all L listed.toList σ (by simpa using hls) ?_]
   · exact hsat
   · -- the first that is not listed would be ready
     have hall : ∀ m j, j ≤ m → j < L.length → listed.getD j true = true := by
      intro m
      induction m with
      | zero =>
       intro j hj hjl
       obtain rfl : j = 0 := by omega
       refine Classical.byContradiction fun hne => ?_
       have hmem : (0 : Nat) ∈ Region.ready .any ops listed := by
        rw [mem_ready]
        refine ⟨by simpa using hne, (L[0]).1, by rw [hget]; simp [List.getElem?_eq_getElem hjl], fun e he hb => ?_⟩
        have := edgesB_get _ 0 0 (L[0]).1 hd.edges (by simp [List.getElem?_eq_getElem hjl]) e he hb
        omega
       rw [hr] at hmem; cases hmem
      | succ m ih =>
       intro j hj hjl
       refine Classical.byContradiction fun hne => ?_
       have hmem : j ∈ Region.ready .any ops listed := by
        rw [mem_ready]
        refine ⟨by simpa using hne, (L[j]).1, by rw [hget]; simp [List.getElem?_eq_getElem hjl], fun e he hb => ?_⟩
        have hlt := edgesB_get _ 0 j (L[j]).1 hd.edges (by simp [List.getElem?_eq_getElem hjl]) e he hb
        rw [Nat.zero_add] at hlt
        have := ih e.on (by omega) (by omega)
        have hin : e.on < listed.size := by omega
        simp only [Array.getD_eq_getD_getElem?, Array.getElem?_eq_getElem hin, Option.getD_some] at this ⊢
        exact this
       rw [hr] at hmem; cases hmem
     intro b hb
     obtain ⟨k, hk, rfl⟩ := List.mem_iff_getElem.1 hb
     have hk' : k < listed.size := by simpa using hk
     have := hall k k (Nat.le_refl _) (by omega)
     simp only [Array.getD_eq_getD_getElem?, Array.getElem?_eq_getElem hk', Option.getD_some] at this
     simpa using this
  induction fuel with
  | zero =>
   intro listed a w hls hc hdown hsat
   have hnone : Region.ready .any ops listed = [] := by
    rw [List.eq_nil_iff_forall_not_mem]
    intro i hi
    have h0 := (mem_ready.1 hi).1
    obtain ⟨o, ho, _⟩ := (mem_ready.1 hi).2
    have hil : i < listed.size := by rw [hls, ← hsz]; exact (Array.getElem?_eq_some_iff.1 ho).1
    rw [List.countP_eq_zero] at hc
    have := hc listed[i] (by simp)
    simp only [Array.getD_eq_getD_getElem?, Array.getElem?_eq_getElem hil, Option.getD_some] at h0
    simp [h0] at this
   exact ⟨hnone, done listed a w hls hnone hsat⟩
  | succ fuel ih =>
   intro listed a w hls hc hdown hsat
   refine ⟨fun hr => done listed a w hls hr hsat, fun i hi => ?_⟩
   obtain ⟨h0, o, ho, hall⟩ := mem_ready.1 hi
   have hil : i < listed.size := by rw [hls, ← hsz]; exact (Array.getElem?_eq_some_iff.1 ho).1
   have hiL : i < L.length := by omega
   obtain ⟨E, hE⟩ : ∃ E, L[i]? = some (o, E) := by
    have := hget i
    rw [ho, List.getElem?_eq_getElem hiL] at this
    simp only [Option.map_some, Option.some.injEq] at this
    exact ⟨(L[i]).2, by rw [List.getElem?_eq_getElem hiL, this]⟩
   have hlink := Path.link L σ i (o, E) hp hE
   have hiF : listed[i] = false := by
    simpa only [Array.getD_eq_getD_getElem?, Array.getElem?_eq_getElem hil, Option.getD_some] using h0
   have hSi : listed.toList[i]? = some false := by simp [hil, hiF]
   have hSl : listed.toList.length = L.length := by simpa using hls
   have hoL : (L.map (·.1))[i]? = some o := by simp [hE]
   have hbi : ∀ k, ((bef (L.map (·.1)) []).getD i 0).testBit k = true → listed.getD k false = true := fun k hk =>
    (bef_listed hd.edges (fun j => listed.getD j false = true) hdown i i (Nat.le_refl _) o hoL hall k hk).1
   have hbk : ∀ k pk, L[k]? = some pk → listed.getD k false = true → ¬ ((bef (L.map (·.1)) []).getD k 0).testBit i = true := fun k pk hpk hk hbit => by
    have hkL : (L.map (·.1))[k]? = some pk.1 := by simp [hpk]
    have := (bef_listed hd.edges (fun j => listed.getD j false = true) hdown k k (Nat.le_refl _) pk.1 hkL (hdown k hk pk.1 hkL) i hbit).1
    simp only [Array.getD_eq_getD_getElem?, Array.getElem?_eq_getElem hil, Option.getD_some, hiF] at this
    cases this
   have hpair : ∀ k pk, L[k]? = some pk → pairB (bef (L.map (·.1)) []) i k (o, E) pk = true := fun k pk hpk => by
    have h1 := allB_get L 0 i (o, E) hd.pairs hE
    rw [Nat.zero_add] at h1
    have h2 := rowB_get L 0 k pk h1 hpk
    rw [Nat.zero_add] at h2
    exact h2
   have hapart : ∀ k pk, L[k]? = some pk → k ≠ i → ((k < i ∧ listed.toList[k]? = some false) ∨ (i < k ∧ listed.toList[k]? = some true)) → ∀ κ, Touch (o, E) κ → ¬ Wr pk κ := by
    intro k pk hpk hne hcase κ ht
    have hpr := hpair k pk hpk
    have hbeq : Nat.beq i k = false := by
     cases hb : Nat.beq i k with
     | false => rfl
     | true => exact absurd (Nat.eq_of_beq_eq_true hb).symm hne
    simp only [pairB, hbeq, Bool.false_or, Bool.and_eq_true, Bool.or_eq_true] at hpr
    refine apartB_spec ?_ ht
    rcases hpr.1 with (h | h) | h
    · exfalso
      have hl := hbi k h
      have hlt := bef_lt hd.edges h
      rcases hcase with ⟨_, hf⟩ | ⟨hgt, _⟩
      · have hk : k < listed.size := by omega
        simp only [Array.getD_eq_getD_getElem?, Array.getElem?_eq_getElem hk, Option.getD_some] at hl
        simp [hk, hl] at hf
      · omega
    · exfalso
      have hlt := bef_lt hd.edges h
      rcases hcase with ⟨hlt', _⟩ | ⟨_, hf⟩
      · omega
      · refine hbk k pk hpk ?_ h
        have hk : k < listed.size := by
         have := (List.getElem?_eq_some_iff.1 hf).1
         simpa using this
        simp only [Array.getD_eq_getD_getElem?, Array.getElem?_eq_getElem hk, Option.getD_some]
        simpa [hk] using hf
    · exact h
   have hT : (List.replicate i true ++ List.replicate (L.length - i) false).length = L.length := by simp; omega
   have hA : ∀ κ, Touch (o, E) κ → look (foldS L listed.toList σ) κ = look (fin (L.take i) σ) κ := by
    intro κ ht
    rw [← foldS_take L i σ (by omega)]
    refine foldS_look L _ _ σ σ hSl hT rfl fun k pk hpk hne => ?_
    have hkL : k < L.length := (List.getElem?_eq_some_iff.1 hpk).1
    have hkS : k < listed.toList.length := by omega
    by_cases hki : k = i
    · subst hki
      exfalso; apply hne
      rw [hSi, List.getElem?_append_right (by simp), List.getElem?_replicate]
      simp only [List.length_replicate, Nat.sub_self]
      rw [if_pos (by omega)]
    · refine hapart k pk hpk hki ?_ κ ht
      rcases Nat.lt_or_gt_of_ne hki with hlt | hgt
      · refine .inl ⟨hlt, ?_⟩
        rw [List.getElem?_append_left (by simpa using hlt)] at hne
        rw [List.getElem?_eq_getElem hkS] at hne ⊢
        rw [List.getElem?_replicate] at hne
        simp only [hlt, if_true, ne_eq, Option.some.injEq] at hne ⊢
        simpa using hne
      · refine .inr ⟨hgt, ?_⟩
        rw [List.getElem?_append_right (by simp; omega)] at hne
        rw [List.getElem?_eq_getElem hkS] at hne ⊢
        rw [List.getElem?_replicate] at hne
        have : k - (List.replicate i true).length < L.length - i := by simp; omega
        simp only [this, if_true, ne_eq, Option.some.injEq] at hne ⊢
        simpa using hne
   obtain ⟨β, Dm, hsat⟩ := hsat
   have hav : (foldS L listed.toList σ).Av E.fr := by
    refine foldS_av L _ σ (hd.av (o, E) (List.mem_of_getElem? hE)) fun k pk hpk hk σ' hσ' => ?_
    have hkL : k < L.length := (List.getElem?_eq_some_iff.1 hpk).1
    have hki : k ≠ i := fun e => by subst e; rw [hSi] at hk; cases hk
    have hpr := hpair k pk hpk
    have hbeq : Nat.beq i k = false := by
     cases hb : Nat.beq i k with
     | false => rfl
     | true => exact absurd (Nat.eq_of_beq_eq_true hb).symm hki
    simp only [pairB, hbeq, Bool.false_or, Bool.and_eq_true, Bool.or_eq_true] at hpr
    rcases hpr.2 with h | h
    · exfalso
      refine hbk k pk hpk ?_ h
      have hk' : k < listed.size := by omega
      simp only [Array.getD_eq_getD_getElem?, Array.getElem?_eq_getElem hk', Option.getD_some]
      simpa [hk'] using hk
    · exact avB_app (pj := (o, E)) h hσ'
   have hwf : E.Wf (foldS L listed.toList σ) := ⟨fun g b hg hgf => by
    obtain ⟨bk, h1, h2⟩ := hlink.wf.old g b hg hgf
    refine ⟨bk, ?_, h2⟩
    rw [look_inr (hA (false, g) (.inl (hlink.rb g b hg hgf)))]
    exact h1, hlink.wf.once⟩
   have hsees : Sees (fin (L.take i) σ) E β a w := by
    have h := hsat.sees E
    refine ⟨fun k hk s hs => h.t k hk s ?_, fun g hg b hb => h.m g hg b ?_, fun g hg g' hg' b b' h1 h2 => h.inj g hg g' hg' b b' ?_ ?_, ?_, ?_, fun w2 hc2 => ?_⟩
    · rw [look_inl (hA (true, k) (.inl hk))]; exact hs
    · rw [look_inr (hA (false, g) (.inl hg))]; exact hb
    · rw [look_inr (hA (false, g) (.inl hg))]; exact h1
    · rw [look_inr (hA (false, g') (.inl hg'))]; exact h2
    · have h1 := (foldS_meta L listed.toList σ).2
      have h2 : (fin (L.take i) σ).h = σ.h := by rw [← foldS_take L i σ (by omega)]; exact (foldS_meta _ _ σ).2
      rw [h2, ← h1]; exact h.h
    · have h1 := (foldS_meta L listed.toList σ).1
      have h2 : (fin (L.take i) σ).nt = σ.nt := by rw [← foldS_take L i σ (by omega)]; exact (foldS_meta _ _ σ).1
      rw [h2, ← h1]; exact h.size
    · have h1 := (foldS_meta L listed.toList σ).2
      have h2 : (fin (L.take i) σ).h = σ.h := by rw [← foldS_take L i σ (by omega)]; exact (foldS_meta _ _ σ).2
      rw [h2, ← h1]
      refine h.st w2 ⟨hc2.os, hc2.tape, hc2.output, hc2.size, fun b hb hX => hc2.same b hb fun ⟨g, hg, ⟨bk, e1, e2⟩, hgb⟩ => hX ⟨g, hg, ⟨bk, ?_, e2⟩, hgb⟩⟩
      rw [look_inr (hA (false, g) (.inl hg))]; exact e1
   have hnt : ∀ d, o.dst = some d → d < (foldS L listed.toList σ).nt := fun d hd' => by
    have := hlink.dst d hd'
    have h2 : (fin (L.take i) σ).nt = σ.nt := by rw [← foldS_take L i σ (by omega)]; exact (foldS_meta _ _ σ).1
    rw [(foldS_meta L listed.toList σ).1, ← h2]; exact this
   have hstep := hlink.ok Q β a w (fun a' w' => Sat X (foldS L (listed.setIfInBounds i true).toList σ) a' w') hsees fun β' w' hpost => by
    refine ⟨β', Dm, ?_⟩
    have happ := hsat.app hav hwf hnt hpost
    have hset : (listed.setIfInBounds i true).toList = listed.toList.set i true := by simp
    have hsl : (listed.toList.set i true).length = L.length := by simpa using hls
    have hD : ∀ κ, look (foldS L (listed.toList.set i true) σ) κ = look ((foldS L listed.toList σ).app o.dst E) κ := by
     intro κ
     by_cases hw : Wr (o, E) κ
     · have ht : Touch (o, E) κ := by
        obtain ⟨b, g⟩ := κ
        cases b
        · exact .inr hw
        · exact .inr hw
       have hR : look ((foldS L listed.toList σ).app o.dst E) κ = look1 (o, E) κ := look_app_wr (p := (o, E)) hw
       rw [hR]
       have hcut : look (foldS L (listed.toList.set i true) σ) κ = look (foldS L ((listed.toList.set i true).take (i + 1) ++ List.replicate (L.length - (i + 1)) false) σ) κ := by
        refine foldS_look L _ _ σ σ hsl (by simp; omega) rfl fun k pk hpk hne => ?_
        have hkL : k < L.length := (List.getElem?_eq_some_iff.1 hpk).1
        by_cases hk1 : k < i + 1
        · exfalso; apply hne
          rw [List.getElem?_append_left (by simp; omega), List.getElem?_take_of_lt hk1]
        · refine hapart k pk hpk (by omega) (.inr ⟨by omega, ?_⟩) κ ht
          rw [List.getElem?_append_right (by simp; omega)] at hne
          rw [List.getElem?_set_ne (by omega)] at hne
          have hkS : k < listed.toList.length := by omega
          rw [List.getElem?_eq_getElem hkS] at hne ⊢
          rw [List.getElem?_replicate] at hne
          have : k - ((listed.toList.set i true).take (i + 1)).length < L.length - (i + 1) := by simp; omega
          simp only [this, if_true, ne_eq, Option.some.injEq] at hne ⊢
          simpa using hne
       rw [hcut]
       obtain ⟨σ', hσ'⟩ := foldS_last L ((listed.toList.set i true).take (i + 1) ++ List.replicate (L.length - (i + 1)) false) σ i (o, E) (by simp; omega) hE
        (by rw [List.getElem?_append_left (by simp; omega), List.getElem?_take_of_lt (by omega), List.getElem?_set_self (by omega)])
        (fun k h1 h2 => by
         rw [List.getElem?_append_right (by simp; omega), List.getElem?_replicate]
         have : k - ((listed.toList.set i true).take (i + 1)).length < L.length - (i + 1) := by simp; omega
         simp only [this, if_true])
       rw [hσ']
       exact look_app_wr (p := (o, E)) hw
     · have hR : look ((foldS L listed.toList σ).app o.dst E) κ = look (foldS L listed.toList σ) κ := look_app_not (p := (o, E)) hw
       rw [hR]
       refine foldS_look L _ _ σ σ hsl hSl rfl fun k pk hpk hne => ?_
       by_cases hki : k = i
       · subst hki
         rw [hE, Option.some.injEq] at hpk
         subst hpk
         exact hw
       · exfalso; apply hne
         rw [List.getElem?_set_ne (fun e => hki e.symm)]
    rw [hset]
    exact happ.congr (fun k => look_inl (hD (true, k))) (fun g => look_inr (hD (false, g))) (by rw [(foldS_meta _ _ σ).1]; exact ((foldS_meta L listed.toList σ).1).symm)
     (by rw [(foldS_meta _ _ σ).2]; exact ((foldS_meta L listed.toList σ).2).symm) (by rw [foldS_z]; exact (foldS_z L listed.toList σ).symm)
   have hstep' := hstep.mono (K' := wpAnyIn F n P .any ops Q fuel (listed.setIfInBounds i true)) fun a' w' hs' => by
    refine ih (listed.setIfInBounds i true) a' w' (by simpa using hls) ?_ ?_ hs'
    · have hset : (listed.setIfInBounds i true).toList = listed.toList.set i true := by simp
      rw [hset, List.countP_set (by omega)]
      have : listed.toList[i]'(by omega) = false := by simpa using hiF
      simp only [this]
      simp at hc ⊢
      omega
    · intro j hj o' ho' e he hb
      by_cases hji : j = i
      · subst hji
        rw [hoL, Option.some.injEq] at ho'
        subst ho'
        exact getD_set_true (hall e he hb)
      · rw [getD_set_ne false (fun h => hji h.symm)] at hj
        exact getD_set_true (hdown j hj o' ho' e he hb)
   unfold wpOpIn
   rw [ho]
   exact hstep'
 obtain ⟨β, Dm, hs⟩ := hs
 refine key ops.size (Array.replicate ops.size false) a _ (by simp [hsz]) (by simp [List.countP_replicate]) (fun j hj => ?_) ⟨β, Dm, ?_⟩
 · exfalso
   rcases Nat.lt_or_ge j ops.size with h | h
   · simp [h] at hj
   · simp [h] at hj
 · rw [foldS_none]
   · exact hs.drawn _
   · intro b hb
     simp only [Array.toList_replicate, List.mem_replicate] at hb
     exact hb.2
end Go.Proofs.YtkbfcofifhngfaaGreat.Tx
namespace Go.Proofs.YtkbfcofifhngfaaGreat.Tx
open Go
variable {X : Cx}
inductive TK where
 | plain
 | int (k : IntKind)
 | struct (fs : List (Nat × Nat))
 | arr (n e : Nat)
 | slice (e : Nat)
structure TI where
 size : Nat
 zero : List Value
 bytes : Nat
 kind : TK
def TK.agg : TK → Bool
 | .struct _ | .arr _ _ => true
 | _ => false
def kindOf : TypeDesc → TK
 | .int k => .int k
 | .struct fs => .struct (fs.toList.map fun f => (f.offset, f.type))
 | .array n e => .arr n e
 | .slice e => .slice e
 | _ => .plain
structure TOK (P : Program) (t : TypeId) (ti : TI) : Prop where
 info : (P.info? t).map (fun i => (i.size, i.zero.map (fun z => z.cells.toList), i.bytes)) = some (ti.size, some ti.zero, ti.bytes)
 kind : (P.underlying t).map kindOf = some ti.kind
structure Env (P : Program) where
 ty : Nat → Option TI
 tok : ∀ t ti, ty t = some ti → TOK P t ti
 fn : Nat → Bool
 fok : ∀ k, fn k = true → ∀ args w, (callFunc k args).run P w = .ok (.enter k args) w
theorem callFunc_enter {P : Program} {f : FuncId} {fn : Func} {c : Code} (hf : P.funcs[f]? = some fn) (hname : (fn.name == "runtime.NumGoroutine") = false) (hb : fn.body = some c) (args : Array Value) (w : World) :
 (callFunc f args).run P w = .ok (.enter f args) w := by
 have hne : ¬ fn.name = "runtime.NumGoroutine" := by simpa using hname
 simp [callFunc, hf, hne, hb]
section
variable {P : Program} {t : TypeId} {ti : TI}
theorem TOK.row (h : TOK P t ti) : ∃ i z, P.info? t = some i ∧ i.size = ti.size ∧ i.zero = some z ∧ z.cells.toList = ti.zero ∧ i.bytes = ti.bytes := by
 have h1 := h.info
 cases hi : P.info? t with
 | none => rw [hi] at h1; cases h1
 | some i =>
  rw [hi] at h1
  simp only [Option.map_some, Option.some.injEq, Prod.mk.injEq] at h1
  cases hz : i.zero with
  | none => rw [hz] at h1; cases h1.2.1
  | some z =>
   rw [hz] at h1
   simp only [Option.map_some, Option.some.injEq] at h1
   exact ⟨i, z, rfl, h1.1, hz, h1.2.1, h1.2.2⟩
theorem TOK.under (h : TOK P t ti) : ∃ d, P.underlying t = some d ∧ kindOf d = ti.kind := by
 have h1 := h.kind
 cases hd : P.underlying t with
 | none => rw [hd] at h1; cases h1
 | some d => rw [hd] at h1; exact ⟨d, rfl, by simpa using h1⟩
theorem TOK.run_typeInfo (h : TOK P t ti) (w : World) : ∃ i z, (typeInfo t).run P w = .ok i w ∧ i.size = ti.size ∧ i.zero = some z ∧ z.cells.toList = ti.zero ∧ i.bytes = ti.bytes := by
 obtain ⟨i, z, h1, h2, h3, h4, h5⟩ := h.row
 exact ⟨i, z, by simp [typeInfo, h1], h2, h3, h4, h5⟩
theorem TOK.run_sizeOf (h : TOK P t ti) (w : World) : (sizeOf t).run P w = .ok ti.size w := by
 obtain ⟨i, z, h1, h2, _⟩ := h.run_typeInfo w
 simp [sizeOf, h1, h2]
theorem TOK.run_zero (h : TOK P t ti) : ∃ z : Value, z.cells.toList = ti.zero ∧ ∀ w, (zeroValue t).run P w = .ok z w := by
 obtain ⟨i, z, h1, _, h3, h4, _⟩ := h.row
 exact ⟨z, h4, fun w => by simp [zeroValue, typeInfo, h1, h3]⟩
theorem TOK.run_isAgg (h : TOK P t ti) (w : World) : (isAgg t).run P w = .ok ti.kind.agg w := by
 obtain ⟨d, h1, h2⟩ := h.under
 unfold isAgg
 rw [Sem.run_bind, Go.run_underlying h1 w, Result.andThen_ok, ← h2]
 cases d <;> rfl
theorem kindOf_struct {d : TypeDesc} {fs : List (Nat × Nat)} (h : kindOf d = .struct fs) : ∃ a : Array Field, d = .struct a ∧ a.toList.map (fun f => (f.offset, f.type)) = fs := by
 cases d <;> simp [kindOf] at h
 exact ⟨_, rfl, h⟩
theorem kindOf_arr {d : TypeDesc} {n e : Nat} (h : kindOf d = .arr n e) : d = .array n e := by
 cases d <;> simp [kindOf] at h
 obtain ⟨rfl, rfl⟩ := h; rfl
theorem kindOf_slice {d : TypeDesc} {e : Nat} (h : kindOf d = .slice e) : d = .slice e := by
 cases d <;> simp [kindOf] at h
 subst h; rfl
end
def gv (σ : Sg) : Operand → Option SV
 | .tmp k => lk σ.t k
 | .const x => some (.v x)
 | .func f => some (.v (.func (.func f) #[] #[]))
 | .global _ => none
def os : Operand → List Nat
 | .tmp k => [k]
 | _ => []
theorem gv_eval {σ : Sg} {E : Ef} {β : Nat → Nat} {a : Act} {w : World} (h : Sees σ E β a w) {x : Operand} {s : SV} (hx : gv σ x = some s) (ho : ∀ k ∈ os x, k ∈ E.rs) : a.eval x = s.c β := by
 cases x with
 | tmp k => exact h.t k (ho k (by simp [os])) s hx
 | const v => simp only [gv, Option.some.injEq] at hx; subst hx; rfl
 | func f => simp only [gv, Option.some.injEq] at hx; subst hx; rfl
 | global g => cases hx
def SV.cells : SV → List SV
 | .v (.agg cs) => cs.toList.map .v
 | .agg l => l
 | s => [s]
theorem SV.cells_c (β : Nat → Nat) (s : SV) : (s.c β).cells.toList = SV.cs β s.cells := by
 cases s with
 | v x =>
  cases x <;> simp [SV.c, SV.cells, Value.cells, SV.cs_eq]
  rename_i cs
  exact (List.map_id' _).symm.trans (List.map_congr_left fun x _ => rfl)
 | agg l => simp [SV.c, SV.cells, Value.cells]
 | ptr i o => simp [SV.c, SV.cells, Value.cells, SV.cs]
 | sl i o n k => simp [SV.c, SV.cells, Value.cells, SV.cs]
 | os i j n => simp [SV.c, SV.cells, Value.cells, SV.cs]
 | fn f cap => simp [SV.c, SV.cells, Value.cells, SV.cs]
 | mv f cap => simp [SV.c, SV.cells, Value.cells, SV.cs]
 | tup l => simp [SV.c, SV.cells, Value.cells, SV.cs]
theorem lts_iff {n : Nat} : ∀ {l : List SV}, SV.lts n l = true ↔ ∀ s ∈ l, s.lt n = true
 | [] => by simp [SV.lts]
 | x :: r => by simp [SV.lts, lts_iff (l := r)]
theorem SV.cells_lt {n : Nat} {s : SV} (h : s.lt n = true) : SV.lts n s.cells = true := by
 cases s with
 | v x => cases x <;> simp [SV.cells, SV.lts, SV.lt, lts_iff]
 | agg l => simpa [SV.cells, SV.lt] using h
 | ptr i o => simpa [SV.cells, SV.lts] using h
 | sl i o n k => simpa [SV.cells, SV.lts] using h
 | os i j n => simpa [SV.cells, SV.lts] using h
 | fn f cap => simpa [SV.cells, SV.lts] using h
 | mv f cap => simpa [SV.cells, SV.lts] using h
 | tup l => simpa [SV.cells, SV.lts] using h
mutual
theorem SV.lt_mono {n m : Nat} (hm : n ≤ m) : ∀ s : SV, s.lt n = true → s.lt m = true
 | .v _, _ => rfl
 | .ptr i _, h => by simp only [SV.lt, Nat.blt_eq] at *; omega
 | .sl i _ _ _, h => by simp only [SV.lt, Nat.blt_eq] at *; omega
 | .os i j _, h => by simp only [SV.lt, Bool.and_eq_true, Nat.blt_eq] at *; omega
 | .agg l, h => by simp only [SV.lt] at *; exact SV.lts_mono hm l h
 | .fn _ cap, h => by simp only [SV.lt] at *; exact SV.lts_mono hm cap h
 | .mv _ cap, h => by simp only [SV.lt] at *; exact SV.lts_mono hm cap h
 | .tup l, h => by simp only [SV.lt] at *; exact SV.lts_mono hm l h
theorem SV.lts_mono {n m : Nat} (hm : n ≤ m) : ∀ l : List SV, SV.lts n l = true → SV.lts m l = true
 | [], _ => rfl
 | x :: r, h => by
  simp only [SV.lts, Bool.and_eq_true] at *
  exact ⟨SV.lt_mono hm x h.1, SV.lts_mono hm r h.2⟩
end
theorem Blk.lt_mono {n m : Nat} (hm : n ≤ m) (b : Blk) (h : b.lt n = true) : b.lt m = true := by
 cases b with
 | cells l ty => exact SV.lts_mono hm l h
 | own j k sz xs ty => simp only [Blk.lt, Nat.blt_eq] at *; omega
 | grow j k sz xs ty => simp only [Blk.lt, Bool.and_eq_true, Nat.blt_eq] at *; exact ⟨by omega, SV.lts_mono hm xs h.2⟩
 | mix j k sz vs xs ty => simp only [Blk.lt, Bool.and_eq_true, Nat.blt_eq] at *; exact ⟨by omega, SV.lts_mono hm xs h.2⟩
 | _ => rfl
mutual
theorem SV.lt_av {n c : Nat} : ∀ s : SV, s.lt n = true → s.av (List.range' n c) = true
 | .v _, _ => rfl
 | .ptr i _, h => by simp only [SV.lt, Nat.blt_eq] at h; simp only [SV.av, nin_iff, List.mem_range'_1]; omega
 | .sl i _ _ _, h => by simp only [SV.lt, Nat.blt_eq] at h; simp only [SV.av, nin_iff, List.mem_range'_1]; omega
 | .os i j _, h => by simp only [SV.lt, Bool.and_eq_true, Nat.blt_eq] at h; simp only [SV.av, Bool.and_eq_true, nin_iff, List.mem_range'_1]; omega
 | .agg l, h => by simp only [SV.lt] at h; simp only [SV.av]; exact SV.lts_avs l h
 | .fn _ cap, h => by simp only [SV.lt] at h; simp only [SV.av]; exact SV.lts_avs cap h
 | .mv _ cap, h => by simp only [SV.lt] at h; simp only [SV.av]; exact SV.lts_avs cap h
 | .tup l, h => by simp only [SV.lt] at h; simp only [SV.av]; exact SV.lts_avs l h
theorem SV.lts_avs {n c : Nat} : ∀ l : List SV, SV.lts n l = true → SV.avs (List.range' n c) l = true
 | [], _ => rfl
 | x :: r, h => by
  simp only [SV.lts, SV.avs, Bool.and_eq_true] at *
  exact ⟨SV.lt_av x h.1, SV.lts_avs r h.2⟩
end
theorem Blk.lt_av {n c : Nat} (b : Blk) (h : b.lt n = true) : b.av (List.range' n c) = true := by
 cases b with
 | cells l ty => exact SV.lts_avs l h
 | own j k sz xs ty => simp only [Blk.lt, Nat.blt_eq] at h; simp only [Blk.av, nin_iff, List.mem_range'_1]; omega
 | grow j k sz xs ty => simp only [Blk.lt, Bool.and_eq_true, Nat.blt_eq] at h; simp only [Blk.av, Bool.and_eq_true, nin_iff, List.mem_range'_1]; exact ⟨by omega, SV.lts_avs xs h.2⟩
 | mix j k sz vs xs ty => simp only [Blk.lt, Bool.and_eq_true, Nat.blt_eq] at h; simp only [Blk.av, Bool.and_eq_true, nin_iff, List.mem_range'_1]; exact ⟨by omega, SV.lts_avs xs h.2⟩
 | _ => rfl
structure Sg.Wf (σ : Sg) : Prop where
 t : ∀ k s, lk σ.t k = some s → s.lt σ.nb = true
 g : ∀ k s, lk σ.z.g k = some s → s.lt σ.nb = true
 m : ∀ i b, lk σ.m i = some b → i < σ.nb ∧ b.lt σ.nb = true
theorem Sg.Wf.gv {σ : Sg} (h : σ.Wf) {x : Operand} {s : SV} (hx : gv σ x = some s) : s.lt σ.nb = true := by
 cases x with
 | tmp k => exact h.t k s hx
 | const v => simp only [Tx.gv, Option.some.injEq] at hx; subst hx; rfl
 | func f => simp only [Tx.gv, Option.some.injEq] at hx; subst hx; rfl
 | global g => cases hx
structure Sg.Ok (σ : Sg) : Prop where
 wf : σ.Wf
 lt : ∀ k s, lk σ.t k = some s → k < σ.nt
structure EfOK (σ : Sg) (E : Ef) : Prop where
 fr : E.fr = List.range' σ.nb E.fr.length
 val : E.val.lt (σ.nb + E.fr.length) = true
 mods : ∀ i b, (i, b) ∈ E.mods → i < σ.nb + E.fr.length ∧ b.lt (σ.nb + E.fr.length) = true
 old : ∀ i b, (i, b) ∈ E.mods → i < σ.nb → i ∈ E.rb ∧ ∃ bk, lk σ.m i = some bk ∧ bk.live = true
 once : ∀ i b b', (i, b) ∈ E.mods → (i, b') ∈ E.mods → b = b'
theorem EfOK.link {F : Fence} {n : Nat} {P : Program} {ops : Array Oper} {o : Oper} {σ : Sg} {E : Ef} (h : EfOK σ E) (hw : σ.Wf) (hd : ∀ d, o.dst = some d → d < σ.nt) (hok : OpOK F n P ops o σ E) :
 Link F n P ops o σ E := by
 have hfr : ∀ i, i ∈ E.fr → σ.nb ≤ i := fun i hi => by
  rw [h.fr, List.mem_range'_1] at hi
  exact hi.1
 refine ⟨hok, ⟨fun i b hi hf => ?_, h.once⟩, ⟨fun k s hk => ?_, fun k s hk => (by rw [h.fr]; exact SV.lt_av s (hw.g k s hk)), fun i b hi => ⟨fun hf => ?_, ?_⟩⟩, fun i b hi hf => ?_, hd⟩
 · have hlt : i < σ.nb := by
    have h1 := (h.mods i b hi).1
    rcases Nat.lt_or_ge i σ.nb with h2 | h2
    · exact h2
    · exfalso; apply hf
      rw [h.fr, List.mem_range'_1]
      exact ⟨h2, h1⟩
   exact (h.old i b hi hlt).2
 · rw [h.fr]; exact SV.lt_av s (hw.t k s hk)
 · have := hfr i hf
   have := (hw.m i b hi).1
   omega
 · rw [h.fr]
   have := (hw.m i b hi).2
   exact Blk.lt_av b this
 · have hlt : i < σ.nb := by
    have h1 := (h.mods i b hi).1
    rcases Nat.lt_or_ge i σ.nb with h2 | h2
    · exact h2
    · exfalso; apply hf
      rw [h.fr, List.mem_range'_1]
      exact ⟨h2, h1⟩
   exact (h.old i b hi hlt).1
theorem EfOK.wf {σ : Sg} {E : Ef} (h : EfOK σ E) (hw : σ.Wf) (dst : Option Tmp) : (σ.app dst E).Wf := by
 constructor
 · intro k s hk
   cases dst with
   | none => exact SV.lt_mono (Nat.le_add_right _ _) s (hw.t k s hk)
   | some d =>
    have hk : lk ((d, E.val) :: σ.t) k = some s := hk
    simp only [lk] at hk
    cases hb : Nat.beq k d with
    | true =>
     rw [hb, cond_true, Option.some.injEq] at hk
     subst hk; exact h.val
    | false =>
     rw [hb, cond_false] at hk
     exact SV.lt_mono (Nat.le_add_right _ _) s (hw.t k s hk)
 · intro k s hk
   exact SV.lt_mono (Nat.le_add_right _ _) s (hw.g k s hk)
 · intro i b hi
   have hi' : lk (E.mods ++ σ.m) i = some b := hi
   rw [lk_append] at hi'
   cases hm : lk E.mods i with
   | some y =>
    rw [hm] at hi'
    have hyb : y = b := Option.some.inj hi'
    subst hyb
    exact h.mods i y (lk_mem hm)
   | none =>
    rw [hm] at hi'
    have := hw.m i b (by simpa using hi')
    exact ⟨Nat.lt_of_lt_of_le this.1 (Nat.le_add_right _ _), Blk.lt_mono (Nat.le_add_right _ _) b this.2⟩
def RunOK (P : Program) (o : Oper) (σ : Sg) (E : Ef) : Prop :=
 ∀ β a w, Sees σ E β a w → ∃ β' w', EfPost E β β' w w' ∧ ((execOp a.eval o).run P w = .ok (.value (E.val.c β')) w' ∨ (execOp a.eval o).run P w = .ok .skip w' ∧ E.val.c β' = undef)
def notDefer : Op → Bool
 | .defer _ => false
 | _ => true
structure GuardOn (ops : Array Oper) (o : Oper) (σ : Sg) (E : Ef) : Prop where
 h : o.guard = none ∨ ∃ j want k, o.guard = some (j, want) ∧ (ops[j]?).bind (·.dst) = some k ∧ k ∈ E.rs ∧ lk σ.t k = some (.v (.bool want))
theorem GuardOn.wanted {ops : Array Oper} {o : Oper} {σ : Sg} {E : Ef} (h : GuardOn ops o σ E) {β : Nat → Nat} {a : Act} {w : World} (hs : Sees σ E β a w) (hlt : ∀ k s, lk σ.t k = some s → k < σ.nt) :
 Region.wanted o (yielded ops a.tmps) = true := by
 rcases h.h with h | ⟨j, want, k, h1, h2, h3, h4⟩
 · simp [Region.wanted, h]
 · have := hs.t k h3 _ h4
   have hk := hlt k _ h4
   rw [← hs.size] at hk
   simp only [Region.wanted, h1, yielded, h2, Option.bind_some]
   have h5 : a.tmps[k]? = some (.bool want) := by
    rw [Array.getElem?_eq_getElem hk]
    simpa [hk, SV.c] using this
   simp [h5]
theorem RunOK.op {F : Fence} {n : Nat} {P : Program} {ops : Array Oper} {o : Oper} {σ : Sg} {E : Ef} (hF : Wd F) (hnd : notDefer o.op = true) (hg : GuardOn ops o σ E) (hlt : ∀ k s, lk σ.t k = some s → k < σ.nt)
 (h : RunOK P o σ E) : OpOK F n P ops o σ E := by
 intro Q β a w K hs hk
 obtain ⟨β', w', hp, hr⟩ := h β a w hs
 unfold StepB
 rw [hg.wanted hs hlt, if_pos rfl]
 refine ⟨fun f _ => hF.fn f, ?_⟩
 have hsem : o.semAt F.round a.eval = execOp a.eval o := Oper.semAt_eq _ _ _ (fun c hc => by rw [hc] at hnd; cases hnd)
 rw [hsem]
 rcases hr with hr | ⟨hr, hu⟩
 · rw [hr, Oper.uponIn_value]; exact hk β' w' hp
 · rw [hr, Oper.uponIn_skip, ← hu]; exact hk β' w' hp
theorem skip_op {F : Fence} {n : Nat} {P : Program} {ops : Array Oper} {o : Oper} {σ : Sg} {j : Nat} {want : Bool} {k : Nat} (hF : Wd F) (hg : o.guard = some (j, want)) (hk : (ops[j]?).bind (·.dst) = some k)
 (hl : lk σ.t k = some (.v (.bool (!want)))) (hlt : ∀ k s, lk σ.t k = some s → k < σ.nt) : OpOK F n P ops o σ ⟨.v undef, [], [], [k], []⟩ := by
 intro Q β a w K hs hK
 have := hs.t k (by simp) _ hl
 have hkk := hlt k _ hl
 rw [← hs.size] at hkk
 have h5 : a.tmps[k]? = some (.bool (!want)) := by
  rw [Array.getElem?_eq_getElem hkk]
  simpa [hkk, SV.c] using this
 unfold StepB
 have hw : Region.wanted o (yielded ops a.tmps) = false := by
  simp only [Region.wanted, hg, yielded, hk, Option.bind_some, h5]
  cases want <;> rfl
 rw [hw, if_neg (by simp)]
 exact ⟨fun f _ => hF.fn f, hK β w ⟨fun _ _ => rfl, Chg.refl _ _, fun i b h => (by cases h), fun i h => (by cases h), fun i h => (by cases h)⟩⟩
theorem skip_undef {F : Fence} {n : Nat} {P : Program} {ops : Array Oper} {o : Oper} {σ : Sg} {j : Nat} {want : Bool} {k : Nat} {vs : Array Value} (hF : Wd F) (hg : o.guard = some (j, want)) (hk : (ops[j]?).bind (·.dst) = some k)
 (hl : lk σ.t k = some (.v (.tuple vs))) (hlt : ∀ k s, lk σ.t k = some s → k < σ.nt) : OpOK F n P ops o σ ⟨.v undef, [], [], [k], []⟩ := by
 intro Q β a w K hs hK
 have := hs.t k (by simp) _ hl
 have hkk := hlt k _ hl
 rw [← hs.size] at hkk
 have h5 : a.tmps[k]? = some (.tuple vs) := by
  rw [Array.getElem?_eq_getElem hkk]
  simpa [hkk, SV.c] using this
 unfold StepB
 have hw : Region.wanted o (yielded ops a.tmps) = false := by
  simp only [Region.wanted, hg, yielded, hk, Option.bind_some, h5]
  cases want <;> rfl
 rw [hw, if_neg (by simp)]
 exact ⟨fun f _ => hF.fn f, hK β w ⟨fun _ _ => rfl, Chg.refl _ _, fun i b h => (by cases h), fun i h => (by cases h), fun i h => (by cases h)⟩⟩
theorem EfPost.pure (E : Ef) (hf : E.fr = []) (hm : E.mods = []) (β : Nat → Nat) (w : World) : EfPost E β β w w :=
 ⟨fun _ _ => rfl, Chg.refl _ _, fun i b h => (by rw [hm] at h; cases h), fun i h => (by rw [hf] at h; cases h), fun i h => (by rw [hf] at h; cases h)⟩
theorem EfPost.newBlk {β : Nat → Nat} {w : World} {i : Nat} {l : List SV} {ty : TypeId} {v : SV} {rs rb : List Nat} (hi : SV.lts i l = true) :
 EfPost ⟨v, [i], [(i, .cells l ty)], rs, rb⟩ β (fun j => if j = i then w.heap.size else β j) w (w.alloc (.cells (SV.cs β l).toArray ty)) := by
 have hag : ∀ j, j ∉ ([i] : List Nat) → (fun j => if j = i then w.heap.size else β j) j = β j := fun j hj => by
  simp only [List.mem_singleton] at hj; simp [hj]
 refine ⟨hag, ⟨rfl, rfl, rfl, by simp, fun b hb _ => ?_⟩, fun j b hj => ?_, fun j hj _ => ?_, fun j hj k hk _ _ hne => ?_⟩
 · simp only [World.alloc, Array.getElem?_push]
   rw [if_neg (by omega)]
 · simp only [List.mem_singleton, Prod.mk.injEq] at hj
   obtain ⟨rfl, rfl⟩ := hj
   simp only [Blk.ok, if_true]
   rw [SV.cs_congr hag l (by have := SV.lts_avs (c := 1) l hi; simpa using this)]
   show (w.heap.push _)[w.heap.size]? = _
   rw [Array.getElem?_push, if_pos rfl]
 · simp only [List.mem_singleton] at hj
   subst hj
   exact .inl (by simp)
 · simp only [List.mem_singleton] at hj hk
   omega
theorem EfPost.set {β : Nat → Nat} {w : World} {i : Nat} {l l' : List SV} {ty : TypeId} {v : SV} {rs rb : List Nat} (h : w.heap[β i]? = some (.cells (SV.cs β l).toArray ty (0, 0))) :
 EfPost ⟨v, [], [(i, .cells l' ty)], rs, rb⟩ β β w (w.setRow (β i) (SV.cs β l').toArray) := by
 have hlt : β i < w.heap.size := (Array.getElem?_eq_some_iff.1 h).1
 refine ⟨fun _ _ => rfl, ⟨rfl, rfl, rfl, by simp [World.setRow], fun b hb hX => ?_⟩, fun j b hj => ?_, fun j hj => (by cases hj), fun j hj => (by cases hj)⟩
 · have hne : β i ≠ b := fun e => hX ⟨i, _, List.mem_singleton.2 rfl, by simp, e⟩
   simp only [World.setRow, Array.getElem?_modify]
   rw [if_neg hne]
 · simp only [List.mem_singleton, Prod.mk.injEq] at hj
   obtain ⟨rfl, rfl⟩ := hj
   simp only [Blk.ok, World.setRow, Array.getElem?_modify, if_true, h, Option.map_some]
end Go.Proofs.YtkbfcofifhngfaaGreat.Tx
namespace Go.Proofs.YtkbfcofifhngfaaGreat.Tx
open Go Go.RowKit
variable {X : Cx}
def takeK : Nat → List SV → (List SV → Prop) → Prop
 | 0, _, K => K []
 | n + 1, x :: r, K => takeK n r fun l => K (x :: l)
 | _ + 1, [], _ => False
def dropK : Nat → List SV → (List SV → Prop) → Prop
 | 0, l, K => K l
 | n + 1, _ :: r, K => dropK n r K
 | _ + 1, [], _ => False
def replK : List SV → List SV → (List SV → Prop) → Prop
 | l, [], K => K l
 | _ :: r, y :: ys, K => replK r ys fun l => K (y :: l)
 | [], _ :: _, _ => False
def splK : Nat → List SV → List SV → (List SV → Prop) → Prop
 | 0, l, ys, K => replK l ys K
 | n + 1, x :: r, ys, K => splK n r ys fun l => K (x :: l)
 | _ + 1, [], _, _ => False
def normK : List SV → (List SV → Prop) → Prop
 | [], K => K []
 | x :: r, K => normK r fun l => K (x :: l)
theorem normK_spec : ∀ {l : List SV} {K : List SV → Prop}, normK l K → K l
 | [], _, h => h
 | _ :: r, _, h => normK_spec (l := r) h
def nbK : Sg → (Nat → Prop) → Prop
 | ⟨_, _, _, nb, _, _⟩, K => K nb
theorem nbK_spec {σ : Sg} {K : Nat → Prop} (h : nbK σ K) : K σ.nb := h
theorem takeK_spec : ∀ (n : Nat) (l : List SV) (K : List SV → Prop), takeK n l K → n ≤ l.length ∧ K (l.take n)
 | 0, l, K, h => ⟨Nat.zero_le _, by simpa [takeK] using h⟩
 | n + 1, x :: r, K, h => by
  obtain ⟨h1, h2⟩ := takeK_spec n r _ h
  exact ⟨by simp; omega, by simpa using h2⟩
 | n + 1, [], K, h => h.elim
theorem dropK_spec : ∀ (n : Nat) (l : List SV) (K : List SV → Prop), dropK n l K → n ≤ l.length ∧ K (l.drop n)
 | 0, l, K, h => ⟨Nat.zero_le _, by simpa [dropK] using h⟩
 | n + 1, x :: r, K, h => by
  obtain ⟨h1, h2⟩ := dropK_spec n r K h
  exact ⟨by simp; omega, by simpa using h2⟩
 | n + 1, [], K, h => h.elim
theorem replK_spec : ∀ (l ys : List SV) (K : List SV → Prop), replK l ys K → ys.length ≤ l.length ∧ K (ys ++ l.drop ys.length)
 | l, [], K, h => ⟨Nat.zero_le _, by cases l <;> simpa [replK] using h⟩
 | _ :: r, y :: ys, K, h => by
  obtain ⟨h1, h2⟩ := replK_spec r ys _ h
  exact ⟨by simp; omega, by simpa using h2⟩
 | [], _ :: _, K, h => h.elim
theorem splK_spec : ∀ (n : Nat) (l ys : List SV) (K : List SV → Prop), splK n l ys K → n + ys.length ≤ l.length ∧ K (l.take n ++ ys ++ l.drop (n + ys.length))
 | 0, l, ys, K, h => by
  obtain ⟨h1, h2⟩ := replK_spec l ys K h
  exact ⟨by omega, by simpa using h2⟩
 | n + 1, x :: r, ys, K, h => by
  obtain ⟨h1, h2⟩ := splK_spec n r ys _ h
  refine ⟨by simp; omega, ?_⟩
  have e : n + 1 + ys.length = (n + ys.length) + 1 := by omega
  rw [e]
  simpa using h2
 | n + 1, [], ys, K, h => h.elim
theorem lts_take {n k : Nat} {l : List SV} (h : SV.lts n l = true) : SV.lts n (l.take k) = true := by
 rw [lts_iff] at *; exact fun s hs => h s (List.mem_of_mem_take hs)
theorem lts_drop {n k : Nat} {l : List SV} (h : SV.lts n l = true) : SV.lts n (l.drop k) = true := by
 rw [lts_iff] at *; exact fun s hs => h s (List.mem_of_mem_drop hs)
theorem lts_append {n : Nat} {l r : List SV} (h : SV.lts n l = true) (h' : SV.lts n r = true) : SV.lts n (l ++ r) = true := by
 rw [lts_iff] at *
 intro s hs
 rcases List.mem_append.1 hs with hs | hs
 · exact h s hs
 · exact h' s hs
def valK (agg : Bool) (l : List SV) (K : SV → Prop) : Prop :=
 match agg with
 | true => K (.agg l)
 | false => match l with
  | [s] => K s
  | _ => False
def SV.one : SV → Bool
 | .v x => x.oneCell'
 | .agg _ => false
 | .tup _ => false
 | _ => true
def ones : List SV → Bool
 | [] => true
 | s :: r => s.one && ones r
theorem ones_c (β : Nat → Nat) : ∀ {l : List SV}, ones l = true → ∀ v ∈ SV.cs β l, v.oneCell' = true
 | [], _, v, hv => by simp [SV.cs] at hv
 | s :: r, h, v, hv => by
  simp only [ones, Bool.and_eq_true] at h
  simp only [SV.cs, List.mem_cons] at hv
  rcases hv with rfl | hv
  · cases s with
    | v x => exact h.1
    | agg l => cases h.1
    | tup l => cases h.1
    | ptr i o => rfl
    | sl i o n k => rfl
    | os i j n => rfl
    | fn f cap => rfl
    | mv f cap => rfl
  · exact ones_c β h.2 v hv
def IR : IntKind → Int → Prop
 | .i8, z => -128 ≤ z ∧ z ≤ 127
 | .i16, z => -32768 ≤ z ∧ z ≤ 32767
 | .i32, z => -2147483648 ≤ z ∧ z ≤ 2147483647
 | .i64, z => -9223372036854775808 ≤ z ∧ z ≤ 9223372036854775807
 | .u8, z => 0 ≤ z ∧ z ≤ 255
 | .u16, z => 0 ≤ z ∧ z ≤ 65535
 | .u32, z => 0 ≤ z ∧ z ≤ 4294967295
 | .u64, z => 0 ≤ z ∧ z ≤ 18446744073709551615
theorem IR.wrap {k : IntKind} {z : Int} (h : IR k z) : k.wrap z = z := by
 cases k <;> simp only [IR] at h <;> simp only [IntKind.wrap, IntKind.bits, IntKind.signed] <;> simp <;> omega
theorem wrapE {k : IntKind} {z : Int} {K : Int → Prop} (h1 : IR k z) (h : K z) : ∃ c, c = k.wrap z ∧ K c := ⟨z, h1.wrap.symm, h⟩
def imax (x y : Int) : Int := if y > x then y else x
def imin (x y : Int) : Int := if y < x then y else x
theorem imax_eq (x y : Int) : imax x y = max x y := by unfold imax; omega
theorem imin_eq (x y : Int) : imin x y = min x y := by unfold imin; omega
def arithK (op : BinOp) (k : IntKind) (a b : Int) (K : SV → Prop) : Prop :=
 match op with
 | .add => ∃ c : Int, c = k.wrap (a + b) ∧ K (.v (.int k c))
 | .sub => ∃ c : Int, c = k.wrap (a - b) ∧ K (.v (.int k c))
 | .mul => ∃ c : Int, c = k.wrap (a * b) ∧ K (.v (.int k c))
 | .quo => ∃ q : Int, (b ≠ 0 ∧ a.tdiv b = q ∧ IR k q) ∧ K (.v (.int k q))
 | .rem => ∃ q : Int, (b ≠ 0 ∧ a.tmod b = q) ∧ K (.v (.int k q))
 | .and => ∃ c : Int, c = k.wrap ((BitVec.ofInt k.bits a &&& BitVec.ofInt k.bits b).toNat) ∧ K (.v (.int k c))
 | .or => ∃ c : Int, c = k.wrap ((BitVec.ofInt k.bits a ||| BitVec.ofInt k.bits b).toNat) ∧ K (.v (.int k c))
 | .shl => ∃ c : Int, (0 ≤ b ∧ c = k.wrap (a * 2 ^ (min b.toNat k.bits))) ∧ K (.v (.int k c))
 | .shr => ∃ c : Int, (0 ≤ b ∧ c = a.fdiv (2 ^ (min b.toNat k.bits))) ∧ K (.v (.int k c))
 | .eql => K (.v (.bool (a == b)))
 | .neq => K (.v (.bool (a != b)))
 | .lss => K (.v (.bool (decide (a < b))))
 | .leq => K (.v (.bool (decide (a ≤ b))))
 | .gtr => K (.v (.bool (decide (a > b))))
 | .geq => K (.v (.bool (decide (a ≥ b))))
 | _ => False
theorem arithK_spec {P : Program} {op : BinOp} {k : IntKind} {a b : Int} {K : SV → Prop} (xt : TypeId) (x y : Operand) (h : arithK op k a b K) :
 ∃ v : Value, K (.v v) ∧ ∀ w, ((do eqGuard op xt x y (.int k a) (.int k b); binOp op xt (.int k a) (.int k b) : Sem Value)).run P w = .ok v w := by
 cases op <;> simp only [arithK] at h
 case add =>
  obtain ⟨c, rfl, h⟩ := h
  exact ⟨_, h, fun w => by simp [eqGuard, binOp, Op.intArith]⟩
 case sub =>
  obtain ⟨c, rfl, h⟩ := h
  exact ⟨_, h, fun w => by simp [eqGuard, binOp, Op.intArith]⟩
 case mul =>
  obtain ⟨c, rfl, h⟩ := h
  exact ⟨_, h, fun w => by simp [eqGuard, binOp, Op.intArith]⟩
 case quo =>
  obtain ⟨q, ⟨h1, rfl, h3⟩, h4⟩ := h
  exact ⟨_, h4, fun w => by simp [eqGuard, binOp, Op.intDiv, h1, h3.wrap]⟩
 case rem =>
  obtain ⟨q, ⟨h1, rfl⟩, h4⟩ := h
  exact ⟨_, h4, fun w => by simp [eqGuard, binOp, Op.intDiv, h1]⟩
 case and =>
  obtain ⟨c, rfl, h⟩ := h
  exact ⟨_, h, fun w => by simp [eqGuard, binOp, Op.intBits]⟩
 case or =>
  obtain ⟨c, rfl, h⟩ := h
  exact ⟨_, h, fun w => by simp [eqGuard, binOp, Op.intBits]⟩
 case shl =>
  obtain ⟨c, ⟨h1, rfl⟩, h4⟩ := h
  exact ⟨_, h4, fun w => by simp [eqGuard, binOp, Op.shift, show ¬ b < 0 from by omega]⟩
 case shr =>
  obtain ⟨c, ⟨h1, rfl⟩, h4⟩ := h
  exact ⟨_, h4, fun w => by simp [eqGuard, binOp, Op.shift, show ¬ b < 0 from by omega]⟩
 all_goals exact ⟨_, h, fun w => by simp [eqGuard, binOp, Op.intCmp]⟩
def gvs (σ : Sg) : List Operand → (List SV → Prop) → Prop
 | [], K => K []
 | x :: r, K => match gv σ x with
  | some s => gvs σ r fun l => K (s :: l)
  | none => False
def oss : List Operand → List Nat
 | [] => []
 | x :: r => os x ++ oss r
theorem gvs_spec {σ : Sg} : ∀ {xs : List Operand} {K : List SV → Prop}, gvs σ xs K → ∃ l, K l ∧ xs.map (gv σ) = l.map some
 | [], K, h => ⟨[], h, rfl⟩
 | x :: r, K, h => by
  simp only [gvs] at h
  cases hx : gv σ x with
  | none => rw [hx] at h; exact h.elim
  | some s =>
   rw [hx] at h
   obtain ⟨l, h1, h2⟩ := gvs_spec h
   exact ⟨s :: l, h1, by simp [hx, h2]⟩
theorem gvs_eval {σ : Sg} {E : Ef} {β : Nat → Nat} {a : Act} {w : World} (h : Sees σ E β a w) : ∀ {xs : List Operand} {l : List SV}, xs.map (gv σ) = l.map some → (∀ k ∈ oss xs, k ∈ E.rs) → xs.map a.eval = SV.cs β l
 | [], [], _, _ => rfl
 | [], _ :: _, hx, _ => by simp at hx
 | _ :: _, [], hx, _ => by simp at hx
 | x :: r, s :: l, hx, ho => by
  simp only [List.map_cons, List.cons.injEq] at hx
  simp only [List.map_cons, SV.cs, List.cons.injEq]
  exact ⟨gv_eval h hx.1 (fun k hk => ho k (by simp [oss, hk])), gvs_eval h hx.2 (fun k hk => ho k (by simp [oss, hk]))⟩
theorem gvs_lt {σ : Sg} (hw : σ.Wf) : ∀ {xs : List Operand} {l : List SV}, xs.map (gv σ) = l.map some → SV.lts σ.nb l = true
 | [], [], _ => rfl
 | [], _ :: _, hx => by simp at hx
 | _ :: _, [], hx => by simp at hx
 | x :: r, s :: l, hx => by
  simp only [List.map_cons, List.cons.injEq] at hx
  simp only [SV.lts, Bool.and_eq_true]
  exact ⟨hw.gv hx.1, gvs_lt hw hx.2⟩
def fillK (place : Nat → Option (Nat × Nat)) : List SV → List (Nat × SV) → (List SV → Prop) → Prop
 | l, [], K => K l
 | l, (i, s) :: r, K => match place i with
  | some (off, size) => (Nat.beq s.cells.length size = true) ∧ splK off l s.cells fun l' => fillK place l' r K
  | none => False
def placeS (ty : Nat → Option TI) (fs : List (Nat × Nat)) (i : Nat) : Option (Nat × Nat) :=
 match fs[i]? with
 | some (off, t) => match ty t with
  | some ti => some (off, ti.size)
  | none => none
 | none => none
def CallOK (P : Program) (σ : Sg) (k : Nat) (args : List SV) (E : Ef) : Prop :=
 ∀ β w, (∀ i ∈ E.rb, ∀ b, lk σ.m i = some b → b.ok β w (β i)) →
  (∀ i ∈ E.rb, ∀ j ∈ E.rb, ∀ bi bj, lk σ.m i = some bi → lk σ.m j = some bj → bi.live = true → bj.live = true → i ≠ j → β i ≠ β j) → (∀ w', Chg (fun b => ∃ i ∈ E.rb, (∃ bk, lk σ.m i = some bk ∧ bk.live = true) ∧ β i = b) w w' → σ.h w') →
  Calls P k (SV.cs β args).toArray w fun e w' => ∃ β', e = .returned (E.val.c β') ∧ EfPost E β β' w w'
structure Keep (n : Nat) (w w' : World) : Prop where
 size : w.heap.size ≤ w'.heap.size
 same : ∀ b, n ≤ b → b < w.heap.size → w'.heap[b]? = w.heap[b]?
theorem Keep.refl (n : Nat) (w : World) : Keep n w w := ⟨Nat.le_refl _, fun _ _ _ => rfl⟩
theorem Keep.trans {n : Nat} {a b c : World} (h : Keep n a b) (k : Keep n b c) : Keep n a c :=
 ⟨Nat.le_trans h.size k.size, fun i h1 h2 => (k.same i h1 (Nat.lt_of_lt_of_le h2 h.size)).trans (h.same i h1 h2)⟩
theorem Keep.mono {n m : Nat} {a b : World} (h : Keep n a b) (hm : n ≤ m) : Keep m a b := ⟨h.size, fun i h1 h2 => h.same i (Nat.le_trans hm h1) h2⟩
def St (n : Nat) (p : World → Prop) : World → Prop := fun w => ∀ w', Keep n w w' → p w'
theorem St.now {n : Nat} {p : World → Prop} {w : World} (h : St n p w) : p w := h w (Keep.refl n w)
theorem St.keep {n : Nat} {p : World → Prop} {w w' : World} (h : St n p w) (k : Keep n w w') : St n p w' := fun w2 k2 => h w2 (k.trans k2)
theorem St.mono {n m : Nat} {p : World → Prop} {w : World} (h : St m p w) (hm : n ≤ m) : St n p w := fun w2 k => h w2 (k.mono hm)
theorem St.imp {n : Nat} {p q : World → Prop} {w : World} (h : St n p w) (hi : ∀ w, p w → q w) : St n q w := fun w2 k => hi w2 (h w2 k)
abbrev KT := SV → Sg → Prop
def StOK (P : Program) (σ : Sg) (k : Nat) (args : List SV) (ks : KT) : Prop :=
 ∀ (X : Cx) (β : Nat → Nat) (D : Nat → Prop) (a : Act) (w : World), σ.Ok → Sat' X σ β D a w →
  Calls P k (SV.cs β args).toArray w fun e w' => ∃ s σ' β' D', e = .returned (s.c β') ∧ ks s σ' ∧ s.lt σ'.nb = true ∧ σ'.Ok ∧ σ'.nt = σ.nt ∧ Sat' X σ' β' D' a w'
def YOK (P : Program) (σ : Sg) (l : Nat) (args : List SV) (ks : KT) : Prop :=
 ∀ (X : Cx) (β : Nat → Nat) (D : Nat → Prop) (a : Act) (w : World), σ.Ok → Sat' X σ β D a w →
  YieldAt Fence.wide 0 P l (SV.cs β args).toArray w fun e w' => ∃ b σ' β' D', e = .returned (.bool b) ∧ ks (.v (.bool b)) σ' ∧ σ'.Ok ∧ σ'.nt = σ.nt ∧ Sat' X σ' β' D' a w'
inductive YEv (P : Program) (σ : Sg) (l : Nat) (args : List SV) (KF : Option KT) : Prop
 | mk (ks : KT) (hks : KF = some ks) (h : YOK P σ l args ks) : YEv P σ l args KF
inductive CallEv (P : Program) (σ : Sg) (k : Nat) (args : List SV) (B : Ef → Bool) (rs : List Nat) (K : Ef → Prop) (KF : Option KT) : Prop
 | mk (E : Ef) (h1 : B ⟨E.val, E.fr, E.mods, rs, E.rb⟩ = true) (h2 : CallOK P σ k args E) (h3 : K ⟨E.val, E.fr, E.mods, rs, E.rb⟩) : CallEv P σ k args B rs K KF
 | st (ks : KT) (hks : KF = some ks) (h : StOK P σ k args ks) : CallEv P σ k args B rs K KF
def keysB : List (Nat × Blk) → List Nat
 | [] => []
 | (i, _) :: r => i :: keysB r
def nodupB : List Nat → Bool
 | [] => true
 | i :: r => nin i r && nodupB r
def oldB (σ : Sg) (rb : List Nat) : List (Nat × Blk) → Bool
 | [] => true
 | (i, _) :: r => (!(Nat.blt i σ.nb) || (!(nin i rb) && (match lk σ.m i with | some b => b.live | none => false))) && oldB σ rb r
def modsLt (n : Nat) : List (Nat × Blk) → Bool
 | [] => true
 | (i, b) :: r => Nat.blt i n && b.lt n && modsLt n r
def eqs : List Nat → Nat → Bool
 | [], _ => true
 | i :: r, n => Nat.beq i n && eqs r (n + 1)
def efB (σ : Sg) (E : Ef) : Bool :=
 eqs E.fr σ.nb && E.val.lt (σ.nb + E.fr.length) && modsLt (σ.nb + E.fr.length) E.mods && oldB σ E.rb E.mods && nodupB (keysB E.mods)
theorem eqs_spec : ∀ {l : List Nat} {n : Nat}, eqs l n = true → l = List.range' n l.length
 | [], _, _ => rfl
 | i :: r, n, h => by
  simp only [eqs, Bool.and_eq_true] at h
  have := Nat.eq_of_beq_eq_true h.1
  subst this
  have ih := eqs_spec h.2
  simp only [List.length_cons, List.range'_succ, List.cons.injEq, true_and]
  exact ih
theorem efB_spec {σ : Sg} {E : Ef} (h : efB σ E = true) : EfOK σ E := by
 simp only [efB, Bool.and_eq_true] at h
 obtain ⟨⟨⟨⟨h1, h2⟩, h3⟩, h4⟩, h5⟩ := h
 have hm : ∀ {l : List (Nat × Blk)} {n : Nat}, modsLt n l = true → ∀ i b, (i, b) ∈ l → i < n ∧ b.lt n = true := by
  intro l n
  induction l with
  | nil => intro _ i b hb; cases hb
  | cons p r ih =>
   obtain ⟨k, y⟩ := p
   intro h i b hb
   simp only [modsLt, Bool.and_eq_true, Nat.blt_eq] at h
   rcases List.mem_cons.1 hb with hb | hb
   · simp only [Prod.mk.injEq] at hb
     obtain ⟨rfl, rfl⟩ := hb
     exact h.1
   · exact ih h.2 i b hb
 have ho : ∀ {l : List (Nat × Blk)}, oldB σ E.rb l = true → ∀ i b, (i, b) ∈ l → i < σ.nb → i ∈ E.rb ∧ ∃ bk, lk σ.m i = some bk ∧ bk.live = true := by
  intro l
  induction l with
  | nil => intro _ i b hb; cases hb
  | cons p r ih =>
   obtain ⟨k, y⟩ := p
   intro h i b hb hlt
   simp only [oldB, Bool.and_eq_true, Bool.or_eq_true, Bool.not_eq_true'] at h
   rcases List.mem_cons.1 hb with hb | hb
   · simp only [Prod.mk.injEq] at hb
     obtain ⟨rfl, rfl⟩ := hb
     rcases h.1 with h' | h'
     · have : Nat.blt i σ.nb = true := by rw [Nat.blt_eq]; exact hlt
       rw [this] at h'; cases h'
     · refine ⟨Classical.byContradiction fun hn => ?_, ?_⟩
       · rw [nin_iff.2 hn] at h'; cases h'.1
       · cases hk : lk σ.m i with
         | none => rw [hk] at h'; cases h'.2
         | some bk => rw [hk] at h'; exact ⟨bk, rfl, h'.2⟩
   · exact ih h.2 i b hb hlt
 have hk : ∀ {l : List (Nat × Blk)} {i : Nat} {b : Blk}, (i, b) ∈ l → i ∈ keysB l := by
  intro l i b
  induction l with
  | nil => intro hb; cases hb
  | cons p r ih =>
   obtain ⟨k, y⟩ := p
   intro hb
   rcases List.mem_cons.1 hb with hb | hb
   · simp only [Prod.mk.injEq] at hb
     obtain ⟨rfl, rfl⟩ := hb
     exact List.mem_cons_self
   · exact List.mem_cons_of_mem _ (ih hb)
 have hn : ∀ {l : List (Nat × Blk)}, nodupB (keysB l) = true → ∀ i b b', (i, b) ∈ l → (i, b') ∈ l → b = b' := by
  intro l
  induction l with
  | nil => intro _ i b b' hb; cases hb
  | cons p r ih =>
   obtain ⟨k, y⟩ := p
   intro h i b b' hb hb'
   simp only [keysB, nodupB, Bool.and_eq_true, nin_iff] at h
   rcases List.mem_cons.1 hb with ha | ha <;> rcases List.mem_cons.1 hb' with ha' | ha'
   · simp only [Prod.mk.injEq] at ha ha'
     rw [ha.2, ha'.2]
   · simp only [Prod.mk.injEq] at ha
     exact absurd (ha.1 ▸ hk ha') h.1
   · simp only [Prod.mk.injEq] at ha'
     exact absurd (ha'.1 ▸ hk ha) h.1
   · exact ih h.2 i b b' ha ha'
 exact ⟨eqs_spec h1, h2, hm h3, ho h4, hn h5⟩
def RunIs (P : Program) (s : Sem Value) (v : Value) : Prop := ∀ w, s.run P w = .ok v w
section
variable {P : Program} (T : Env P)
def ExtCells (σ : Sg) (ad : Addr) (cs : List Value) : Prop := ∀ w, σ.h w → ∀ j v, cs[j]? = some v → w.cell? (ad.add j) = some v
def foldI (f : Int → Int → Int) (k : IntKind) : Int → List SV → (SV → Prop) → Prop
 | x, [], K => K (.v (.int k x))
 | x, .v (.int k' y) :: r, K => match decide (k = k') with
  | true => foldI f k (f x y) r K
  | false => False
 | _, _ :: _, _ => False
def _root_.Go.Proofs.YtkbfcofifhngfaaGreat.Tx.SV.isAgg : SV → Bool
 | .agg _ => true
 | .v (.agg _) => true
 | _ => false
def valsK : List SV → (List Value → Prop) → Prop
 | [], K => K []
 | .v x :: r, K => valsK r fun l => K (x :: l)
 | _ :: _, _ => False
def repK : Nat → List SV → (List SV → Prop) → Prop
 | 0, _, K => K []
 | n + 1, z, K => repK n z fun l => appK' z l K
where appK' : List SV → List SV → (List SV → Prop) → Prop
 | [], l, K => K l
 | x :: r, l, K => appK' r l fun l' => K (x :: l')
def oneV : List Value → Bool
 | [] => true
 | x :: r => x.oneCell' && oneV r
def srcK (σ : Sg) (size : Nat) (s : SV) (K : Nat → List Value → List Nat → Prop) : Prop :=
 match s with
 | .sl i o m _ => (match lk σ.m i with
  | some (.cells l _) => dropK o l fun l1 => takeK (m * size) l1 fun l2 => valsK l2 fun news => (oneV news = true) ∧ K m news [i]
  | some (.own _ _ _ xs _) => ∃ news : List Value, (news.length = m * size ∧ (∀ j v, news[j]? = some v → xs[o + j]? = some v) ∧ ∀ v ∈ news, v.oneCell' = true) ∧ K m news [i]
  | _ => False)
 | .os i _ m => (match lk σ.m i with
  | some (.own _ n' _ xs _) => (Nat.beq m n' = true ∧ (xs.length = m * size ∧ ∀ v ∈ xs, v.oneCell' = true)) ∧ K m xs [i]
  | _ => False)
 | .v (.slice (some ad) m _) => ∃ news : List Value, (news.length = m * size ∧ ExtCells σ ad news ∧ ∀ v ∈ news, v.oneCell' = true) ∧ K m news []
 | _ => False
def baseK (σ : Sg) (size : Nat) (e : Nat) (s : SV) (K : Nat → List Value → Bool → List Nat → Prop) : Prop :=
 match s with
 | .v (.slice none 0 0) => K 0 [] true []
 | .os i j n => (match lk σ.m i with
  | some (.own j' n' sz xs e') => ((Nat.beq j j' && Nat.beq n n' && Nat.beq sz size && Nat.beq e e') = true) ∧ K n xs false [i]
  | _ => False)
 | .sl i 0 n c => (match lk σ.m i with
  | some (.cells l e') => ((Nat.beq l.length (c * size) && Nat.ble n c && Nat.beq e e' && Nat.ble c 1000000) = true) ∧ takeK (n * size) l fun l1 => valsK l1 fun xs => K n xs false [i]
  | _ => False)
 | _ => False
def capK (σ : Sg) (s : SV) (K : List Nat → Prop) : Prop :=
 match s with
 | .v (.slice none 0 0) => K []
 | .os i j n => (match lk σ.m i with
  | some (.own j' n' _ _ _) => ((Nat.beq j j' && Nat.beq n n') = true) ∧ K [i]
  | _ => False)
 | .sl _ _ n c => (Nat.ble n c = true) ∧ K []
 | _ => False
def goneK : List Nat → (List (Nat × Blk) → Prop) → Prop
 | [], K => K []
 | i :: r, K => goneK r fun l => K ((i, .gone) :: l)
def catN : List Nat → List Nat → (List Nat → Prop) → Prop
 | [], m, K => K m
 | x :: r, m, K => catN r m fun l => K (x :: l)
inductive OpEv (P : Program) (o : Oper) (gs : List Nat) (σ : Sg) (K : Ef → Prop) : Prop
 | mk (E : Ef) (h1 : efB σ E = true) (hgs : ∀ k ∈ gs, k ∈ E.rs) (hnd : notDefer o.op = true) (h2 : RunOK P o σ E) (h3 : K E) : OpEv P o gs σ K
inductive OpEvS (P : Program) (o : Oper) (gs : List Nat) (σ : Sg) (K : Ef → Prop) (KF : Option KT) : Prop
 | mk (E : Ef) (h1 : efB σ E = true) (hgs : ∀ k ∈ gs, k ∈ E.rs) (hnd : notDefer o.op = true) (h2 : RunOK P o σ E) (h3 : K E) : OpEvS P o gs σ K KF
 | st (ks : KT) (hks : KF = some ks) (hnd : notDefer o.op = true) (h : ∀ (X : Cx) (β : Nat → Nat) (D : Nat → Prop) (a : Act) (w : World), σ.Ok → Sat' X σ β D a w →
  ∃ s σ' β' D' w', (execOp a.eval o).run P w = .ok (.value (s.c β')) w' ∧ ks s σ' ∧ s.lt σ'.nb = true ∧ σ'.Ok ∧ σ'.nt = σ.nt ∧ Sat' X σ' β' D' a w') : OpEvS P o gs σ K KF
 | sk (ks : KT) (hks : KF = some ks) (hnd : notDefer o.op = true) (h : ∀ (X : Cx) (β : Nat → Nat) (D : Nat → Prop) (a : Act) (w : World), σ.Ok → Sat' X σ β D a w →
  ∃ σ' β' D' w', (execOp a.eval o).run P w = .ok .skip w' ∧ ks (.v undef) σ' ∧ σ'.Ok ∧ σ'.nt = σ.nt ∧ Sat' X σ' β' D' a w') : OpEvS P o gs σ K KF
def allVB : List SV → Bool
 | [] => true
 | .v _ :: r => allVB r
 | _ :: _ => false
def forB : SV → Bool
 | .v (.slice (some _) _ _) => true
 | _ => false
def growB (σ : Sg) (sy : SV) : Bool :=
 match sy with
 | .sl i _ _ _ => (match lk σ.m i with
  | some (.cells l _) => !(allVB l)
  | _ => false)
 | _ => false
def ev (oo : Oper) (gs : List Nat) (σ : Sg) (K : Ef → Prop) (KF : Option KT) : Prop :=
 match oo.op with
 | .move x | .assign x => match gv σ x with
  | some s => K ⟨s, [], [], gs ++ os x, []⟩
  | none => OpEv P oo gs σ K
 | .pick c a b => match gv σ c with
  | some (.v (.bool true)) => (match gv σ a with | some s => K ⟨s, [], [], gs ++ (os c ++ os a), []⟩ | none => OpEv P oo gs σ K)
  | some (.v (.bool false)) => (match gv σ b with | some s => K ⟨s, [], [], gs ++ (os c ++ os b), []⟩ | none => OpEv P oo gs σ K)
  | _ => OpEv P oo gs σ K
 | .alloc t => match T.ty t with
  | some ti => nbK σ fun nb => normK (ti.zero.map .v) fun z => K ⟨.ptr nb 0, [nb], [(nb, .cells z t)], gs, []⟩
  | none => OpEv P oo gs σ K
 | .box t x => match gv σ x with
  | some s => nbK σ fun nb => normK s.cells fun z => K ⟨.ptr nb 0, [nb], [(nb, .cells z t)], gs ++ os x, []⟩
  | none => OpEv P oo gs σ K
 | .load t x => match gv σ x, T.ty t with
  | some (.ptr i o), some ti => (match lk σ.m i with
   | some (.cells l _) => dropK o l fun l1 => takeK ti.size l1 fun l2 => valK ti.kind.agg l2 fun s => K ⟨s, [], [], gs ++ os x, [i]⟩
   | some (.row xs _) => ∃ cs : List Value, (cs.length = ti.size ∧ ∀ j v, cs[j]? = some v → xs[o + j]? = some v) ∧ normK (cs.map .v) fun l2 => valK ti.kind.agg l2 fun s => K ⟨s, [], [], gs ++ os x, [i]⟩
   | some (.own _ _ _ xs _) => ∃ cs : List Value, (cs.length = ti.size ∧ ∀ j v, cs[j]? = some v → xs[o + j]? = some v) ∧ normK (cs.map .v) fun l2 => valK ti.kind.agg l2 fun s => K ⟨s, [], [], gs ++ os x, [i]⟩
   | _ => OpEv P oo gs σ K)
  | some (.v (.pointer (some ad))), some ti => ∃ cs : List Value, (cs.length = ti.size ∧ ExtCells σ ad cs) ∧ normK (cs.map .v) fun l2 => valK ti.kind.agg l2 fun s => K ⟨s, [], [], gs ++ os x, []⟩
  | _, _ => OpEv P oo gs σ K
 | .store t x y => match gv σ x, gv σ y, T.ty t with
  | some (.ptr i o), some s, some ti => (match lk σ.m i with
   | some (.cells l ty) => (Nat.beq s.cells.length ti.size = true ∧ ones s.cells = true) ∧ splK o l s.cells fun l' => K ⟨.v undef, [], [(i, .cells l' ty)], gs ++ (os x ++ os y), [i]⟩
   | some (.own j n sz xs ty) => (Nat.beq s.cells.length ti.size = true ∧ ones s.cells = true) ∧ valsK s.cells fun vs => (o + vs.length ≤ xs.length) ∧ K ⟨.v undef, [], [(i, .own j n sz (xs.take o ++ vs ++ xs.drop (o + vs.length)) ty)], gs ++ (os x ++ os y), [i]⟩
   | _ => OpEv P oo gs σ K)
  | some (.v (.pointer (some _))), some _, some _ => OpEvS P oo gs σ K KF
  | _, _, _ => OpEv P oo gs σ K
 | .fieldAddr t x f => match gv σ x, T.ty t with
  | some (.ptr i o), some ⟨_, _, _, .struct fs⟩ => (match fs[f]? with | some (off, ft) => (match T.ty ft with | some ti => Nat.blt 0 ti.size = true ∧ K ⟨.ptr i (o + off), [], [], gs ++ os x, []⟩ | none => OpEv P oo gs σ K) | none => OpEv P oo gs σ K)
  | some (.v (.pointer (some ad))), some ⟨_, _, _, .struct fs⟩ => (match fs[f]? with | some (off, ft) => (match T.ty ft with | some ti => Nat.blt 0 ti.size = true ∧ K ⟨.v (.pointer (some (ad.add off))), [], [], gs ++ os x, []⟩ | none => OpEv P oo gs σ K) | none => OpEv P oo gs σ K)
  | _, _ => OpEv P oo gs σ K
 | .field t x f => match gv σ x, T.ty t with
  | some s, some ⟨_, _, _, .struct fs⟩ => (match fs[f]? with
   | some (off, ft) => (match T.ty ft with
    | some ti => (s.isAgg = true) ∧ dropK off s.cells fun l1 => takeK ti.size l1 fun l2 => valK ti.kind.agg l2 fun s' => K ⟨s', [], [], gs ++ os x, []⟩
    | none => OpEv P oo gs σ K)
   | none => OpEv P oo gs σ K)
  | _, _ => OpEv P oo gs σ K
 | .indexAddr t x ix => match gv σ x, gv σ ix, T.ty t with
  | some (.ptr i o), some (.v (.int _ z)), some ⟨_, _, _, .arr n e⟩ => (match T.ty e with
   | some ti => (0 ≤ z ∧ z < n) ∧ K ⟨.ptr i (o + z.toNat * ti.size), [], [], gs ++ (os x ++ os ix), []⟩
   | none => OpEv P oo gs σ K)
  | some (.sl i o n _), some (.v (.int _ z)), some ⟨_, _, _, .slice e⟩ => (match T.ty e with
   | some ti => (0 ≤ z ∧ z < n) ∧ K ⟨.ptr i (o + z.toNat * ti.size), [], [], gs ++ (os x ++ os ix), []⟩
   | none => OpEv P oo gs σ K)
  | some (.os i _ n), some (.v (.int _ z)), some ⟨_, _, _, .slice e⟩ => (match T.ty e with
   | some ti => (0 ≤ z ∧ z < n) ∧ K ⟨.ptr i (z.toNat * ti.size), [], [], gs ++ (os x ++ os ix), []⟩
   | none => OpEv P oo gs σ K)
  | some (.v (.slice (some ad) n _)), some (.v (.int _ z)), some ⟨_, _, _, .slice e⟩ => (match T.ty e with
   | some ti => (0 ≤ z ∧ z < n) ∧ K ⟨.v (.pointer (some (ad.add (z.toNat * ti.size)))), [], [], gs ++ (os x ++ os ix), []⟩
   | none => OpEv P oo gs σ K)
  | _, _, _ => OpEv P oo gs σ K
 | .build t parts => match T.ty t with
  | some ⟨_, zero, _, .struct fs⟩ => (fs.all (fun p => (T.ty p.2).isSome) = true) ∧ gvs σ (parts.toList.map (·.2)) fun l => fillK (placeS T.ty fs) (zero.map .v) ((parts.toList.map (·.1)).zip l) fun cs => K ⟨.agg cs, [], [], gs ++ oss (parts.toList.map (·.2)), []⟩
  | some ⟨_, zero, _, .arr _ e⟩ => (match T.ty e with
   | some ti => gvs σ (parts.toList.map (·.2)) fun l => fillK (fun i => some (i * ti.size, ti.size)) (zero.map .v) ((parts.toList.map (·.1)).zip l) fun cs => K ⟨.agg cs, [], [], gs ++ oss (parts.toList.map (·.2)), []⟩
   | none => OpEv P oo gs σ K)
  | _ => OpEv P oo gs σ K
 | .buildSlice t n parts => match T.ty t with
  | some ⟨_, _, _, .slice e⟩ => (match T.ty e with
   | some ti => ((Nat.ble (n * ti.size) 16777216 && Nat.blt 0 ti.size && Nat.beq ti.zero.length ti.size) = true) ∧ nbK σ fun nb => gvs σ (parts.toList.map (·.2)) fun l => repK n (ti.zero.map .v) fun z =>
    fillK (fun i => some (i * ti.size, ti.size)) z ((parts.toList.map (·.1)).zip l) fun cs => K ⟨.sl nb 0 n n, [nb], [(nb, .cells cs e)], gs ++ oss (parts.toList.map (·.2)), []⟩
   | none => OpEv P oo gs σ K)
  | _ => OpEv P oo gs σ K
 | .slice t x none none none => match gv σ x, T.ty t with
  | some (.ptr i o), some ⟨_, _, _, .arr n e⟩ => (match T.ty e with
   | some _ => K ⟨.sl i o n n, [], [], gs ++ os x, []⟩
   | none => OpEv P oo gs σ K)
  | _, _ => OpEv P oo gs σ K
 | .binOp op t x y _ => match gv σ x, gv σ y with
  | some (.v (.int k a)), some (.v (.int k' b)) => (match decide (k = k') with
   | true => arithK op k a b fun s => K ⟨s, [], [], gs ++ (os x ++ os y), []⟩
   | false => OpEv P oo gs σ K)
  | some s1, some s2 => ∃ v : Value, (∀ β, RunIs P (do eqGuard op t x y (s1.c β) (s2.c β); binOp op t (s1.c β) (s2.c β)) v) ∧ K ⟨.v v, [], [], gs ++ (os x ++ os y), []⟩
  | _, _ => OpEv P oo gs σ K
 | .unOp op _ x => match gv σ x with
  | some (.v (.bool b)) => (match op with | .not => K ⟨.v (.bool (!b)), [], [], gs ++ os x, []⟩ | _ => OpEv P oo gs σ K)
  | some (.v (.int k a)) => (match op with | .neg => IR k (-a) ∧ K ⟨.v (.int k (-a)), [], [], gs ++ os x, []⟩ | _ => OpEv P oo gs σ K)
  | _ => OpEv P oo gs σ K
 | .convert s d x => match gv σ x with
  | some (.v v) => ∃ v' : Value, RunIs P (convert s d v) v' ∧ K ⟨.v v', [], [], gs ++ os x, []⟩
  | _ => OpEv P oo gs σ K
 | .extract x i => match gv σ x with
  | some (.v (.tuple vs)) => (match vs.toList[i]? with | some v => K ⟨.v v, [], [], gs ++ os x, []⟩ | none => OpEv P oo gs σ K)
  | some (.tup l) => (match l[i]? with | some s => K ⟨s, [], [], gs ++ os x, []⟩ | none => OpEv P oo gs σ K)
  | _ => OpEv P oo gs σ K
 | .makeFunc f first cap => match first.toList with
  | [] => gvs σ cap.toList fun l => K ⟨.fn f l, [], [], gs ++ oss cap.toList, []⟩
  | _ => OpEv P oo gs σ K
 | .call ⟨.builtin .len, args, ts⟩ => match args.toList, ts.toList with
  | [x], t :: _ => (match gv σ x, T.ty t with
   | some (.sl _ _ n _), some ⟨_, _, _, .slice _⟩ => K ⟨.v (.int .i64 n), [], [], gs ++ oss args.toList, []⟩
   | some (.os _ _ n), some ⟨_, _, _, .slice _⟩ => K ⟨.v (.int .i64 n), [], [], gs ++ oss args.toList, []⟩
   | some (.v (.slice _ n _)), some ⟨_, _, _, .slice _⟩ => K ⟨.v (.int .i64 n), [], [], gs ++ oss args.toList, []⟩
   | _, _ => OpEv P oo gs σ K)
  | _, _ => OpEv P oo gs σ K
 | .call ⟨.builtin .max, args, _⟩ => gvs σ args.toList fun l => match l with
  | .v (.int k x) :: r => foldI imax k x r fun s => K ⟨s, [], [], gs ++ oss args.toList, []⟩
  | _ => OpEv P oo gs σ K
 | .call ⟨.builtin .min, args, _⟩ => gvs σ args.toList fun l => match l with
  | .v (.int k x) :: r => foldI imin k x r fun s => K ⟨s, [], [], gs ++ oss args.toList, []⟩
  | _ => OpEv P oo gs σ K
 | .call ⟨.builtin .append, args, ts⟩ => match args.toList, ts.toList with
  | [x, y], [t, t'] => (match gv σ x, gv σ y, T.ty t with
   | some sx, some (.v (.slice none 0 0)), some ⟨_, _, _, .slice e⟩ => (match T.ty e with
    | some _ => (Nat.beq t t' = true) ∧ capK σ sx fun rb => K ⟨sx, [], [], gs ++ (os x ++ os y), rb⟩
    | none => OpEv P oo gs σ K)
   | some sx, some sy, some ⟨_, _, _, .slice e⟩ => (match growB σ sy || forB sx with
   | true => OpEv P oo gs σ K
   | false => match T.ty e with
    | some ⟨size, zero, bytes, _⟩ => ((Nat.beq t t' && Nat.blt 0 size && Nat.beq zero.length size) = true) ∧ nbK σ fun nb => baseK σ size e sx fun n xs nil rb => srcK σ size sy fun m news rb' =>
     (((nil = true → 1 ≤ m) ∧ n + m ≤ 9223372036854775807 ∧ (n + m) * bytes ≤ 140737488355328) ∧ goneK rb fun gn => catN rb rb' fun rb2 =>
     K ⟨.os nb (nb + 1) (n + m), [nb, nb + 1], (nb, .own (nb + 1) (n + m) size (xs ++ news) e) :: gn, gs ++ (os x ++ os y), rb2⟩) ∨ (nil = true ∧ m = 0) ∧ K ⟨.v (.slice none 0 0), [], [], gs ++ (os x ++ os y), rb'⟩
    | none => OpEv P oo gs σ K)
   | _, _, _ => OpEv P oo gs σ K)
  | _, _ => OpEv P oo gs σ K
 | .call ⟨.value f, args, _⟩ => match gv σ f with
  | some (.v (.func (.yield l) first cap)) => (first.toList = [] ∧ cap.toList = []) ∧ gvs σ args.toList fun l1 => normK l1 fun l2 => YEv P σ l l2 KF
  | some (.v (.func (.func k) first cap)) => (match first.toList with
   | [] => (T.fn k = true ∧ first.toList = []) ∧ gvs σ args.toList fun l => normK (l ++ cap.toList.map .v) fun l' => CallEv P σ k l' (efB σ) (gs ++ (os f ++ oss args.toList)) K KF
   | _ => (T.fn k = true ∧ cap.toList = []) ∧ gvs σ args.toList fun l => normK (first.toList.map .v ++ l) fun l' => CallEv P σ k l' (efB σ) (gs ++ (os f ++ oss args.toList)) K KF)
  | some (.fn (.func k) cap) => T.fn k = true ∧ gvs σ args.toList fun l => normK (l ++ cap) fun l' => CallEv P σ k l' (efB σ) (gs ++ (os f ++ oss args.toList)) K KF
  | _ => OpEv P oo gs σ K
 | _ => OpEvS P oo gs σ K KF
end
end Go.Proofs.YtkbfcofifhngfaaGreat.Tx
namespace Go.Proofs.YtkbfcofifhngfaaGreat.Tx
open Go
variable {X : Cx}
section
variable {P : Program} (T : Env P)
theorem efOK_pure {σ : Sg} {s : SV} {rs rb : List Nat} (h : s.lt σ.nb = true) : EfOK σ ⟨s, [], [], rs, rb⟩ :=
 ⟨rfl, by simpa using h, fun i b h => (by cases h), fun i b h => (by cases h), fun i b b' h => (by cases h)⟩
theorem runOK_pure {o : Oper} {σ : Sg} {s : SV} {rs rb : List Nat} (h : ∀ β a w, Sees σ ⟨s, [], [], rs, rb⟩ β a w → (execOp a.eval o).run P w = .ok (.value (s.c β)) w) : RunOK P o σ ⟨s, [], [], rs, rb⟩ :=
 fun β a w hs => ⟨β, w, EfPost.pure _ rfl rfl β w, .inl (h β a w hs)⟩
theorem valK_spec {agg : Bool} {l : List SV} {K : SV → Prop} (h : valK agg l K) : ∃ s, K s ∧ ((agg = true ∧ s = .agg l) ∨ (agg = false ∧ l = [s])) := by
 cases agg with
 | true => exact ⟨_, h, .inl ⟨rfl, rfl⟩⟩
 | false =>
  match l, h with
  | [s], h => exact ⟨s, h, .inr ⟨rfl, rfl⟩⟩
theorem valK_lt {agg : Bool} {l : List SV} {s : SV} {n : Nat} (h : (agg = true ∧ s = .agg l) ∨ (agg = false ∧ l = [s])) (hl : SV.lts n l = true) : s.lt n = true := by
 rcases h with ⟨_, rfl⟩ | ⟨_, rfl⟩
 · exact hl
 · simpa [SV.lts] using hl
theorem run_loadVar_cells {t : TypeId} {ti : TI} (ht : TOK P t ti) {β : Nat → Nat} {w : World} {ad : Addr} {l : List SV} {s : SV} (hl : l.length = ti.size)
 (hc : ∀ j v, (SV.cs β l)[j]? = some v → w.cell? (ad.add j) = some v) (hs : (ti.kind.agg = true ∧ s = .agg l) ∨ (ti.kind.agg = false ∧ l = [s])) :
 (loadVar t ad).run P w = .ok (s.c β) w := by
 unfold loadVar
 rw [Sem.run_bind, ht.run_isAgg w, Result.andThen_ok]
 rcases hs with ⟨ha, rfl⟩ | ⟨ha, rfl⟩
 · rw [ha, if_pos rfl, Sem.run_bind, ht.run_sizeOf w, Result.andThen_ok, Sem.run_bind]
   have hlen : (SV.cs β l).length = ti.size := by rw [SV.cs_eq, List.length_map, hl]
   rw [← hlen, run_loadCells_list w ad (SV.cs β l) hc]
   rfl
 · rw [ha, if_neg (by simp)]
   have h0 := hc 0 (s.c β) (by simp [SV.cs])
   have hadd : ad.add 0 = ad := by simp [Addr.add]
   rw [hadd] at h0
   rw [run_load, h0]
theorem cs_getElem? (β : Nat → Nat) (l : List SV) (j : Nat) : (SV.cs β l)[j]? = (l[j]?).map (SV.c β) := by rw [SV.cs_eq, List.getElem?_map]
theorem own_add (b o j : Nat) : (⟨b, o, none⟩ : Addr).add j = ⟨b, o + j, none⟩ := by unfold Addr.add; split <;> simp_all
theorem foldI_spec {f : Int → Int → Int} {k : IntKind} {step : Value → Value → Sem Value} (hstep : ∀ x y (w : World), (step (.int k x) (.int k y)).run P w = .ok (.int k (f x y)) w) : ∀ (r : List SV) (x : Int) (K : SV → Prop), foldI f k x r K →
 ∃ z : Int, K (.v (.int k z)) ∧ ∀ β w, (List.foldlM step (.int k x) (SV.cs β r) : Sem Value).run P w = .ok (.int k z) w
 | [], x, K, h => ⟨x, h, fun β w => rfl⟩
 | s :: r, x, K, h => by
  cases s with
  | v y =>
   cases y with
   | int k' y =>
    simp only [foldI] at h
    by_cases hk : k = k'
    · subst hk
      simp only [decide_true] at h
      obtain ⟨z, h1, h2⟩ := foldI_spec hstep r (f x y) K h
      refine ⟨z, h1, fun β w => ?_⟩
      simp only [SV.cs, SV.c, List.foldlM_cons, Sem.run_bind, hstep, Result.andThen_ok]
      exact h2 β w
    · simp only [hk, decide_false] at h
   | _ => exact h.elim
  | _ => exact h.elim
theorem fill_spec {place : Nat → Option (Nat × Nat)} : ∀ (parts : List (Nat × SV)) (l : List SV) (K : List SV → Prop), fillK place l parts K →
 ∃ l' : List SV, K l' ∧ (∀ β : Nat → Nat, Instr.fill place (SV.cs β l).toArray (parts.map fun p => (p.1, p.2.c β)) = some (SV.cs β l').toArray) ∧ (∀ n, SV.lts n l = true → (∀ p ∈ parts, p.2.lt n = true) → SV.lts n l' = true)
 | [], l, K, h => ⟨l, h, fun _ => rfl, fun _ h _ => h⟩
 | (i, s) :: r, l, K, h => by
  simp only [fillK] at h
  cases hp : place i with
  | none => rw [hp] at h; exact h.elim
  | some os =>
   obtain ⟨off, size⟩ := os
   rw [hp] at h
   obtain ⟨h1, h2⟩ := h
   have h1 := Nat.eq_of_beq_eq_true h1
   obtain ⟨h3, h4⟩ := splK_spec off l s.cells _ h2
   obtain ⟨l', h5, h6, h7⟩ := fill_spec r _ K h4
   refine ⟨l', h5, fun β => ?_, fun n hl hps => h7 n (lts_append (lts_append (lts_take hl) (SV.cells_lt (hps _ List.mem_cons_self))) (lts_drop hl)) fun p hp => hps p (List.mem_cons_of_mem _ hp)⟩
   have hsz : (s.c β).cells.size = s.cells.length := by
    have := congrArg List.length (SV.cells_c β s)
    rw [SV.cs_eq, List.length_map] at this
    simpa using this
   rw [List.map_cons, Instr.fill, hp]
   simp only
   rw [if_neg]
   · rw [← h6 β]
     congr 1
     have key : ∀ (vs : List Value) (j : Nat) (acc : List Value), off + j + vs.length ≤ acc.length →
      (vs.zipIdx j).foldl (fun (cs : Array Value) (x : Value × Nat) => cs.setIfInBounds (off + x.2) x.1) acc.toArray = (acc.take (off + j) ++ vs ++ acc.drop (off + j + vs.length)).toArray := by
      intro vs
      induction vs with
      | nil => intro j acc _; simp
      | cons v vs ih =>
       intro j acc hle
       simp only [List.zipIdx_cons, List.foldl_cons, List.setIfInBounds_toArray]
       rw [ih (j + 1) (acc.set (off + j) v) (by simp at hle ⊢; omega)]
       congr 1
       apply List.ext_getElem?
       intro m
       simp only [List.length_cons] at hle ⊢
       simp only [List.getElem?_append, List.getElem?_take, List.length_append, List.length_take, List.length_set, List.getElem?_drop, List.getElem?_set, List.length_cons]
       rcases Nat.lt_trichotomy m (off + j) with hm | hm | hm
       · have e1 : m < min (off + (j + 1)) acc.length := by omega
         have e2 : m < min (off + j) acc.length := by omega
         have e3 : m < off + (j + 1) := by omega
         have e4 : ¬ off + j = m := by omega
         have e5 : m < min (off + (j + 1)) acc.length + vs.length := by omega
         have e6 : m < min (off + j) acc.length + (vs.length + 1) := by omega
         simp [e1, e2, e3, e4, e5, e6, hm]
       · subst hm
         have e1 : off + j < min (off + (j + 1)) acc.length := by omega
         have e2 : ¬ off + j < min (off + j) acc.length := by omega
         have e3 : off + j < off + (j + 1) := by omega
         have e5 : off + j < min (off + (j + 1)) acc.length + vs.length := by omega
         have e6 : off + j < min (off + j) acc.length + (vs.length + 1) := by omega
         have e7 : off + j - min (off + j) acc.length = 0 := by omega
         have e8 : off + j < acc.length := by omega
         simp [e1, e2, e3, e5, e6, e7, e8]
       · have e1 : ¬ m < min (off + (j + 1)) acc.length := by omega
         have e2 : ¬ m < min (off + j) acc.length := by omega
         by_cases hv : m < off + j + (vs.length + 1)
         · have e5 : m < min (off + (j + 1)) acc.length + vs.length := by omega
           have e6 : m < min (off + j) acc.length + (vs.length + 1) := by omega
           have e7 : m - min (off + j) acc.length = (m - min (off + (j + 1)) acc.length) + 1 := by omega
           simp [e1, e2, e5, e6, e7]
         · have e5 : ¬ m < min (off + (j + 1)) acc.length + vs.length := by omega
           have e6 : ¬ m < min (off + j) acc.length + (vs.length + 1) := by omega
           have e7 : off + (j + 1) + vs.length + (m - (min (off + (j + 1)) acc.length + vs.length)) = m := by omega
           have e8 : off + j + (vs.length + 1) + (m - (min (off + j) acc.length + (vs.length + 1))) = m := by omega
           have e9 : ¬ off + j = m := by omega
           simp [e5, e6, e7, e8, e9]
     have hk := key (SV.cs β s.cells) 0 (SV.cs β l) (by simp only [SV.cs_eq, List.length_map]; omega)
     have hz : (s.c β).cells = (SV.cs β s.cells).toArray := by
      rw [← SV.cells_c]
     rw [hz]
     rw [← Array.foldl_toList]
     simp only [Nat.add_zero] at hk
     rw [Array.toList_zipIdx]
     rw [hk]
     simp only [SV.cs_eq, List.map_append, List.map_take, List.map_drop, List.length_map]
   · simp only [Bool.or_eq_true, decide_eq_true_eq, not_or, ne_eq, Decidable.not_not]
     rw [hsz]
     refine ⟨by simp [h1], ?_⟩
     simp only [SV.cs_eq, List.size_toArray, List.length_map]
     omega
end
end Go.Proofs.YtkbfcofifhngfaaGreat.Tx
namespace Go.Proofs.YtkbfcofifhngfaaGreat.Tx
open Go
variable {X : Cx}
section
variable {P : Program} (T : Env P)
def Gd (ops : Array Oper) (o : Oper) (gs : List Nat) (σ : Sg) : Prop :=
 o.guard = none ∨ ∃ j want k, o.guard = some (j, want) ∧ (ops[j]?).bind (·.dst) = some k ∧ k ∈ gs ∧ lk σ.t k = some (.v (.bool want))
def Good (F : Fence) (n : Nat) (P : Program) (ops : Array Oper) (o : Oper) (σ : Sg) (K : Ef → Prop) : Prop := ∃ E, K E ∧ EfOK σ E ∧ OpOK F n P ops o σ E
theorem Good.run {F : Fence} {n : Nat} {ops : Array Oper} {o : Oper} {gs : List Nat} {σ : Sg} {K : Ef → Prop} {E : Ef} (hF : Wd F) (hlt : ∀ k s, lk σ.t k = some s → k < σ.nt) (hg : Gd ops o gs σ)
 (hK : K E) (hE : EfOK σ E) (hgs : ∀ k ∈ gs, k ∈ E.rs) (hnd : notDefer o.op = true) (hr : RunOK P o σ E) : Good F n P ops o σ K := by
 refine ⟨E, hK, hE, hr.op hF hnd ⟨?_⟩ hlt⟩
 rcases hg with h | ⟨j, want, k, h1, h2, h3, h4⟩
 · exact .inl h
 · exact .inr ⟨j, want, k, h1, h2, hgs k h3, h4⟩
variable {F : Fence} {n : Nat} {ops : Array Oper} {dst : Option Tmp} {ty : TypeId} {pos : String} {after : Array Edge} {gd : Option (Nat × Bool)} {gs : List Nat} {σ : Sg} {K : Ef → Prop} {KF : Option KT}
theorem OpEv.good {o : Oper} (hF : Wd F) (hlt : ∀ k s, lk σ.t k = some s → k < σ.nt) (hg : Gd ops o gs σ) (h : OpEv P o gs σ K) : Good F n P ops o σ K := by
 obtain ⟨E, h1, hgs, hnd, h2, h3⟩ := h
 exact Good.run hF hlt hg h3 (efB_spec h1) hgs hnd h2
theorem ev_pick {c a b : Operand} (hF : Wd F) (hw : σ.Wf) (hlt : ∀ k s, lk σ.t k = some s → k < σ.nt) (hg : Gd ops ⟨dst, .pick c a b, ty, pos, after, gd⟩ gs σ)
 (h : ev T ⟨dst, .pick c a b, ty, pos, after, gd⟩ gs σ K KF) : Good F n P ops ⟨dst, .pick c a b, ty, pos, after, gd⟩ σ K := by
 simp only [ev] at h
 split at h
 · rename_i hc
   cases ha : gv σ a with
   | none => rw [ha] at h; exact OpEv.good hF hlt hg h
   | some s =>
    rw [ha] at h
    refine Good.run hF hlt hg h (efOK_pure (hw.gv ha)) (fun k hk => by simp [hk]) rfl (runOK_pure fun β a' w hs => ?_)
    have e1 := gv_eval hs hc (fun k hk => by simp [hk])
    have e2 := gv_eval hs ha (fun k hk => by simp [hk])
    simp [execOp, e1, e2, SV.c, asBool]
 · rename_i hc
   cases hb : gv σ b with
   | none => rw [hb] at h; exact OpEv.good hF hlt hg h
   | some s =>
    rw [hb] at h
    refine Good.run hF hlt hg h (efOK_pure (hw.gv hb)) (fun k hk => by simp [hk]) rfl (runOK_pure fun β a' w hs => ?_)
    have e1 := gv_eval hs hc (fun k hk => by simp [hk])
    have e2 := gv_eval hs hb (fun k hk => by simp [hk])
    simp [execOp, e1, e2, SV.c, asBool]
 · exact OpEv.good hF hlt hg h
theorem newOK {s : SV} {l : List SV} {t : TypeId} {rs rb : List Nat} (hs : s.lt (σ.nb + 1) = true) (hl : SV.lts (σ.nb + 1) l = true) : EfOK σ ⟨s, [σ.nb], [(σ.nb, .cells l t)], rs, rb⟩ := by
 refine ⟨rfl, hs, fun i b hi => ?_, fun i b hi hlt => ?_, fun i b b' hi hi' => ?_⟩
 · simp only [List.mem_singleton, Prod.mk.injEq] at hi
   obtain ⟨rfl, rfl⟩ := hi
   exact ⟨by simp, hl⟩
 · simp only [List.mem_singleton, Prod.mk.injEq] at hi
   omega
 · simp only [List.mem_singleton, Prod.mk.injEq] at hi hi'
   rw [hi.2, hi'.2]
theorem lts_v (l : List Value) (n : Nat) : SV.lts n (l.map .v) = true := by
 rw [lts_iff]; intro s hs
 obtain ⟨x, _, rfl⟩ := List.mem_map.1 hs
 rfl
theorem cs_v (β : Nat → Nat) (l : List Value) : SV.cs β (l.map .v) = l := by
 rw [SV.cs_eq, List.map_map]
 exact (List.map_congr_left fun x _ => rfl).trans (List.map_id' l)
theorem ev_alloc {t : TypeId} (hF : Wd F) (hlt : ∀ k s, lk σ.t k = some s → k < σ.nt) (hg : Gd ops ⟨dst, .alloc t, ty, pos, after, gd⟩ gs σ)
 (h : ev T ⟨dst, .alloc t, ty, pos, after, gd⟩ gs σ K KF) : Good F n P ops ⟨dst, .alloc t, ty, pos, after, gd⟩ σ K := by
 simp only [ev] at h
 cases ht : T.ty t with
 | none => rw [ht] at h; exact OpEv.good hF hlt hg h
 | some ti =>
  rw [ht] at h
  have h := normK_spec (nbK_spec h)
  refine Good.run hF hlt hg h (newOK (by simp [SV.lt]) (lts_v _ _)) (fun k hk => hk) rfl fun β a w hs => ?_
  obtain ⟨z, hz, hrun⟩ := (T.tok t ti ht).run_zero
  refine ⟨_, _, EfPost.newBlk (lts_v _ _), .inl ?_⟩
  have hzc : z.cells = (SV.cs β (ti.zero.map .v)).toArray := by rw [cs_v, ← hz]
  simp [execOp, Instr.alloc, hrun, newVar, newRow, hzc, SV.c]
theorem ev_box {t : TypeId} {x : Operand} (hF : Wd F) (hw : σ.Wf) (hlt : ∀ k s, lk σ.t k = some s → k < σ.nt) (hg : Gd ops ⟨dst, .box t x, ty, pos, after, gd⟩ gs σ)
 (h : ev T ⟨dst, .box t x, ty, pos, after, gd⟩ gs σ K KF) : Good F n P ops ⟨dst, .box t x, ty, pos, after, gd⟩ σ K := by
 simp only [ev] at h
 cases hx : gv σ x with
 | none => rw [hx] at h; exact OpEv.good hF hlt hg h
 | some s =>
  rw [hx] at h
  have h := normK_spec (nbK_spec h)
  have hl := SV.cells_lt (hw.gv hx)
  refine Good.run hF hlt hg h (newOK (by simp [SV.lt]) (SV.lts_mono (Nat.le_succ _) _ hl)) (fun k hk => by simp [hk]) rfl fun β a w hs => ?_
  have e1 := gv_eval hs hx (fun k hk => by simp [hk])
  refine ⟨_, _, EfPost.newBlk hl, .inl ?_⟩
  have hzc : (s.c β).cells = (SV.cs β s.cells).toArray := by rw [← SV.cells_c]
  simp [execOp, Instr.box, newVar, newRow, e1, hzc, SV.c]
theorem ev_load {t : TypeId} {x : Operand} (hF : Wd F) (hw : σ.Wf) (hlt : ∀ k s, lk σ.t k = some s → k < σ.nt) (hg : Gd ops ⟨dst, .load t x, ty, pos, after, gd⟩ gs σ)
 (h : ev T ⟨dst, .load t x, ty, pos, after, gd⟩ gs σ K KF) : Good F n P ops ⟨dst, .load t x, ty, pos, after, gd⟩ σ K := by
 simp only [ev] at h
 split at h
 · rename_i i o ti hx ht
   have htok := T.tok t ti ht
   split at h
   · rename_i l ty' hm
     obtain ⟨h1, h2⟩ := dropK_spec o l _ h
     obtain ⟨h3, h4⟩ := takeK_spec _ _ _ h2
     obtain ⟨s, h5, h6⟩ := valK_spec h4
     have hl : SV.lts σ.nb l = true := (hw.m i _ hm).2
     refine Good.run hF hlt hg h5 (efOK_pure (valK_lt h6 (lts_take (lts_drop hl)))) (fun k hk => by simp [hk]) rfl (runOK_pure fun β a w hs => ?_)
     have e1 := gv_eval hs hx (fun k hk => by simp [hk])
     have e2 : w.heap[β i]? = some (.cells (SV.cs β l).toArray ty' (0, 0)) := hs.m i (by simp) _ hm
     have e3 := run_loadVar_cells (P := P) htok (β := β) (w := w) (ad := ⟨β i, o, none⟩) (l := (l.drop o).take ti.size) (s := s) (by rw [List.length_take]; omega) (fun j v hv => by
      rw [own_add, cell_of_row w (β i) (o + j) _ ty' (0, 0) e2]
      rw [cs_getElem?] at hv
      rw [List.getElem?_toArray, cs_getElem?]
      rw [List.getElem?_take] at hv
      split at hv
      · rw [List.getElem?_drop] at hv; exact hv
      · simp at hv) h6
     simp [execOp, Instr.loadAt, Instr.sureAddr, e1, SV.c, e3]
   · rename_i xs ty' hm
     obtain ⟨cs, ⟨h1, h2⟩, h3⟩ := h
     obtain ⟨s, h5, h6⟩ := valK_spec (normK_spec h3)
     refine Good.run hF hlt hg h5 (efOK_pure (valK_lt h6 (lts_v _ _))) (fun k hk => by simp [hk]) rfl (runOK_pure fun β a w hs => ?_)
     have e1 := gv_eval hs hx (fun k hk => by simp [hk])
     obtain ⟨cur, e2, e3⟩ : (Blk.row xs ty').ok β w (β i) := hs.m i (by simp) _ hm
     have e3 := run_loadVar_cells (P := P) htok (β := β) (w := w) (ad := ⟨β i, o, none⟩) (l := cs.map .v) (s := s) (by simpa using h1) (fun j v hv => by
      rw [own_add, cell_of_row w (β i) (o + j) _ ty' (0, 0) e2]
      rw [cs_v] at hv
      exact e3 _ _ (h2 j v hv)) h6
     simp [execOp, Instr.loadAt, Instr.sureAddr, e1, SV.c, e3]
   · rename_i j' n' sz' xs ty' hm
     obtain ⟨cs, ⟨h1, h2⟩, h3⟩ := h
     obtain ⟨s, h5, h6⟩ := valK_spec (normK_spec h3)
     refine Good.run hF hlt hg h5 (efOK_pure (valK_lt h6 (lts_v _ _))) (fun k hk => by simp [hk]) rfl (runOK_pure fun β a w hs => ?_)
     have e1 := gv_eval hs hx (fun k hk => by simp [hk])
     have e2 : w.ownsRow 0 ty' sz' (.slice (some ⟨β i, 0, none⟩) n' (β j')) n' xs := hs.m i (by simp) _ hm
     have e3 := run_loadVar_cells (P := P) htok (β := β) (w := w) (ad := ⟨β i, o, none⟩) (l := cs.map .v) (s := s) (by simpa using h1) (fun j v hv => by
      rw [own_add]
      rw [cs_v] at hv
      have := e2.cells (g := β i) rfl _ _ (h2 j v hv)
      rw [own_add, Nat.zero_add] at this
      exact this) h6
     simp [execOp, Instr.loadAt, Instr.sureAddr, e1, SV.c, e3]
   · exact OpEv.good hF hlt hg h
 · rename_i ad ti hx ht
   have htok := T.tok t ti ht
   obtain ⟨cs, ⟨h1, h2⟩, h3⟩ := h
   obtain ⟨s, h5, h6⟩ := valK_spec (normK_spec h3)
   refine Good.run hF hlt hg h5 (efOK_pure (valK_lt h6 (lts_v _ _))) (fun k hk => by simp [hk]) rfl (runOK_pure fun β a w hs => ?_)
   have e1 := gv_eval hs hx (fun k hk => by simp [hk])
   have e3 := run_loadVar_cells (P := P) htok (β := β) (w := w) (ad := ad) (l := cs.map .v) (s := s) (by simpa using h1) (fun j v hv => by
    rw [cs_v] at hv
    exact h2 w hs.h j v hv) h6
   simp [execOp, Instr.loadAt, Instr.sureAddr, e1, SV.c, e3]
 · exact OpEv.good hF hlt hg h
theorem valsK_spec : ∀ {l : List SV} {K : List Value → Prop}, valsK l K → ∃ vs : List Value, l = vs.map .v ∧ K vs
 | [], K, h => ⟨[], rfl, h⟩
 | s :: r, K, h => by
  cases s with
  | v x =>
   obtain ⟨vs, h1, h2⟩ := valsK_spec (l := r) h
   exact ⟨x :: vs, by rw [h1]; rfl, h2⟩
  | _ => exact h.elim
theorem ev_store {t : TypeId} {x y : Operand} (hF : Wd F) (hw : σ.Wf) (hlt : ∀ k s, lk σ.t k = some s → k < σ.nt) (hg : Gd ops ⟨dst, .store t x y, ty, pos, after, gd⟩ gs σ)
 (h : ev T ⟨dst, .store t x y, ty, pos, after, gd⟩ gs σ K KF) : Good F n P ops ⟨dst, .store t x y, ty, pos, after, gd⟩ σ K ∨ OpEvS P ⟨dst, .store t x y, ty, pos, after, gd⟩ gs σ K KF := by
 simp only [ev] at h
 split at h
 · rename_i i o s ti hx hy ht
   refine .inl ?_
   have htok := T.tok t ti ht
   split at h
   · rename_i l ty' hm
     obtain ⟨⟨h0, h1⟩, h2⟩ := h
     have h0 := Nat.eq_of_beq_eq_true h0
     obtain ⟨h3, h4⟩ := splK_spec o l s.cells _ h2
     have hl : SV.lts σ.nb l = true := (hw.m i _ hm).2
     have hs' : SV.lts σ.nb s.cells = true := SV.cells_lt (hw.gv hy)
     have hi : i < σ.nb := (hw.m i _ hm).1
     refine Good.run hF hlt hg h4 ⟨rfl, rfl, fun j b hj => ?_, fun j b hj _ => ?_, fun j b b' hj hj' => ?_⟩ (fun k hk => by simp [hk]) rfl fun β a w hs => ?_
     · simp only [List.mem_singleton, Prod.mk.injEq] at hj
       obtain ⟨rfl, rfl⟩ := hj
       exact ⟨by simpa using hi, by simpa [Blk.lt] using lts_append (lts_append (lts_take hl) hs') (lts_drop hl)⟩
     · simp only [List.mem_singleton, Prod.mk.injEq] at hj
       obtain ⟨rfl, rfl⟩ := hj
       exact ⟨by simp, _, hm, rfl⟩
     · simp only [List.mem_singleton, Prod.mk.injEq] at hj hj'
       rw [hj.2, hj'.2]
     · have e1 := gv_eval hs hx (fun k hk => by simp [hk])
       have e2 := gv_eval hs hy (fun k hk => by simp [hk])
       have e3 : w.heap[β i]? = some (.cells (SV.cs β l).toArray ty' (0, 0)) := hs.m i (by simp) _ hm
       refine ⟨β, _, EfPost.set e3, .inr ⟨?_, rfl⟩⟩
       have hzc : (s.c β).cells = (SV.cs β s.cells).toArray := by rw [← SV.cells_c]
       have hlen : (SV.cs β s.cells).length = s.cells.length := by rw [SV.cs_eq, List.length_map]
       have hrun := run_storeCells_at (P := P) (β i) o ty' (SV.cs β s.cells) 0 (SV.cs β l).toArray w e3 (by rw [hlen]; simp only [SV.cs_eq, List.size_toArray, List.length_map]; omega) (ones_c β h1)
       have hsz : (s.c β).cells.size = ti.size := by rw [hzc]; simp [hlen, h0]
       have harr : ((SV.cs β l).toArray.toList.take (o + 0) ++ SV.cs β s.cells ++ (SV.cs β l).toArray.toList.drop (o + 0 + (SV.cs β s.cells).length)) = SV.cs β (l.take o ++ s.cells ++ l.drop (o + s.cells.length)) := by
        simp only [SV.cs_eq, List.map_append, List.map_take, List.map_drop, List.length_map, Nat.add_zero]
       rw [harr] at hrun
       simp only [execOp, Instr.storeAt, Instr.sureAddr, e1, e2, SV.c, Sem.run_bind, Sem.run_pure, Result.andThen_ok, storeVar, htok.run_sizeOf w, hsz, ne_eq, not_true_eq_false, if_false]
       rw [hzc]
       simp only [hrun, Result.andThen_ok]
   · rename_i j' n' sz' xs ty' hm
     obtain ⟨⟨h0, h1⟩, h2⟩ := h
     have h0 := Nat.eq_of_beq_eq_true h0
     obtain ⟨vs, hvs, h3, h4⟩ := valsK_spec h2
     have hi : i < σ.nb := (hw.m i _ hm).1
     have hj : (Blk.own j' n' sz' xs ty').lt σ.nb = true := (hw.m i _ hm).2
     refine Good.run hF hlt hg h4 ⟨rfl, rfl, fun j b hj' => ?_, fun j b hj' _ => ?_, fun j b b' hj' hj'' => ?_⟩ (fun k hk => by simp [hk]) rfl fun β a w hs => ?_
     · simp only [List.mem_singleton, Prod.mk.injEq] at hj'
       obtain ⟨rfl, rfl⟩ := hj'
       exact ⟨by simpa using hi, by simpa [Blk.lt] using hj⟩
     · simp only [List.mem_singleton, Prod.mk.injEq] at hj'
       obtain ⟨rfl, rfl⟩ := hj'
       exact ⟨by simp, _, hm, rfl⟩
     · simp only [List.mem_singleton, Prod.mk.injEq] at hj' hj''
       rw [hj'.2, hj''.2]
     · have e1 := gv_eval hs hx (fun k hk => by simp [hk])
       have e2 := gv_eval hs hy (fun k hk => by simp [hk])
       have e3 : w.ownsRow 0 ty' sz' (.slice (some ⟨β i, 0, none⟩) n' (β j')) n' xs := hs.m i (by simp) _ hm
       have hlenx := e3.1
       rcases e3.2 with ⟨h', _⟩ | ⟨g, cap, cur, q0, q1, q2, q3, q4, q5, q6⟩
       · cases h'
       simp only [Value.slice.injEq, Option.some.injEq, Addr.mk.injEq, and_true, true_and] at q0
       obtain ⟨rfl, rfl⟩ := q0
       have hzc : (s.c β).cells = (SV.cs β s.cells).toArray := by rw [← SV.cells_c]
       have hcs : SV.cs β s.cells = vs := by rw [hvs, cs_v]
       have hvlen : vs.length = s.cells.length := by rw [hvs, List.length_map]
       have hxl : xs.length ≤ cur.size := by
        have := congrArg List.length q6
        rw [List.length_take, Array.length_toList] at this
        omega
       have hrun := run_storeCells_at (P := P) (β i) o ty' (SV.cs β s.cells) 0 cur w q2 (by rw [hcs]; omega) (ones_c β h1)
       have hlt' : β i < w.heap.size := (Array.getElem?_eq_some_iff.1 q2).1
       refine ⟨β, w.setRow (β i) (cur.toList.take (o + 0) ++ SV.cs β s.cells ++ cur.toList.drop (o + 0 + (SV.cs β s.cells).length)).toArray, ?_, .inr ⟨?_, rfl⟩⟩
       · refine ⟨fun _ _ => rfl, ⟨rfl, rfl, rfl, by simp [World.setRow], fun b hb hX => ?_⟩, fun j b hj' => ?_, fun j hj => (by cases hj), fun j hj => (by cases hj)⟩
         · have hne : β i ≠ b := fun e => hX ⟨i, _, List.mem_singleton.2 rfl, by simp, e⟩
           simp only [World.setRow, Array.getElem?_modify]
           rw [if_neg hne]
         · simp only [List.mem_singleton, Prod.mk.injEq] at hj'
           obtain ⟨rfl, rfl⟩ := hj'
           refine ⟨by simp only [List.length_append, List.length_take, List.length_drop]; omega, .inr ⟨_, _, _, rfl, q1, setRow_heap w _ cur _ ty' _ q2, q3, q4, ?_, ?_⟩⟩
           · rw [hcs]; simp only [List.size_toArray, List.length_append, List.length_take, List.length_drop, Array.length_toList]; omega
           · rw [hcs]
             rw [← hlenx] at q6 ⊢
             simp only [Nat.add_zero]
             apply List.ext_getElem?
             intro m
             have hget : ∀ m, m < xs.length → xs[m]? = cur.toList[m]? := fun m hm => by
              have := congrArg (fun l => l[m]?) q6
              simp only [List.getElem?_take, hm, if_true] at this
              exact this.symm
             simp only [List.getElem?_append, List.getElem?_take, List.length_append, List.length_take, List.getElem?_drop, Array.length_toList]
             by_cases hm0 : m < xs.length
             case neg =>
              have e1 : ¬ m < min o xs.length := by omega
              have e4 : ¬ m < min o xs.length + vs.length := by omega
              have e9 : xs[o + vs.length + (m - (min o xs.length + vs.length))]? = none := List.getElem?_eq_none (by omega)
              simp [e4, e9, hm0]
             rw [if_pos hm0]
             rcases Nat.lt_or_ge m o with hm1 | hm1
             · have e1 : m < min o cur.size := by omega
               have e2 : m < min o xs.length := by omega
               have e3 : m < min o cur.size + vs.length := by omega
               have e4 : m < min o xs.length + vs.length := by omega
               have e5 : m < min o xs.length + vs.length + (xs.length - (o + vs.length)) := by omega
               simp [e1, e2, e3, e4, hm1, hget m (by omega)]
             · rcases Nat.lt_or_ge m (o + vs.length) with hm2 | hm2
               · have e1 : ¬ m < min o cur.size := by omega
                 have e2 : ¬ m < min o xs.length := by omega
                 have e3 : m < min o cur.size + vs.length := by omega
                 have e4 : m < min o xs.length + vs.length := by omega
                 have e5 : m < min o xs.length + vs.length + (xs.length - (o + vs.length)) := by omega
                 have e6 : m - min o cur.size = m - min o xs.length := by omega
                 simp [e1, e2, e3, e4, e6]
               · have e1 : ¬ m < min o cur.size := by omega
                 have e2 : ¬ m < min o xs.length := by omega
                 have e3 : ¬ m < min o cur.size + vs.length := by omega
                 have e4 : ¬ m < min o xs.length + vs.length := by omega
                 have e7 : o + vs.length + (m - (min o xs.length + vs.length)) = m := by omega
                 have e8 : o + vs.length + (m - (min o cur.size + vs.length)) = m := by omega
                 by_cases hm3 : m < xs.length
                 · have e5 : m < min o xs.length + vs.length + (xs.length - (o + vs.length)) := by omega
                   simp [e3, e4, e7, e8, hget m hm3]
                 · exact absurd hm0 hm3
       · have hsz : (s.c β).cells.size = ti.size := by rw [hzc, hcs]; simp [hvlen, h0]
         simp only [execOp, Instr.storeAt, Instr.sureAddr, e1, e2, SV.c, Sem.run_bind, Sem.run_pure, Result.andThen_ok, storeVar, htok.run_sizeOf w, hsz, ne_eq, not_true_eq_false, if_false]
         rw [hzc]
         simp only [hrun, Result.andThen_ok]
   · exact OpEv.good hF hlt hg h
 · exact .inr h
 · exact .inl (OpEv.good hF hlt hg h)
theorem ev_move {x : Operand} (hF : Wd F) (hw : σ.Wf) (hlt : ∀ k s, lk σ.t k = some s → k < σ.nt) (hg : Gd ops ⟨dst, .move x, ty, pos, after, gd⟩ gs σ)
 (h : ev T ⟨dst, .move x, ty, pos, after, gd⟩ gs σ K KF) : Good F n P ops ⟨dst, .move x, ty, pos, after, gd⟩ σ K := by
 simp only [ev] at h
 cases hx : gv σ x with
 | none => rw [hx] at h; exact OpEv.good hF hlt hg h
 | some s =>
  rw [hx] at h
  refine Good.run hF hlt hg h (efOK_pure (hw.gv hx)) (fun k hk => by simp [hk]) rfl (runOK_pure fun β a w hs => ?_)
  have e1 := gv_eval hs hx (fun k hk => by simp [hk])
  simp [execOp, e1]
theorem ev_assign {x : Operand} (hF : Wd F) (hw : σ.Wf) (hlt : ∀ k s, lk σ.t k = some s → k < σ.nt) (hg : Gd ops ⟨dst, .assign x, ty, pos, after, gd⟩ gs σ)
 (h : ev T ⟨dst, .assign x, ty, pos, after, gd⟩ gs σ K KF) : Good F n P ops ⟨dst, .assign x, ty, pos, after, gd⟩ σ K := by
 simp only [ev] at h
 cases hx : gv σ x with
 | none => rw [hx] at h; exact OpEv.good hF hlt hg h
 | some s =>
  rw [hx] at h
  refine Good.run hF hlt hg h (efOK_pure (hw.gv hx)) (fun k hk => by simp [hk]) rfl (runOK_pure fun β a w hs => ?_)
  have e1 := gv_eval hs hx (fun k hk => by simp [hk])
  simp [execOp, e1]
theorem field_of {t : TypeId} {ti : TI} {fs : List (Nat × Nat)} (h : TOK P t ti) (hk : ti.kind = .struct fs) {f off ft : Nat} (hf : fs[f]? = some (off, ft)) :
 ∃ (fields : Array Field) (fd : Field), P.underlying t = some (.struct fields) ∧ fields[f]? = some fd ∧ fd.offset = off ∧ fd.type = ft ∧ fields.toList.map (fun f => (f.offset, f.type)) = fs := by
 obtain ⟨d, h1, h2⟩ := h.under
 rw [hk] at h2
 obtain ⟨fields, rfl, h3⟩ := kindOf_struct h2
 rw [← h3, List.getElem?_map, Array.getElem?_toList] at hf
 cases hfd : fields[f]? with
 | none => rw [hfd] at hf; simp at hf
 | some fd =>
  rw [hfd] at hf
  simp only [Option.map_some, Option.some.injEq, Prod.mk.injEq] at hf
  exact ⟨fields, fd, h1, hfd, hf.1, hf.2, h3⟩
theorem ev_fieldAddr {t : TypeId} {x : Operand} {f : Nat} (hF : Wd F) (hw : σ.Wf) (hlt : ∀ k s, lk σ.t k = some s → k < σ.nt) (hg : Gd ops ⟨dst, .fieldAddr t x f, ty, pos, after, gd⟩ gs σ)
 (h : ev T ⟨dst, .fieldAddr t x f, ty, pos, after, gd⟩ gs σ K KF) : Good F n P ops ⟨dst, .fieldAddr t x f, ty, pos, after, gd⟩ σ K := by
 simp only [ev] at h
 split at h
 · rename_i i o sz zr by_ fs hx ht
   have htok := T.tok t _ ht
   split at h
   · rename_i off ft hf
     split at h
     · rename_i ti hft
       obtain ⟨h0, h1⟩ := h
       have hpos : 0 < ti.size := by rw [Nat.blt_eq] at h0; exact h0
       have hlt' := hw.gv hx
       refine Good.run hF hlt hg h1 (efOK_pure (by simpa [SV.lt] using hlt')) (fun k hk => by simp [hk]) rfl (runOK_pure fun β a w hs => ?_)
       have e1 := gv_eval hs hx (fun k hk => by simp [hk])
       obtain ⟨fields, fd, g1, g2, g3, g4, _⟩ := field_of htok rfl hf
       have hsz := (T.tok ft ti hft).run_sizeOf w
       simp only [execOp, Instr.fieldAt, e1, SV.c, Sem.run_bind, Go.run_underlying g1 w, Result.andThen_ok, g2, Instr.sureAddr, Sem.run_pure, fieldPlace, g4, hsz]
       rw [if_neg (by omega)]
       simp only [Sem.run_pure, Result.andThen_ok, g3, own_add]
     · exact OpEv.good hF hlt hg h
   · exact OpEv.good hF hlt hg h
 · rename_i ad sz zr by_ fs hx ht
   have htok := T.tok t _ ht
   split at h
   · rename_i off ft hf
     split at h
     · rename_i ti hft
       obtain ⟨h0, h1⟩ := h
       have hpos : 0 < ti.size := by rw [Nat.blt_eq] at h0; exact h0
       have hlt' := hw.gv hx
       refine Good.run hF hlt hg h1 (efOK_pure (by simp [SV.lt])) (fun k hk => by simp [hk]) rfl (runOK_pure fun β a w hs => ?_)
       have e1 := gv_eval hs hx (fun k hk => by simp [hk])
       obtain ⟨fields, fd, g1, g2, g3, g4, _⟩ := field_of htok rfl hf
       have hsz := (T.tok ft ti hft).run_sizeOf w
       simp only [execOp, Instr.fieldAt, e1, SV.c, Sem.run_bind, Go.run_underlying g1 w, Result.andThen_ok, g2, Instr.sureAddr, Sem.run_pure, fieldPlace, g4, hsz]
       rw [if_neg (by omega)]
       simp only [Sem.run_pure, Result.andThen_ok, g3]
     · exact OpEv.good hF hlt hg h
   · exact OpEv.good hF hlt hg h
 · exact OpEv.good hF hlt hg h
theorem run_part {t : TypeId} {ti : TI} (ht : TOK P t ti) {cs : List Value} {off : Nat} {w : World} {β : Nat → Nat} {l : List SV} {s : SV} (hl : (cs.drop off).take ti.size = SV.cs β l) (hlen : l.length = ti.size)
 (hs : (ti.kind.agg = true ∧ s = .agg l) ∨ (ti.kind.agg = false ∧ l = [s])) : (part t cs.toArray off).run P w = .ok (s.c β) w := by
 unfold part
 rw [Sem.run_bind, ht.run_isAgg w, Result.andThen_ok]
 rcases hs with ⟨ha, rfl⟩ | ⟨ha, rfl⟩
 · rw [ha, if_pos rfl, Sem.run_bind, ht.run_sizeOf w, Result.andThen_ok]
   simp only [Sem.run_pure, SV.c, ← hl]
   congr 2
   apply Array.ext'
   simp only [Array.toList_extract]
   rw [List.extract_eq_take_drop]
   congr 1
   omega
 · rw [ha, if_neg (by simp)]
   have h0 : (cs.toArray)[off]? = some (s.c β) := by
    have := congrArg (fun l => l[0]?) hl
    simp only [SV.cs, List.length_singleton] at this hlen
    rw [List.getElem?_take] at this
    rw [if_pos (by omega), List.getElem?_drop] at this
    simpa using this
   rw [h0]
   rfl
theorem ev_field {t : TypeId} {x : Operand} {f : Nat} (hF : Wd F) (hw : σ.Wf) (hlt : ∀ k s, lk σ.t k = some s → k < σ.nt) (hg : Gd ops ⟨dst, .field t x f, ty, pos, after, gd⟩ gs σ)
 (h : ev T ⟨dst, .field t x f, ty, pos, after, gd⟩ gs σ K KF) : Good F n P ops ⟨dst, .field t x f, ty, pos, after, gd⟩ σ K := by
 simp only [ev] at h
 split at h
 · rename_i s0 sz zr by_ fs hx ht
   have htok := T.tok t _ ht
   split at h
   · rename_i off ft hf
     split at h
     · rename_i ti hft
       obtain ⟨h1, h2⟩ := dropK_spec off _ _ h.2
       obtain ⟨h3, h4⟩ := takeK_spec _ _ _ h2
       obtain ⟨s, h5, h6⟩ := valK_spec h4
       have hl := SV.cells_lt (hw.gv hx)
       refine Good.run hF hlt hg h5 (efOK_pure (valK_lt h6 (lts_take (lts_drop hl)))) (fun k hk => by simp [hk]) rfl (runOK_pure fun β a w hs => ?_)
       have e1 := gv_eval hs hx (fun k hk => by simp [hk])
       obtain ⟨fields, fd, g1, g2, g3, g4, _⟩ := field_of htok rfl hf
       obtain ⟨cs, hcs, hcs'⟩ : ∃ cs : List Value, s0.c β = .agg cs.toArray ∧ SV.cs β s0.cells = cs := by
        have h' := h.1
        cases s0 with
        | agg l => exact ⟨_, rfl, rfl⟩
        | v v =>
         cases v with
         | agg c => exact ⟨c.toList, rfl, by simp only [SV.cells]; exact cs_v β _⟩
         | _ => cases h'
        | _ => cases h'
       have hp := run_part (P := P) (T.tok ft ti hft) (cs := cs) (off := off) (w := w) (β := β) (l := (s0.cells.drop off).take ti.size) (s := s)
        (by rw [← hcs', SV.cs_eq, SV.cs_eq, List.map_take, List.map_drop]) (by rw [List.length_take]; omega) h6
       simp only [execOp, Instr.field, e1, hcs, Sem.run_bind, Go.run_underlying g1 w, Result.andThen_ok, g2, asAgg, Sem.run_pure, g4, g3, hp]
     · exact OpEv.good hF hlt hg h
   · exact OpEv.good hF hlt hg h
 · exact OpEv.good hF hlt hg h
theorem ev_extract {x : Operand} {i : Nat} (hF : Wd F) (hw : σ.Wf) (hlt : ∀ k s, lk σ.t k = some s → k < σ.nt) (hg : Gd ops ⟨dst, .extract x i, ty, pos, after, gd⟩ gs σ)
 (h : ev T ⟨dst, .extract x i, ty, pos, after, gd⟩ gs σ K KF) : Good F n P ops ⟨dst, .extract x i, ty, pos, after, gd⟩ σ K := by
 simp only [ev] at h
 split at h
 · rename_i vs hx
   split at h
   · rename_i v hv
     refine Good.run hF hlt hg h (efOK_pure rfl) (fun k hk => by simp [hk]) rfl (runOK_pure fun β a w hs => ?_)
     have e1 := gv_eval hs hx (fun k hk => by simp [hk])
     rw [Array.getElem?_toList] at hv
     simp [execOp, Instr.extract, e1, SV.c, hv]
   · exact OpEv.good hF hlt hg h
 · rename_i l hx
   split at h
   · rename_i s hv
     have hl : SV.lts σ.nb l = true := hw.gv hx
     rw [lts_iff] at hl
     refine Good.run hF hlt hg h (efOK_pure (hl s (List.mem_of_getElem? hv))) (fun k hk => by simp [hk]) rfl (runOK_pure fun β a w hs => ?_)
     have e1 := gv_eval hs hx (fun k hk => by simp [hk])
     have e2 : (SV.cs β l).toArray[i]? = some (s.c β) := by rw [List.getElem?_toArray, cs_getElem?, hv]; rfl
     simp only [execOp, Instr.extract, e1, SV.c, e2]
     rfl
   · exact OpEv.good hF hlt hg h
 · exact OpEv.good hF hlt hg h
theorem ev_makeFunc {f : Fn} {first cap : Array Operand} (hF : Wd F) (hw : σ.Wf) (hlt : ∀ k s, lk σ.t k = some s → k < σ.nt) (hg : Gd ops ⟨dst, .makeFunc f first cap, ty, pos, after, gd⟩ gs σ)
 (h : ev T ⟨dst, .makeFunc f first cap, ty, pos, after, gd⟩ gs σ K KF) : Good F n P ops ⟨dst, .makeFunc f first cap, ty, pos, after, gd⟩ σ K := by
 simp only [ev] at h
 split at h
 · rename_i hfirst
   obtain ⟨l, h1, h2⟩ := gvs_spec h
   refine Good.run hF hlt hg h1 (efOK_pure (by simpa [SV.lt] using gvs_lt hw h2)) (fun k hk => by simp [hk]) rfl (runOK_pure fun β a w hs => ?_)
   have e1 := gvs_eval hs h2 (fun k hk => by simp [hk])
   have e2 : first = #[] := Array.toList_eq_nil_iff.1 hfirst
   have e3 : cap.map a.eval = (SV.cs β l).toArray := by rw [← e1]; apply Array.ext'; simp
   subst e2
   simp only [execOp, Instr.makeFunc, e3, SV.c, Sem.run_bind, Sem.run_pure, Result.andThen_ok, List.map_toArray, List.map_nil]
 · exact OpEv.good hF hlt hg h
theorem ev_unOp {op : UnOp} {t : TypeId} {x : Operand} (hF : Wd F) (hlt : ∀ k s, lk σ.t k = some s → k < σ.nt) (hg : Gd ops ⟨dst, .unOp op t x, ty, pos, after, gd⟩ gs σ)
 (h : ev T ⟨dst, .unOp op t x, ty, pos, after, gd⟩ gs σ K KF) : Good F n P ops ⟨dst, .unOp op t x, ty, pos, after, gd⟩ σ K := by
 simp only [ev] at h
 split at h
 · rename_i b hx
   split at h
   · refine Good.run hF hlt hg h (efOK_pure rfl) (fun k hk => by simp [hk]) rfl (runOK_pure fun β a w hs => ?_)
     have e1 := gv_eval hs hx (fun k hk => by simp [hk])
     simp [execOp, Op.unary, e1, SV.c]
   · exact OpEv.good hF hlt hg h
 · rename_i k z hx
   split at h
   · refine Good.run hF hlt hg h.2 (efOK_pure rfl) (fun k hk => by simp [hk]) rfl (runOK_pure fun β a w hs => ?_)
     have e1 := gv_eval hs hx (fun k hk => by simp [hk])
     have e2 : k.wrap (-z) = -z := h.1.wrap
     simp [execOp, Op.unary, Op.intArith, e1, SV.c, e2]
   · exact OpEv.good hF hlt hg h
 · exact OpEv.good hF hlt hg h
theorem ev_convert {s d : TypeId} {x : Operand} (hF : Wd F) (hlt : ∀ k s, lk σ.t k = some s → k < σ.nt) (hg : Gd ops ⟨dst, .convert s d x, ty, pos, after, gd⟩ gs σ)
 (h : ev T ⟨dst, .convert s d x, ty, pos, after, gd⟩ gs σ K KF) : Good F n P ops ⟨dst, .convert s d x, ty, pos, after, gd⟩ σ K := by
 simp only [ev] at h
 split at h
 · rename_i v hx
   obtain ⟨v', h1, h2⟩ := h
   refine Good.run hF hlt hg h2 (efOK_pure rfl) (fun k hk => by simp [hk]) rfl (runOK_pure fun β a w hs => ?_)
   have e1 := gv_eval hs hx (fun k hk => by simp [hk])
   simp only [execOp, e1, SV.c, Sem.run_bind, h1 w, Result.andThen_ok, Sem.run_pure]
 · exact OpEv.good hF hlt hg h
theorem ev_binOp {op : BinOp} {t t' : TypeId} {x y : Operand} (hF : Wd F) (hlt : ∀ k s, lk σ.t k = some s → k < σ.nt) (hg : Gd ops ⟨dst, .binOp op t x y t', ty, pos, after, gd⟩ gs σ)
 (h : ev T ⟨dst, .binOp op t x y t', ty, pos, after, gd⟩ gs σ K KF) : Good F n P ops ⟨dst, .binOp op t x y t', ty, pos, after, gd⟩ σ K := by
 simp only [ev] at h
 split at h
 · rename_i k a k' b hx hy
   split at h
   · rename_i hk
     have hk := of_decide_eq_true hk
     subst hk
     obtain ⟨v, h1, h2⟩ := arithK_spec (P := P) t x y h
     refine Good.run hF hlt hg h1 (efOK_pure rfl) (fun k hk => by simp [hk]) rfl (runOK_pure fun β a' w hs => ?_)
     have e1 := gv_eval hs hx (fun k hk => by simp [hk])
     have e2 := gv_eval hs hy (fun k hk => by simp [hk])
     have e3 := h2 w
     simp only [execOp, e1, e2, SV.c]
     rw [Sem.run_bind, e3]
     rfl
   · exact OpEv.good hF hlt hg h
 · rename_i s1 s2 _ hx hy
   obtain ⟨v, h1, h2⟩ := h
   refine Good.run hF hlt hg h2 (efOK_pure rfl) (fun k hk => by simp [hk]) rfl (runOK_pure fun β a' w hs => ?_)
   have e1 := gv_eval hs hx (fun k hk => by simp [hk])
   have e2 := gv_eval hs hy (fun k hk => by simp [hk])
   have e3 := h1 β w
   simp only [execOp, e1, e2, SV.c]
   rw [Sem.run_bind, e3]
   rfl
 · exact OpEv.good hF hlt hg h
end
end Go.Proofs.YtkbfcofifhngfaaGreat.Tx
