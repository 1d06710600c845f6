/- The engine, part 1: symbolic values, blocks and states; what a state says of an act and a world; what one operation may do; the step. -/
import Derived.WalkKit
import Derived.WalkLawsBesides
import Derived.OrdersIn
import Derived.Laws.AppendOwn
namespace Go.Proofs.Ytlehjapeomallaa.Sx
open Go

/-- A symbolic value: a value, a pointer into an own block, a slice over one, a slice over an own row whose room is the number of the second name, a struct of such, a closure. -/
inductive SV where
  | v (x : Value)
  | ptr (i off : Nat)
  | sl (i off len cap : Nat)
  | os (i j n : Nat)
  | agg (l : List SV)
  | fn (f : Fn) (cap : List SV)
  | tup (l : List SV)

mutual
def SV.c (β : Nat → Nat) : SV → Value
  | .v x => x
  | .ptr i o => .pointer (some ⟨β i, o, none⟩)
  | .sl i o n k => .slice (some ⟨β i, o, none⟩) n k
  | .os i j n => .slice (some ⟨β i, 0, none⟩) n (β j)
  | .agg l => .agg (SV.cs β l).toArray
  | .fn f cap => .func f #[] (SV.cs β cap).toArray
  | .tup l => .tuple (SV.cs β l).toArray
def SV.cs (β : Nat → Nat) : List SV → List Value
  | [] => []
  | x :: r => SV.c β x :: SV.cs β r
end

mutual
/-- The numbers of own blocks in it are below n. -/
def SV.lt (n : Nat) : SV → Bool
  | .v _ => true
  | .ptr i _ => Nat.blt i n
  | .sl i _ _ _ => Nat.blt i n
  | .os i j _ => Nat.blt i n && Nat.blt j n
  | .agg l => SV.lts n l
  | .fn _ cap => SV.lts n cap
  | .tup l => SV.lts n l
def SV.lts (n : Nat) : List SV → Bool
  | [] => true
  | x :: r => SV.lt n x && SV.lts n r
end

def nin (i : Nat) : List Nat → Bool
  | [] => true
  | k :: r => !(Nat.beq i k) && nin i r
theorem nin_iff {i : Nat} {l : List Nat} : nin i l = true ↔ i ∉ l := by
  induction l with
  | nil => simp [nin]
  | cons k r ih =>
    simp only [nin, Bool.and_eq_true, ih, List.mem_cons, not_or, Bool.not_eq_true']
    refine and_congr ⟨fun h e => ?_, fun h => ?_⟩ Iff.rfl
    · subst e; simp at h
    · cases hb : Nat.beq i k with
      | false => rfl
      | true => exact absurd (Nat.eq_of_beq_eq_true hb) h

mutual
/-- No number of the list is named in it. -/
def SV.av (fr : List Nat) : SV → Bool
  | .v _ => true
  | .ptr i _ => nin i fr
  | .sl i _ _ _ => nin i fr
  | .os i j _ => nin i fr && nin j fr
  | .agg l => SV.avs fr l
  | .fn _ cap => SV.avs fr cap
  | .tup l => SV.avs fr l
def SV.avs (fr : List Nat) : List SV → Bool
  | [] => true
  | x :: r => SV.av fr x && SV.avs fr r
end

mutual
theorem SV.c_congr {β β' : Nat → Nat} {fr : List Nat} (h : ∀ i, i ∉ fr → β' i = β i) : ∀ s : SV, s.av fr = true → s.c β' = s.c β
  | .v _, _ => rfl
  | .ptr i o, hs => by simp only [SV.av, nin_iff] at hs; simp only [SV.c, h i hs]
  | .sl i _ _ _, hs => by simp only [SV.av, nin_iff] at hs; simp only [SV.c, h i hs]
  | .os i j _, hs => by simp only [SV.av, Bool.and_eq_true, nin_iff] at hs; simp only [SV.c, h i hs.1, h j hs.2]
  | .agg l, hs => by simp only [SV.av] at hs; simp only [SV.c, SV.cs_congr h l hs]
  | .fn _ cap, hs => by simp only [SV.av] at hs; simp only [SV.c, SV.cs_congr h cap hs]
  | .tup l, hs => by simp only [SV.av] at hs; simp only [SV.c, SV.cs_congr h l hs]
theorem SV.cs_congr {β β' : Nat → Nat} {fr : List Nat} (h : ∀ i, i ∉ fr → β' i = β i) : ∀ l : List SV, SV.avs fr l = true → SV.cs β' l = SV.cs β l
  | [], _ => rfl
  | x :: r, hs => by
    simp only [SV.avs, Bool.and_eq_true] at hs
    simp only [SV.cs, SV.c_congr h x hs.1, SV.cs_congr h r hs.2]
end

theorem SV.cs_eq (β : Nat → Nat) : ∀ l : List SV, SV.cs β l = l.map (SV.c β)
  | [] => rfl
  | x :: r => by simp only [SV.cs, List.map_cons, SV.cs_eq β r]

/-- What is known of an own block: nothing; all its cells; its first cells; the elements of a row that append may grow (its room's name, how many, an element's cells). -/
inductive Blk where
  | gone
  | cells (l : List SV) (ty : TypeId)
  | row (xs : List Value) (ty : TypeId)
  | own (j n sz : Nat) (xs : List Value) (ty : TypeId)

def Blk.live : Blk → Bool
  | .gone => false
  | _ => true

def Blk.ok (β : Nat → Nat) (w : World) (b : Nat) : Blk → Prop
  | .gone => True
  | .cells l ty => w.heap[b]? = some (.cells (SV.cs β l).toArray ty (0, 0))
  | .row xs ty => ∃ cur : Array Value, w.heap[b]? = some (.cells cur ty (0, 0)) ∧ ∀ (j : Nat) (x : Value), xs[j]? = some x → cur[j]? = some x
  | .own j n sz xs ty => w.ownsRow 0 ty sz (.slice (some ⟨b, 0, none⟩) n (β j)) n xs

def Blk.lt (n : Nat) : Blk → Bool
  | .cells l _ => SV.lts n l
  | .own j _ _ _ _ => Nat.blt j n
  | _ => true
def Blk.av (fr : List Nat) : Blk → Bool
  | .cells l _ => SV.avs fr l
  | .own j _ _ _ _ => nin j fr
  | _ => true

theorem Blk.ok_congr {β β' : Nat → Nat} {w w' : World} {b : Nat} {fr : List Nat} (h : ∀ i, i ∉ fr → β' i = β i) (k : Blk) (hk : k.av fr = true)
    (hw : k.live = true → w'.heap[b]? = w.heap[b]?) (ho : k.ok β w b) : k.ok β' w' b := by
  cases k with
  | gone => trivial
  | cells l ty =>
    simp only [Blk.ok] at *
    rw [hw rfl, SV.cs_congr h l hk]; exact ho
  | row xs ty =>
    obtain ⟨cur, h1, h2⟩ := ho
    exact ⟨cur, by rw [hw rfl]; exact h1, h2⟩
  | own j n sz xs ty =>
    simp only [Blk.av, nin_iff] at hk
    simp only [Blk.ok, h j hk] at *
    refine ⟨ho.1, ?_⟩
    rcases ho.2 with ⟨h0, _⟩ | ⟨g, cap, cur, h0, h1, h2, h3⟩
    · cases h0
    · have hg := h0
      simp only [Value.slice.injEq, Option.some.injEq, Addr.mk.injEq] at hg
      obtain ⟨⟨rfl, _⟩, _⟩ := hg
      exact .inr ⟨_, cap, cur, h0, h1, by rw [hw rfl]; exact h2, h3⟩

theorem Blk.ok_lt {β : Nat → Nat} {w : World} {b : Nat} {k : Blk} (hl : k.live = true) (ho : k.ok β w b) : b < w.heap.size := by
  cases k with
  | gone => cases hl
  | cells l ty => exact (Array.getElem?_eq_some_iff.1 ho).1
  | row xs ty => obtain ⟨cur, h1, _⟩ := ho; exact (Array.getElem?_eq_some_iff.1 h1).1
  | own j n sz xs ty => exact (World.ownsRow.lt ho b rfl).2

/-- The first entry under a number. -/
def lk {α : Type} : List (Nat × α) → Nat → Option α
  | [], _ => none
  | (k, x) :: r, i => bif Nat.beq i k then some x else lk r i

theorem lk_mem {α : Type} {l : List (Nat × α)} {i : Nat} {x : α} (h : lk l i = some x) : (i, x) ∈ l := by
  induction l with
  | nil => cases h
  | cons p r ih =>
    obtain ⟨k, y⟩ := p
    simp only [lk] at h
    cases hb : Nat.beq i k with
    | true =>
      simp only [hb, cond_true, Option.some.injEq] at h
      obtain rfl := Nat.eq_of_beq_eq_true hb
      subst h
      exact List.mem_cons_self
    | false =>
      simp only [hb, cond_false] at h
      exact List.mem_cons_of_mem _ (ih h)

theorem lk_append {α : Type} (l r : List (Nat × α)) (i : Nat) : lk (l ++ r) i = (lk l i).or (lk r i) := by
  induction l with
  | nil => simp [lk]
  | cons p l ih =>
    obtain ⟨k, y⟩ := p
    simp only [List.cons_append, lk]
    cases hb : Nat.beq i k <;> simp [ih]

theorem lk_isSome {α : Type} {l : List (Nat × α)} {i : Nat} {x : α} (h : (i, x) ∈ l) : ∃ y, lk l i = some y := by
  induction l with
  | nil => cases h
  | cons p r ih =>
    obtain ⟨k, y⟩ := p
    simp only [lk]
    cases hb : Nat.beq i k with
    | true => exact ⟨y, rfl⟩
    | false =>
      rcases List.mem_cons.1 h with h | h
      · simp only [Prod.mk.injEq] at h
        obtain ⟨rfl, _⟩ := h
        simp at hb
      · exact ih h

/-- A symbolic state: how many slots; what is known of them; what is known of own blocks; how many own blocks have a number; what is known of the rest of the world. -/
structure Sg where
  nt : Nat
  t : List (Nat × SV)
  m : List (Nat × Blk)
  nb : Nat
  h : World → Prop

/-- w' is w but for new blocks and the blocks of X. -/
structure Chg (X : Nat → Prop) (w w' : World) : Prop where
  os : w'.os = w.os
  tape : w'.tape = w.tape
  output : w'.output = w.output
  size : w.heap.size ≤ w'.heap.size
  same : ∀ b, b < w.heap.size → ¬ X b → w'.heap[b]? = w.heap[b]?

theorem Chg.refl (X : Nat → Prop) (w : World) : Chg X w w := ⟨rfl, rfl, rfl, Nat.le_refl _, fun _ _ _ => rfl⟩

structure Sat' (σ : Sg) (β : Nat → Nat) (D : Nat → Prop) (a : Act) (w : World) : Prop where
  defers : a.defers = []
  size : a.tmps.size = σ.nt
  t : ∀ k s, lk σ.t k = some s → a.tmps.getD k undef = s.c β
  m : ∀ i b, lk σ.m i = some b → b.ok β w (β i)
  inj : ∀ i j bi bj, lk σ.m i = some bi → lk σ.m j = some bj → bi.live = true → bj.live = true → i ≠ j → β i ≠ β j
  out : ∀ i b, lk σ.m i = some b → b.live = true → ¬ D (β i)
  dlt : ∀ b, D b → b < w.heap.size
  h : ∀ w', Chg (fun b => ¬ D b) w w' → σ.h w'

def Sat (σ : Sg) (a : Act) (w : World) : Prop := ∃ β D, Sat' σ β D a w

/-- What an operation does: its value; the numbers of the own blocks that it makes; what is known of blocks behind it; the slots that it looks at; the blocks that it looks at. -/
structure Ef where
  val : SV
  fr : List Nat
  mods : List (Nat × Blk)
  rs : List Nat
  rb : List Nat

def Ef.Liv (E : Ef) (i : Nat) : Prop := ∃ b, (i, b) ∈ E.mods ∧ b.live = true

structure EfPost (E : Ef) (β β' : Nat → Nat) (w w' : World) : Prop where
  agree : ∀ i, i ∉ E.fr → β' i = β i
  chg : Chg (fun b => ∃ i bk, (i, bk) ∈ E.mods ∧ i ∉ E.fr ∧ β i = b) w w'
  ok : ∀ i b, (i, b) ∈ E.mods → b.ok β' w' (β' i)
  new : ∀ i ∈ E.fr, E.Liv i → w.heap.size ≤ β' i ∨ ∃ j, (j, Blk.gone) ∈ E.mods ∧ j ∉ E.fr ∧ β' i = β j
  inj : ∀ i ∈ E.fr, ∀ j ∈ E.fr, E.Liv i → E.Liv j → i ≠ j → β' i ≠ β' j

def Sg.app (σ : Sg) (dst : Option Tmp) (E : Ef) : Sg :=
  { σ with t := (match dst with | some d => (d, E.val) :: σ.t | none => σ.t), m := E.mods ++ σ.m, nb := σ.nb + E.fr.length }

/-- The fresh numbers are named nowhere in the state. -/
structure Sg.Av (fr : List Nat) (σ : Sg) : Prop where
  t : ∀ k s, lk σ.t k = some s → s.av fr = true
  m : ∀ i b, lk σ.m i = some b → i ∉ fr ∧ b.av fr = true

/-- The old blocks that it changes are live; a block that is gone makes room for a new one; each number comes once. -/
structure Ef.Wf (E : Ef) (σ : Sg) : Prop where
  old : ∀ i b, (i, b) ∈ E.mods → i ∉ E.fr → ∃ bk, lk σ.m i = some bk ∧ bk.live = true
  once : ∀ i b b', (i, b) ∈ E.mods → (i, b') ∈ E.mods → b = b'

theorem Sat'.app {σ : Sg} {β β' : Nat → Nat} {D : Nat → Prop} {a : Act} {w w' : World} {dst : Option Tmp} {E : Ef} (hs : Sat' σ β D a w) (hav : σ.Av E.fr) (hwf : E.Wf σ)
    (hd : ∀ d, dst = some d → d < σ.nt) (hp : EfPost E β β' w w') : Sat' (σ.app dst E) β' D (a.put dst (E.val.c β')) w' := by
  have hkey : ∀ i b, lk (E.mods ++ σ.m) i = some b → (i, b) ∈ E.mods ∨ ((∀ b', (i, b') ∉ E.mods) ∧ lk σ.m i = some b) := by
    intro i b hl
    rw [lk_append] at hl
    cases hm : lk E.mods i with
    | some y =>
      rw [hm] at hl
      have hyb : y = b := Option.some.inj hl
      subst hyb
      exact .inl (lk_mem hm)
    | none =>
      rw [hm] at hl
      refine .inr ⟨fun b' hb' => ?_, by simpa using hl⟩
      obtain ⟨y, hy⟩ := lk_isSome hb'
      rw [hm] at hy; cases hy
  -- where a live block of the new state lies
  have hplace : ∀ i b, lk (E.mods ++ σ.m) i = some b → b.live = true →
      (i ∉ E.fr ∧ (∃ bk, lk σ.m i = some bk ∧ bk.live = true ∧ ((i, b) ∈ E.mods ∨ ∀ b', (i, b') ∉ E.mods)) ∧ β' i = β i) ∨
      (i ∈ E.fr ∧ E.Liv i ∧ (w.heap.size ≤ β' i ∨ ∃ j, (j, Blk.gone) ∈ E.mods ∧ j ∉ E.fr ∧ β' i = β j)) := by
    intro i b hl hlive
    by_cases hf : i ∈ E.fr
    · have hL : E.Liv i := by
        rcases hkey i b hl with hm | ⟨_, hl'⟩
        · exact ⟨b, hm, hlive⟩
        · exact absurd hf (hav.m i b hl').1
      exact .inr ⟨hf, hL, hp.new i hf hL⟩
    · refine .inl ⟨hf, ?_, hp.agree i hf⟩
      rcases hkey i b hl with hm | ⟨hm, hl'⟩
      · obtain ⟨bk, h1, h2⟩ := hwf.old i b hm hf
        exact ⟨bk, h1, h2, .inl hm⟩
      · exact ⟨b, hl', hlive, .inr hm⟩
  have holdlt : ∀ i b, lk σ.m i = some b → b.live = true → β i < w.heap.size := fun i b h1 h2 => Blk.ok_lt h2 (hs.m i b h1)
  constructor
  · cases dst <;> exact hs.defers
  · cases dst with
    | none => exact hs.size
    | some d => simp only [Act.put, Array.size_setIfInBounds]; exact hs.size
  · intro k s hk
    cases dst with
    | none =>
      have hk' : lk σ.t k = some s := hk
      show a.tmps.getD k undef = _
      rw [hs.t k s hk', SV.c_congr hp.agree s (hav.t k s hk')]
    | some d =>
      have hk : lk ((d, E.val) :: σ.t) k = some s := hk
      simp only [lk] at hk
      show (a.tmps.setIfInBounds d (E.val.c β')).getD k undef = _
      cases hb : Nat.beq k d with
      | true =>
        obtain rfl := Nat.eq_of_beq_eq_true hb
        simp only [hb, cond_true, Option.some.injEq] at hk
        subst hk
        have := hd k rfl
        rw [← hs.size] at this
        simp [this]
      | false =>
        simp only [hb, cond_false] at hk
        have hne : d ≠ k := fun e => by subst e; simp at hb
        rw [SV.c_congr hp.agree s (hav.t k s hk), ← hs.t k s hk]
        simp only [Array.getD_eq_getD_getElem?]
        rw [Array.getElem?_setIfInBounds_ne hne]
  · intro i b hl
    simp only [Sg.app] at hl
    rcases hkey i b hl with hm | ⟨hm, hl'⟩
    · exact hp.ok i b hm
    · obtain ⟨hif, hba⟩ := hav.m i b hl'
      rw [hp.agree i hif]
      refine Blk.ok_congr hp.agree b hba (fun hlive => ?_) (hs.m i b hl')
      refine hp.chg.same _ (holdlt i b hl' hlive) ?_
      rintro ⟨j, bk, hj, hjf, hjb⟩
      obtain ⟨bj, h1, h2⟩ := hwf.old j bk hj hjf
      have hne : j ≠ i := fun e => hm bk (e ▸ hj)
      exact hs.inj j i bj b h1 hl' h2 hlive hne hjb
  · intro i j bi bj hi hj hbi hbj hij
    simp only [Sg.app] at hi hj
    have one : ∀ i j bi bj, lk (E.mods ++ σ.m) i = some bi → lk (E.mods ++ σ.m) j = some bj → bi.live = true → bj.live = true → i ≠ j → i ∈ E.fr → j ∉ E.fr → β' i ≠ β' j := by
      intro i j bi bj hi hj hbi hbj hij hif hjf
      rcases hplace j bj hj hbj with ⟨_, ⟨bk, hk1, hk2, hk3⟩, he⟩ | ⟨hjf', _⟩
      · rw [he]
        rcases hplace i bi hi hbi with ⟨hif', _⟩ | ⟨_, _, hn⟩
        · exact absurd hif hif'
        rcases hn with hn | ⟨g, hg1, hg2, hg3⟩
        · have := holdlt j bk hk1 hk2
          omega
        · rw [hg3]
          obtain ⟨bg, h1, h2⟩ := hwf.old g _ hg1 hg2
          have hne : g ≠ j := by
            rintro rfl
            rcases hk3 with hk3 | hk3
            · have := hwf.once g _ _ hg1 hk3
              subst this
              cases hbj
            · exact hk3 _ hg1
          exact hs.inj g j bg bk h1 hk1 h2 hk2 hne
      · exact absurd hjf' hjf
    by_cases hif : i ∈ E.fr <;> by_cases hjf : j ∈ E.fr
    · rcases hplace i bi hi hbi with ⟨h, _⟩ | ⟨_, hLi, _⟩
      · exact absurd hif h
      · rcases hplace j bj hj hbj with ⟨h, _⟩ | ⟨_, hLj, _⟩
        · exact absurd hjf h
        · exact hp.inj i hif j hjf hLi hLj hij
    · exact one i j bi bj hi hj hbi hbj hij hif hjf
    · exact fun h => one j i bj bi hj hi hbj hbi (Ne.symm hij) hjf hif h.symm
    · rcases hplace i bi hi hbi with ⟨_, ⟨b1, h1, h2, _⟩, e1⟩ | ⟨h, _⟩
      · rcases hplace j bj hj hbj with ⟨_, ⟨b2, g1, g2, _⟩, e2⟩ | ⟨h, _⟩
        · rw [e1, e2]; exact hs.inj i j b1 b2 h1 g1 h2 g2 hij
        · exact absurd h hjf
      · exact absurd h hif
  · intro i b hl hlive
    simp only [Sg.app] at hl
    rcases hplace i b hl hlive with ⟨_, ⟨bk, h1, h2, _⟩, e⟩ | ⟨hif, _, hn⟩
    · rw [e]; exact hs.out i bk h1 h2
    · rcases hn with hn | ⟨g, hg1, hg2, hg3⟩
      · intro hD
        have := hs.dlt _ hD
        omega
      · rw [hg3]
        obtain ⟨bg, h1, h2⟩ := hwf.old g _ hg1 hg2
        exact hs.out g bg h1 h2
  · exact fun b hb => Nat.lt_of_lt_of_le (hs.dlt b hb) hp.chg.size
  · intro w2 hc
    refine hs.h w2 ⟨hc.os.trans hp.chg.os, hc.tape.trans hp.chg.tape, hc.output.trans hp.chg.output, Nat.le_trans hp.chg.size hc.size, fun b hb hnD => ?_⟩
    have hD : D b := Classical.byContradiction hnD
    rw [hc.same b (Nat.lt_of_lt_of_le hb hp.chg.size) (fun h => h hD)]
    refine hp.chg.same b hb ?_
    rintro ⟨j, bk, hj, hjf, hjb⟩
    obtain ⟨bj, h1, h2⟩ := hwf.old j bk hj hjf
    exact hs.out j bj h1 h2 (hjb ▸ hD)

end Go.Proofs.Ytlehjapeomallaa.Sx
