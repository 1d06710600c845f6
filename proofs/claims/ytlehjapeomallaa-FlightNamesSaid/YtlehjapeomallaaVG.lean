/- The law of proofs of windows answers true: what it says of the numbers handed in. -/
import Derived.Test.YtlehjapeomallaaVF
import Derived.Test.YtlehjapeomallaaVE
namespace Go.Proofs.Ytlehjapeomallaa.V
open Go Tx Go.RowKit
set_option linter.unusedSimpArgs false
set_option linter.unusedVariables false

/-- A callee whose result holds a row that it has made: the caller's own from here on. -/
theorem callO {P : Program} {σ : Sg} {k : Nat} {args : List SV} {rs : List Nat} {K : Ef → Prop} {KF : Option KT} (nb : Nat) (rb : List Nat) (V : SV) (n sz : Nat) (xs : List Value) (ty : TypeId)
    (hB : efB σ ⟨V, [nb, nb + 1], [(nb, .own (nb + 1) n sz xs ty)], [], rb⟩ = true)
    (h : ∀ β w, (∀ i ∈ rb, ∀ b, lk σ.m i = some b → b.ok β w (β i)) → σ.h w → Calls P k (SV.cs β args).toArray w fun e w' => ∃ b c, e = .returned (V.c fun i => bif Nat.beq i nb then b else bif Nat.beq i (nb + 1) then c else β i) ∧ w.heap.size ≤ b ∧ Below w.heap.size w w' ∧
      w'.ownsRow 0 ty sz (.slice (some ⟨b, 0, none⟩) n c) n xs)
    (hK : K ⟨V, [nb, nb + 1], [(nb, .own (nb + 1) n sz xs ty)], rs, rb⟩) : CallEv P σ k args (efB σ) rs K KF :=
  .mk ⟨V, [nb, nb + 1], [(nb, .own (nb + 1) n sz xs ty)], [], rb⟩ hB (fun β w h1 _ hh => (h β w h1 hh).mono fun e w' ⟨b, c, he, hb, hB, ho⟩ => by
    have e1 : Nat.beq nb nb = true := Nat.beq_refl nb
    have e2 : Nat.beq (nb + 1) nb = false := by
      cases hb : Nat.beq (nb + 1) nb with
      | false => rfl
      | true => have := Nat.eq_of_beq_eq_true hb; omega
    have e3 : Nat.beq (nb + 1) (nb + 1) = true := Nat.beq_refl _
    refine ⟨_, he, ?_, ⟨hB.os, hB.tape, hB.output, hB.size, fun i hi _ => hB.block i hi⟩, ?_, ?_, ?_⟩
    · intro i hi
      have h1 : ¬ i = nb := fun e => hi (by simp [e])
      have h2 : ¬ i = nb + 1 := fun e => hi (by simp [e])
      have f1 : Nat.beq i nb = false := by
        cases hb : Nat.beq i nb with
        | false => rfl
        | true => exact absurd (Nat.eq_of_beq_eq_true hb) h1
      have f2 : Nat.beq i (nb + 1) = false := by
        cases hb : Nat.beq i (nb + 1) with
        | false => rfl
        | true => exact absurd (Nat.eq_of_beq_eq_true hb) h2
      simp only [f1, f2, cond_false]
    · intro i bk hm
      simp only [List.mem_singleton, Prod.mk.injEq] at hm
      obtain ⟨rfl, rfl⟩ := hm
      simp only [Blk.ok, e1, e2, e3, cond_true, cond_false]
      exact ho
    · intro i hi hl
      obtain ⟨bk, hm, _⟩ := hl
      simp only [List.mem_singleton, Prod.mk.injEq] at hm
      obtain ⟨rfl, _⟩ := hm
      simp only [e1, cond_true]
      exact .inl hb
    · intro i hi j hj hl hl' hne
      obtain ⟨bk, hm, _⟩ := hl
      obtain ⟨bk', hm', _⟩ := hl'
      simp only [List.mem_singleton, Prod.mk.injEq] at hm hm'
      exact absurd (hm.1.trans hm'.1.symm) hne) hK


abbrev gs1 (g : Fg) (a : SV) : List SV := [.v (iv g.f.a.x.lo), .v (iv g.f.a.x.hi), .v (iv g.f.a.z.lo), .v (iv g.f.a.z.hi), .v (iv g.f.s.x.lo), .v (iv g.f.s.x.hi), .v (iv g.f.s.z.lo), .v (iv g.f.s.z.hi), .v (iv g.f.m), a, .v (iv g.re), .v (iv g.so), .v (iv g.be), .v (iv g.le), .v (iv g.mo)]
def flM (g : Fg) (L : List Bx) : List (Nat × Blk) := (0, .cells (gss g) 41) :: (1, .cells (ti54.zero.map .v) 54) :: (2, .cells (gs1 g (oSV 3 4 L)) 54) :: oM 3 4 4 Bx.cs 47 L

/-- `calls_fam`, with the places of own blocks told to be new. -/
theorem calls_fam2 {P : Program} (T : Env P) (hm : P.follows .mixedOrders = true) {k : Nat} {fn : Func} {c : Code} (hfn : P.funcs[k]? = some fn) (hb : fn.body = some c) {nt : Nat} (hnt : fn.ntmps = nt) (args : List Value)
    (hlen : args.length ≤ nt) {w : World} {R : Ending → World → Prop}
    (hvc : vc T c ⟨nt, slotsOf 0 (args.map .v), [], 0, Below w.heap.size w, z0⟩ (endΦ T fn fun s σ => (∀ w', σ.h w' → Below w.heap.size w w') ∧ ∀ β w', σ.h w' → Below w.heap.size w w' →
      (∀ i b, lk σ.m i = some b → b.live = true → w.heap.size ≤ β i ∧ b.ok β w' (β i)) → R (.returned (s.c β)) w')) :
    Calls P k args.toArray w R := by
  have h0 : Mem ⟨nt, slotsOf 0 (args.map .v), [], 0, Below w.heap.size w, z0⟩ (fun _ => 0) (fun b => b < w.heap.size) w :=
    ⟨fun i b h => (by simp [lk] at h), fun i j bi bj h => (by simp [lk] at h), fun i b h => (by simp [lk] at h), fun b h => h,
     fun w' hc => ⟨hc.os, hc.tape, hc.output, hc.size, fun b hb => hc.same b hb (fun h => h hb)⟩⟩
  have h1 := calls_vc T hm hfn hb hnt (args := args.map .v) (m0 := []) (nb0 := 0) (h := Below w.heap.size w) (by simpa using hlen) (lts_v _ _) (fun i b h => by simp [lk] at h) (fun k s h => by simp [z0, lk] at h) hvc cx0 (amb0 _ _ _) h0
  rw [cs_v] at h1
  refine h1.mono fun e w' ⟨s, σ', β', D', he, hv, _, _, hmem, _⟩ => ?_
  have hh := hmem.h w' (Chg.refl _ _)
  subst he
  exact hv.2 β' w' hh (hv.1 w' hh) fun i b hi hl => ⟨Nat.le_of_not_lt fun hlt => hmem.out i b hi hl (hmem.old hv.1 hlt), hmem.m i b hi⟩

set_option maxRecDepth 100000 in
theorem Flight_nil (g : Fg) (w : World) (hn : g.n = 0) : Calls Try.prog 25 #[g.v] w fun e w' => e = .returned (⟨g.f, none, 0, 0, g.re, g.so, g.be, g.le, g.mo⟩ : Fg).v ∧ Below w.heap.size w w' := by
  refine calls_val env mixed Try.func25 has25 Try.ntmps25 [g.v] (by simp) ?_
  repeat'
    conv => whnf
    first
      | refine And.intro (a := drawB _ = true) (by kernel_rfl) ?_
      | refine And.intro (a := (_ : Bool) = true) rfl ?_
      | refine And.intro (a := (_ : Bool) = true ∧ (_ : Bool) = true) ⟨rfl, rfl⟩ ?_
      | refine And.intro (a := (_ : Bool) = true ∧ (_ : List _) = []) ⟨rfl, rfl⟩ ?_
      | refine And.intro (a := IR _ _) (And.intro (by omega) (by omega)) ?_
      | refine wrapE (And.intro (by omega) (by omega)) ?_
      | refine And.intro (a := (0 : Int) ≤ _ ∧ _ < _) (And.intro (by omega) (by omega)) ?_
      | refine And.intro (a := (_ : Bool) = true) (by simp only [Nat.beq_refl]; rfl) ?_
      | refine And.intro (a := ((_ : Bool) = true → 1 ≤ _) ∧ _ ≤ 9223372036854775807 ∧ _ ≤ 140737488355328) ⟨fun h => (by first | omega | cases h), by omega, by omega⟩ ?_
      | refine splT ?_
      | refine splF ?_
      | refine splNot ?_
      | (refine splIn (fun hc => ?_) (fun hc => ?_) <;> first | (exfalso; omega) | (exfalso; dsimp only at hc; omega) | skip)
      | (refine splD (fun hc => ?_) (fun hc => ?_) <;> first | (exfalso; omega) | (exfalso; dsimp only at hc; omega) | skip)
      | (refine splE (fun hc => ?_) (fun hc => ?_) <;> first | (exfalso; omega) | (exfalso; dsimp only at hc; omega) | skip)
      | (refine splNE (fun hc => ?_) (fun hc => ?_) <;> first | (exfalso; omega) | (exfalso; dsimp only at hc; omega) | skip)
      | ((with_reducible show CallEv _ _ 34 _ _ _ _ _); refine callE (k := 34) (fun β w' hbw => Flyer_ok2 g.f _) ?_)
  refine loopE (fun _ : Unit => [(1, .ptr 0 0), (2, .ptr 1 0), (3, .ptr 2 0), (4, .v (iv 0))]) (fun _ => flM g []) (fun _ => True) (fun _ => 0) () trivial ⟨rfl, rfl, rfl, rfl, trivial⟩ ⟨rfl, rfl, rfl, trivial⟩ (fun _ => ⟨rfl, rfl⟩) ?_
  intro _ _
  repeat'
    conv => whnf
    first
      | refine And.intro (a := drawB _ = true) (by kernel_rfl) ?_
      | refine And.intro (a := (_ : Bool) = true) rfl ?_
      | refine And.intro (a := (_ : Bool) = true ∧ (_ : Bool) = true) ⟨rfl, rfl⟩ ?_
      | refine And.intro (a := (_ : Bool) = true ∧ (_ : List _) = []) ⟨rfl, rfl⟩ ?_
      | refine And.intro (a := IR _ _) (And.intro (by omega) (by omega)) ?_
      | refine wrapE (And.intro (by omega) (by omega)) ?_
      | refine And.intro (a := (0 : Int) ≤ _ ∧ _ < _) (And.intro (by omega) (by omega)) ?_
      | refine And.intro (a := (_ : Bool) = true) (by simp only [Nat.beq_refl]; rfl) ?_
      | refine And.intro (a := ((_ : Bool) = true → 1 ≤ _) ∧ _ ≤ 9223372036854775807 ∧ _ ≤ 140737488355328) ⟨fun h => (by first | omega | cases h), by omega, by omega⟩ ?_
      | refine splT ?_
      | refine splF ?_
      | refine splNot ?_
      | (refine splIn (fun hc => ?_) (fun hc => ?_) <;> first | (exfalso; omega) | (exfalso; dsimp only at hc; omega) | skip)
      | (refine splD (fun hc => ?_) (fun hc => ?_) <;> first | (exfalso; omega) | (exfalso; dsimp only at hc; omega) | skip)
      | (refine splE (fun hc => ?_) (fun hc => ?_) <;> first | (exfalso; omega) | (exfalso; dsimp only at hc; omega) | skip)
      | (refine splNE (fun hc => ?_) (fun hc => ?_) <;> first | (exfalso; omega) | (exfalso; dsimp only at hc; omega) | skip)
  exact ⟨fun β => rfl, fun w' h => h⟩

set_option maxRecDepth 100000 in
theorem Flight_own (g : Fg) (bs : List Bx) (w : World) (hrd : Rd 4 Bx.cs (.slice g.o g.n g.c) bs w) (hl : bs.length ≤ 1000000) (h0 : bs ≠ []) :
    Calls Try.prog 25 #[g.v] w fun e w' => ∃ b c, e = .returned (⟨g.f, some ⟨b, 0, none⟩, g.n, c, g.re, g.so, g.be, g.le, g.mo⟩ : Fg).v ∧ w.heap.size ≤ b ∧ Below w.heap.size w w' ∧ w'.ownsRow 0 47 4 (.slice (some ⟨b, 0, none⟩) g.n c) g.n (bs.flatMap Bx.cs) := by
  have hn : g.n = bs.length := hrd.len
  refine calls_fam2 env mixed Try.func25 has25 Try.ntmps25 [g.v] (by simp) ?_
  repeat'
    conv => whnf
    first
      | refine And.intro (a := drawB _ = true) (by kernel_rfl) ?_
      | refine And.intro (a := (_ : Bool) = true) rfl ?_
      | refine And.intro (a := (_ : Bool) = true ∧ (_ : Bool) = true) ⟨rfl, rfl⟩ ?_
      | refine And.intro (a := (_ : Bool) = true ∧ (_ : List _) = []) ⟨rfl, rfl⟩ ?_
      | refine And.intro (a := IR _ _) (And.intro (by omega) (by omega)) ?_
      | refine wrapE (And.intro (by omega) (by omega)) ?_
      | refine And.intro (a := (0 : Int) ≤ _ ∧ _ < _) (And.intro (by omega) (by omega)) ?_
      | refine And.intro (a := (_ : Bool) = true) (by simp only [Nat.beq_refl]; rfl) ?_
      | refine And.intro (a := ((_ : Bool) = true → 1 ≤ _) ∧ _ ≤ 9223372036854775807 ∧ _ ≤ 140737488355328) ⟨fun h => (by first | omega | cases h), by omega, by omega⟩ ?_
      | refine splT ?_
      | refine splF ?_
      | refine splNot ?_
      | (refine splIn (fun hc => ?_) (fun hc => ?_) <;> first | (exfalso; omega) | (exfalso; dsimp only at hc; omega) | skip)
      | (refine splD (fun hc => ?_) (fun hc => ?_) <;> first | (exfalso; omega) | (exfalso; dsimp only at hc; omega) | skip)
      | (refine splE (fun hc => ?_) (fun hc => ?_) <;> first | (exfalso; omega) | (exfalso; dsimp only at hc; omega) | skip)
      | (refine splNE (fun hc => ?_) (fun hc => ?_) <;> first | (exfalso; omega) | (exfalso; dsimp only at hc; omega) | skip)
      | ((with_reducible show CallEv _ _ 34 _ _ _ _ _); refine callE (k := 34) (fun β w' hbw => Flyer_ok2 g.f _) ?_)
  refine loopN 5 (fun k : Nat => [(1, .ptr 0 0), (2, .ptr 1 0), (3, .ptr 2 0), (4, .v (iv k))]) (fun k => flM g (bs.take k))
    (fun k => k ≤ bs.length) (fun k => bs.length - k) 0 (Nat.zero_le _) ⟨rfl, rfl, rfl, rfl, trivial⟩ ⟨rfl, rfl, rfl, trivial⟩ (fun k _ => by unfold flM; cases bs.take k <;> exact ⟨rfl, rfl⟩) ?_
  intro k hk
  have hlen : (bs.take k).length ≤ k := List.length_take_le _ _
  have hi : ((k + 1 : Nat) : Int) = (k : Int) + 1 := by omega
  rcases Nat.lt_or_ge k bs.length with hlt | hge
  · obtain ⟨b, hb⟩ : ∃ b, bs[k]? = some b := ⟨_, List.getElem?_eq_getElem hlt⟩
    obtain ⟨_, ad, ho, hc⟩ := hrd.some (by omega)
    have e1 : ∀ w', Below w.heap.size w w' → ∀ j v, (Bx.cs b)[j]? = some v → w'.cell? ((ad.add (((k : Int).toNat) * 4)).add j) = some v := fun w' hw' j v hv => by
      rw [Int.toNat_natCast]; exact ext_below hw' (hc _ _ hb j v hv)
    have ht : bs.take (k + 1) = bs.take k ++ [b] := by rw [List.take_add_one, hb]; rfl
    generalize bs.take k = L at *
    obtain ⟨gf, go, gn, gc, gre, gso, gbe, gle, gmo⟩ := g
    simp only at ho hn
    subst ho
    cases L with
    | nil =>
      repeat'
        conv => whnf
        first
          | refine And.intro (a := drawB _ = true) (by kernel_rfl) ?_
          | refine And.intro (a := (_ : Bool) = true) rfl ?_
          | refine And.intro (a := (_ : Bool) = true ∧ (_ : Bool) = true) ⟨rfl, rfl⟩ ?_
          | refine And.intro (a := (_ : Bool) = true ∧ (_ : List _) = []) ⟨rfl, rfl⟩ ?_
          | refine And.intro (a := IR _ _) (And.intro (by omega) (by omega)) ?_
          | refine wrapE (And.intro (by omega) (by omega)) ?_
          | refine And.intro (a := (0 : Int) ≤ _ ∧ _ < _) (And.intro (by omega) (by omega)) ?_
          | refine And.intro (a := (_ : Bool) = true) (by simp only [Nat.beq_refl]; rfl) ?_
          | refine And.intro (a := ((_ : Bool) = true → 1 ≤ _) ∧ _ ≤ 9223372036854775807 ∧ _ ≤ 140737488355328) ⟨fun h => (by first | omega | cases h), by omega, by omega⟩ ?_
          | refine splT ?_
          | refine splF ?_
          | refine splNot ?_
          | (refine splIn (fun hc => ?_) (fun hc => ?_) <;> first | (exfalso; omega) | (exfalso; dsimp only at hc; omega) | skip)
          | (refine splD (fun hc => ?_) (fun hc => ?_) <;> first | (exfalso; omega) | (exfalso; dsimp only at hc; omega) | skip)
          | (refine splE (fun hc => ?_) (fun hc => ?_) <;> first | (exfalso; omega) | (exfalso; dsimp only at hc; omega) | skip)
          | (refine splNE (fun hc => ?_) (fun hc => ?_) <;> first | (exfalso; omega) | (exfalso; dsimp only at hc; omega) | skip)
          | refine Exists.intro (α := List Value) (Bx.cs b) ⟨⟨rfl, e1⟩, ?_⟩
          | ((with_reducible show CallEv _ _ 44 _ _ _ _ _); refine callE (k := 44) (fun β w' hbw => Box_ok _ _ _ _ _) ?_)
      exact ⟨k + 1, by omega, by omega, Ent.ren (rho [(3, 6), (4, 7)]) rfl (by rw [ht]; rfl) ⟨rfl, rfl, rfl, by rw [hi]; rfl, trivial⟩ (by rw [ht]; exact ⟨rfl, rfl, rfl, rfl, trivial⟩) fun _ h => h⟩
    | cons a L =>
      simp only [List.length_cons] at hlen
      repeat'
        conv => whnf
        first
          | refine And.intro (a := drawB _ = true) (by kernel_rfl) ?_
          | refine And.intro (a := (_ : Bool) = true) rfl ?_
          | refine And.intro (a := (_ : Bool) = true ∧ (_ : Bool) = true) ⟨rfl, rfl⟩ ?_
          | refine And.intro (a := (_ : Bool) = true ∧ (_ : List _) = []) ⟨rfl, rfl⟩ ?_
          | refine And.intro (a := IR _ _) (And.intro (by omega) (by omega)) ?_
          | refine wrapE (And.intro (by omega) (by omega)) ?_
          | refine And.intro (a := (0 : Int) ≤ _ ∧ _ < _) (And.intro (by omega) (by omega)) ?_
          | refine And.intro (a := (_ : Bool) = true) (by simp only [Nat.beq_refl]; rfl) ?_
          | refine And.intro (a := ((_ : Bool) = true → 1 ≤ _) ∧ _ ≤ 9223372036854775807 ∧ _ ≤ 140737488355328) ⟨fun h => (by first | omega | cases h), by omega, by omega⟩ ?_
          | refine splT ?_
          | refine splF ?_
          | refine splNot ?_
          | (refine splIn (fun hc => ?_) (fun hc => ?_) <;> first | (exfalso; omega) | (exfalso; dsimp only at hc; omega) | skip)
          | (refine splD (fun hc => ?_) (fun hc => ?_) <;> first | (exfalso; omega) | (exfalso; dsimp only at hc; omega) | skip)
          | (refine splE (fun hc => ?_) (fun hc => ?_) <;> first | (exfalso; omega) | (exfalso; dsimp only at hc; omega) | skip)
          | (refine splNE (fun hc => ?_) (fun hc => ?_) <;> first | (exfalso; omega) | (exfalso; dsimp only at hc; omega) | skip)
          | refine Exists.intro (α := List Value) (Bx.cs b) ⟨⟨rfl, e1⟩, ?_⟩
          | ((with_reducible show CallEv _ _ 44 _ _ _ _ _); refine callE (k := 44) (fun β w' hbw => Box_ok _ _ _ _ _) ?_)
      exact ⟨k + 1, by omega, by omega, Ent.ren (rho [(3, 6), (4, 7)]) rfl (by rw [ht]; rfl) ⟨rfl, rfl, rfl, by rw [hi]; rfl, trivial⟩ (by rw [ht]; exact ⟨rfl, rfl, by simp [oSV]; rfl, by simp [oM]; rfl, trivial⟩) fun _ h => h⟩
  · have ht : bs.take k = bs := List.take_of_length_le hge
    rw [ht]
    clear ht hlen
    obtain ⟨gf, go, gn, gc, gre, gso, gbe, gle, gmo⟩ := g
    simp only at hn
    subst hn
    cases bs with
    | nil => exact absurd rfl h0
    | cons a L =>
      repeat'
        conv => whnf
        first
          | refine And.intro (a := drawB _ = true) (by kernel_rfl) ?_
          | refine And.intro (a := (_ : Bool) = true) rfl ?_
          | refine And.intro (a := (_ : Bool) = true ∧ (_ : Bool) = true) ⟨rfl, rfl⟩ ?_
          | refine And.intro (a := (_ : Bool) = true ∧ (_ : List _) = []) ⟨rfl, rfl⟩ ?_
          | refine And.intro (a := IR _ _) (And.intro (by omega) (by omega)) ?_
          | refine wrapE (And.intro (by omega) (by omega)) ?_
          | refine And.intro (a := (0 : Int) ≤ _ ∧ _ < _) (And.intro (by omega) (by omega)) ?_
          | refine And.intro (a := (_ : Bool) = true) (by simp only [Nat.beq_refl]; rfl) ?_
          | refine And.intro (a := ((_ : Bool) = true → 1 ≤ _) ∧ _ ≤ 9223372036854775807 ∧ _ ≤ 140737488355328) ⟨fun h => (by first | omega | cases h), by omega, by omega⟩ ?_
          | refine splT ?_
          | refine splF ?_
          | refine splNot ?_
          | (refine splIn (fun hc => ?_) (fun hc => ?_) <;> first | (exfalso; omega) | (exfalso; dsimp only at hc; omega) | skip)
          | (refine splD (fun hc => ?_) (fun hc => ?_) <;> first | (exfalso; omega) | (exfalso; dsimp only at hc; omega) | skip)
          | (refine splE (fun hc => ?_) (fun hc => ?_) <;> first | (exfalso; omega) | (exfalso; dsimp only at hc; omega) | skip)
          | (refine splNE (fun hc => ?_) (fun hc => ?_) <;> first | (exfalso; omega) | (exfalso; dsimp only at hc; omega) | skip)
      exact ⟨fun w' h => h, fun β w' hB hB2 hblk => ⟨β 3, β 4, rfl, (hblk 3 _ rfl rfl).1, hB2, (hblk 3 _ rfl rfl).2⟩⟩

end Go.Proofs.Ytlehjapeomallaa.V
