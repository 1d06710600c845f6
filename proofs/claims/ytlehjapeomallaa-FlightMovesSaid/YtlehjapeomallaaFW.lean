/- The law of moves answers true at every flight and number of ticks. -/
import Derived.Test.YtlehjapeomallaaFV
namespace Go.Proofs.Ytlehjapeomallaa
open Go Sx Go.RowKit
set_option linter.unusedSimpArgs false
set_option linter.unusedVariables false

/-- A callee whose result holds a row that it has made: the caller's own from here on. -/
theorem callO {P : Program} {σ : Sg} {k : Nat} {args : List SV} {rs : List Nat} {K : Ef → Prop} {KF : Option (Value → (World → Prop) → Prop)} (nb : Nat) (rb : List Nat) (V : SV) (n sz : Nat) (xs : List Value) (ty : TypeId)
    (hB : efB σ ⟨V, [nb, nb + 1], [(nb, .own (nb + 1) n sz xs ty)], [], rb⟩ = true)
    (h : ∀ β w, (∀ i ∈ rb, ∀ b, lk σ.m i = some b → b.ok β w (β i)) → σ.h w → Calls P k (SV.cs β args).toArray w fun e w' => ∃ b c, e = .returned (V.c fun i => bif Nat.beq i nb then b else bif Nat.beq i (nb + 1) then c else β i) ∧ w.heap.size ≤ b ∧ Below w.heap.size w w' ∧
      w'.ownsRow 0 ty sz (.slice (some ⟨b, 0, none⟩) n c) n xs)
    (hK : K ⟨V, [nb, nb + 1], [(nb, .own (nb + 1) n sz xs ty)], rs, rb⟩) : CallEv P σ k args (efB σ) rs K KF :=
  .mk ⟨V, [nb, nb + 1], [(nb, .own (nb + 1) n sz xs ty)], [], rb⟩ hB (fun β w h1 _ hh => (h β w h1 hh).mono fun e w' ⟨b, c, he, hb, hB, ho⟩ => by
    have e1 : Nat.beq nb nb = true := Nat.beq_refl nb
    have e2 : Nat.beq (nb + 1) nb = false := by
      cases hb : Nat.beq (nb + 1) nb with
      | false => rfl
      | true => have := Nat.eq_of_beq_eq_true hb; omega
    have e3 : Nat.beq (nb + 1) (nb + 1) = true := Nat.beq_refl _
    refine ⟨_, he, ?_, ⟨hB.os, hB.tape, hB.output, hB.size, fun i hi _ => hB.block i hi⟩, ?_, ?_, ?_⟩
    · intro i hi
      have h1 : ¬ i = nb := fun e => hi (by simp [e])
      have h2 : ¬ i = nb + 1 := fun e => hi (by simp [e])
      have f1 : Nat.beq i nb = false := by
        cases hb : Nat.beq i nb with
        | false => rfl
        | true => exact absurd (Nat.eq_of_beq_eq_true hb) h1
      have f2 : Nat.beq i (nb + 1) = false := by
        cases hb : Nat.beq i (nb + 1) with
        | false => rfl
        | true => exact absurd (Nat.eq_of_beq_eq_true hb) h2
      simp only [f1, f2, cond_false]
    · intro i bk hm
      simp only [List.mem_singleton, Prod.mk.injEq] at hm
      obtain ⟨rfl, rfl⟩ := hm
      simp only [Blk.ok, e1, e2, e3, cond_true, cond_false]
      exact ho
    · intro i hi hl
      obtain ⟨bk, hm, _⟩ := hl
      simp only [List.mem_singleton, Prod.mk.injEq] at hm
      obtain ⟨rfl, _⟩ := hm
      simp only [e1, cond_true]
      exact .inl hb
    · intro i hi j hj hl hl' hne
      obtain ⟨bk, hm, _⟩ := hl
      obtain ⟨bk', hm', _⟩ := hl'
      simp only [List.mem_singleton, Prod.mk.injEq] at hm hm'
      exact absurd (hm.1.trans hm'.1.symm) hne) hK

/-- `calls_fam`, with the places of own blocks told to be new. -/
theorem calls_fam2 {P : Program} (T : Env P) (hm : P.follows .mixedOrders = true) {k : Nat} {fn : Func} {c : Code} (hfn : P.funcs[k]? = some fn) (hb : fn.body = some c) {nt : Nat} (hnt : fn.ntmps = nt) (args : List Value)
    (hlen : args.length ≤ nt) {w : World} {R : Ending → World → Prop}
    (hvc : vc T c ⟨nt, slotsOf 0 (args.map .v), [], 0, Below w.heap.size w⟩ (endΦ T fn fun s σ => (∀ w', σ.h w' → Below w.heap.size w w') ∧ ∀ β w', σ.h w' → Below w.heap.size w w' →
      (∀ i b, lk σ.m i = some b → b.live = true → w.heap.size ≤ β i ∧ b.ok β w' (β i)) → R (.returned (s.c β)) w')) :
    Calls P k args.toArray w R := by
  have h0 : Mem ⟨nt, slotsOf 0 (args.map .v), [], 0, Below w.heap.size w⟩ (fun _ => 0) (fun b => b < w.heap.size) w :=
    ⟨fun i b h => (by simp [lk] at h), fun i j bi bj h => (by simp [lk] at h), fun i b h => (by simp [lk] at h), fun b h => h,
     fun w' hc => ⟨hc.os, hc.tape, hc.output, hc.size, fun b hb => hc.same b hb (fun h => h hb)⟩⟩
  have h1 := calls_vc T hm hfn hb hnt (args := args.map .v) (m0 := []) (nb0 := 0) (h := Below w.heap.size w) (by simpa using hlen) (lts_v _ _) (fun i b h => by simp [lk] at h) hvc h0
  rw [cs_v] at h1
  refine h1.mono fun e w' ⟨s, σ', β', D', he, hv, _, _, hmem⟩ => ?_
  have hh := hmem.h w' (Chg.refl _ _)
  subst he
  exact hv.2 β' w' hh (hv.1 w' hh) fun i b hi hl => ⟨Nat.le_of_not_lt fun hlt => hmem.out i b hi hl (hmem.old hv.1 hlt), hmem.m i b hi⟩

set_option maxRecDepth 100000 in
theorem Flight_nil (g : Fg) (w : World) (hn : g.n = 0) : Calls Try.prog 25 #[g.v] w fun e w' => e = .returned (⟨g.f, none, 0, 0, g.re, g.so, g.be, g.le, g.mo⟩ : Fg).v ∧ Below w.heap.size w w' := by
  refine calls_val env mixed Try.func25 has25 Try.ntmps25 [g.v] (by simp) ?_
  repeat'
    conv => whnf
    first
      | refine And.intro (a := drawB _ = true) (by kernel_rfl) ?_
      | refine And.intro (a := (_ : Bool) = true) rfl ?_
      | refine And.intro (a := (_ : Bool) = true ∧ (_ : Bool) = true) ⟨rfl, rfl⟩ ?_
      | refine And.intro (a := (_ : Bool) = true ∧ (_ : List _) = []) ⟨rfl, rfl⟩ ?_
      | refine And.intro (a := IR _ _) (And.intro (by omega) (by omega)) ?_
      | refine And.intro (a := (0 : Int) ≤ _ ∧ _ < _) (And.intro (by omega) (by omega)) ?_
      | refine And.intro (a := (_ : Bool) = true) (by simp only [Nat.beq_refl]; rfl) ?_
      | refine And.intro (a := ((_ : Bool) = true → 1 ≤ _) ∧ _ ≤ 9223372036854775807 ∧ _ ≤ 140737488355328) ⟨fun h => (by first | omega | cases h), by omega, by omega⟩ ?_
      | refine splT ?_
      | refine splF ?_
      | refine splNot ?_
      | (refine splIn (fun hc => ?_) (fun hc => ?_) <;> first | (exfalso; omega) | (exfalso; dsimp only at hc; omega) | skip)
      | (refine splD (fun hc => ?_) (fun hc => ?_) <;> first | (exfalso; omega) | (exfalso; dsimp only at hc; omega) | skip)
      | (refine splE (fun hc => ?_) (fun hc => ?_) <;> first | (exfalso; omega) | (exfalso; dsimp only at hc; omega) | skip)
      | (refine splNE (fun hc => ?_) (fun hc => ?_) <;> first | (exfalso; omega) | (exfalso; dsimp only at hc; omega) | skip)
      | ((with_reducible show CallEv _ _ 34 _ _ _ _ _); refine callE (k := 34) (fun β w' hbw => Flyer_ok2 g.f _) ?_)
  refine loopE (fun _ : Unit => [(1, .ptr 0 0), (2, .ptr 1 0), (3, .ptr 2 0), (4, .v (iv 0))]) (fun _ => flM g []) (fun _ => True) (fun _ => 0) () trivial ⟨rfl, rfl, rfl, rfl, trivial⟩ ⟨rfl, rfl, rfl, trivial⟩ (fun _ => ⟨rfl, rfl⟩) ?_
  intro _ _
  repeat'
    conv => whnf
    first
      | refine And.intro (a := drawB _ = true) (by kernel_rfl) ?_
      | refine And.intro (a := (_ : Bool) = true) rfl ?_
      | refine And.intro (a := (_ : Bool) = true ∧ (_ : Bool) = true) ⟨rfl, rfl⟩ ?_
      | refine And.intro (a := (_ : Bool) = true ∧ (_ : List _) = []) ⟨rfl, rfl⟩ ?_
      | refine And.intro (a := IR _ _) (And.intro (by omega) (by omega)) ?_
      | refine And.intro (a := (0 : Int) ≤ _ ∧ _ < _) (And.intro (by omega) (by omega)) ?_
      | refine And.intro (a := (_ : Bool) = true) (by simp only [Nat.beq_refl]; rfl) ?_
      | refine And.intro (a := ((_ : Bool) = true → 1 ≤ _) ∧ _ ≤ 9223372036854775807 ∧ _ ≤ 140737488355328) ⟨fun h => (by first | omega | cases h), by omega, by omega⟩ ?_
      | refine splT ?_
      | refine splF ?_
      | refine splNot ?_
      | (refine splIn (fun hc => ?_) (fun hc => ?_) <;> first | (exfalso; omega) | (exfalso; dsimp only at hc; omega) | skip)
      | (refine splD (fun hc => ?_) (fun hc => ?_) <;> first | (exfalso; omega) | (exfalso; dsimp only at hc; omega) | skip)
      | (refine splE (fun hc => ?_) (fun hc => ?_) <;> first | (exfalso; omega) | (exfalso; dsimp only at hc; omega) | skip)
      | (refine splNE (fun hc => ?_) (fun hc => ?_) <;> first | (exfalso; omega) | (exfalso; dsimp only at hc; omega) | skip)
  exact ⟨fun β => rfl, fun w' h => h⟩

set_option maxRecDepth 100000 in
theorem Flight_own (g : Fg) (bs : List Bx) (w : World) (hrd : Rd 4 Bx.cs (.slice g.o g.n g.c) bs w) (hl : bs.length ≤ 1000000) (h0 : bs ≠ []) :
    Calls Try.prog 25 #[g.v] w fun e w' => ∃ b c, e = .returned (⟨g.f, some ⟨b, 0, none⟩, g.n, c, g.re, g.so, g.be, g.le, g.mo⟩ : Fg).v ∧ w.heap.size ≤ b ∧ Below w.heap.size w w' ∧ w'.ownsRow 0 47 4 (.slice (some ⟨b, 0, none⟩) g.n c) g.n (bs.flatMap Bx.cs) := by
  have hn : g.n = bs.length := hrd.len
  refine calls_fam2 env mixed Try.func25 has25 Try.ntmps25 [g.v] (by simp) ?_
  repeat'
    conv => whnf
    first
      | refine And.intro (a := drawB _ = true) (by kernel_rfl) ?_
      | refine And.intro (a := (_ : Bool) = true) rfl ?_
      | refine And.intro (a := (_ : Bool) = true ∧ (_ : Bool) = true) ⟨rfl, rfl⟩ ?_
      | refine And.intro (a := (_ : Bool) = true ∧ (_ : List _) = []) ⟨rfl, rfl⟩ ?_
      | refine And.intro (a := IR _ _) (And.intro (by omega) (by omega)) ?_
      | refine And.intro (a := (0 : Int) ≤ _ ∧ _ < _) (And.intro (by omega) (by omega)) ?_
      | refine And.intro (a := (_ : Bool) = true) (by simp only [Nat.beq_refl]; rfl) ?_
      | refine And.intro (a := ((_ : Bool) = true → 1 ≤ _) ∧ _ ≤ 9223372036854775807 ∧ _ ≤ 140737488355328) ⟨fun h => (by first | omega | cases h), by omega, by omega⟩ ?_
      | refine splT ?_
      | refine splF ?_
      | refine splNot ?_
      | (refine splIn (fun hc => ?_) (fun hc => ?_) <;> first | (exfalso; omega) | (exfalso; dsimp only at hc; omega) | skip)
      | (refine splD (fun hc => ?_) (fun hc => ?_) <;> first | (exfalso; omega) | (exfalso; dsimp only at hc; omega) | skip)
      | (refine splE (fun hc => ?_) (fun hc => ?_) <;> first | (exfalso; omega) | (exfalso; dsimp only at hc; omega) | skip)
      | (refine splNE (fun hc => ?_) (fun hc => ?_) <;> first | (exfalso; omega) | (exfalso; dsimp only at hc; omega) | skip)
      | ((with_reducible show CallEv _ _ 34 _ _ _ _ _); refine callE (k := 34) (fun β w' hbw => Flyer_ok2 g.f _) ?_)
  refine loopN 5 (fun k : Nat => [(1, .ptr 0 0), (2, .ptr 1 0), (3, .ptr 2 0), (4, .v (iv k))]) (fun k => flM g (bs.take k))
    (fun k => k ≤ bs.length) (fun k => bs.length - k) 0 (Nat.zero_le _) ⟨rfl, rfl, rfl, rfl, trivial⟩ ⟨rfl, rfl, rfl, trivial⟩ (fun k _ => by unfold flM; cases bs.take k <;> exact ⟨rfl, rfl⟩) ?_
  intro k hk
  have hlen : (bs.take k).length ≤ k := List.length_take_le _ _
  have hi : ((k + 1 : Nat) : Int) = (k : Int) + 1 := by omega
  rcases Nat.lt_or_ge k bs.length with hlt | hge
  · obtain ⟨b, hb⟩ : ∃ b, bs[k]? = some b := ⟨_, List.getElem?_eq_getElem hlt⟩
    obtain ⟨_, ad, ho, hc⟩ := hrd.some (by omega)
    have e1 : ∀ w', Below w.heap.size w w' → ∀ j v, (Bx.cs b)[j]? = some v → w'.cell? ((ad.add (((k : Int).toNat) * 4)).add j) = some v := fun w' hw' j v hv => by
      rw [Int.toNat_natCast]; exact ext_below hw' (hc _ _ hb j v hv)
    have ht : bs.take (k + 1) = bs.take k ++ [b] := by rw [List.take_add_one, hb]; rfl
    generalize bs.take k = L at *
    obtain ⟨gf, go, gn, gc, gre, gso, gbe, gle, gmo⟩ := g
    simp only at ho hn
    subst ho
    cases L with
    | nil =>
      repeat'
        conv => whnf
        first
          | refine And.intro (a := drawB _ = true) (by kernel_rfl) ?_
          | refine And.intro (a := (_ : Bool) = true) rfl ?_
          | refine And.intro (a := (_ : Bool) = true ∧ (_ : Bool) = true) ⟨rfl, rfl⟩ ?_
          | refine And.intro (a := (_ : Bool) = true ∧ (_ : List _) = []) ⟨rfl, rfl⟩ ?_
          | refine And.intro (a := IR _ _) (And.intro (by omega) (by omega)) ?_
          | refine And.intro (a := (0 : Int) ≤ _ ∧ _ < _) (And.intro (by omega) (by omega)) ?_
          | refine And.intro (a := (_ : Bool) = true) (by simp only [Nat.beq_refl]; rfl) ?_
          | refine And.intro (a := ((_ : Bool) = true → 1 ≤ _) ∧ _ ≤ 9223372036854775807 ∧ _ ≤ 140737488355328) ⟨fun h => (by first | omega | cases h), by omega, by omega⟩ ?_
          | refine splT ?_
          | refine splF ?_
          | refine splNot ?_
          | (refine splIn (fun hc => ?_) (fun hc => ?_) <;> first | (exfalso; omega) | (exfalso; dsimp only at hc; omega) | skip)
          | (refine splD (fun hc => ?_) (fun hc => ?_) <;> first | (exfalso; omega) | (exfalso; dsimp only at hc; omega) | skip)
          | (refine splE (fun hc => ?_) (fun hc => ?_) <;> first | (exfalso; omega) | (exfalso; dsimp only at hc; omega) | skip)
          | (refine splNE (fun hc => ?_) (fun hc => ?_) <;> first | (exfalso; omega) | (exfalso; dsimp only at hc; omega) | skip)
          | refine Exists.intro (α := List Value) (Bx.cs b) ⟨⟨rfl, e1⟩, ?_⟩
          | ((with_reducible show CallEv _ _ 44 _ _ _ _ _); refine callE (k := 44) (fun β w' hbw => Box_ok _ _ _ _ _) ?_)
      exact ⟨k + 1, by omega, by omega, Ent.ren (rho [(3, 6), (4, 7)]) rfl (by rw [ht]; rfl) ⟨rfl, rfl, rfl, by rw [hi]; rfl, trivial⟩ (by rw [ht]; exact ⟨rfl, rfl, rfl, rfl, trivial⟩) fun _ h => h⟩
    | cons a L =>
      simp only [List.length_cons] at hlen
      repeat'
        conv => whnf
        first
          | refine And.intro (a := drawB _ = true) (by kernel_rfl) ?_
          | refine And.intro (a := (_ : Bool) = true) rfl ?_
          | refine And.intro (a := (_ : Bool) = true ∧ (_ : Bool) = true) ⟨rfl, rfl⟩ ?_
          | refine And.intro (a := (_ : Bool) = true ∧ (_ : List _) = []) ⟨rfl, rfl⟩ ?_
          | refine And.intro (a := IR _ _) (And.intro (by omega) (by omega)) ?_
          | refine And.intro (a := (0 : Int) ≤ _ ∧ _ < _) (And.intro (by omega) (by omega)) ?_
          | refine And.intro (a := (_ : Bool) = true) (by simp only [Nat.beq_refl]; rfl) ?_
          | refine And.intro (a := ((_ : Bool) = true → 1 ≤ _) ∧ _ ≤ 9223372036854775807 ∧ _ ≤ 140737488355328) ⟨fun h => (by first | omega | cases h), by omega, by omega⟩ ?_
          | refine splT ?_
          | refine splF ?_
          | refine splNot ?_
          | (refine splIn (fun hc => ?_) (fun hc => ?_) <;> first | (exfalso; omega) | (exfalso; dsimp only at hc; omega) | skip)
          | (refine splD (fun hc => ?_) (fun hc => ?_) <;> first | (exfalso; omega) | (exfalso; dsimp only at hc; omega) | skip)
          | (refine splE (fun hc => ?_) (fun hc => ?_) <;> first | (exfalso; omega) | (exfalso; dsimp only at hc; omega) | skip)
          | (refine splNE (fun hc => ?_) (fun hc => ?_) <;> first | (exfalso; omega) | (exfalso; dsimp only at hc; omega) | skip)
          | refine Exists.intro (α := List Value) (Bx.cs b) ⟨⟨rfl, e1⟩, ?_⟩
          | ((with_reducible show CallEv _ _ 44 _ _ _ _ _); refine callE (k := 44) (fun β w' hbw => Box_ok _ _ _ _ _) ?_)
      exact ⟨k + 1, by omega, by omega, Ent.ren (rho [(3, 6), (4, 7)]) rfl (by rw [ht]; rfl) ⟨rfl, rfl, rfl, by rw [hi]; rfl, trivial⟩ (by rw [ht]; exact ⟨rfl, rfl, by simp [oSV]; rfl, by simp [oM]; rfl, trivial⟩) fun _ h => h⟩
  · have ht : bs.take k = bs := List.take_of_length_le hge
    rw [ht]
    clear ht hlen
    obtain ⟨gf, go, gn, gc, gre, gso, gbe, gle, gmo⟩ := g
    simp only at hn
    subst hn
    cases bs with
    | nil => exact absurd rfl h0
    | cons a L =>
      repeat'
        conv => whnf
        first
          | refine And.intro (a := drawB _ = true) (by kernel_rfl) ?_
          | refine And.intro (a := (_ : Bool) = true) rfl ?_
          | refine And.intro (a := (_ : Bool) = true ∧ (_ : Bool) = true) ⟨rfl, rfl⟩ ?_
          | refine And.intro (a := (_ : Bool) = true ∧ (_ : List _) = []) ⟨rfl, rfl⟩ ?_
          | refine And.intro (a := IR _ _) (And.intro (by omega) (by omega)) ?_
          | refine And.intro (a := (0 : Int) ≤ _ ∧ _ < _) (And.intro (by omega) (by omega)) ?_
          | refine And.intro (a := (_ : Bool) = true) (by simp only [Nat.beq_refl]; rfl) ?_
          | refine And.intro (a := ((_ : Bool) = true → 1 ≤ _) ∧ _ ≤ 9223372036854775807 ∧ _ ≤ 140737488355328) ⟨fun h => (by first | omega | cases h), by omega, by omega⟩ ?_
          | refine splT ?_
          | refine splF ?_
          | refine splNot ?_
          | (refine splIn (fun hc => ?_) (fun hc => ?_) <;> first | (exfalso; omega) | (exfalso; dsimp only at hc; omega) | skip)
          | (refine splD (fun hc => ?_) (fun hc => ?_) <;> first | (exfalso; omega) | (exfalso; dsimp only at hc; omega) | skip)
          | (refine splE (fun hc => ?_) (fun hc => ?_) <;> first | (exfalso; omega) | (exfalso; dsimp only at hc; omega) | skip)
          | (refine splNE (fun hc => ?_) (fun hc => ?_) <;> first | (exfalso; omega) | (exfalso; dsimp only at hc; omega) | skip)
      exact ⟨fun w' h => h, fun β w' hB hB2 hblk => ⟨β 3, β 4, rfl, (hblk 3 _ rfl rfl).1, hB2, (hblk 3 _ rfl rfl).2⟩⟩

theorem Bx.eqB_self (b : Bx) : b.eqB b = true := by simp [Bx.eqB, Rg.eqB]
theorem eqlE47s {a : Bx} {x y : Operand} {K : Value → Prop} (h : K (.bool true)) : ∃ v, (∀ _ : Nat → Nat, RunIs Try.prog (do eqGuard .eql 47 x y a.v a.v; binOp .eql 47 a.v a.v) v) ∧ K v := eqlE47 (by rw [Bx.eqB_self]; exact h)

set_option maxHeartbeats 2000000 in
set_option maxRecDepth 100000 in
theorem FlightMoves_ok (g : Fg) (bs : List Bx) (t : Int) (w : World) (hrd : Rd 4 Bx.cs (.slice g.o g.n g.c) bs w) :
    Calls Try.prog 11 #[g.v, iv t] w fun e w' => e = .returned (.bool true) ∧ Below w.heap.size w w' := by
  have hn : g.n = bs.length := hrd.len
  refine calls_val env mixed Try.func11 has11 Try.ntmps11 [g.v, iv t] (by simp) ?_
  by_cases hfew : (g.n : Int) ≤ 700
  case neg =>
    repeat'
      conv => whnf
      first
        | refine And.intro (a := drawB _ = true) (by kernel_rfl) ?_
        | refine And.intro (a := (_ : Bool) = true) rfl ?_
        | refine And.intro (a := (_ : Bool) = true ∧ (_ : Bool) = true) ⟨rfl, rfl⟩ ?_
        | refine And.intro (a := (_ : Bool) = true ∧ (_ : List _) = []) ⟨rfl, rfl⟩ ?_
        | refine And.intro (a := IR _ _) (And.intro (by omega) (by omega)) ?_
        | refine And.intro (a := (0 : Int) ≤ _ ∧ _ < _) (And.intro (by omega) (by omega)) ?_
        | refine And.intro (a := (_ : Bool) = true) (by simp only [Nat.beq_refl]; rfl) ?_
        | refine And.intro (a := ((_ : Bool) = true → 1 ≤ _) ∧ _ ≤ 9223372036854775807 ∧ _ ≤ 140737488355328) ⟨fun h => (by first | omega | cases h), by omega, by omega⟩ ?_
        | refine splT ?_
        | refine splF ?_
        | refine splNot ?_
        | (refine splIn (fun hc => ?_) (fun hc => ?_) <;> first | (exfalso; omega) | (exfalso; dsimp only at hc; omega) | skip)
        | (refine splD (fun hc => ?_) (fun hc => ?_) <;> first | (exfalso; omega) | (exfalso; dsimp only at hc; omega) | skip)
        | (refine splE (fun hc => ?_) (fun hc => ?_) <;> first | (exfalso; omega) | (exfalso; dsimp only at hc; omega) | skip)
        | (refine splNE (fun hc => ?_) (fun hc => ?_) <;> first | (exfalso; omega) | (exfalso; dsimp only at hc; omega) | skip)
        | ((with_reducible show CallEv _ _ 23 _ _ _ _ _); refine callE (k := 23) (fun β w' hbw => few_ok g _) ?_)
        | ((with_reducible show CallEv _ _ 20 _ _ _ _ _); refine callE (k := 20) (fun β w' hbw => wakes_ok _) ?_)
    exact ⟨fun β => rfl, fun w' h => h⟩
  have hl : bs.length ≤ 1000000 := by omega
  have hA := fun w' => After_ok g.f t w'
  have hRF := fun w' => RightFlyer_ok g.f w'
  have hR : ∀ w', Below w.heap.size w w' → Calls Try.prog 26 #[g.v] w' fun e w'' => e = .returned (.bool (g.ok bs)) ∧ Below w'.heap.size w' w'' := fun w' hb => Right_ok g bs w' (hrd.below hb) hl
  have hL : ∀ (g' : Fg) w', g'.f = g.f → g'.n = g.n → g'.re = g.re → g'.so = g.so → g'.be = g.be → g'.le = g.le → g'.mo = g.mo → Rd 4 Bx.cs (.slice g'.o g'.n g'.c) bs w' → Calls Try.prog 42 #[g'.v, iv t] w' fun e w'' => e = .returned (.tuple #[iv (if g.ok bs = true ∧ (0 ≤ t ∧ t ≤ 300) then ldF g.f g.so t else 0), iv (if g.ok bs = true then (if 0 ≤ t ∧ t ≤ 300 then 0 else 2) else 1)]) ∧ Below w'.heap.size w' w'' := fun g' w' h1 h2 h3 h4 h5 h6 h7 h => by
    have := Load_ok g' bs t w' h hl
    rwa [show g'.ok bs = g.ok bs from by unfold Fg.ok; rw [h1, h2, h3, h4, h5, h6, h7], h1, h4] at this
  have hC : ∀ (g' : Fg) w', g'.f = g.f → g'.n = g.n → g'.re = g.re → g'.so = g.so → g'.be = g.be → g'.le = g.le → g'.mo = g.mo → Rd 4 Bx.cs (.slice g'.o g'.n g'.c) bs w' → Calls Try.prog 43 #[g'.v] w' fun e w'' => e = .returned (iv (if g.ok bs = true then 0 else 1)) ∧ Below w'.heap.size w' w'' := fun g' w' h1 h2 h3 h4 h5 h6 h7 h => by
    have := Check_ok g' bs w' h hl
    rwa [show g'.ok bs = g.ok bs from by unfold Fg.ok; rw [h1, h2, h3, h4, h5, h6, h7]] at this
  have hgf : g.ok bs = true → g.f.ok = true := fun h => (Fg.ok_iff.1 h).1
  have hso : g.ok bs = true → 1 ≤ g.so ∧ g.so ≤ 100 := fun h => (Fg.ok_iff.1 h).2.2.2.2.1
  by_cases hne : bs = []
  case pos =>
    subst hne
    have hg : g.ok [] = false := by unfold Fg.ok inB; simp [hn]
    rcases Bool.eq_false_or_eq_true g.f.ok with hf | hf <;> by_cases hin : 0 ≤ t ∧ t ≤ 300 <;> simp only [hf, hin, hg, true_and, and_true, and_self, if_true, if_false, Bool.false_eq_true, false_and, and_false] at hA hL hC hRF hR
    all_goals skip
    repeat'
      conv => whnf
      first
        | refine And.intro (a := drawB _ = true) (by kernel_rfl) ?_
        | refine And.intro (a := (_ : Bool) = true) rfl ?_
        | refine And.intro (a := (_ : Bool) = true ∧ (_ : Bool) = true) ⟨rfl, rfl⟩ ?_
        | refine And.intro (a := (_ : Bool) = true ∧ (_ : List _) = []) ⟨rfl, rfl⟩ ?_
        | refine And.intro (a := IR _ _) (And.intro (by omega) (by omega)) ?_
        | refine And.intro (a := (0 : Int) ≤ _ ∧ _ < _) (And.intro (by omega) (by omega)) ?_
        | refine And.intro (a := (_ : Bool) = true) (by simp only [Nat.beq_refl]; rfl) ?_
        | refine And.intro (a := ((_ : Bool) = true → 1 ≤ _) ∧ _ ≤ 9223372036854775807 ∧ _ ≤ 140737488355328) ⟨fun h => (by first | omega | cases h), by omega, by omega⟩ ?_
        | refine splT ?_
        | refine splF ?_
        | refine splNot ?_
        | (refine splIn (fun hc => ?_) (fun hc => ?_) <;> first | (exfalso; omega) | (exfalso; dsimp only at hc; omega) | skip)
        | (refine splD (fun hc => ?_) (fun hc => ?_) <;> first | (exfalso; omega) | (exfalso; dsimp only at hc; omega) | skip)
        | (refine splE (fun hc => ?_) (fun hc => ?_) <;> first | (exfalso; omega) | (exfalso; dsimp only at hc; omega) | skip)
        | (refine splNE (fun hc => ?_) (fun hc => ?_) <;> first | (exfalso; omega) | (exfalso; dsimp only at hc; omega) | skip)
        | ((with_reducible show CallEv _ _ 23 _ _ _ _ _); refine callE (k := 23) (fun β w' hbw => few_ok g _) ?_)
        | ((with_reducible show CallEv _ _ 34 _ _ _ _ _); refine callE (k := 34) (fun β w' hbw => Flyer_ok g.f _) ?_)
        | ((with_reducible show CallEv _ _ 41 _ _ _ _ _); refine callE (k := 41) (fun β w' hbw => hA _) ?_)
        | ((with_reducible show CallEv _ _ 25 _ _ _ _ _); refine callE (k := 25) (fun β w' hbw => Flight_nil g _ hn) ?_)
        | ((with_reducible show CallEv _ _ 42 _ _ _ _ _); refine callE (k := 42) (fun β w' hbw => hL ⟨g.f, none, 0, 0, g.re, g.so, g.be, g.le, g.mo⟩ w' rfl hn.symm rfl rfl rfl rfl rfl (.inl ⟨rfl, rfl⟩)) ?_)
        | ((with_reducible show CallEv _ _ 43 _ _ _ _ _); refine callE (k := 43) (fun β w' hbw => hC ⟨g.f, none, 0, 0, g.re, g.so, g.be, g.le, g.mo⟩ w' rfl hn.symm rfl rfl rfl rfl rfl (.inl ⟨rfl, rfl⟩)) ?_)
        | ((with_reducible show CallEv _ _ 19 _ _ _ _ _); refine callE (k := 19) (fun β w' hbw => In_ok _ _ _ _) ?_)
        | ((with_reducible show CallEv _ _ 37 _ _ _ _ _); refine callE (k := 37) (fun β w' hbw => hRF _) ?_)
        | ((with_reducible show CallEv _ _ 26 _ _ _ _ _); refine callE (k := 26) (fun β w' hbw => hR _ (by first | exact hbw | exact hbw.1 | exact hbw.1.1 | exact hbw.1.1.1 | exact hbw.1.1.1.1 | exact hbw.1.1.1.1.1 | exact hbw.1.1.1.1.1.1 | exact hbw.1.1.1.1.1.1.1)) ?_)
        | ((with_reducible show CallEv _ _ 45 _ _ _ _ _); refine callE (k := 45) (fun β w' hbw => Rafter_ok g.f t _ (by assumption) (by omega) (by omega)) ?_)
        | ((with_reducible show CallEv _ _ 44 _ _ _ _ _); refine callE (k := 44) (fun β w' hbw => Box_ok _ _ _ _ _) ?_)
        | ((with_reducible show CallEv _ _ 46 _ _ _ _ _); refine callE (k := 46) (fun β w' hbw => Rload_ok g t _ (by assumption) (hso (by assumption)) (by omega) (by omega)) ?_)
        | ((with_reducible show CallEv _ _ 20 _ _ _ _ _); refine callE (k := 20) (fun β w' hbw => wakes_ok _) ?_)
        | refine eqlE47s (a := g.f.af t) ?_
        | refine neqE47 (a := ⟨⟨_, _⟩, ⟨_, _⟩⟩) (b := ⟨⟨_, _⟩, ⟨_, _⟩⟩) ?_
        | refine neqEB ?_
    all_goals first | exact ⟨fun β => rfl, fun w' h => h⟩ | skip
  case neg =>
    rcases Bool.eq_false_or_eq_true (g.ok bs) with hg | hg <;> rcases Bool.eq_false_or_eq_true g.f.ok with hf | hf <;> by_cases hin : 0 ≤ t ∧ t ≤ 300 <;> simp only [hf, hin, hg, true_and, and_true, and_self, if_true, if_false, Bool.false_eq_true, false_and, and_false] at hA hL hC hRF hR
    repeat'
      conv => whnf
      first
        | refine And.intro (a := drawB _ = true) (by kernel_rfl) ?_
        | refine And.intro (a := (_ : Bool) = true) rfl ?_
        | refine And.intro (a := (_ : Bool) = true ∧ (_ : Bool) = true) ⟨rfl, rfl⟩ ?_
        | refine And.intro (a := (_ : Bool) = true ∧ (_ : List _) = []) ⟨rfl, rfl⟩ ?_
        | refine And.intro (a := IR _ _) (And.intro (by omega) (by omega)) ?_
        | refine And.intro (a := (0 : Int) ≤ _ ∧ _ < _) (And.intro (by omega) (by omega)) ?_
        | refine And.intro (a := (_ : Bool) = true) (by simp only [Nat.beq_refl]; rfl) ?_
        | refine And.intro (a := ((_ : Bool) = true → 1 ≤ _) ∧ _ ≤ 9223372036854775807 ∧ _ ≤ 140737488355328) ⟨fun h => (by first | omega | cases h), by omega, by omega⟩ ?_
        | refine splT ?_
        | refine splF ?_
        | refine splNot ?_
        | (refine splIn (fun hc => ?_) (fun hc => ?_) <;> first | (exfalso; omega) | (exfalso; dsimp only at hc; omega) | skip)
        | (refine splD (fun hc => ?_) (fun hc => ?_) <;> first | (exfalso; omega) | (exfalso; dsimp only at hc; omega) | skip)
        | (refine splE (fun hc => ?_) (fun hc => ?_) <;> first | (exfalso; omega) | (exfalso; dsimp only at hc; omega) | skip)
        | (refine splNE (fun hc => ?_) (fun hc => ?_) <;> first | (exfalso; omega) | (exfalso; dsimp only at hc; omega) | skip)
        | ((with_reducible show CallEv _ _ 23 _ _ _ _ _); refine callE (k := 23) (fun β w' hbw => few_ok g _) ?_)
        | ((with_reducible show CallEv _ _ 34 _ _ _ _ _); refine callE (k := 34) (fun β w' hbw => Flyer_ok g.f _) ?_)
        | ((with_reducible show CallEv _ _ 41 _ _ _ _ _); refine callE (k := 41) (fun β w' hbw => hA _) ?_)
        | ((with_reducible show CallEv _ _ 25 _ _ _ _ _); refine callO 2 [] (.agg (g.s1 (.os 2 3 g.n))) g.n 4 (bs.flatMap Bx.cs) 47 rfl (fun β w' _ hbw => (Flight_own g bs w' (hrd.below (by first | exact hbw | exact hbw.1 | exact hbw.1.1 | exact hbw.1.1.1 | exact hbw.1.1.1.1 | exact hbw.1.1.1.1.1 | exact hbw.1.1.1.1.1.1 | exact hbw.1.1.1.1.1.1.1)) hl hne).mono fun _ _ ⟨b, c, h1, h2, h3, h4⟩ => ⟨b, c, h1, h2, h3, h4⟩) ?_)
        | ((with_reducible show CallEv _ _ 25 _ _ _ _ _); refine callO 4 [] (.agg (g.s1 (.os 4 5 g.n))) g.n 4 (bs.flatMap Bx.cs) 47 rfl (fun β w' _ hbw => (Flight_own g bs w' (hrd.below (by first | exact hbw | exact hbw.1 | exact hbw.1.1 | exact hbw.1.1.1 | exact hbw.1.1.1.1 | exact hbw.1.1.1.1.1 | exact hbw.1.1.1.1.1.1 | exact hbw.1.1.1.1.1.1.1)) hl hne).mono fun _ _ ⟨b, c, h1, h2, h3, h4⟩ => ⟨b, c, h1, h2, h3, h4⟩) ?_)
        | ((with_reducible show CallEv _ _ 25 _ _ _ _ _); refine callO 6 [] (.agg (g.s1 (.os 6 7 g.n))) g.n 4 (bs.flatMap Bx.cs) 47 rfl (fun β w' _ hbw => (Flight_own g bs w' (hrd.below (by first | exact hbw | exact hbw.1 | exact hbw.1.1 | exact hbw.1.1.1 | exact hbw.1.1.1.1 | exact hbw.1.1.1.1.1 | exact hbw.1.1.1.1.1.1 | exact hbw.1.1.1.1.1.1.1)) hl hne).mono fun _ _ ⟨b, c, h1, h2, h3, h4⟩ => ⟨b, c, h1, h2, h3, h4⟩) ?_)
        | ((with_reducible show CallEv _ _ 42 _ _ _ _ _); refine callM (k := 42) [2] (fun β w' hbk hbw => hL ⟨g.f, some ⟨β 2, 0, none⟩, g.n, β 3, g.re, g.so, g.be, g.le, g.mo⟩ w' rfl rfl rfl rfl rfl rfl rfl (Rd.of_owns (sz := 4) (f := Bx.cs) (fun _ => rfl) rfl hn (hbk 2 (by simp) _ rfl))) ?_)
        | ((with_reducible show CallEv _ _ 43 [.agg [_, _, _, _, _, _, _, _, _, .os 4 _ _, _, _, _, _, _]] _ _ _ _); refine callM (k := 43) [4] (fun β w' hbk hbw => hC ⟨g.f, some ⟨β 4, 0, none⟩, g.n, β 5, g.re, g.so, g.be, g.le, g.mo⟩ w' rfl rfl rfl rfl rfl rfl rfl (Rd.of_owns (sz := 4) (f := Bx.cs) (fun _ => rfl) rfl hn (hbk 4 (by simp) _ rfl))) ?_)
        | ((with_reducible show CallEv _ _ 43 [.agg [_, _, _, _, _, _, _, _, _, .os 6 _ _, _, _, _, _, _]] _ _ _ _); refine callM (k := 43) [6] (fun β w' hbk hbw => hC ⟨g.f, some ⟨β 6, 0, none⟩, g.n, β 7, g.re, g.so, g.be, g.le, g.mo⟩ w' rfl rfl rfl rfl rfl rfl rfl (Rd.of_owns (sz := 4) (f := Bx.cs) (fun _ => rfl) rfl hn (hbk 6 (by simp) _ rfl))) ?_)
        | ((with_reducible show CallEv _ _ 19 _ _ _ _ _); refine callE (k := 19) (fun β w' hbw => In_ok _ _ _ _) ?_)
        | ((with_reducible show CallEv _ _ 37 _ _ _ _ _); refine callE (k := 37) (fun β w' hbw => hRF _) ?_)
        | ((with_reducible show CallEv _ _ 26 _ _ _ _ _); refine callE (k := 26) (fun β w' hbw => hR _ (by first | exact hbw | exact hbw.1 | exact hbw.1.1 | exact hbw.1.1.1 | exact hbw.1.1.1.1 | exact hbw.1.1.1.1.1 | exact hbw.1.1.1.1.1.1 | exact hbw.1.1.1.1.1.1.1)) ?_)
        | ((with_reducible show CallEv _ _ 45 _ _ _ _ _); refine callE (k := 45) (fun β w' hbw => Rafter_ok g.f t _ (by assumption) (by omega) (by omega)) ?_)
        | ((with_reducible show CallEv _ _ 44 _ _ _ _ _); refine callE (k := 44) (fun β w' hbw => Box_ok _ _ _ _ _) ?_)
        | ((with_reducible show CallEv _ _ 46 _ _ _ _ _); refine callE (k := 46) (fun β w' hbw => Rload_ok g t _ (by assumption) (hso (by assumption)) (by omega) (by omega)) ?_)
        | ((with_reducible show CallEv _ _ 20 _ _ _ _ _); refine callE (k := 20) (fun β w' hbw => wakes_ok _) ?_)
        | refine eqlE47s (a := g.f.af t) ?_
        | refine neqE47 (a := ⟨⟨_, _⟩, ⟨_, _⟩⟩) (b := ⟨⟨_, _⟩, ⟨_, _⟩⟩) ?_
        | refine neqEB ?_
    all_goals first | exact ⟨fun β => rfl, fun w' h => h⟩ | (exfalso; simp_all; done) | skip
end Go.Proofs.Ytlehjapeomallaa
