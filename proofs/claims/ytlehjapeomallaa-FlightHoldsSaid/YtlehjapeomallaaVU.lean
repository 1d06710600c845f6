/- The law of windows that hold just the good releases answers true. -/
import Derived.Test.YtlehjapeomallaaVT
import Derived.Test.YtlehjapeomallaaVE
import Derived.Test.YtlehjapeomallaaTo
namespace Go.Proofs.Ytlehjapeomallaa.V
open Go Tx Go.RowKit
set_option linter.unusedSimpArgs false
set_option linter.unusedVariables false

set_option maxRecDepth 100000 in
theorem holdsC (g : Fg) (bs : List Bx) (yo zo co : Option Addr) (yc zc cc : Nat) (W : List (Int × Int)) (Lc : List Int) (wa wb : Int) (w : World) (hg : g.ok bs = true) (hl : bs.length ≤ 1000000) (hc : Rd 1 iF (.slice co Lc.length cc) Lc w) (hlc : Lc.length ≤ 400)
    (hr : ∀ n ∈ Lc, -9223372036854775808 ≤ n ∧ n ≤ 9223372036854775807) (hwl : W.length ≤ 1000000) :
    VC Try.prog (rest 10 body14) ⟨163, [(4, .v (.slice co Lc.length cc)), (8, .ptr 1 0), (11, .ptr 2 0), (14, .v (.slice zo W.length zc)), (16, .v (iv W.length))], [(1, .cells [.v (iv wa), .v (iv wb)] 94), (2, .cells (gsy g yo yc) 54)], 5, (fun w' => (Below w.heap.size w w' ∧ Rd 4 Bx.cs (.slice yo g.n yc) bs w') ∧ Rd 2 wF (.slice zo W.length zc) W w'), z0⟩ (endΦ env Try.f14 fun s σ => (∀ β, s.c β = .bool true) ∧ ∀ w', σ.h w' → Below w.heap.size w w') := by
  refine VC.of env mixed ?_
  have hP := fun zo' zc' w' h1 h2 => PW_v g bs yo yc wa wb zo' zc' Lc.length Lc w' h1 hl rfl h2 hr
  have hC : ∀ (r : Int) w', (0 ≤ r ∧ r ≤ 6000) → ((Below w.heap.size w w' ∧ Rd 4 Bx.cs (.slice yo g.n yc) bs w') ∧ Rd 2 wF (.slice zo W.length zc) W w') → _ := fun r w' hr hh => Cat_v g bs yo yc r w' hh.1.2 hl hg hr
  have hgood := fun h => prv_good (g := g) (bs := bs) (a := wa) (b := wb) (L := Lc) h
  rcases hc with ⟨h0, hnil⟩ | ⟨ad, c, h0, hcc⟩
  · subst hnil
    simp only [Value.slice.injEq] at h0
    obtain ⟨rfl, _, rfl⟩ := h0
    cases hp : prv g bs wa wb ([] : List Int) with
    | false =>
      rw [hp] at hP
      repeat'
        conv => whnf
        first
          | refine And.intro (a := drawB _ = true) (by kernel_rfl) ?_
          | refine And.intro (a := (_ : Bool) = true) rfl ?_
          | refine And.intro (a := (_ : Bool) = true ∧ (_ : Bool) = true) ⟨rfl, rfl⟩ ?_
          | refine And.intro (a := (_ : Bool) = true ∧ (_ : List _) = []) ⟨rfl, rfl⟩ ?_
          | refine And.intro (a := IR _ _) (And.intro (by omega) (by omega)) ?_
          | refine wrapE (And.intro (by omega) (by omega)) ?_
          | refine And.intro (a := (0 : Int) ≤ _ ∧ _ < _) (And.intro (by omega) (by omega)) ?_
          | refine And.intro (a := (_ : Bool) = true) (by simp only [Nat.beq_refl]; rfl) ?_
          | refine And.intro (a := ((_ : Bool) = true → 1 ≤ _) ∧ _ ≤ 9223372036854775807 ∧ _ ≤ 140737488355328) ⟨fun h => (by first | omega | cases h), by omega, by omega⟩ ?_
          | refine splT ?_
          | refine splF ?_
          | refine splNot ?_
          | (refine splIn (fun hc => ?_) (fun hc => ?_) <;> first | (exfalso; omega) | (exfalso; dsimp only at hc; omega) | skip)
          | (refine splD (fun hc => ?_) (fun hc => ?_) <;> first | (exfalso; omega) | (exfalso; dsimp only at hc; omega) | skip)
          | (refine splE (fun hc => ?_) (fun hc => ?_) <;> first | (exfalso; omega) | (exfalso; dsimp only at hc; omega) | skip)
          | (refine splNE (fun hc => ?_) (fun hc => ?_) <;> first | (exfalso; omega) | (exfalso; dsimp only at hc; omega) | skip)
          | ((with_reducible show CallEv _ _ 48 _ _ _ _ _); refine callM (k := 48) [] (fun β w' hbk hbw => hP (some ⟨β 5, 0, none⟩) 0 w' hbw.1.2 (.inr ⟨_, _, rfl, fun k b h => by simp at h⟩)) ?_)
          | ((with_reducible show CallEv _ _ 20 _ _ _ _ _); refine callE (k := 20) (fun β w' hbw => wakes_ok _) ?_)
      all_goals first | exact ⟨fun β => rfl, fun w' h => h.1.1⟩ | (exfalso; omega) | skip
    | true =>
      rw [hp] at hP
      obtain ⟨⟨_, hab, hb6⟩, hgd⟩ := hgood hp
      repeat'
        conv => whnf
        first
          | refine And.intro (a := drawB _ = true) (by kernel_rfl) ?_
          | refine And.intro (a := (_ : Bool) = true) rfl ?_
          | refine And.intro (a := (_ : Bool) = true ∧ (_ : Bool) = true) ⟨rfl, rfl⟩ ?_
          | refine And.intro (a := (_ : Bool) = true ∧ (_ : List _) = []) ⟨rfl, rfl⟩ ?_
          | refine And.intro (a := IR _ _) (And.intro (by omega) (by omega)) ?_
          | refine wrapE (And.intro (by omega) (by omega)) ?_
          | refine And.intro (a := (0 : Int) ≤ _ ∧ _ < _) (And.intro (by omega) (by omega)) ?_
          | refine And.intro (a := (_ : Bool) = true) (by simp only [Nat.beq_refl]; rfl) ?_
          | refine And.intro (a := ((_ : Bool) = true → 1 ≤ _) ∧ _ ≤ 9223372036854775807 ∧ _ ≤ 140737488355328) ⟨fun h => (by first | omega | cases h), by omega, by omega⟩ ?_
          | refine splT ?_
          | refine splF ?_
          | refine splNot ?_
          | (refine splIn (fun hc => ?_) (fun hc => ?_) <;> first | (exfalso; omega) | (exfalso; dsimp only at hc; omega) | skip)
          | (refine splD (fun hc => ?_) (fun hc => ?_) <;> first | (exfalso; omega) | (exfalso; dsimp only at hc; omega) | skip)
          | (refine splE (fun hc => ?_) (fun hc => ?_) <;> first | (exfalso; omega) | (exfalso; dsimp only at hc; omega) | skip)
          | (refine splNE (fun hc => ?_) (fun hc => ?_) <;> first | (exfalso; omega) | (exfalso; dsimp only at hc; omega) | skip)
          | ((with_reducible show CallEv _ _ 48 _ _ _ _ _); refine callM (k := 48) [] (fun β w' hbk hbw => hP (some ⟨β 5, 0, none⟩) 0 w' hbw.1.2 (.inr ⟨_, _, rfl, fun k b h => by simp at h⟩)) ?_)
      all_goals first | (exfalso; omega) | skip
      refine loopE (fun i : Nat => [(8, .ptr 1 0), (11, .ptr 2 0), (22, .v (iv (wa + i)))]) (fun _ => [(1, .cells [.v (iv wa), .v (iv wb)] 94), (2, .cells (gsy g yo yc) 54)]) (fun i => wa + i ≤ wb + 1) (fun i => (wb + 1 - wa).toNat - i) 0 (by show wa + ((0 : Nat) : Int) ≤ _; omega) ⟨rfl, rfl, by show _ = some (SV.v (iv (wa + ((0 : Nat) : Int)))); rw [Int.natCast_zero, Int.add_zero]; rfl, trivial⟩ ⟨rfl, rfl, trivial⟩ (fun _ => ⟨rfl, rfl⟩) ?_
      intro i hi
      have hii : wa + ((i + 1 : Nat) : Int) = wa + (i : Int) + 1 := by omega
      by_cases hle : wa + (i : Int) ≤ wb
      · have hCk := fun w' => hC (wa + i) w' (by omega)
        have hne := gd_iff.1 (hgd (wa + i) (by omega) hle)
        generalize catL g bs (wa + i) g.k = C at hCk hne
        have hpos : 0 < C.length := List.length_pos_iff.2 hne
        repeat'
          conv => whnf
          first
            | refine And.intro (a := drawB _ = true) (by kernel_rfl) ?_
            | refine And.intro (a := (_ : Bool) = true) rfl ?_
            | refine And.intro (a := (_ : Bool) = true ∧ (_ : Bool) = true) ⟨rfl, rfl⟩ ?_
            | refine And.intro (a := (_ : Bool) = true ∧ (_ : List _) = []) ⟨rfl, rfl⟩ ?_
            | refine And.intro (a := IR _ _) (And.intro (by omega) (by omega)) ?_
            | refine wrapE (And.intro (by omega) (by omega)) ?_
            | refine And.intro (a := (0 : Int) ≤ _ ∧ _ < _) (And.intro (by omega) (by omega)) ?_
            | refine And.intro (a := (_ : Bool) = true) (by simp only [Nat.beq_refl]; rfl) ?_
            | refine And.intro (a := ((_ : Bool) = true → 1 ≤ _) ∧ _ ≤ 9223372036854775807 ∧ _ ≤ 140737488355328) ⟨fun h => (by first | omega | cases h), by omega, by omega⟩ ?_
            | refine splT ?_
            | refine splF ?_
            | refine splNot ?_
            | (refine splIn (fun hc => ?_) (fun hc => ?_) <;> first | (exfalso; omega) | (exfalso; dsimp only at hc; omega) | skip)
            | (refine splD (fun hc => ?_) (fun hc => ?_) <;> first | (exfalso; omega) | (exfalso; dsimp only at hc; omega) | skip)
            | (refine splE (fun hc => ?_) (fun hc => ?_) <;> first | (exfalso; omega) | (exfalso; dsimp only at hc; omega) | skip)
            | (refine splNE (fun hc => ?_) (fun hc => ?_) <;> first | (exfalso; omega) | (exfalso; dsimp only at hc; omega) | skip)
            | ((with_reducible show CallEv _ _ 24 _ _ _ _ _); refine callF [] (fun u : YS C => .tuple #[sV C.length u.1, iv 0]) (fun u => Rd 1 iF (sV C.length u.1) C) (fun β w' _ hbw => hCk w' hbw) ?_; intro u)
        all_goals first | (exfalso; omega) | skip
        exact ⟨i + 1, by show wa + ((i + 1 : Nat) : Int) ≤ _; omega, by omega, Ent.weak rfl ⟨rfl, rfl, by show _ = some (SV.v (iv (wa + ((i + 1 : Nat) : Int)))); rw [hii]; rfl, trivial⟩ ⟨rfl, rfl, trivial⟩ fun _ h => h.1⟩
      · skip
        repeat'
          conv => whnf
          first
            | refine And.intro (a := drawB _ = true) (by kernel_rfl) ?_
            | refine And.intro (a := (_ : Bool) = true) rfl ?_
            | refine And.intro (a := (_ : Bool) = true ∧ (_ : Bool) = true) ⟨rfl, rfl⟩ ?_
            | refine And.intro (a := (_ : Bool) = true ∧ (_ : List _) = []) ⟨rfl, rfl⟩ ?_
            | refine And.intro (a := IR _ _) (And.intro (by omega) (by omega)) ?_
            | refine wrapE (And.intro (by omega) (by omega)) ?_
            | refine And.intro (a := (0 : Int) ≤ _ ∧ _ < _) (And.intro (by omega) (by omega)) ?_
            | refine And.intro (a := (_ : Bool) = true) (by simp only [Nat.beq_refl]; rfl) ?_
            | refine And.intro (a := ((_ : Bool) = true → 1 ≤ _) ∧ _ ≤ 9223372036854775807 ∧ _ ≤ 140737488355328) ⟨fun h => (by first | omega | cases h), by omega, by omega⟩ ?_
            | refine splT ?_
            | refine splF ?_
            | refine splNot ?_
            | (refine splIn (fun hc => ?_) (fun hc => ?_) <;> first | (exfalso; omega) | (exfalso; dsimp only at hc; omega) | skip)
            | (refine splD (fun hc => ?_) (fun hc => ?_) <;> first | (exfalso; omega) | (exfalso; dsimp only at hc; omega) | skip)
            | (refine splE (fun hc => ?_) (fun hc => ?_) <;> first | (exfalso; omega) | (exfalso; dsimp only at hc; omega) | skip)
            | (refine splNE (fun hc => ?_) (fun hc => ?_) <;> first | (exfalso; omega) | (exfalso; dsimp only at hc; omega) | skip)
            | ((with_reducible show CallEv _ _ 20 _ _ _ _ _); refine callE (k := 20) (fun β w' hbw => wakes_ok _) ?_)
        all_goals first | exact ⟨fun β => rfl, fun w' h => h.1.1⟩ | (exfalso; omega) | skip
  · have hc1 : Rd 1 iF (.slice (some ad) Lc.length c) Lc w := .inr ⟨ad, c, rfl, hcc⟩
    simp only [Value.slice.injEq] at h0
    obtain ⟨rfl, _, rfl⟩ := h0
    have hx := fun w' hb => Rd.ext (f := iF) (sz := 1) (fun _ => rfl) (Rd.below (w' := w') hc1 hb)
    have hP2 := fun m zo' zc' w' h1 h2 h3 => PW_v g bs yo yc wa wb zo' zc' m Lc w' h1 hl h2 h3 hr
    cases hp : prv g bs wa wb Lc with
    | false =>
      rw [hp] at hP2
      repeat'
        conv => whnf
        first
          | refine And.intro (a := drawB _ = true) (by kernel_rfl) ?_
          | refine And.intro (a := (_ : Bool) = true) rfl ?_
          | refine And.intro (a := (_ : Bool) = true ∧ (_ : Bool) = true) ⟨rfl, rfl⟩ ?_
          | refine And.intro (a := (_ : Bool) = true ∧ (_ : List _) = []) ⟨rfl, rfl⟩ ?_
          | refine And.intro (a := IR _ _) (And.intro (by omega) (by omega)) ?_
          | refine wrapE (And.intro (by omega) (by omega)) ?_
          | refine And.intro (a := (0 : Int) ≤ _ ∧ _ < _) (And.intro (by omega) (by omega)) ?_
          | refine And.intro (a := (_ : Bool) = true) (by simp only [Nat.beq_refl]; rfl) ?_
          | refine And.intro (a := ((_ : Bool) = true → 1 ≤ _) ∧ _ ≤ 9223372036854775807 ∧ _ ≤ 140737488355328) ⟨fun h => (by first | omega | cases h), by omega, by omega⟩ ?_
          | refine splT ?_
          | refine splF ?_
          | refine splNot ?_
          | (refine splIn (fun hc => ?_) (fun hc => ?_) <;> first | (exfalso; omega) | (exfalso; dsimp only at hc; omega) | skip)
          | (refine splD (fun hc => ?_) (fun hc => ?_) <;> first | (exfalso; omega) | (exfalso; dsimp only at hc; omega) | skip)
          | (refine splE (fun hc => ?_) (fun hc => ?_) <;> first | (exfalso; omega) | (exfalso; dsimp only at hc; omega) | skip)
          | (refine splNE (fun hc => ?_) (fun hc => ?_) <;> first | (exfalso; omega) | (exfalso; dsimp only at hc; omega) | skip)
          | refine Exists.intro (α := List Value) (Lc.flatMap iF) ⟨⟨by rw [lenF]; simp, fun w' hb j v hv => hx w' hb.1.1 j v hv, one1 Lc⟩, ?_⟩
          | ((with_reducible show CallEv _ _ 48 _ _ _ _ _); refine callM (k := 48) [6] (fun β w' hbk hbw => hP2 _ (some ⟨β 6, 0, none⟩) (β 7) w' hbw.1.2 (by simp) (Rd.of_owns (sz := 1) (f := iF) (fun _ => rfl) (by simp) (by simp) (hbk 6 (by simp) _ rfl))) ?_)
          | ((with_reducible show CallEv _ _ 20 _ _ _ _ _); refine callE (k := 20) (fun β w' hbw => wakes_ok _) ?_)
      all_goals first | exact ⟨fun β => rfl, fun w' h => h.1.1⟩ | (exfalso; omega) | skip
    | true =>
      rw [hp] at hP2
      obtain ⟨⟨_, hab, hb6⟩, hgd⟩ := hgood hp
      repeat'
        conv => whnf
        first
          | refine And.intro (a := drawB _ = true) (by kernel_rfl) ?_
          | refine And.intro (a := (_ : Bool) = true) rfl ?_
          | refine And.intro (a := (_ : Bool) = true ∧ (_ : Bool) = true) ⟨rfl, rfl⟩ ?_
          | refine And.intro (a := (_ : Bool) = true ∧ (_ : List _) = []) ⟨rfl, rfl⟩ ?_
          | refine And.intro (a := IR _ _) (And.intro (by omega) (by omega)) ?_
          | refine wrapE (And.intro (by omega) (by omega)) ?_
          | refine And.intro (a := (0 : Int) ≤ _ ∧ _ < _) (And.intro (by omega) (by omega)) ?_
          | refine And.intro (a := (_ : Bool) = true) (by simp only [Nat.beq_refl]; rfl) ?_
          | refine And.intro (a := ((_ : Bool) = true → 1 ≤ _) ∧ _ ≤ 9223372036854775807 ∧ _ ≤ 140737488355328) ⟨fun h => (by first | omega | cases h), by omega, by omega⟩ ?_
          | refine splT ?_
          | refine splF ?_
          | refine splNot ?_
          | (refine splIn (fun hc => ?_) (fun hc => ?_) <;> first | (exfalso; omega) | (exfalso; dsimp only at hc; omega) | skip)
          | (refine splD (fun hc => ?_) (fun hc => ?_) <;> first | (exfalso; omega) | (exfalso; dsimp only at hc; omega) | skip)
          | (refine splE (fun hc => ?_) (fun hc => ?_) <;> first | (exfalso; omega) | (exfalso; dsimp only at hc; omega) | skip)
          | (refine splNE (fun hc => ?_) (fun hc => ?_) <;> first | (exfalso; omega) | (exfalso; dsimp only at hc; omega) | skip)
          | refine Exists.intro (α := List Value) (Lc.flatMap iF) ⟨⟨by rw [lenF]; simp, fun w' hb j v hv => hx w' hb.1.1 j v hv, one1 Lc⟩, ?_⟩
          | ((with_reducible show CallEv _ _ 48 _ _ _ _ _); refine callM (k := 48) [6] (fun β w' hbk hbw => hP2 _ (some ⟨β 6, 0, none⟩) (β 7) w' hbw.1.2 (by simp) (Rd.of_owns (sz := 1) (f := iF) (fun _ => rfl) (by simp) (by simp) (hbk 6 (by simp) _ rfl))) ?_)
      all_goals first | (exfalso; omega) | skip
      refine loopE (fun i : Nat => [(8, .ptr 1 0), (11, .ptr 2 0), (22, .v (iv (wa + i)))]) (fun _ => [(1, .cells [.v (iv wa), .v (iv wb)] 94), (2, .cells (gsy g yo yc) 54)]) (fun i => wa + i ≤ wb + 1) (fun i => (wb + 1 - wa).toNat - i) 0 (by show wa + ((0 : Nat) : Int) ≤ _; omega) ⟨rfl, rfl, by show _ = some (SV.v (iv (wa + ((0 : Nat) : Int)))); rw [Int.natCast_zero, Int.add_zero]; rfl, trivial⟩ ⟨rfl, rfl, trivial⟩ (fun _ => ⟨rfl, rfl⟩) ?_
      intro i hi
      have hii : wa + ((i + 1 : Nat) : Int) = wa + (i : Int) + 1 := by omega
      by_cases hle : wa + (i : Int) ≤ wb
      · have hCk := fun w' => hC (wa + i) w' (by omega)
        have hne := gd_iff.1 (hgd (wa + i) (by omega) hle)
        generalize catL g bs (wa + i) g.k = C at hCk hne
        have hpos : 0 < C.length := List.length_pos_iff.2 hne
        repeat'
          conv => whnf
          first
            | refine And.intro (a := drawB _ = true) (by kernel_rfl) ?_
            | refine And.intro (a := (_ : Bool) = true) rfl ?_
            | refine And.intro (a := (_ : Bool) = true ∧ (_ : Bool) = true) ⟨rfl, rfl⟩ ?_
            | refine And.intro (a := (_ : Bool) = true ∧ (_ : List _) = []) ⟨rfl, rfl⟩ ?_
            | refine And.intro (a := IR _ _) (And.intro (by omega) (by omega)) ?_
            | refine wrapE (And.intro (by omega) (by omega)) ?_
            | refine And.intro (a := (0 : Int) ≤ _ ∧ _ < _) (And.intro (by omega) (by omega)) ?_
            | refine And.intro (a := (_ : Bool) = true) (by simp only [Nat.beq_refl]; rfl) ?_
            | refine And.intro (a := ((_ : Bool) = true → 1 ≤ _) ∧ _ ≤ 9223372036854775807 ∧ _ ≤ 140737488355328) ⟨fun h => (by first | omega | cases h), by omega, by omega⟩ ?_
            | refine splT ?_
            | refine splF ?_
            | refine splNot ?_
            | (refine splIn (fun hc => ?_) (fun hc => ?_) <;> first | (exfalso; omega) | (exfalso; dsimp only at hc; omega) | skip)
            | (refine splD (fun hc => ?_) (fun hc => ?_) <;> first | (exfalso; omega) | (exfalso; dsimp only at hc; omega) | skip)
            | (refine splE (fun hc => ?_) (fun hc => ?_) <;> first | (exfalso; omega) | (exfalso; dsimp only at hc; omega) | skip)
            | (refine splNE (fun hc => ?_) (fun hc => ?_) <;> first | (exfalso; omega) | (exfalso; dsimp only at hc; omega) | skip)
            | ((with_reducible show CallEv _ _ 24 _ _ _ _ _); refine callF [] (fun u : YS C => .tuple #[sV C.length u.1, iv 0]) (fun u => Rd 1 iF (sV C.length u.1) C) (fun β w' _ hbw => hCk w' hbw) ?_; intro u)
        all_goals first | (exfalso; omega) | skip
        exact ⟨i + 1, by show wa + ((i + 1 : Nat) : Int) ≤ _; omega, by omega, Ent.weak rfl ⟨rfl, rfl, by show _ = some (SV.v (iv (wa + ((i + 1 : Nat) : Int)))); rw [hii]; rfl, trivial⟩ ⟨rfl, rfl, trivial⟩ fun _ h => h.1⟩
      · skip
        repeat'
          conv => whnf
          first
            | refine And.intro (a := drawB _ = true) (by kernel_rfl) ?_
            | refine And.intro (a := (_ : Bool) = true) rfl ?_
            | refine And.intro (a := (_ : Bool) = true ∧ (_ : Bool) = true) ⟨rfl, rfl⟩ ?_
            | refine And.intro (a := (_ : Bool) = true ∧ (_ : List _) = []) ⟨rfl, rfl⟩ ?_
            | refine And.intro (a := IR _ _) (And.intro (by omega) (by omega)) ?_
            | refine wrapE (And.intro (by omega) (by omega)) ?_
            | refine And.intro (a := (0 : Int) ≤ _ ∧ _ < _) (And.intro (by omega) (by omega)) ?_
            | refine And.intro (a := (_ : Bool) = true) (by simp only [Nat.beq_refl]; rfl) ?_
            | refine And.intro (a := ((_ : Bool) = true → 1 ≤ _) ∧ _ ≤ 9223372036854775807 ∧ _ ≤ 140737488355328) ⟨fun h => (by first | omega | cases h), by omega, by omega⟩ ?_
            | refine splT ?_
            | refine splF ?_
            | refine splNot ?_
            | (refine splIn (fun hc => ?_) (fun hc => ?_) <;> first | (exfalso; omega) | (exfalso; dsimp only at hc; omega) | skip)
            | (refine splD (fun hc => ?_) (fun hc => ?_) <;> first | (exfalso; omega) | (exfalso; dsimp only at hc; omega) | skip)
            | (refine splE (fun hc => ?_) (fun hc => ?_) <;> first | (exfalso; omega) | (exfalso; dsimp only at hc; omega) | skip)
            | (refine splNE (fun hc => ?_) (fun hc => ?_) <;> first | (exfalso; omega) | (exfalso; dsimp only at hc; omega) | skip)
            | ((with_reducible show CallEv _ _ 20 _ _ _ _ _); refine callE (k := 20) (fun β w' hbw => wakes_ok _) ?_)
        all_goals first | exact ⟨fun β => rfl, fun w' h => h.1.1⟩ | (exfalso; omega) | skip

set_option maxRecDepth 100000 in
theorem FlightHolds_ok (g : Fg) (bs : List Bx) (fr tk wa wb : Int) (co : Option Addr) (cc : Nat) (Lc : List Int) (w : World) (hrd : Rd 4 Bx.cs (.slice g.o g.n g.c) bs w) (hfr : 0 ≤ fr ∧ fr ≤ 65535) (htk : 0 ≤ tk ∧ tk ≤ 255)
    (hc : Rd 1 iF (.slice co Lc.length cc) Lc w) (hr : ∀ n ∈ Lc, -9223372036854775808 ≤ n ∧ n ≤ 9223372036854775807) :
    Calls Try.prog 14 #[g.v, .int .u16 fr, .int .u8 tk, .agg #[iv wa, iv wb], .slice co Lc.length cc] w fun e w' => e = .returned (.bool true) ∧ Below w.heap.size w w' := by
  have hn : g.n = bs.length := hrd.len
  refine calls_valV env mixed Try.func14 has14 Try.ntmps14 [g.v, .int .u16 fr, .int .u8 tk, .agg #[iv wa, iv wb], .slice co Lc.length cc] (by simp) ?_
  by_cases hfew : (g.n : Int) ≤ 700
  case neg =>
    refine VC.of env mixed ?_
    repeat'
      conv => whnf
      first
        | refine And.intro (a := drawB _ = true) (by kernel_rfl) ?_
        | refine And.intro (a := (_ : Bool) = true) rfl ?_
        | refine And.intro (a := (_ : Bool) = true ∧ (_ : Bool) = true) ⟨rfl, rfl⟩ ?_
        | refine And.intro (a := (_ : Bool) = true ∧ (_ : List _) = []) ⟨rfl, rfl⟩ ?_
        | refine And.intro (a := IR _ _) (And.intro (by omega) (by omega)) ?_
        | refine wrapE (And.intro (by omega) (by omega)) ?_
        | refine And.intro (a := (0 : Int) ≤ _ ∧ _ < _) (And.intro (by omega) (by omega)) ?_
        | refine And.intro (a := (_ : Bool) = true) (by simp only [Nat.beq_refl]; rfl) ?_
        | refine And.intro (a := ((_ : Bool) = true → 1 ≤ _) ∧ _ ≤ 9223372036854775807 ∧ _ ≤ 140737488355328) ⟨fun h => (by first | omega | cases h), by omega, by omega⟩ ?_
        | refine splT ?_
        | refine splF ?_
        | refine splNot ?_
        | (refine splIn (fun hc => ?_) (fun hc => ?_) <;> first | (exfalso; omega) | (exfalso; dsimp only at hc; omega) | skip)
        | (refine splD (fun hc => ?_) (fun hc => ?_) <;> first | (exfalso; omega) | (exfalso; dsimp only at hc; omega) | skip)
        | (refine splE (fun hc => ?_) (fun hc => ?_) <;> first | (exfalso; omega) | (exfalso; dsimp only at hc; omega) | skip)
        | (refine splNE (fun hc => ?_) (fun hc => ?_) <;> first | (exfalso; omega) | (exfalso; dsimp only at hc; omega) | skip)
        | ((with_reducible show CallEv _ _ 23 _ _ _ _ _); refine callE (k := 23) (fun β w' hbw => few_ok g _) ?_)
        | ((with_reducible show CallEv _ _ 20 _ _ _ _ _); refine callE (k := 20) (fun β w' hbw => wakes_ok _) ?_)
    exact ⟨fun β => rfl, fun w' h => h⟩
  have hl : bs.length ≤ 1000000 := by omega
  have hRt : ∀ w', Below w.heap.size w w' → Calls Try.prog 26 #[g.v] w' fun e w'' => e = .returned (.bool (g.ok bs)) ∧ Below w'.heap.size w' w'' := fun w' hb => Right_ok g bs w' (hrd.below hb) hl
  cases hg : g.ok bs with
  | false =>
    rw [hg] at hRt
    refine VC.of env mixed ?_
    repeat'
      conv => whnf
      first
        | refine And.intro (a := drawB _ = true) (by kernel_rfl) ?_
        | refine And.intro (a := (_ : Bool) = true) rfl ?_
        | refine And.intro (a := (_ : Bool) = true ∧ (_ : Bool) = true) ⟨rfl, rfl⟩ ?_
        | refine And.intro (a := (_ : Bool) = true ∧ (_ : List _) = []) ⟨rfl, rfl⟩ ?_
        | refine And.intro (a := IR _ _) (And.intro (by omega) (by omega)) ?_
        | refine wrapE (And.intro (by omega) (by omega)) ?_
        | refine And.intro (a := (0 : Int) ≤ _ ∧ _ < _) (And.intro (by omega) (by omega)) ?_
        | refine And.intro (a := (_ : Bool) = true) (by simp only [Nat.beq_refl]; rfl) ?_
        | refine And.intro (a := ((_ : Bool) = true → 1 ≤ _) ∧ _ ≤ 9223372036854775807 ∧ _ ≤ 140737488355328) ⟨fun h => (by first | omega | cases h), by omega, by omega⟩ ?_
        | refine splT ?_
        | refine splF ?_
        | refine splNot ?_
        | (refine splIn (fun hc => ?_) (fun hc => ?_) <;> first | (exfalso; omega) | (exfalso; dsimp only at hc; omega) | skip)
        | (refine splD (fun hc => ?_) (fun hc => ?_) <;> first | (exfalso; omega) | (exfalso; dsimp only at hc; omega) | skip)
        | (refine splE (fun hc => ?_) (fun hc => ?_) <;> first | (exfalso; omega) | (exfalso; dsimp only at hc; omega) | skip)
        | (refine splNE (fun hc => ?_) (fun hc => ?_) <;> first | (exfalso; omega) | (exfalso; dsimp only at hc; omega) | skip)
        | ((with_reducible show CallEv _ _ 23 _ _ _ _ _); refine callE (k := 23) (fun β w' hbw => few_ok g _) ?_)
        | ((with_reducible show CallEv _ _ 26 _ _ _ _ _); refine callE (k := 26) (fun β w' hbw => hRt _ hbw) ?_)
        | ((with_reducible show CallEv _ _ 20 _ _ _ _ _); refine callE (k := 20) (fun β w' hbw => wakes_ok _) ?_)
    exact ⟨fun β => rfl, fun w' h => h⟩
  | true =>
  rw [hg] at hRt
  by_cases hlc : (Lc.length : Int) ≤ 400
  case neg =>
    refine VC.of env mixed ?_
    repeat'
      conv => whnf
      first
        | refine And.intro (a := drawB _ = true) (by kernel_rfl) ?_
        | refine And.intro (a := (_ : Bool) = true) rfl ?_
        | refine And.intro (a := (_ : Bool) = true ∧ (_ : Bool) = true) ⟨rfl, rfl⟩ ?_
        | refine And.intro (a := (_ : Bool) = true ∧ (_ : List _) = []) ⟨rfl, rfl⟩ ?_
        | refine And.intro (a := IR _ _) (And.intro (by omega) (by omega)) ?_
        | refine wrapE (And.intro (by omega) (by omega)) ?_
        | refine And.intro (a := (0 : Int) ≤ _ ∧ _ < _) (And.intro (by omega) (by omega)) ?_
        | refine And.intro (a := (_ : Bool) = true) (by simp only [Nat.beq_refl]; rfl) ?_
        | refine And.intro (a := ((_ : Bool) = true → 1 ≤ _) ∧ _ ≤ 9223372036854775807 ∧ _ ≤ 140737488355328) ⟨fun h => (by first | omega | cases h), by omega, by omega⟩ ?_
        | refine splT ?_
        | refine splF ?_
        | refine splNot ?_
        | (refine splIn (fun hc => ?_) (fun hc => ?_) <;> first | (exfalso; omega) | (exfalso; dsimp only at hc; omega) | skip)
        | (refine splD (fun hc => ?_) (fun hc => ?_) <;> first | (exfalso; omega) | (exfalso; dsimp only at hc; omega) | skip)
        | (refine splE (fun hc => ?_) (fun hc => ?_) <;> first | (exfalso; omega) | (exfalso; dsimp only at hc; omega) | skip)
        | (refine splNE (fun hc => ?_) (fun hc => ?_) <;> first | (exfalso; omega) | (exfalso; dsimp only at hc; omega) | skip)
        | ((with_reducible show CallEv _ _ 23 _ _ _ _ _); refine callE (k := 23) (fun β w' hbw => few_ok g _) ?_)
        | ((with_reducible show CallEv _ _ 26 _ _ _ _ _); refine callE (k := 26) (fun β w' hbw => hRt _ hbw) ?_)
        | ((with_reducible show CallEv _ _ 20 _ _ _ _ _); refine callE (k := 20) (fun β w' hbw => wakes_ok _) ?_)
    exact ⟨fun β => rfl, fun w' h => h⟩
  have a1 := Int.emod_nonneg fr (b := 5800) (by omega)
  have a2 := Int.emod_lt_of_pos fr (b := 5800) (by omega)
  have b1 := Int.emod_nonneg tk (b := 150) (by omega)
  have b2 := Int.emod_lt_of_pos tk (b := 150) (by omega)
  obtain ⟨a, ha⟩ : ∃ a, fr % 5800 = a := ⟨_, rfl⟩
  obtain ⟨n, hnn⟩ : ∃ n : Nat, tk % 150 = n := ⟨(tk % 150).toNat, by omega⟩
  rw [ha] at a1 a2
  rw [hnn] at b1 b2
  have hW := fun (y : Option Addr × Nat) w' h => Win_at g bs y a n hg (by omega) (by omega) w' h hl
  have hWI := wins_WI (p := gd g bs) (a := a) (by omega) n
  have hwl := wins_len (p := gd g bs) (a := a) (by omega) (n + 1)
  generalize wins (gd g bs) a (n + 1) = W at *
  refine VC.cutH env mixed 7 3 (fun x : (Option Addr × Nat) × YS W => [(4, .v (.slice co Lc.length cc)), (8, .ptr 1 0), (11, .ptr 2 0), (12, .v (iv a)), (13, .v (iv (a + n))), (14, .v (.slice x.2.1.1 W.length x.2.1.2))])
    (fun x => [(1, .cells [.v (iv wa), .v (iv wb)] 94), (2, .cells (gsy g x.1.1 x.1.2) 54)]) (fun x w' => (Below w.heap.size w w' ∧ Rd 4 Bx.cs (.slice x.1.1 g.n x.1.2) bs w') ∧ Rd 2 wF (.slice x.2.1.1 W.length x.2.1.2) W w') (fun _ => True) (fun _ _ => ⟨rfl, rfl⟩) ?_
    (fun x _ => holdsB g bs x.1.1 x.2.1.1 x.1.2 x.2.1.2 W a n (.slice co Lc.length cc) wa wb w hg hl (by omega) (by omega) hWI (by omega) x.2.2 (holdsC g bs x.1.1 x.2.1.1 co x.1.2 x.2.1.2 cc W Lc wa wb w hg hl hc (by omega) hr (by omega)))
  repeat'
    conv => whnf
    first
      | refine And.intro (a := drawB _ = true) (by kernel_rfl) ?_
      | refine And.intro (a := (_ : Bool) = true) rfl ?_
      | refine And.intro (a := (_ : Bool) = true ∧ (_ : Bool) = true) ⟨rfl, rfl⟩ ?_
      | refine And.intro (a := (_ : Bool) = true ∧ (_ : List _) = []) ⟨rfl, rfl⟩ ?_
      | refine And.intro (a := IR _ _) (And.intro (by omega) (by omega)) ?_
      | refine wrapE (And.intro (by omega) (by omega)) ?_
      | refine And.intro (a := (0 : Int) ≤ _ ∧ _ < _) (And.intro (by omega) (by omega)) ?_
      | refine And.intro (a := (_ : Bool) = true) (by simp only [Nat.beq_refl]; rfl) ?_
      | refine And.intro (a := ((_ : Bool) = true → 1 ≤ _) ∧ _ ≤ 9223372036854775807 ∧ _ ≤ 140737488355328) ⟨fun h => (by first | omega | cases h), by omega, by omega⟩ ?_
      | refine splT ?_
      | refine splF ?_
      | refine splNot ?_
      | (refine splIn (fun hc => ?_) (fun hc => ?_) <;> first | (exfalso; omega) | (exfalso; dsimp only at hc; omega) | skip)
      | (refine splD (fun hc => ?_) (fun hc => ?_) <;> first | (exfalso; omega) | (exfalso; dsimp only at hc; omega) | skip)
      | (refine splE (fun hc => ?_) (fun hc => ?_) <;> first | (exfalso; omega) | (exfalso; dsimp only at hc; omega) | skip)
      | (refine splNE (fun hc => ?_) (fun hc => ?_) <;> first | (exfalso; omega) | (exfalso; dsimp only at hc; omega) | skip)
      | ((with_reducible show CallEv _ _ 23 _ _ _ _ _); refine callE (k := 23) (fun β w' hbw => few_ok g _) ?_)
      | ((with_reducible show CallEv _ _ 26 _ _ _ _ _); refine callE (k := 26) (fun β w' hbw => hRt _ (by first | exact hbw | exact hbw.1 | exact hbw.1.1 | exact hbw.1.1.1 | exact hbw.1.1.1.1 | exact hbw.1.1.1.1.1 | exact hbw.1.1.1.1.1.1 | exact hbw.1.1.1.1.1.1.1)) ?_)
      | ((with_reducible show CallEv _ _ 25 _ _ _ _ _); refine callF [] (fun y : Option Addr × Nat => (g.at y).v) (fun y => Rd 4 Bx.cs (.slice y.1 g.n y.2) bs) (fun β w' _ hbw => fam (Flight_ok g bs w' (hrd.below hbw) hl)) ?_; intro y)
      | refine Exists.intro (α := Value) (iv fr) ⟨cv16 fr hfr, ?_⟩
      | refine Exists.intro (α := Value) (iv tk) ⟨cv8 tk htk, ?_⟩
      | (refine remE (by omega) (by omega) ?_; first | rw [ha] | rw [hnn])
      | ((with_reducible show CallEv _ _ 54 _ _ _ _ _); refine callF [] (fun u : YS W => .tuple #[sV W.length u.1, iv 0]) (fun u => Rd 2 wF (sV W.length u.1) W) (fun β w' _ hbw => hW y w' hbw.2) ?_; intro z)
  all_goals first | exact ⟨rfl, (y, z), trivial, Ent.weak rfl ⟨rfl, rfl, rfl, rfl, rfl, rfl, trivial⟩ ⟨rfl, rfl, trivial⟩ fun _ h => h⟩ | (exfalso; omega) | skip
end Go.Proofs.Ytlehjapeomallaa.V
