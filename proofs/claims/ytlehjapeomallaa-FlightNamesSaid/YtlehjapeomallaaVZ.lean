/- The document's examples of flights: what the functions return there. -/
import Derived.Test.YtlehjapeomallaaV1
import Derived.Test.YtlehjapeomallaaVG
namespace Go.Proofs.Ytlehjapeomallaa.V
open Go Tx Go.RowKit
set_option linter.unusedSimpArgs false
set_option linter.unusedVariables false

/-- A callee whose result holds a block of cells that it has made: the caller's own from here on. -/
theorem callC {P : Program} {σ : Sg} {k : Nat} {args : List SV} {rs : List Nat} {K : Ef → Prop} {KF : Option KT} (nb : Nat) (rb : List Nat) (V : SV) (l : List SV) (ty : TypeId)
    (hB : efB σ ⟨V, [nb], [(nb, .cells l ty)], [], rb⟩ = true)
    (h : ∀ β w, (∀ i ∈ rb, ∀ b, lk σ.m i = some b → b.ok β w (β i)) → σ.h w → Calls P k (SV.cs β args).toArray w fun e w' => ∃ b, e = .returned (V.c fun i => bif Nat.beq i nb then b else β i) ∧ w.heap.size ≤ b ∧ Below w.heap.size w w' ∧
      w'.heap[b]? = some (.cells (SV.cs (fun i => bif Nat.beq i nb then b else β i) l).toArray ty (0, 0)))
    (hK : K ⟨V, [nb], [(nb, .cells l ty)], rs, rb⟩) : CallEv P σ k args (efB σ) rs K KF :=
  .mk ⟨V, [nb], [(nb, .cells l ty)], [], rb⟩ hB (fun β w h1 _ hh => (h β w h1 hh).mono fun e w' ⟨b, he, hb, hB, ho⟩ => by
    have e1 : Nat.beq nb nb = true := Nat.beq_refl nb
    refine ⟨_, he, ?_, ⟨hB.os, hB.tape, hB.output, hB.size, fun i hi _ => hB.block i hi⟩, ?_, ?_, ?_⟩
    · intro i hi
      have h1 : ¬ i = nb := fun e => hi (by simp [e])
      have f1 : Nat.beq i nb = false := by
        cases hb : Nat.beq i nb with
        | false => rfl
        | true => exact absurd (Nat.eq_of_beq_eq_true hb) h1
      simp only [f1, cond_false]
    · intro i bk hm
      simp only [List.mem_singleton, Prod.mk.injEq] at hm
      obtain ⟨rfl, rfl⟩ := hm
      simp only [Blk.ok, e1, cond_true]
      exact ho
    · intro i hi hl
      obtain ⟨bk, hm, _⟩ := hl
      simp only [List.mem_singleton, Prod.mk.injEq] at hm
      obtain ⟨rfl, _⟩ := hm
      simp only [e1, cond_true]
      exact .inl hb
    · intro i hi j hj hl hl' hne
      obtain ⟨bk, hm, _⟩ := hl
      obtain ⟨bk', hm', _⟩ := hl'
      simp only [List.mem_singleton, Prod.mk.injEq] at hm hm'
      exact absurd (hm.1.trans hm'.1.symm) hne) hK

theorem leap_own (w : World) : Calls Try.prog 57 #[] w fun e w' => ∃ b : Nat, e = .returned (lpG b).v ∧ w.heap.size ≤ b ∧ Below w.heap.size w w' ∧ w'.heap[b]? = some (.cells #[iv 115000, iv 116000, iv 501000, iv 503000] 47 (0, 0)) := by
  refine calls_fam2 env mixed Try.func57 has57 Try.ntmps57 [] (by simp) ?_
  repeat'
    conv => whnf
    first
      | refine And.intro (a := drawB _ = true) (by kernel_rfl) ?_
      | refine And.intro (a := (_ : Bool) = true) rfl ?_
      | refine And.intro (a := (_ : Bool) = true ∧ (_ : Bool) = true) ⟨rfl, rfl⟩ ?_
      | refine And.intro (a := (_ : Bool) = true ∧ (_ : List _) = []) ⟨rfl, rfl⟩ ?_
      | refine And.intro (a := IR _ _) (And.intro (by omega) (by omega)) ?_
      | refine wrapE (And.intro (by omega) (by omega)) ?_
      | refine And.intro (a := (0 : Int) ≤ _ ∧ _ < _) (And.intro (by omega) (by omega)) ?_
      | refine And.intro (a := (_ : Bool) = true) (by simp only [Nat.beq_refl]; rfl) ?_
      | refine And.intro (a := ((_ : Bool) = true → 1 ≤ _) ∧ _ ≤ 9223372036854775807 ∧ _ ≤ 140737488355328) ⟨fun h => (by first | omega | cases h), by omega, by omega⟩ ?_
      | refine splT ?_
      | refine splF ?_
      | refine splNot ?_
      | (refine splIn (fun hc => ?_) (fun hc => ?_) <;> first | (exfalso; omega) | (exfalso; dsimp only at hc; omega) | skip)
      | (refine splD (fun hc => ?_) (fun hc => ?_) <;> first | (exfalso; omega) | (exfalso; dsimp only at hc; omega) | skip)
      | (refine splE (fun hc => ?_) (fun hc => ?_) <;> first | (exfalso; omega) | (exfalso; dsimp only at hc; omega) | skip)
      | (refine splNE (fun hc => ?_) (fun hc => ?_) <;> first | (exfalso; omega) | (exfalso; dsimp only at hc; omega) | skip)
  exact ⟨fun w' h => h, fun β w' hB hB2 hblk => ⟨β 2, rfl, (hblk 2 _ rfl rfl).1, hB2, (hblk 2 _ rfl rfl).2⟩⟩
theorem leap_fam (w : World) : Calls Try.prog 57 #[] w fun e w' => ∃ b : Nat, e = .returned (lpG b).v ∧ Below w.heap.size w w' ∧ St w.heap.size (Rd 4 Bx.cs (.slice (some ⟨b, 0, none⟩) 1 1) lpB) w' := fam (leap_ok w)

/-- The flight that reaches less far. -/
def farG (b : Nat) : Fg := ⟨lpF, some ⟨b, 0, none⟩, 1, 1, 100, 10, 30000, 30, 50⟩
theorem sure_one {g : Fg} {bs : List Bx} (hn : g.n = 1) (r k : Int) : sureB g bs r k = sureB g bs 0 k := by
  unfold sureB hnd
  rw [hn]
  simp only [Int.ofNat_one, show ((1 : Nat) : Int) = 1 from rfl, Int.emod_one]
theorem cat_one {g : Fg} {bs : List Bx} (hn : g.n = 1) (r : Int) : ∀ k, catL g bs r k = [] ↔ catL g bs 0 k = []
  | 0 => Iff.rfl
  | k + 1 => by
    have ih := cat_one (bs := bs) hn r k
    have e : ∀ r : Int, catL g bs r (k + 1) = catL g bs r k ++ (if sureB g bs r k = true then [r + g.le + k] else []) := fun _ => rfl
    rw [e, e, List.append_eq_nil_iff, List.append_eq_nil_iff, ih, sure_one hn r k]
    refine and_congr Iff.rfl ?_
    split <;> simp
theorem gd_one {g : Fg} {bs : List Bx} (hn : g.n = 1) (r : Int) : gd g bs r = gd g bs 0 := by
  unfold gd
  rw [decide_eq_decide]
  exact not_congr (cat_one hn r _)
theorem far_no (b : Nat) (r : Int) : gd (farG b) lpB r = false := by
  rw [gd_one rfl]
  kernel_rfl
theorem srch_no {p : Int → Bool} {a need : Int} (hp : ∀ r, p r = false) (hn : 1 ≤ need) : ∀ n k, srch p a need n k = none
  | 0, _ => rfl
  | n + 1, k => by
    have hr : rc p a (k + 1) = 0 := by rw [rc, hp]; rfl
    rw [srch, hr, if_neg (by show ¬ ((0 : Nat) : Int) = need; omega)]
    exact srch_no hp hn n (k + 1)
theorem frs_lp0 (b : Nat) : frs (lpG b, lpB) 5 0 = some 4 := by kernel_rfl
theorem frs_lp1 (b : Nat) : frs (lpG b, lpB) 5 (4 + 50 + 100) = some 158 := by kernel_rfl
theorem frs_far (b : Nat) (fr : Int) : frs (farG b, lpB) 5 fr = none := srch_no (far_no b) (by decide) _ _
theorem chn_two (b b' : Nat) : chn 5 100 [(lpG b, lpB), (lpG b', lpB)] 0 0 [] = ([(0, 4), (154, 158)], none) := by
  rw [chn, frs_lp0]
  dsimp only
  rw [chn, show (4 : Int) + (lpG b).mo + 100 = 4 + 50 + 100 from rfl, frs_lp1]
  dsimp only
  rw [chn]
  rfl
theorem chn_far (b b' : Nat) : chn 5 100 [(lpG b, lpB), (farG b', lpB)] 0 0 [] = ([], some 1) := by
  rw [chn, frs_lp0]
  dsimp only
  rw [chn, frs_far]
theorem lp_ok (b : Nat) : (lpG b).ok lpB = true := by kernel_rfl
theorem far_ok (b : Nat) : (farG b).ok lpB = true := by kernel_rfl
theorem lp_win (b : Nat) : wins (gd (lpG b) lpB) 0 51 = [(0, 50)] := by kernel_rfl
theorem far_win (b : Nat) : wins (gd (farG b) lpB) 0 6 = [] := by kernel_rfl
theorem lp_prv1 (b : Nat) : prv (lpG b) lpB 7 8 [45, 48] = true := by kernel_rfl
theorem lp_prv2 (b : Nat) : prv (lpG b) lpB 7 8 [45, 49] = false := by kernel_rfl
theorem lp_prv3 (b : Nat) : prv (lpG b) lpB 7 8 [45] = false := by kernel_rfl

theorem swing_n0 (w : World) : Calls Try.prog 18 #[iv 10000, iv 0] w fun e w' => e = .returned (.tuple #[.agg #[iv 634, iv 635], iv 0]) ∧ Below w.heap.size w w' := by
  have h1 : swg (39478417600 * 10000) = 634 := (IsSw.eq ⟨by decide, by decide, by decide, by decide⟩).symm
  have h2 : swg (39478418000 * 10000) = 634 := (IsSw.eq ⟨by decide, by decide, by decide, by decide⟩).symm
  have h3 : hiT 10000 = 635 := by unfold hiT; rw [h2]; decide
  have := Swing_good 10000 0 w (by omega) (by omega)
  rw [h1, h3] at this
  exact this
theorem swing_n1 (w : World) : Calls Try.prog 18 #[iv 0, iv 0] w fun e w' => e = .returned (.tuple #[.agg #[iv 0, iv 0], iv 2]) ∧ Below w.heap.size w w' := Swing_bad 0 0 w (by omega)
theorem load_n (b : Nat) (w : World) (hrd : Rd 4 Bx.cs (.slice (some ⟨b, 0, none⟩) 1 1) lpB w) : Calls Try.prog 42 #[(lpG b).v, iv 40] w fun e w' => e = .returned (.tuple #[iv 23880, iv 0]) ∧ Below w.heap.size w w' := by
  have := Load_ok (lpG b) lpB 40 w hrd (by decide)
  rw [lp_ok, if_pos ⟨rfl, by omega⟩, if_pos rfl, if_pos (by omega), show ldF (lpG b).f (lpG b).so 40 = 23880 from by kernel_rfl] at this
  exact this
theorem widest_n (b : Nat) (w : World) (hrd : Rd 4 Bx.cs (.slice (some ⟨b, 0, none⟩) 1 1) lpB w) : Calls Try.prog 55 #[(lpG b).v, iv 0, iv 50] w fun e w' => e = .returned (.tuple #[.agg #[iv 0, iv 50], iv 0]) ∧ Below w.heap.size w w' := by
  have := Widest_yes (lpG b) lpB 0 50 (lp_ok b) (by omega) (by omega) (by omega) w hrd (by decide)
  rw [show ((50 : Int) - 0 + 1).toNat = 51 from rfl, lp_win] at this
  exact this
theorem widest_f (b : Nat) (w : World) (hrd : Rd 4 Bx.cs (.slice (some ⟨b, 0, none⟩) 1 1) lpB w) : Calls Try.prog 55 #[(farG b).v, iv 0, iv 5] w fun e w' => e = .returned (.tuple #[.agg #[iv 0, iv 0], iv 7]) ∧ Below w.heap.size w w' := by
  have := Widest_yes (farG b) lpB 0 5 (far_ok b) (by omega) (by omega) (by omega) w hrd (by decide)
  rw [show ((5 : Int) - 0 + 1).toNat = 6 from rfl, far_win] at this
  exact this
theorem landing_n (w : World) : Calls Try.prog 33 #[lpF.v, .agg #[iv 300000, iv 600000, iv 0]] w fun e w' => e = .returned (.tuple #[.agg #[iv 124, iv 124], iv 0]) ∧ Below w.heap.size w w' := by
  have := Landing_ok lpF lpN w
  have h1 : lpF.ok = true ∧ lpN.ok = true := ⟨by kernel_rfl, by kernel_rfl⟩
  have h2 : lnd lpF lpN = ⟨124, 124⟩ := by kernel_rfl
  rw [h2, if_pos ⟨h1, by decide⟩, if_pos h1, if_pos (by decide)] at this
  exact this
def lpN2 : Nt := ⟨⟨0, 0⟩, -9000000⟩
theorem landing_f (w : World) : Calls Try.prog 33 #[lpF.v, .agg #[iv 0, iv 0, iv (-9000000)]] w fun e w' => e = .returned (.tuple #[.agg #[iv 0, iv 0], iv 7]) ∧ Below w.heap.size w w' := by
  have := Landing_ok lpF lpN2 w
  have h1 : lpF.ok = true ∧ lpN2.ok = true := ⟨by kernel_rfl, by kernel_rfl⟩
  have h2 : (lnd lpF lpN2).hi = -1 := by kernel_rfl
  rw [if_neg (fun h => by rw [h2] at h; omega), if_pos h1, if_neg (by rw [h2]; omega)] at this
  exact this
theorem catches_n (b : Nat) (w : World) (hrd : Rd 4 Bx.cs (.slice (some ⟨b, 0, none⟩) 1 1) lpB w) :
    Calls Try.prog 24 #[(lpG b).v, iv (-1)] w fun e w' => ∃ y : Option Addr × Nat, e = .returned (.tuple #[sV 0 y, iv 2]) ∧ Below w.heap.size w w' ∧ St w.heap.size (fun _ => True) w' := by
  have := Catches_ok (lpG b) lpB (-1) w hrd (by decide)
  rw [show catR (lpG b) lpB (-1) = [] from by kernel_rfl, show catE (lpG b) lpB (-1) = 2 from by kernel_rfl] at this
  exact this.mono fun _ _ ⟨z, h1, h2, _⟩ => ⟨z, h1, h2, fun _ _ => trivial⟩
theorem chain_n (w : World) : Calls Try.prog 50 #[.slice none 0 0, iv 1, iv 0] w fun e w' => e = .returned (.tuple #[.slice none 0 0, iv 0, iv 3]) ∧ Below w.heap.size w w' :=
  Chain_no [] none 0 1 0 3 w (.inl ⟨rfl, rfl⟩) (by decide) (fun p hp => by cases hp) (by rfl) (by decide)
theorem check_n (w : World) : Calls Try.prog 43 #[.agg #[iv 0, iv 0, iv 0, iv 0, iv 0, iv 0, iv 0, iv 0, iv 0, .slice none 0 0, iv 0, iv 0, iv 0, iv 0, iv 0]] w fun e w' => e = .returned (iv 1) ∧ Below w.heap.size w w' := by
  have := Check_ok ⟨⟨⟨⟨0, 0⟩, ⟨0, 0⟩⟩, ⟨⟨0, 0⟩, ⟨0, 0⟩⟩, 0⟩, none, 0, 0, 0, 0, 0, 0, 0⟩ [] w (.inl ⟨rfl, rfl⟩) (by decide)
  rw [show Fg.ok ⟨⟨⟨⟨0, 0⟩, ⟨0, 0⟩⟩, ⟨⟨0, 0⟩, ⟨0, 0⟩⟩, 0⟩, none, 0, 0, 0, 0, 0, 0, 0⟩ [] = false from by kernel_rfl] at this
  exact this
end Go.Proofs.Ytlehjapeomallaa.V
