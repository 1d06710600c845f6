/- The law of windows answers true at every flight and all ticks. -/
import Derived.Test.YtlehjapeomallaaVD
namespace Go.Proofs.Ytlehjapeomallaa.V
open Go Tx Go.RowKit
set_option linter.unusedSimpArgs false
set_option linter.unusedVariables false

theorem names97 : namesB Try.prog 97 = true := by kernel_rfl
theorem guard97 : Try.prog.eqGuardType Try.prog.depth 97 = false := by kernel_rfl
theorem eqlE97 {a b c d : Int} {x y : Operand} {K : Value → Prop} (h : K (.bool (a == c && b == d))) : ∃ v, (∀ _ : Nat → Nat, RunIs Try.prog (do eqGuard .eql 97 x y (.agg #[iv a, iv b]) (.agg #[iv c, iv d]); binOp .eql 97 (.agg #[iv a, iv b]) (.agg #[iv c, iv d])) v) ∧ K v :=
  ⟨_, fun _ => runIs_eql guard97 fun w => equalIn_two tok97 rfl (by decide) names97 (part3 _ 0 _ w rfl) (part3 _ 1 _ w rfl) (part3 _ 0 _ w rfl) (part3 _ 1 _ w rfl) (eqIn3 9998 _ _ w) (eqIn3 9998 _ _ w), h⟩
theorem eqlE97z {x y : Operand} {K : Value → Prop} (h : K (.bool true)) : ∃ v, (∀ _ : Nat → Nat, RunIs Try.prog (do eqGuard .eql 97 x y (.agg #[iv 0, iv 0]) (.agg #[iv 0, iv 0]); binOp .eql 97 (.agg #[iv 0, iv 0]) (.agg #[iv 0, iv 0])) v) ∧ K v := eqlE97 h

theorem gd_at (g : Fg) (bs : List Bx) (y : Option Addr × Nat) : gd (g.at y) bs = gd g bs := by
  funext r
  unfold gd
  rw [catL_at]
  rfl
theorem Win_at (g : Fg) (bs : List Bx) (y : Option Addr × Nat) (a : Int) (n : Nat) (hg : g.ok bs = true) (h0 : 0 ≤ a) (h2 : a + n ≤ 6000) (w : World) (hrd : Rd 4 Bx.cs (.slice y.1 g.n y.2) bs w) (hl : bs.length ≤ 1000000) :
    Calls Try.prog 54 #[(g.at y).v, iv a, iv (a + n)] w fun e w' => ∃ y : YS (wins (gd g bs) a (n + 1)), e = .returned (.tuple #[sV (wins (gd g bs) a (n + 1)).length y.1, iv 0]) ∧ Below w.heap.size w w' ∧
      St w.heap.size (Rd 2 wF (sV (wins (gd g bs) a (n + 1)).length y.1) (wins (gd g bs) a (n + 1))) w' := by
  have := Windows_yes (g.at y) bs a (a + n) hg h0 (by omega) h2 w hrd hl
  rwa [gd_at, show (a + (n : Int) - a + 1).toNat = n + 1 from by omega] at this
theorem Wid_at (g : Fg) (bs : List Bx) (y : Option Addr × Nat) (a : Int) (n : Nat) (hg : g.ok bs = true) (h0 : 0 ≤ a) (h2 : a + n ≤ 6000) (w : World) (hrd : Rd 4 Bx.cs (.slice y.1 g.n y.2) bs w) (hl : bs.length ≤ 1000000) :
    Calls Try.prog 55 #[(g.at y).v, iv a, iv (a + n)] w fun e w' => e = .returned (.tuple #[.agg #[iv (best (wins (gd g bs) a (n + 1))).1, iv (best (wins (gd g bs) a (n + 1))).2], iv (if wins (gd g bs) a (n + 1) = [] then 7 else 0)]) ∧ Below w.heap.size w w' := by
  have := Widest_yes (g.at y) bs a (a + n) hg h0 (by omega) h2 w hrd hl
  rwa [gd_at, show (a + (n : Int) - a + 1).toNat = n + 1 from by omega] at this
theorem Rwin_ys (g : Fg) (bs : List Bx) (a : Int) (n : Nat) (w : World) (hg : g.ok bs = true) (h0 : 0 ≤ a) (h2 : a + n ≤ 6000) (hrd : Rd 4 Bx.cs (.slice g.o g.n g.c) bs w) :
    Calls Try.prog 56 #[g.v, iv a, iv (a + n)] w fun e w' => ∃ y : YS (wins (gd g bs) a (n + 1)), e = .returned (sV (wins (gd g bs) a (n + 1)).length y.1) ∧ Below w.heap.size w w' ∧
      St w.heap.size (Rd 2 wF (sV (wins (gd g bs) a (n + 1)).length y.1) (wins (gd g bs) a (n + 1))) w' :=
  (Rwindows_ok g bs a n w hg h0 h2 hrd).mono fun _ _ ⟨y, h1, h2, h3⟩ => ⟨⟨y, rd_ys h3.now⟩, h1, h2, h3⟩

set_option maxRecDepth 100000 in
theorem FlightWindows_ok (g : Fg) (bs : List Bx) (a b : Int) (w : World) (hrd : Rd 4 Bx.cs (.slice g.o g.n g.c) bs w) :
    Calls Try.prog 15 #[g.v, iv a, iv b] w fun e w' => e = .returned (.bool true) ∧ Below w.heap.size w w' := by
  have hn : g.n = bs.length := hrd.len
  refine calls_val env mixed Try.func15 has15 Try.ntmps15 [g.v, iv a, iv b] (by simp) ?_
  by_cases hfew : (g.n : Int) ≤ 700
  case neg =>
    repeat'
      conv => whnf
      first
        | refine And.intro (a := drawB _ = true) (by kernel_rfl) ?_
        | refine And.intro (a := (_ : Bool) = true) rfl ?_
        | refine And.intro (a := (_ : Bool) = true ∧ (_ : Bool) = true) ⟨rfl, rfl⟩ ?_
        | refine And.intro (a := (_ : Bool) = true ∧ (_ : List _) = []) ⟨rfl, rfl⟩ ?_
        | refine And.intro (a := IR _ _) (And.intro (by omega) (by omega)) ?_
        | refine wrapE (And.intro (by omega) (by omega)) ?_
        | refine And.intro (a := (0 : Int) ≤ _ ∧ _ < _) (And.intro (by omega) (by omega)) ?_
        | refine And.intro (a := (_ : Bool) = true) (by simp only [Nat.beq_refl]; rfl) ?_
        | refine And.intro (a := ((_ : Bool) = true → 1 ≤ _) ∧ _ ≤ 9223372036854775807 ∧ _ ≤ 140737488355328) ⟨fun h => (by first | omega | cases h), by omega, by omega⟩ ?_
        | refine splT ?_
        | refine splF ?_
        | refine splNot ?_
        | (refine splIn (fun hc => ?_) (fun hc => ?_) <;> first | (exfalso; omega) | (exfalso; dsimp only at hc; omega) | skip)
        | (refine splD (fun hc => ?_) (fun hc => ?_) <;> first | (exfalso; omega) | (exfalso; dsimp only at hc; omega) | skip)
        | (refine splE (fun hc => ?_) (fun hc => ?_) <;> first | (exfalso; omega) | (exfalso; dsimp only at hc; omega) | skip)
        | (refine splNE (fun hc => ?_) (fun hc => ?_) <;> first | (exfalso; omega) | (exfalso; dsimp only at hc; omega) | skip)
        | ((with_reducible show CallEv _ _ 23 _ _ _ _ _); refine callE (k := 23) (fun β w' hbw => few_ok g _) ?_)
        | ((with_reducible show CallEv _ _ 20 _ _ _ _ _); refine callE (k := 20) (fun β w' hbw => wakes_ok _) ?_)
    exact ⟨fun β => rfl, fun w' h => h⟩
  have hl : bs.length ≤ 1000000 := by omega
  by_cases hbig : (0 ≤ a ∧ a ≤ 6000) ∧ (a + 300 ≤ b ∧ b ≤ 6000)
  case pos =>
    repeat'
      conv => whnf
      first
        | refine And.intro (a := drawB _ = true) (by kernel_rfl) ?_
        | refine And.intro (a := (_ : Bool) = true) rfl ?_
        | refine And.intro (a := (_ : Bool) = true ∧ (_ : Bool) = true) ⟨rfl, rfl⟩ ?_
        | refine And.intro (a := (_ : Bool) = true ∧ (_ : List _) = []) ⟨rfl, rfl⟩ ?_
        | refine And.intro (a := IR _ _) (And.intro (by omega) (by omega)) ?_
        | refine wrapE (And.intro (by omega) (by omega)) ?_
        | refine And.intro (a := (0 : Int) ≤ _ ∧ _ < _) (And.intro (by omega) (by omega)) ?_
        | refine And.intro (a := (_ : Bool) = true) (by simp only [Nat.beq_refl]; rfl) ?_
        | refine And.intro (a := ((_ : Bool) = true → 1 ≤ _) ∧ _ ≤ 9223372036854775807 ∧ _ ≤ 140737488355328) ⟨fun h => (by first | omega | cases h), by omega, by omega⟩ ?_
        | refine splT ?_
        | refine splF ?_
        | refine splNot ?_
        | (refine splIn (fun hc => ?_) (fun hc => ?_) <;> first | (exfalso; omega) | (exfalso; dsimp only at hc; omega) | skip)
        | (refine splD (fun hc => ?_) (fun hc => ?_) <;> first | (exfalso; omega) | (exfalso; dsimp only at hc; omega) | skip)
        | (refine splE (fun hc => ?_) (fun hc => ?_) <;> first | (exfalso; omega) | (exfalso; dsimp only at hc; omega) | skip)
        | (refine splNE (fun hc => ?_) (fun hc => ?_) <;> first | (exfalso; omega) | (exfalso; dsimp only at hc; omega) | skip)
        | ((with_reducible show CallEv _ _ 23 _ _ _ _ _); refine callE (k := 23) (fun β w' hbw => few_ok g _) ?_)
        | ((with_reducible show CallEv _ _ 20 _ _ _ _ _); refine callE (k := 20) (fun β w' hbw => wakes_ok _) ?_)
        | ((with_reducible show CallEv _ _ 19 _ _ _ _ _); refine callE (k := 19) (fun β w' hbw => In_ok _ _ _ _) ?_)
    exact ⟨fun β => rfl, fun w' h => h⟩
  have hR : ∀ w', Below w.heap.size w w' → Calls Try.prog 26 #[g.v] w' fun e w'' => e = .returned (.bool (g.ok bs)) ∧ Below w'.heap.size w' w'' := fun w' hb => Right_ok g bs w' (hrd.below hb) hl
  by_cases hg : g.ok bs = true
  case neg =>
    have hg' : g.ok bs = false := by simpa using hg
    simp only [hg'] at hR
    have hW : ∀ (y : Option Addr × Nat) w', Rd 4 Bx.cs (.slice y.1 g.n y.2) bs w' → Calls Try.prog 54 #[(g.at y).v, iv a, iv b] w' fun e w'' => e = .returned (.tuple #[.slice none 0 0, iv 1]) ∧ Below w'.heap.size w' w'' :=
      fun y w' h => Windows_no (g.at y) bs a b 1 w' h hl (by rw [askE, ok_at, if_neg hg]) (by decide)
    have hB : ∀ (y : Option Addr × Nat) w', Rd 4 Bx.cs (.slice y.1 g.n y.2) bs w' → Calls Try.prog 55 #[(g.at y).v, iv a, iv b] w' fun e w'' => e = .returned (.tuple #[.agg #[iv 0, iv 0], iv 1]) ∧ Below w'.heap.size w' w'' :=
      fun y w' h => Widest_no (g.at y) bs a b 1 w' h hl (by rw [askE, ok_at, if_neg hg]) (by decide)
    repeat'
      conv => whnf
      first
        | refine And.intro (a := drawB _ = true) (by kernel_rfl) ?_
        | refine And.intro (a := (_ : Bool) = true) rfl ?_
        | refine And.intro (a := (_ : Bool) = true ∧ (_ : Bool) = true) ⟨rfl, rfl⟩ ?_
        | refine And.intro (a := (_ : Bool) = true ∧ (_ : List _) = []) ⟨rfl, rfl⟩ ?_
        | refine And.intro (a := IR _ _) (And.intro (by omega) (by omega)) ?_
        | refine wrapE (And.intro (by omega) (by omega)) ?_
        | refine And.intro (a := (0 : Int) ≤ _ ∧ _ < _) (And.intro (by omega) (by omega)) ?_
        | refine And.intro (a := (_ : Bool) = true) (by simp only [Nat.beq_refl]; rfl) ?_
        | refine And.intro (a := ((_ : Bool) = true → 1 ≤ _) ∧ _ ≤ 9223372036854775807 ∧ _ ≤ 140737488355328) ⟨fun h => (by first | omega | cases h), by omega, by omega⟩ ?_
        | refine splT ?_
        | refine splF ?_
        | refine splNot ?_
        | (refine splIn (fun hc => ?_) (fun hc => ?_) <;> first | (exfalso; omega) | (exfalso; dsimp only at hc; omega) | skip)
        | (refine splD (fun hc => ?_) (fun hc => ?_) <;> first | (exfalso; omega) | (exfalso; dsimp only at hc; omega) | skip)
        | (refine splE (fun hc => ?_) (fun hc => ?_) <;> first | (exfalso; omega) | (exfalso; dsimp only at hc; omega) | skip)
        | (refine splNE (fun hc => ?_) (fun hc => ?_) <;> first | (exfalso; omega) | (exfalso; dsimp only at hc; omega) | skip)
        | ((with_reducible show CallEv _ _ 23 _ _ _ _ _); refine callE (k := 23) (fun β w' hbw => few_ok g _) ?_)
        | ((with_reducible show CallEv _ _ 20 _ _ _ _ _); refine callE (k := 20) (fun β w' hbw => wakes_ok _) ?_)
        | ((with_reducible show CallEv _ _ 19 _ _ _ _ _); refine callE (k := 19) (fun β w' hbw => In_ok _ _ _ _) ?_)
        | ((with_reducible show CallEv _ _ 25 _ _ _ _ _); refine callF [] (fun y => (g.at y).v) (fun y => Rd 4 Bx.cs (.slice y.1 g.n y.2) bs) (fun β w' _ hbw => fam (Flight_ok g bs w' (hrd.below (by first | exact hbw | exact hbw.1 | exact hbw.1.1 | exact hbw.1.1.1 | exact hbw.1.1.1.1 | exact hbw.1.1.1.1.1 | exact hbw.1.1.1.1.1.1 | exact hbw.1.1.1.1.1.1.1)) hl)) ?_; intro y)
        | ((with_reducible show CallEv _ _ 54 _ _ _ _ _); refine callE (k := 54) (fun β w' hbw => hW y _ hbw.2) ?_)
        | ((with_reducible show CallEv _ _ 55 _ _ _ _ _); refine callE (k := 55) (fun β w' hbw => hB y _ hbw.2) ?_)
        | ((with_reducible show CallEv _ _ 26 _ _ _ _ _); refine callE (k := 26) (fun β w' hbw => hR _ (by first | exact hbw | exact hbw.1 | exact hbw.1.1 | exact hbw.1.1.1 | exact hbw.1.1.1.1 | exact hbw.1.1.1.1.1 | exact hbw.1.1.1.1.1.1 | exact hbw.1.1.1.1.1.1.1)) ?_)
        | refine eqlE97z ?_
    all_goals exact ⟨fun β => rfl, fun w' h => h.1.1⟩
  simp only [hg] at hR
  by_cases hask : (0 ≤ a ∧ a ≤ b) ∧ b ≤ 6000
  case neg =>
    have hW : ∀ (y : Option Addr × Nat) w', Rd 4 Bx.cs (.slice y.1 g.n y.2) bs w' → Calls Try.prog 54 #[(g.at y).v, iv a, iv b] w' fun e w'' => e = .returned (.tuple #[.slice none 0 0, iv 2]) ∧ Below w'.heap.size w' w'' :=
      fun y w' h => Windows_no (g.at y) bs a b 2 w' h hl (by rw [askE, ok_at, if_pos hg, if_neg hask]) (by decide)
    have hB : ∀ (y : Option Addr × Nat) w', Rd 4 Bx.cs (.slice y.1 g.n y.2) bs w' → Calls Try.prog 55 #[(g.at y).v, iv a, iv b] w' fun e w'' => e = .returned (.tuple #[.agg #[iv 0, iv 0], iv 2]) ∧ Below w'.heap.size w' w'' :=
      fun y w' h => Widest_no (g.at y) bs a b 2 w' h hl (by rw [askE, ok_at, if_pos hg, if_neg hask]) (by decide)
    repeat'
      conv => whnf
      first
        | refine And.intro (a := drawB _ = true) (by kernel_rfl) ?_
        | refine And.intro (a := (_ : Bool) = true) rfl ?_
        | refine And.intro (a := (_ : Bool) = true ∧ (_ : Bool) = true) ⟨rfl, rfl⟩ ?_
        | refine And.intro (a := (_ : Bool) = true ∧ (_ : List _) = []) ⟨rfl, rfl⟩ ?_
        | refine And.intro (a := IR _ _) (And.intro (by omega) (by omega)) ?_
        | refine wrapE (And.intro (by omega) (by omega)) ?_
        | refine And.intro (a := (0 : Int) ≤ _ ∧ _ < _) (And.intro (by omega) (by omega)) ?_
        | refine And.intro (a := (_ : Bool) = true) (by simp only [Nat.beq_refl]; rfl) ?_
        | refine And.intro (a := ((_ : Bool) = true → 1 ≤ _) ∧ _ ≤ 9223372036854775807 ∧ _ ≤ 140737488355328) ⟨fun h => (by first | omega | cases h), by omega, by omega⟩ ?_
        | refine splT ?_
        | refine splF ?_
        | refine splNot ?_
        | (refine splIn (fun hc => ?_) (fun hc => ?_) <;> first | (exfalso; omega) | (exfalso; dsimp only at hc; omega) | skip)
        | (refine splD (fun hc => ?_) (fun hc => ?_) <;> first | (exfalso; omega) | (exfalso; dsimp only at hc; omega) | skip)
        | (refine splE (fun hc => ?_) (fun hc => ?_) <;> first | (exfalso; omega) | (exfalso; dsimp only at hc; omega) | skip)
        | (refine splNE (fun hc => ?_) (fun hc => ?_) <;> first | (exfalso; omega) | (exfalso; dsimp only at hc; omega) | skip)
        | ((with_reducible show CallEv _ _ 23 _ _ _ _ _); refine callE (k := 23) (fun β w' hbw => few_ok g _) ?_)
        | ((with_reducible show CallEv _ _ 20 _ _ _ _ _); refine callE (k := 20) (fun β w' hbw => wakes_ok _) ?_)
        | ((with_reducible show CallEv _ _ 19 _ _ _ _ _); refine callE (k := 19) (fun β w' hbw => In_ok _ _ _ _) ?_)
        | ((with_reducible show CallEv _ _ 25 _ _ _ _ _); refine callF [] (fun y => (g.at y).v) (fun y => Rd 4 Bx.cs (.slice y.1 g.n y.2) bs) (fun β w' _ hbw => fam (Flight_ok g bs w' (hrd.below (by first | exact hbw | exact hbw.1 | exact hbw.1.1 | exact hbw.1.1.1 | exact hbw.1.1.1.1 | exact hbw.1.1.1.1.1 | exact hbw.1.1.1.1.1.1 | exact hbw.1.1.1.1.1.1.1)) hl)) ?_; intro y)
        | ((with_reducible show CallEv _ _ 54 _ _ _ _ _); refine callE (k := 54) (fun β w' hbw => hW y _ hbw.2) ?_)
        | ((with_reducible show CallEv _ _ 55 _ _ _ _ _); refine callE (k := 55) (fun β w' hbw => hB y _ hbw.2) ?_)
        | ((with_reducible show CallEv _ _ 26 _ _ _ _ _); refine callE (k := 26) (fun β w' hbw => hR _ (by first | exact hbw | exact hbw.1 | exact hbw.1.1 | exact hbw.1.1.1 | exact hbw.1.1.1.1 | exact hbw.1.1.1.1.1 | exact hbw.1.1.1.1.1.1 | exact hbw.1.1.1.1.1.1.1)) ?_)
        | refine eqlE97z ?_
    all_goals exact ⟨fun β => rfl, fun w' h => h.1.1⟩
  obtain ⟨n, rfl⟩ : ∃ n : Nat, b = a + n := ⟨(b - a).toNat, by omega⟩
  have h0 : 0 ≤ a := hask.1.1
  have h2 : a + n ≤ 6000 := hask.2
  have hW := fun y w' h => Win_at g bs y a n hg h0 h2 w' h hl
  have hB := fun y w' h => Wid_at g bs y a n hg h0 h2 w' h hl
  have hV := fun w' hb => Rwin_ys g bs a n w' hg h0 h2 (hrd.below hb)
  have hin := wins_in (p := gd g bs) h0 (n := n + 1)
  have hlen := wins_len (p := gd g bs) h0 (n + 1)
  generalize wins (gd g bs) a (n + 1) = L at *
  have hbd : ∀ x ∈ L, 0 ≤ x.1 ∧ x.1 ≤ 6000 ∧ 0 ≤ x.2 ∧ x.2 ≤ 6000 := fun x hx => by
    obtain ⟨q1, q2, q3, _⟩ := hin x hx
    omega
  have hcmp := fun y z w' h1 h2 => wcmp_same y z L w' h1 h2 (by omega)
  cases L with
  | nil =>
    simp only [if_true] at hB
    rw [show best ([] : List (Int × Int)) = (0, 0) from rfl] at hB
    repeat'
      conv => whnf
      first
        | refine And.intro (a := drawB _ = true) (by kernel_rfl) ?_
        | refine And.intro (a := (_ : Bool) = true) rfl ?_
        | refine And.intro (a := (_ : Bool) = true ∧ (_ : Bool) = true) ⟨rfl, rfl⟩ ?_
        | refine And.intro (a := (_ : Bool) = true ∧ (_ : List _) = []) ⟨rfl, rfl⟩ ?_
        | refine And.intro (a := IR _ _) (And.intro (by omega) (by omega)) ?_
        | refine wrapE (And.intro (by omega) (by omega)) ?_
        | refine And.intro (a := (0 : Int) ≤ _ ∧ _ < _) (And.intro (by omega) (by omega)) ?_
        | refine And.intro (a := (_ : Bool) = true) (by simp only [Nat.beq_refl]; rfl) ?_
        | refine And.intro (a := ((_ : Bool) = true → 1 ≤ _) ∧ _ ≤ 9223372036854775807 ∧ _ ≤ 140737488355328) ⟨fun h => (by first | omega | cases h), by omega, by omega⟩ ?_
        | refine splT ?_
        | refine splF ?_
        | refine splNot ?_
        | (refine splIn (fun hc => ?_) (fun hc => ?_) <;> first | (exfalso; omega) | (exfalso; dsimp only at hc; omega) | skip)
        | (refine splD (fun hc => ?_) (fun hc => ?_) <;> first | (exfalso; omega) | (exfalso; dsimp only at hc; omega) | skip)
        | (refine splE (fun hc => ?_) (fun hc => ?_) <;> first | (exfalso; omega) | (exfalso; dsimp only at hc; omega) | skip)
        | (refine splNE (fun hc => ?_) (fun hc => ?_) <;> first | (exfalso; omega) | (exfalso; dsimp only at hc; omega) | skip)
        | ((with_reducible show CallEv _ _ 23 _ _ _ _ _); refine callE (k := 23) (fun β w' hbw => few_ok g _) ?_)
        | ((with_reducible show CallEv _ _ 20 _ _ _ _ _); refine callE (k := 20) (fun β w' hbw => wakes_ok _) ?_)
        | ((with_reducible show CallEv _ _ 19 _ _ _ _ _); refine callE (k := 19) (fun β w' hbw => In_ok _ _ _ _) ?_)
        | ((with_reducible show CallEv _ _ 25 _ _ _ _ _); refine callF [] (fun y => (g.at y).v) (fun y => Rd 4 Bx.cs (.slice y.1 g.n y.2) bs) (fun β w' _ hbw => fam (Flight_ok g bs w' (hrd.below (by first | exact hbw | exact hbw.1 | exact hbw.1.1 | exact hbw.1.1.1 | exact hbw.1.1.1.1 | exact hbw.1.1.1.1.1 | exact hbw.1.1.1.1.1.1 | exact hbw.1.1.1.1.1.1.1)) hl)) ?_; intro y)
        | ((with_reducible show CallEv _ _ 54 _ _ _ _ _); refine callF [] (fun u : YS ([] : List (Int × Int)) => .tuple #[sV 0 u.1, iv 0]) (fun u => St w.heap.size (Rd 2 wF (sV 0 u.1) ([] : List (Int × Int)))) (fun β w' _ hbw => famS hbw.1 (hW y w' hbw.2)) ?_; intro u)
        | ((with_reducible show CallEv _ _ 55 _ _ _ _ _); refine callE (k := 55) (fun β w' hbw => hB y _ hbw.2) ?_)
        | ((with_reducible show CallEv _ _ 26 _ _ _ _ _); refine callE (k := 26) (fun β w' hbw => hR _ (by first | exact hbw | exact hbw.1 | exact hbw.1.1 | exact hbw.1.1.1 | exact hbw.1.1.1.1 | exact hbw.1.1.1.1.1 | exact hbw.1.1.1.1.1.1 | exact hbw.1.1.1.1.1.1.1)) ?_)
        | ((with_reducible show CallEv _ _ 56 _ _ _ _ _); refine callF [] (fun v : YS ([] : List (Int × Int)) => sV 0 v.1) (fun v => St w.heap.size (Rd 2 wF (sV 0 v.1) ([] : List (Int × Int)))) (fun β w' _ hbw => famS (by first | exact hbw | exact hbw.1 | exact hbw.1.1 | exact hbw.1.1.1 | exact hbw.1.1.1.1 | exact hbw.1.1.1.1.1 | exact hbw.1.1.1.1.1.1 | exact hbw.1.1.1.1.1.1.1) (hV w' (by first | exact hbw | exact hbw.1 | exact hbw.1.1 | exact hbw.1.1.1 | exact hbw.1.1.1.1 | exact hbw.1.1.1.1.1 | exact hbw.1.1.1.1.1.1 | exact hbw.1.1.1.1.1.1.1))) ?_; intro v)
        | ((with_reducible show CallEv _ _ 53 _ _ _ _ _); refine callE (k := 53) (fun β w' hbw => hcmp u.1 v.1 _ hbw.1.1.2.now hbw.2.now) ?_)
        | refine eqlE97z ?_
    all_goals exact ⟨fun β => rfl, fun w' h => h.1.1.1.1⟩
  | cons c L =>
    rw [if_neg (by simp)] at hB
    have hpos : 0 < (c :: L).length := by simp
    repeat'
      conv => whnf
      first
        | refine And.intro (a := drawB _ = true) (by kernel_rfl) ?_
        | refine And.intro (a := (_ : Bool) = true) rfl ?_
        | refine And.intro (a := (_ : Bool) = true ∧ (_ : Bool) = true) ⟨rfl, rfl⟩ ?_
        | refine And.intro (a := (_ : Bool) = true ∧ (_ : List _) = []) ⟨rfl, rfl⟩ ?_
        | refine And.intro (a := IR _ _) (And.intro (by omega) (by omega)) ?_
        | refine wrapE (And.intro (by omega) (by omega)) ?_
        | refine And.intro (a := (0 : Int) ≤ _ ∧ _ < _) (And.intro (by omega) (by omega)) ?_
        | refine And.intro (a := (_ : Bool) = true) (by simp only [Nat.beq_refl]; rfl) ?_
        | refine And.intro (a := ((_ : Bool) = true → 1 ≤ _) ∧ _ ≤ 9223372036854775807 ∧ _ ≤ 140737488355328) ⟨fun h => (by first | omega | cases h), by omega, by omega⟩ ?_
        | refine splT ?_
        | refine splF ?_
        | refine splNot ?_
        | (refine splIn (fun hc => ?_) (fun hc => ?_) <;> first | (exfalso; omega) | (exfalso; dsimp only at hc; omega) | skip)
        | (refine splD (fun hc => ?_) (fun hc => ?_) <;> first | (exfalso; omega) | (exfalso; dsimp only at hc; omega) | skip)
        | (refine splE (fun hc => ?_) (fun hc => ?_) <;> first | (exfalso; omega) | (exfalso; dsimp only at hc; omega) | skip)
        | (refine splNE (fun hc => ?_) (fun hc => ?_) <;> first | (exfalso; omega) | (exfalso; dsimp only at hc; omega) | skip)
        | ((with_reducible show CallEv _ _ 23 _ _ _ _ _); refine callE (k := 23) (fun β w' hbw => few_ok g _) ?_)
        | ((with_reducible show CallEv _ _ 20 _ _ _ _ _); refine callE (k := 20) (fun β w' hbw => wakes_ok _) ?_)
        | ((with_reducible show CallEv _ _ 19 _ _ _ _ _); refine callE (k := 19) (fun β w' hbw => In_ok _ _ _ _) ?_)
        | ((with_reducible show CallEv _ _ 25 _ _ _ _ _); refine callF [] (fun y => (g.at y).v) (fun y => Rd 4 Bx.cs (.slice y.1 g.n y.2) bs) (fun β w' _ hbw => fam (Flight_ok g bs w' (hrd.below (by first | exact hbw | exact hbw.1 | exact hbw.1.1 | exact hbw.1.1.1 | exact hbw.1.1.1.1 | exact hbw.1.1.1.1.1 | exact hbw.1.1.1.1.1.1 | exact hbw.1.1.1.1.1.1.1)) hl)) ?_; intro y)
        | ((with_reducible show CallEv _ _ 54 _ _ _ _ _); refine callF [] (fun u : YS (c :: L) => .tuple #[sV (c :: L).length u.1, iv 0]) (fun u => St w.heap.size (Rd 2 wF (sV (c :: L).length u.1) (c :: L))) (fun β w' _ hbw => famS hbw.1 (hW y w' hbw.2)) ?_; intro u)
        | ((with_reducible show CallEv _ _ 55 _ _ _ _ _); refine callE (k := 55) (fun β w' hbw => hB y _ hbw.2) ?_)
        | ((with_reducible show CallEv _ _ 26 _ _ _ _ _); refine callE (k := 26) (fun β w' hbw => hR _ (by first | exact hbw | exact hbw.1 | exact hbw.1.1 | exact hbw.1.1.1 | exact hbw.1.1.1.1 | exact hbw.1.1.1.1.1 | exact hbw.1.1.1.1.1.1 | exact hbw.1.1.1.1.1.1.1)) ?_)
        | ((with_reducible show CallEv _ _ 56 _ _ _ _ _); refine callF [] (fun v : YS (c :: L) => sV (c :: L).length v.1) (fun v => St w.heap.size (Rd 2 wF (sV (c :: L).length v.1) (c :: L))) (fun β w' _ hbw => famS (by first | exact hbw | exact hbw.1 | exact hbw.1.1 | exact hbw.1.1.1 | exact hbw.1.1.1.1 | exact hbw.1.1.1.1.1 | exact hbw.1.1.1.1.1.1 | exact hbw.1.1.1.1.1.1.1) (hV w' (by first | exact hbw | exact hbw.1 | exact hbw.1.1 | exact hbw.1.1.1 | exact hbw.1.1.1.1 | exact hbw.1.1.1.1.1 | exact hbw.1.1.1.1.1.1 | exact hbw.1.1.1.1.1.1.1))) ?_; intro v; obtain ⟨⟨vo, vc⟩, hv⟩ := v; obtain ⟨ad, hvo⟩ := hv.resolve_left (by simp); dsimp only at hvo; subst hvo)
        | ((with_reducible show CallEv _ _ 53 _ _ _ _ _); refine callE (k := 53) (fun β w' hbw => hcmp u.1 (some ad, vc) _ hbw.1.1.2.now hbw.2.now) ?_)
        | refine Exists.intro (α := List Value) (wF c) ⟨⟨rfl, fun w' hw' => rd_at hw'.2.now (k := 0) rfl⟩, ?_⟩
    refine loopN 4 (fun k : Nat => [(12, .v (.slice (some ad) (c :: L).length vc)), (14, .v (iv k)), (13, .ptr 2 0), (9, .ptr 1 0), (10, .v (iv 0))]) (fun k => [(1, .cells [.v (iv (best (c :: L)).1), .v (iv (best (c :: L)).2)] 97), (2, .cells [.v (iv (wide (c :: L) k c).1), .v (iv (wide (c :: L) k c).2)] 94)])
      (fun k => k ≤ (c :: L).length) (fun k => (c :: L).length - k) 0 (Nat.zero_le _) ⟨rfl, rfl, rfl, rfl, rfl, trivial⟩ ⟨rfl, rfl, trivial⟩ (fun _ _ => ⟨rfl, rfl⟩) ?_
    intro k hk
    have hwb := wide_bd hbd (hbd c (by simp)) k
    rcases Nat.lt_or_ge k (c :: L).length with hkl | hkl
    · obtain ⟨x, hb⟩ : ∃ b, (c :: L)[k]? = some b := ⟨_, List.getElem?_eq_getElem hkl⟩
      have hx := hbd x (List.mem_of_getElem? hb)
      have hat := wide_at hb c
      obtain ⟨p, q⟩ := x
      generalize best (c :: L) = bst at *
      generalize wide (c :: L) k c = u at *
      by_cases hgt : q - p > u.2 - u.1
      · rw [if_pos hgt] at hat
        repeat'
          conv => whnf
          first
            | refine And.intro (a := drawB _ = true) (by kernel_rfl) ?_
            | refine And.intro (a := (_ : Bool) = true) rfl ?_
            | refine And.intro (a := (_ : Bool) = true ∧ (_ : Bool) = true) ⟨rfl, rfl⟩ ?_
            | refine And.intro (a := (_ : Bool) = true ∧ (_ : List _) = []) ⟨rfl, rfl⟩ ?_
            | refine And.intro (a := IR _ _) (And.intro (by omega) (by omega)) ?_
            | refine wrapE (And.intro (by omega) (by omega)) ?_
            | refine And.intro (a := (0 : Int) ≤ _ ∧ _ < _) (And.intro (by omega) (by omega)) ?_
            | refine And.intro (a := (_ : Bool) = true) (by simp only [Nat.beq_refl]; rfl) ?_
            | refine And.intro (a := ((_ : Bool) = true → 1 ≤ _) ∧ _ ≤ 9223372036854775807 ∧ _ ≤ 140737488355328) ⟨fun h => (by first | omega | cases h), by omega, by omega⟩ ?_
            | refine splT ?_
            | refine splF ?_
            | refine splNot ?_
            | (refine splIn (fun hc => ?_) (fun hc => ?_) <;> first | (exfalso; omega) | (exfalso; dsimp only at hc; omega) | skip)
            | (refine splD (fun hc => ?_) (fun hc => ?_) <;> first | (exfalso; omega) | (exfalso; dsimp only at hc; omega) | skip)
            | (refine splE (fun hc => ?_) (fun hc => ?_) <;> first | (exfalso; omega) | (exfalso; dsimp only at hc; omega) | skip)
            | (refine splNE (fun hc => ?_) (fun hc => ?_) <;> first | (exfalso; omega) | (exfalso; dsimp only at hc; omega) | skip)
            | refine Exists.intro (α := List Value) [iv q] ⟨⟨rfl, fun w' hw' => rd_fld hw'.2.now hb 1 _ rfl⟩, ?_⟩
            | refine Exists.intro (α := List Value) [iv p] ⟨⟨rfl, fun w' hw' => rd_fld hw'.2.now hb 0 _ rfl⟩, ?_⟩
            | refine Exists.intro (α := List Value) (wF (p, q)) ⟨⟨rfl, fun w' hw' => rd_ati hw'.2.now hb⟩, ?_⟩
        exact ⟨k + 1, by omega, by omega, Ent.weak rfl ⟨rfl, rfl, rfl, rfl, rfl, trivial⟩ (by rw [hat]; exact ⟨rfl, rfl, trivial⟩) fun _ h => h⟩
      · rw [if_neg hgt] at hat
        repeat'
          conv => whnf
          first
            | refine And.intro (a := drawB _ = true) (by kernel_rfl) ?_
            | refine And.intro (a := (_ : Bool) = true) rfl ?_
            | refine And.intro (a := (_ : Bool) = true ∧ (_ : Bool) = true) ⟨rfl, rfl⟩ ?_
            | refine And.intro (a := (_ : Bool) = true ∧ (_ : List _) = []) ⟨rfl, rfl⟩ ?_
            | refine And.intro (a := IR _ _) (And.intro (by omega) (by omega)) ?_
            | refine wrapE (And.intro (by omega) (by omega)) ?_
            | refine And.intro (a := (0 : Int) ≤ _ ∧ _ < _) (And.intro (by omega) (by omega)) ?_
            | refine And.intro (a := (_ : Bool) = true) (by simp only [Nat.beq_refl]; rfl) ?_
            | refine And.intro (a := ((_ : Bool) = true → 1 ≤ _) ∧ _ ≤ 9223372036854775807 ∧ _ ≤ 140737488355328) ⟨fun h => (by first | omega | cases h), by omega, by omega⟩ ?_
            | refine splT ?_
            | refine splF ?_
            | refine splNot ?_
            | (refine splIn (fun hc => ?_) (fun hc => ?_) <;> first | (exfalso; omega) | (exfalso; dsimp only at hc; omega) | skip)
            | (refine splD (fun hc => ?_) (fun hc => ?_) <;> first | (exfalso; omega) | (exfalso; dsimp only at hc; omega) | skip)
            | (refine splE (fun hc => ?_) (fun hc => ?_) <;> first | (exfalso; omega) | (exfalso; dsimp only at hc; omega) | skip)
            | (refine splNE (fun hc => ?_) (fun hc => ?_) <;> first | (exfalso; omega) | (exfalso; dsimp only at hc; omega) | skip)
            | refine Exists.intro (α := List Value) [iv q] ⟨⟨rfl, fun w' hw' => rd_fld hw'.2.now hb 1 _ rfl⟩, ?_⟩
            | refine Exists.intro (α := List Value) [iv p] ⟨⟨rfl, fun w' hw' => rd_fld hw'.2.now hb 0 _ rfl⟩, ?_⟩
            | refine Exists.intro (α := List Value) (wF (p, q)) ⟨⟨rfl, fun w' hw' => rd_ati hw'.2.now hb⟩, ?_⟩
        exact ⟨k + 1, by omega, by omega, Ent.weak rfl ⟨rfl, rfl, rfl, rfl, rfl, trivial⟩ (by rw [hat]; exact ⟨rfl, rfl, trivial⟩) fun _ h => h⟩
    · obtain rfl : k = (c :: L).length := by omega
      rw [show wide (c :: L) (c :: L).length c = best (c :: L) from rfl]
      generalize best (c :: L) = u at *
      repeat'
        conv => whnf
        first
          | refine And.intro (a := drawB _ = true) (by kernel_rfl) ?_
          | refine And.intro (a := (_ : Bool) = true) rfl ?_
          | refine And.intro (a := (_ : Bool) = true ∧ (_ : Bool) = true) ⟨rfl, rfl⟩ ?_
          | refine And.intro (a := (_ : Bool) = true ∧ (_ : List _) = []) ⟨rfl, rfl⟩ ?_
          | refine And.intro (a := IR _ _) (And.intro (by omega) (by omega)) ?_
          | refine wrapE (And.intro (by omega) (by omega)) ?_
          | refine And.intro (a := (0 : Int) ≤ _ ∧ _ < _) (And.intro (by omega) (by omega)) ?_
          | refine And.intro (a := (_ : Bool) = true) (by simp only [Nat.beq_refl]; rfl) ?_
          | refine And.intro (a := ((_ : Bool) = true → 1 ≤ _) ∧ _ ≤ 9223372036854775807 ∧ _ ≤ 140737488355328) ⟨fun h => (by first | omega | cases h), by omega, by omega⟩ ?_
          | refine splT ?_
          | refine splF ?_
          | refine splNot ?_
          | (refine splIn (fun hc => ?_) (fun hc => ?_) <;> first | (exfalso; omega) | (exfalso; dsimp only at hc; omega) | skip)
          | (refine splD (fun hc => ?_) (fun hc => ?_) <;> first | (exfalso; omega) | (exfalso; dsimp only at hc; omega) | skip)
          | (refine splE (fun hc => ?_) (fun hc => ?_) <;> first | (exfalso; omega) | (exfalso; dsimp only at hc; omega) | skip)
          | (refine splNE (fun hc => ?_) (fun hc => ?_) <;> first | (exfalso; omega) | (exfalso; dsimp only at hc; omega) | skip)
          | ((with_reducible show CallEv _ _ 20 _ _ _ _ _); refine callE (k := 20) (fun β w' hbw => wakes_ok _) ?_)
      all_goals first | exact ⟨fun β => rfl, fun w' h => h.1.1.1.1⟩ | (exfalso; simp_all; done) | skip
end Go.Proofs.Ytlehjapeomallaa.V
