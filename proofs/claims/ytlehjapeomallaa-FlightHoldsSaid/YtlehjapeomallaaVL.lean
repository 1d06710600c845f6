/- The law of proofs of windows answers true: its end. -/
import Derived.Test.YtlehjapeomallaaVK
namespace Go.Proofs.Ytlehjapeomallaa.V
open Go Tx Go.RowKit
set_option linter.unusedSimpArgs false
set_option linter.unusedVariables false

theorem eqlB (a b : Bool) (x y : Operand) : RunIs Try.prog (do eqGuard .eql 4 x y (.bool a) (.bool b); binOp .eql 4 (.bool a) (.bool b)) (.bool (a == b)) := fun w => by
  have h := eqIn4 9999 a b w
  simp [eqGuard, binOp, Op.equal, Op.maxDepth, h]
theorem eqlEB {a b : Bool} {x y : Operand} {K : Value → Prop} (h : K (.bool (a == b))) : ∃ v, (∀ _ : Nat → Nat, RunIs Try.prog (do eqGuard .eql 4 x y (.bool a) (.bool b); binOp .eql 4 (.bool a) (.bool b)) v) ∧ K v := ⟨_, fun _ => eqlB a b x y, h⟩

set_option maxRecDepth 100000 in
theorem finNB (g : Fg) (bs : List Bx) (a b : Int)  (w : World) (hrd : Rd 4 Bx.cs (.slice g.o g.n g.c) bs w) (hl : bs.length ≤ 1000000) (hL : ([] : List Int).length ≤ 1000000) (hr : ∀ n ∈ ([] : List Int), -9223372036854775808 ≤ n ∧ n ≤ 9223372036854775807) :
    VC Try.prog (rest 7 body12) ⟨152, [(6, .ptr 0 0), (7, .ptr 1 0), (13, .v (.slice none 0 0)), (17, .v (.bool (prv g bs a b ([]))))], [(0, .cells (gss' g) 41), (1, .cells [.v (iv a), .v (iv b)] 94)], 5, Below w.heap.size w, z0⟩ (endΦ env Try.f12 fun s σ => (∀ β, s.c β = .bool true) ∧ ∀ w', σ.h w' → Below w.heap.size w w') := by
  have hn : g.n = bs.length := hrd.len
  have hP : ∀ (yo : Option Addr) (yc : Nat) (zo : Option Addr) (zc : Nat) w', Rd 4 Bx.cs (.slice yo g.n yc) bs w' → Rd 1 iF (.slice zo 0 zc) ([]) w' → Calls Try.prog 48 #[.agg #[iv g.f.a.x.lo, iv g.f.a.x.hi, iv g.f.a.z.lo, iv g.f.a.z.hi, iv g.f.s.x.lo, iv g.f.s.x.hi, iv g.f.s.z.lo, iv g.f.s.z.hi, iv g.f.m, .slice yo g.n yc, iv g.re, iv g.so, iv g.be, iv g.le, iv g.mo], .agg #[iv a, iv b], .slice zo 0 zc] w' fun e w'' => e = .returned (.bool (prv g bs a b ([]))) ∧ Below w'.heap.size w' w'' :=
    fun yo yc zo zc w' h1 h2 => by rw [← prv_at g bs (yo, yc)]; exact ProveWindow_ok (g.at (yo, yc)) bs a b (zo, zc) _ w' h1 hl h2 hr
  generalize prv g bs a b ([]) = P0 at *
  skip
  refine VC.of env mixed ?_
  by_cases hne : bs = []
  · subst hne
    have hP0 : ∀ (zo : Option Addr) (zc : Nat) w', Rd 1 iF (.slice zo 0 zc) ([]) w' → Calls Try.prog 48 #[.agg #[iv g.f.a.x.lo, iv g.f.a.x.hi, iv g.f.a.z.lo, iv g.f.a.z.hi, iv g.f.s.x.lo, iv g.f.s.x.hi, iv g.f.s.z.lo, iv g.f.s.z.hi, iv g.f.m, .slice none 0 0, iv g.re, iv g.so, iv g.be, iv g.le, iv g.mo], .agg #[iv a, iv b], .slice zo 0 zc] w' fun e w'' => e = .returned (.bool (P0)) ∧ Below w'.heap.size w' w'' := fun zo zc w' h => by
      have := hP none 0 zo zc w' (.inl ⟨by rw [show g.n = 0 from hn], rfl⟩) h
      rwa [show g.n = 0 from hn] at this
    clear hP
    cases P0
    all_goals skip
    repeat'
      conv => whnf
      first
        | refine And.intro (a := drawB _ = true) (by kernel_rfl) ?_
        | refine And.intro (a := (_ : Bool) = true) rfl ?_
        | refine And.intro (a := (_ : Bool) = true ∧ (_ : Bool) = true) ⟨rfl, rfl⟩ ?_
        | refine And.intro (a := (_ : Bool) = true ∧ (_ : List _) = []) ⟨rfl, rfl⟩ ?_
        | refine And.intro (a := IR _ _) (And.intro (by omega) (by omega)) ?_
        | refine wrapE (And.intro (by omega) (by omega)) ?_
        | refine And.intro (a := (0 : Int) ≤ _ ∧ _ < _) (And.intro (by omega) (by omega)) ?_
        | refine And.intro (a := (_ : Bool) = true) (by simp only [Nat.beq_refl]; rfl) ?_
        | refine And.intro (a := ((_ : Bool) = true → 1 ≤ _) ∧ _ ≤ 9223372036854775807 ∧ _ ≤ 140737488355328) ⟨fun h => (by first | omega | cases h), by omega, by omega⟩ ?_
        | refine splT ?_
        | refine splF ?_
        | refine splNot ?_
        | (refine splIn (fun hc => ?_) (fun hc => ?_) <;> first | (exfalso; omega) | (exfalso; dsimp only at hc; omega) | skip)
        | (refine splD (fun hc => ?_) (fun hc => ?_) <;> first | (exfalso; omega) | (exfalso; dsimp only at hc; omega) | skip)
        | (refine splE (fun hc => ?_) (fun hc => ?_) <;> first | (exfalso; omega) | (exfalso; dsimp only at hc; omega) | skip)
        | (refine splNE (fun hc => ?_) (fun hc => ?_) <;> first | (exfalso; omega) | (exfalso; dsimp only at hc; omega) | skip)
        | ((with_reducible show CallEv _ _ 25 _ _ _ _ _); refine callE (k := 25) (fun β w' hbw => Flight_nil g _ hn) ?_)
        | ((with_reducible show CallEv _ _ 48 _ _ _ _ _); refine callM (k := 48) [] (fun β w' hbk hbw => hP0 (some ⟨β 5, 0, none⟩) (0) w' (.inr ⟨_, _, rfl, fun k b h => by simp at h⟩)) ?_)
        | ((with_reducible show CallEv _ _ 20 _ _ _ _ _); refine callE (k := 20) (fun β w' hbw => wakes_ok _) ?_)
        | refine eqlEB ?_
        | refine And.intro (a := (_ : Bool) = true) rfl ?_
    all_goals exact ⟨fun β => rfl, fun w' h => h⟩
  · cases P0
    all_goals skip
    repeat'
      conv => whnf
      first
        | refine And.intro (a := drawB _ = true) (by kernel_rfl) ?_
        | refine And.intro (a := (_ : Bool) = true) rfl ?_
        | refine And.intro (a := (_ : Bool) = true ∧ (_ : Bool) = true) ⟨rfl, rfl⟩ ?_
        | refine And.intro (a := (_ : Bool) = true ∧ (_ : List _) = []) ⟨rfl, rfl⟩ ?_
        | refine And.intro (a := IR _ _) (And.intro (by omega) (by omega)) ?_
        | refine wrapE (And.intro (by omega) (by omega)) ?_
        | refine And.intro (a := (0 : Int) ≤ _ ∧ _ < _) (And.intro (by omega) (by omega)) ?_
        | refine And.intro (a := (_ : Bool) = true) (by simp only [Nat.beq_refl]; rfl) ?_
        | refine And.intro (a := ((_ : Bool) = true → 1 ≤ _) ∧ _ ≤ 9223372036854775807 ∧ _ ≤ 140737488355328) ⟨fun h => (by first | omega | cases h), by omega, by omega⟩ ?_
        | refine splT ?_
        | refine splF ?_
        | refine splNot ?_
        | (refine splIn (fun hc => ?_) (fun hc => ?_) <;> first | (exfalso; omega) | (exfalso; dsimp only at hc; omega) | skip)
        | (refine splD (fun hc => ?_) (fun hc => ?_) <;> first | (exfalso; omega) | (exfalso; dsimp only at hc; omega) | skip)
        | (refine splE (fun hc => ?_) (fun hc => ?_) <;> first | (exfalso; omega) | (exfalso; dsimp only at hc; omega) | skip)
        | (refine splNE (fun hc => ?_) (fun hc => ?_) <;> first | (exfalso; omega) | (exfalso; dsimp only at hc; omega) | skip)
        | ((with_reducible show CallEv _ _ 25 _ _ _ _ _); refine callO 5 [] (.agg (gs1 g (.os 5 6 g.n))) g.n 4 (bs.flatMap Bx.cs) 47 rfl (fun β w' _ hbw => Flight_own g bs w' (hrd.below (by first | exact hbw | exact hbw.1 | exact hbw.1.1 | exact hbw.1.1.1 | exact hbw.1.1.1.1 | exact hbw.1.1.1.1.1 | exact hbw.1.1.1.1.1.1 | exact hbw.1.1.1.1.1.1.1)) hl hne) ?_)
        | ((with_reducible show CallEv _ _ 48 _ _ _ _ _); refine callM (k := 48) [5] (fun β w' hbk hbw => hP (some ⟨β 5, 0, none⟩) (β 6) (some ⟨β 7, 0, none⟩) (0) w' (Rd.of_owns (sz := 4) (f := Bx.cs) (fun _ => rfl) rfl hn (hbk 5 (by simp) _ rfl)) (.inr ⟨_, _, rfl, fun k b h => by simp at h⟩)) ?_)
        | ((with_reducible show CallEv _ _ 20 _ _ _ _ _); refine callE (k := 20) (fun β w' hbw => wakes_ok _) ?_)
        | refine eqlEB ?_
        | refine And.intro (a := (_ : Bool) = true) rfl ?_
    all_goals exact ⟨fun β => rfl, fun w' h => h⟩

set_option maxRecDepth 100000 in
theorem finEB (g : Fg) (bs : List Bx) (a b : Int)  (w : World) (hrd : Rd 4 Bx.cs (.slice g.o g.n g.c) bs w) (hl : bs.length ≤ 1000000) (hL : ([] : List Int).length ≤ 1000000) (hr : ∀ n ∈ ([] : List Int), -9223372036854775808 ≤ n ∧ n ≤ 9223372036854775807) :
    VC Try.prog (rest 7 body12) ⟨152, [(6, .ptr 0 0), (7, .ptr 1 0), (13, .sl 2 0 0 0), (17, .v (.bool (prv g bs a b ([]))))], [(0, .cells (gss' g) 41), (1, .cells [.v (iv a), .v (iv b)] 94), (2, .cells [] 3)], 5, Below w.heap.size w, z0⟩ (endΦ env Try.f12 fun s σ => (∀ β, s.c β = .bool true) ∧ ∀ w', σ.h w' → Below w.heap.size w w') := by
  have hn : g.n = bs.length := hrd.len
  have hP : ∀ (yo : Option Addr) (yc : Nat) (zo : Option Addr) (zc : Nat) w', Rd 4 Bx.cs (.slice yo g.n yc) bs w' → Rd 1 iF (.slice zo 0 zc) ([]) w' → Calls Try.prog 48 #[.agg #[iv g.f.a.x.lo, iv g.f.a.x.hi, iv g.f.a.z.lo, iv g.f.a.z.hi, iv g.f.s.x.lo, iv g.f.s.x.hi, iv g.f.s.z.lo, iv g.f.s.z.hi, iv g.f.m, .slice yo g.n yc, iv g.re, iv g.so, iv g.be, iv g.le, iv g.mo], .agg #[iv a, iv b], .slice zo 0 zc] w' fun e w'' => e = .returned (.bool (prv g bs a b ([]))) ∧ Below w'.heap.size w' w'' :=
    fun yo yc zo zc w' h1 h2 => by rw [← prv_at g bs (yo, yc)]; exact ProveWindow_ok (g.at (yo, yc)) bs a b (zo, zc) _ w' h1 hl h2 hr
  generalize prv g bs a b ([]) = P0 at *
  skip
  refine VC.of env mixed ?_
  by_cases hne : bs = []
  · subst hne
    have hP0 : ∀ (zo : Option Addr) (zc : Nat) w', Rd 1 iF (.slice zo 0 zc) ([]) w' → Calls Try.prog 48 #[.agg #[iv g.f.a.x.lo, iv g.f.a.x.hi, iv g.f.a.z.lo, iv g.f.a.z.hi, iv g.f.s.x.lo, iv g.f.s.x.hi, iv g.f.s.z.lo, iv g.f.s.z.hi, iv g.f.m, .slice none 0 0, iv g.re, iv g.so, iv g.be, iv g.le, iv g.mo], .agg #[iv a, iv b], .slice zo 0 zc] w' fun e w'' => e = .returned (.bool (P0)) ∧ Below w'.heap.size w' w'' := fun zo zc w' h => by
      have := hP none 0 zo zc w' (.inl ⟨by rw [show g.n = 0 from hn], rfl⟩) h
      rwa [show g.n = 0 from hn] at this
    clear hP
    cases P0
    all_goals skip
    repeat'
      conv => whnf
      first
        | refine And.intro (a := drawB _ = true) (by kernel_rfl) ?_
        | refine And.intro (a := (_ : Bool) = true) rfl ?_
        | refine And.intro (a := (_ : Bool) = true ∧ (_ : Bool) = true) ⟨rfl, rfl⟩ ?_
        | refine And.intro (a := (_ : Bool) = true ∧ (_ : List _) = []) ⟨rfl, rfl⟩ ?_
        | refine And.intro (a := IR _ _) (And.intro (by omega) (by omega)) ?_
        | refine wrapE (And.intro (by omega) (by omega)) ?_
        | refine And.intro (a := (0 : Int) ≤ _ ∧ _ < _) (And.intro (by omega) (by omega)) ?_
        | refine And.intro (a := (_ : Bool) = true) (by simp only [Nat.beq_refl]; rfl) ?_
        | refine And.intro (a := ((_ : Bool) = true → 1 ≤ _) ∧ _ ≤ 9223372036854775807 ∧ _ ≤ 140737488355328) ⟨fun h => (by first | omega | cases h), by omega, by omega⟩ ?_
        | refine splT ?_
        | refine splF ?_
        | refine splNot ?_
        | (refine splIn (fun hc => ?_) (fun hc => ?_) <;> first | (exfalso; omega) | (exfalso; dsimp only at hc; omega) | skip)
        | (refine splD (fun hc => ?_) (fun hc => ?_) <;> first | (exfalso; omega) | (exfalso; dsimp only at hc; omega) | skip)
        | (refine splE (fun hc => ?_) (fun hc => ?_) <;> first | (exfalso; omega) | (exfalso; dsimp only at hc; omega) | skip)
        | (refine splNE (fun hc => ?_) (fun hc => ?_) <;> first | (exfalso; omega) | (exfalso; dsimp only at hc; omega) | skip)
        | ((with_reducible show CallEv _ _ 25 _ _ _ _ _); refine callE (k := 25) (fun β w' hbw => Flight_nil g _ hn) ?_)
        | ((with_reducible show CallEv _ _ 48 _ _ _ _ _); refine callM (k := 48) [6] (fun β w' hbk hbw => hP0 (some ⟨β 6, 0, none⟩) (β 7) w' (Rd.of_owns (sz := 1) (f := iF) (fun _ => rfl) rfl rfl (hbk 6 (by simp) _ rfl))) ?_)
        | ((with_reducible show CallEv _ _ 20 _ _ _ _ _); refine callE (k := 20) (fun β w' hbw => wakes_ok _) ?_)
        | refine eqlEB ?_
        | refine And.intro (a := (_ : Bool) = true) rfl ?_
    all_goals exact ⟨fun β => rfl, fun w' h => h⟩
  · cases P0
    all_goals skip
    repeat'
      conv => whnf
      first
        | refine And.intro (a := drawB _ = true) (by kernel_rfl) ?_
        | refine And.intro (a := (_ : Bool) = true) rfl ?_
        | refine And.intro (a := (_ : Bool) = true ∧ (_ : Bool) = true) ⟨rfl, rfl⟩ ?_
        | refine And.intro (a := (_ : Bool) = true ∧ (_ : List _) = []) ⟨rfl, rfl⟩ ?_
        | refine And.intro (a := IR _ _) (And.intro (by omega) (by omega)) ?_
        | refine wrapE (And.intro (by omega) (by omega)) ?_
        | refine And.intro (a := (0 : Int) ≤ _ ∧ _ < _) (And.intro (by omega) (by omega)) ?_
        | refine And.intro (a := (_ : Bool) = true) (by simp only [Nat.beq_refl]; rfl) ?_
        | refine And.intro (a := ((_ : Bool) = true → 1 ≤ _) ∧ _ ≤ 9223372036854775807 ∧ _ ≤ 140737488355328) ⟨fun h => (by first | omega | cases h), by omega, by omega⟩ ?_
        | refine splT ?_
        | refine splF ?_
        | refine splNot ?_
        | (refine splIn (fun hc => ?_) (fun hc => ?_) <;> first | (exfalso; omega) | (exfalso; dsimp only at hc; omega) | skip)
        | (refine splD (fun hc => ?_) (fun hc => ?_) <;> first | (exfalso; omega) | (exfalso; dsimp only at hc; omega) | skip)
        | (refine splE (fun hc => ?_) (fun hc => ?_) <;> first | (exfalso; omega) | (exfalso; dsimp only at hc; omega) | skip)
        | (refine splNE (fun hc => ?_) (fun hc => ?_) <;> first | (exfalso; omega) | (exfalso; dsimp only at hc; omega) | skip)
        | ((with_reducible show CallEv _ _ 25 _ _ _ _ _); refine callO 5 [] (.agg (gs1 g (.os 5 6 g.n))) g.n 4 (bs.flatMap Bx.cs) 47 rfl (fun β w' _ hbw => Flight_own g bs w' (hrd.below (by first | exact hbw | exact hbw.1 | exact hbw.1.1 | exact hbw.1.1.1 | exact hbw.1.1.1.1 | exact hbw.1.1.1.1.1 | exact hbw.1.1.1.1.1.1 | exact hbw.1.1.1.1.1.1.1)) hl hne) ?_)
        | ((with_reducible show CallEv _ _ 48 _ _ _ _ _); refine callM (k := 48) [5, 8] (fun β w' hbk hbw => hP (some ⟨β 5, 0, none⟩) (β 6) (some ⟨β 8, 0, none⟩) (β 9) w' (Rd.of_owns (sz := 4) (f := Bx.cs) (fun _ => rfl) rfl hn (hbk 5 (by simp) _ rfl)) (Rd.of_owns (sz := 1) (f := iF) (fun _ => rfl) rfl rfl (hbk 8 (by simp) _ rfl))) ?_)
        | ((with_reducible show CallEv _ _ 20 _ _ _ _ _); refine callE (k := 20) (fun β w' hbw => wakes_ok _) ?_)
        | refine eqlEB ?_
        | refine And.intro (a := (_ : Bool) = true) rfl ?_
    all_goals exact ⟨fun β => rfl, fun w' h => h⟩

set_option maxRecDepth 100000 in
theorem finOB (g : Fg) (bs : List Bx) (a b : Int) (L : List Int) (w : World) (hrd : Rd 4 Bx.cs (.slice g.o g.n g.c) bs w) (hl : bs.length ≤ 1000000) (hL : (L : List Int).length ≤ 1000000) (hr : ∀ n ∈ (L : List Int), -9223372036854775808 ≤ n ∧ n ≤ 9223372036854775807) :
    VC Try.prog (rest 7 body12) ⟨152, [(6, .ptr 0 0), (7, .ptr 1 0), (13, .os 3 4 L.length), (17, .v (.bool (prv g bs a b L)))], [(0, .cells (gss' g) 41), (1, .cells [.v (iv a), .v (iv b)] 94), (3, .own 4 L.length 1 (L.flatMap iF) 3)], 5, Below w.heap.size w, z0⟩ (endΦ env Try.f12 fun s σ => (∀ β, s.c β = .bool true) ∧ ∀ w', σ.h w' → Below w.heap.size w w') := by
  have hn : g.n = bs.length := hrd.len
  have hP : ∀ (yo : Option Addr) (yc : Nat) (zo : Option Addr) (zc : Nat) w', Rd 4 Bx.cs (.slice yo g.n yc) bs w' → Rd 1 iF (.slice zo (0 + L.length) zc) L w' → Calls Try.prog 48 #[.agg #[iv g.f.a.x.lo, iv g.f.a.x.hi, iv g.f.a.z.lo, iv g.f.a.z.hi, iv g.f.s.x.lo, iv g.f.s.x.hi, iv g.f.s.z.lo, iv g.f.s.z.hi, iv g.f.m, .slice yo g.n yc, iv g.re, iv g.so, iv g.be, iv g.le, iv g.mo], .agg #[iv a, iv b], .slice zo (0 + L.length) zc] w' fun e w'' => e = .returned (.bool (prv g bs a b L)) ∧ Below w'.heap.size w' w'' :=
    fun yo yc zo zc w' h1 h2 => by rw [Nat.zero_add] at h2 ⊢; rw [← prv_at g bs (yo, yc)]; exact ProveWindow_ok (g.at (yo, yc)) bs a b (zo, zc) _ w' h1 hl h2 hr
  generalize prv g bs a b L = P0 at *
  skip
  refine VC.of env mixed ?_
  by_cases hne : bs = []
  · subst hne
    have hP0 : ∀ (zo : Option Addr) (zc : Nat) w', Rd 1 iF (.slice zo (0 + L.length) zc) L w' → Calls Try.prog 48 #[.agg #[iv g.f.a.x.lo, iv g.f.a.x.hi, iv g.f.a.z.lo, iv g.f.a.z.hi, iv g.f.s.x.lo, iv g.f.s.x.hi, iv g.f.s.z.lo, iv g.f.s.z.hi, iv g.f.m, .slice none 0 0, iv g.re, iv g.so, iv g.be, iv g.le, iv g.mo], .agg #[iv a, iv b], .slice zo (0 + L.length) zc] w' fun e w'' => e = .returned (.bool (P0)) ∧ Below w'.heap.size w' w'' := fun zo zc w' h => by
      have := hP none 0 zo zc w' (.inl ⟨by rw [show g.n = 0 from hn], rfl⟩) h
      rwa [show g.n = 0 from hn] at this
    clear hP
    cases P0
    all_goals skip
    repeat'
      conv => whnf
      first
        | refine And.intro (a := drawB _ = true) (by kernel_rfl) ?_
        | refine And.intro (a := (_ : Bool) = true) rfl ?_
        | refine And.intro (a := (_ : Bool) = true ∧ (_ : Bool) = true) ⟨rfl, rfl⟩ ?_
        | refine And.intro (a := (_ : Bool) = true ∧ (_ : List _) = []) ⟨rfl, rfl⟩ ?_
        | refine And.intro (a := IR _ _) (And.intro (by omega) (by omega)) ?_
        | refine wrapE (And.intro (by omega) (by omega)) ?_
        | refine And.intro (a := (0 : Int) ≤ _ ∧ _ < _) (And.intro (by omega) (by omega)) ?_
        | refine And.intro (a := (_ : Bool) = true) (by simp only [Nat.beq_refl]; rfl) ?_
        | refine And.intro (a := ((_ : Bool) = true → 1 ≤ _) ∧ _ ≤ 9223372036854775807 ∧ _ ≤ 140737488355328) ⟨fun h => (by first | omega | cases h), by omega, by omega⟩ ?_
        | refine splT ?_
        | refine splF ?_
        | refine splNot ?_
        | (refine splIn (fun hc => ?_) (fun hc => ?_) <;> first | (exfalso; omega) | (exfalso; dsimp only at hc; omega) | skip)
        | (refine splD (fun hc => ?_) (fun hc => ?_) <;> first | (exfalso; omega) | (exfalso; dsimp only at hc; omega) | skip)
        | (refine splE (fun hc => ?_) (fun hc => ?_) <;> first | (exfalso; omega) | (exfalso; dsimp only at hc; omega) | skip)
        | (refine splNE (fun hc => ?_) (fun hc => ?_) <;> first | (exfalso; omega) | (exfalso; dsimp only at hc; omega) | skip)
        | ((with_reducible show CallEv _ _ 25 _ _ _ _ _); refine callE (k := 25) (fun β w' hbw => Flight_nil g _ hn) ?_)
        | ((with_reducible show CallEv _ _ 48 _ _ _ _ _); refine callM (k := 48) [6] (fun β w' hbk hbw => hP0 (some ⟨β 6, 0, none⟩) (β 7) w' (Rd.of_owns (sz := 1) (f := iF) (fun _ => rfl) rfl (by simp) (hbk 6 (by simp) _ rfl))) ?_)
        | ((with_reducible show CallEv _ _ 20 _ _ _ _ _); refine callE (k := 20) (fun β w' hbw => wakes_ok _) ?_)
        | refine eqlEB ?_
        | refine And.intro (a := (_ : Bool) = true ∧ (_ ∧ _)) ⟨by simp only [Nat.beq_refl], by rw [lenF]; simp, by simpa using one1 L⟩ ?_
    all_goals exact ⟨fun β => rfl, fun w' h => h⟩
  · cases P0
    all_goals skip
    repeat'
      conv => whnf
      first
        | refine And.intro (a := drawB _ = true) (by kernel_rfl) ?_
        | refine And.intro (a := (_ : Bool) = true) rfl ?_
        | refine And.intro (a := (_ : Bool) = true ∧ (_ : Bool) = true) ⟨rfl, rfl⟩ ?_
        | refine And.intro (a := (_ : Bool) = true ∧ (_ : List _) = []) ⟨rfl, rfl⟩ ?_
        | refine And.intro (a := IR _ _) (And.intro (by omega) (by omega)) ?_
        | refine wrapE (And.intro (by omega) (by omega)) ?_
        | refine And.intro (a := (0 : Int) ≤ _ ∧ _ < _) (And.intro (by omega) (by omega)) ?_
        | refine And.intro (a := (_ : Bool) = true) (by simp only [Nat.beq_refl]; rfl) ?_
        | refine And.intro (a := ((_ : Bool) = true → 1 ≤ _) ∧ _ ≤ 9223372036854775807 ∧ _ ≤ 140737488355328) ⟨fun h => (by first | omega | cases h), by omega, by omega⟩ ?_
        | refine splT ?_
        | refine splF ?_
        | refine splNot ?_
        | (refine splIn (fun hc => ?_) (fun hc => ?_) <;> first | (exfalso; omega) | (exfalso; dsimp only at hc; omega) | skip)
        | (refine splD (fun hc => ?_) (fun hc => ?_) <;> first | (exfalso; omega) | (exfalso; dsimp only at hc; omega) | skip)
        | (refine splE (fun hc => ?_) (fun hc => ?_) <;> first | (exfalso; omega) | (exfalso; dsimp only at hc; omega) | skip)
        | (refine splNE (fun hc => ?_) (fun hc => ?_) <;> first | (exfalso; omega) | (exfalso; dsimp only at hc; omega) | skip)
        | ((with_reducible show CallEv _ _ 25 _ _ _ _ _); refine callO 5 [] (.agg (gs1 g (.os 5 6 g.n))) g.n 4 (bs.flatMap Bx.cs) 47 rfl (fun β w' _ hbw => Flight_own g bs w' (hrd.below (by first | exact hbw | exact hbw.1 | exact hbw.1.1 | exact hbw.1.1.1 | exact hbw.1.1.1.1 | exact hbw.1.1.1.1.1 | exact hbw.1.1.1.1.1.1 | exact hbw.1.1.1.1.1.1.1)) hl hne) ?_)
        | ((with_reducible show CallEv _ _ 48 _ _ _ _ _); refine callM (k := 48) [5, 8] (fun β w' hbk hbw => hP (some ⟨β 5, 0, none⟩) (β 6) (some ⟨β 8, 0, none⟩) (β 9) w' (Rd.of_owns (sz := 4) (f := Bx.cs) (fun _ => rfl) rfl hn (hbk 5 (by simp) _ rfl)) (Rd.of_owns (sz := 1) (f := iF) (fun _ => rfl) rfl (by simp) (hbk 8 (by simp) _ rfl))) ?_)
        | ((with_reducible show CallEv _ _ 20 _ _ _ _ _); refine callE (k := 20) (fun β w' hbw => wakes_ok _) ?_)
        | refine eqlEB ?_
        | refine And.intro (a := (_ : Bool) = true ∧ (_ ∧ _)) ⟨by simp only [Nat.beq_refl], by rw [lenF]; simp, by simpa using one1 L⟩ ?_
    all_goals exact ⟨fun β => rfl, fun w' h => h⟩

end Go.Proofs.Ytlehjapeomallaa.V
