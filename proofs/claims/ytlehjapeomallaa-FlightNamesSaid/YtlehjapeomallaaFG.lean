import Derived.Test.YtlehjapeomallaaF9
import Derived.Test.YtlehjapeomallaaSl
import Derived.RangeFuncNested
import Derived.RangeFuncBound
import Derived.RangeFuncCalls
import Derived.RangeFuncLeaves
import Derived.Shelf.Abstract
import Derived.Shelf.RegionOpen
import Derived.WalkKit
import Derived.OwnWalkIn
import Derived.TacticsInMore
import Derived.LoopNIn
import Derived.LoopIn
import Derived.RangeFuncBox
import Derived.Maps.AppendAt
/- A flight that is examined: the slices of its boxes and of what is borne are as said. -/
namespace Go.Proofs.Ytlehjapeomallaa
open Go Sx Go.RowKit

abbrev Fg.ss (g : Fg) : List SV := [.v (iv g.f.a.x.lo), .v (iv g.f.a.x.hi), .v (iv g.f.a.z.lo), .v (iv g.f.a.z.hi), .v (iv g.f.s.x.lo), .v (iv g.f.s.x.hi), .v (iv g.f.s.z.lo), .v (iv g.f.s.z.hi), .v (iv g.f.m), .v (.slice g.o g.n g.c), .v (iv g.re), .v (iv g.so), .v (iv g.be), .v (iv g.le), .v (iv g.mo)]
abbrev Fg.s2 (g : Fg) (a b : SV) : List SV := [.v (iv g.f.a.x.lo), .v (iv g.f.a.x.hi), .v (iv g.f.a.z.lo), .v (iv g.f.a.z.hi), .v (iv g.f.s.x.lo), .v (iv g.f.s.x.hi), .v (iv g.f.s.z.lo), .v (iv g.f.s.z.hi), .v (iv g.f.m), .v (.slice g.o g.n g.c), .v (iv g.re), .v (iv g.so), .v (iv g.be), .v (iv g.le), .v (iv g.mo), a, b]
abbrev Fg.sv (g : Fg) (a b : Value) : Value := .agg #[iv g.f.a.x.lo, iv g.f.a.x.hi, iv g.f.a.z.lo, iv g.f.a.z.hi, iv g.f.s.x.lo, iv g.f.s.x.hi, iv g.f.s.z.lo, iv g.f.s.z.hi, iv g.f.m, .slice g.o g.n g.c, iv g.re, iv g.so, iv g.be, iv g.le, iv g.mo, a, b]
def Fg.k (g : Fg) : Nat := (g.mo - g.le + 1).toNat

structure SeeX where
  b : Nat
  bc : Nat
  l : Nat
  lc : Nat
abbrev SeeX.bv (x : SeeX) (n : Nat) : Value := .slice (some ⟨x.b, 0, none⟩) n x.bc
abbrev SeeX.lv (x : SeeX) (n : Nat) : Value := .slice (some ⟨x.l, 0, none⟩) n x.lc
def SeeX.hx (g : Fg) (x : SeeX) (w : World) : Prop := Rd 4 Bx.cs (x.bv g.k) (seenB g g.k) w ∧ Rd 1 bF (x.lv g.k) (seenL g g.k) w

def seeM (g : Fg) : Nat → List (Nat × Blk)
  | 0 => [(0, .cells g.ss 54), (1, .cells (ti123.zero.map .v) 123), (2, .cells (g.s2 (.v (.slice none 0 0)) (.v (.slice none 0 0))) 123)]
  | k + 1 => [(0, .cells g.ss 54), (1, .cells (ti123.zero.map .v) 123), (2, .cells (g.s2 (.os 3 4 (k + 1)) (.os 5 6 (k + 1))) 123), (3, .own 4 (k + 1) 4 ((seenB g (k + 1)).flatMap Bx.cs) 47), (5, .own 6 (k + 1) 1 ((seenL g (k + 1)).flatMap bF) 4)]

set_option maxRecDepth 100000 in
theorem see_ok (g : Fg) (w : World) (hf : g.f.ok = true) (hs : 1 ≤ g.so ∧ g.so ≤ 100) (h0 : 0 ≤ g.le) (h1 : g.le ≤ g.mo) (h2 : g.mo ≤ 300) :
    Calls Try.prog 62 #[g.v] w fun e w' => ∃ x : SeeX, e = .returned (g.sv (x.bv g.k) (x.lv g.k)) ∧ Below w.heap.size w w' ∧ St w.heap.size (x.hx g) w' := by
  refine calls_fam env mixed Try.func62 has62 Try.ntmps62 [g.v] (by simp) ?_
  have hk : (g.k : Int) = g.mo - g.le + 1 := by unfold Fg.k; omega
  repeat'
    conv => whnf
    first
      | refine And.intro (a := drawB _ = true) (by kernel_rfl) ?_
      | refine And.intro (a := (_ : Bool) = true) rfl ?_
      | refine And.intro (a := (_ : Bool) = true ∧ (_ : Bool) = true) ⟨rfl, rfl⟩ ?_
      | refine And.intro (a := (_ : Bool) = true ∧ (_ : List _) = []) ⟨rfl, rfl⟩ ?_
      | refine And.intro (a := IR _ _) (And.intro (by omega) (by omega)) ?_
      | refine And.intro (a := (0 : Int) ≤ _ ∧ _ < _) (And.intro (by omega) (by omega)) ?_
      | refine splT ?_
      | refine splF ?_
      | refine splNot ?_
      | (refine splIn (fun hc => ?_) (fun hc => ?_) <;> first | (exfalso; omega) | skip)
      | (refine splD (fun hc => ?_) (fun hc => ?_) <;> first | (exfalso; omega) | skip)
      | (refine splE (fun hc => ?_) (fun hc => ?_) <;> first | (exfalso; omega) | skip)
      | (refine splNE (fun hc => ?_) (fun hc => ?_) <;> first | (exfalso; omega) | skip)
  refine loopN 7 (fun k : Nat => [(1, .ptr 0 0), (2, .ptr 1 0), (3, .ptr 2 0), (4, .v (iv (g.le + k)))]) (seeM g)
    (fun k => k ≤ g.k) (fun k => g.k - k) 0 (Nat.zero_le _) ⟨rfl, rfl, rfl, by rw [Int.ofNat_zero, Int.add_zero]; rfl, trivial⟩ ⟨rfl, rfl, rfl, trivial⟩ (fun k _ => by cases k <;> exact ⟨rfl, rfl⟩) ?_
  intro k hkk
  have hB : List.flatMap Bx.cs (seenB g (k + 1)) = List.flatMap Bx.cs (seenB g k) ++ (g.f.af (g.le + (k : Nat))).cs := by simp [seenB, List.flatMap_append]
  have hL : List.flatMap bF (seenL g (k + 1)) = List.flatMap bF (seenL g k) ++ [Value.bool (decide (ldF g.f g.so (g.le + (k : Nat)) ≤ g.be))] := by simp [seenL, List.flatMap_append]
  have hi : g.le + ((k + 1 : Nat) : Int) = g.le + (k : Nat) + 1 := by omega
  cases k with
  | zero =>
    repeat'
      conv => whnf
      first
        | refine And.intro (a := drawB _ = true) (by kernel_rfl) ?_
        | refine And.intro (a := (_ : Bool) = true) rfl ?_
        | refine And.intro (a := (_ : Bool) = true ∧ (_ : Bool) = true) ⟨rfl, rfl⟩ ?_
        | refine And.intro (a := (_ : Bool) = true ∧ (_ : List _) = []) ⟨rfl, rfl⟩ ?_
        | refine And.intro (a := IR _ _) (And.intro (by omega) (by omega)) ?_
        | refine And.intro (a := (0 : Int) ≤ _ ∧ _ < _) (And.intro (by omega) (by omega)) ?_
        | refine splT ?_
        | refine splF ?_
        | refine splNot ?_
        | (refine splIn (fun hc => ?_) (fun hc => ?_) <;> first | (exfalso; omega) | skip)
        | (refine splD (fun hc => ?_) (fun hc => ?_) <;> first | (exfalso; omega) | skip)
        | (refine splE (fun hc => ?_) (fun hc => ?_) <;> first | (exfalso; omega) | skip)
        | (refine splNE (fun hc => ?_) (fun hc => ?_) <;> first | (exfalso; omega) | skip)
        | ((with_reducible show CallEv _ _ 67 _ _ _ _ _); refine callE (k := 67) (fun β w' hbw => after_val g.f (g.le + (0 : Nat)) _ hf (by omega) (by omega)) ?_)
        | ((with_reducible show CallEv _ _ 70 _ _ _ _ _); refine callE (k := 70) (fun β w' hbw => load_ok g (g.le + (0 : Nat)) _ hf hs (by omega) (by omega)) ?_)
        | refine And.intro (a := (_ : Bool) = true) (by simp only [Nat.beq_refl]; rfl) ?_
        | refine And.intro (a := ((_ : Bool) = true → 1 ≤ _) ∧ _ ≤ 9223372036854775807 ∧ _ ≤ 140737488355328) ⟨fun h => (by omega), by omega, by omega⟩ ?_
    · exact ⟨0 + 1, by omega, by omega, Ent.ren (rho [(3, 8), (4, 9), (5, 11), (6, 12)]) rfl rfl ⟨rfl, rfl, rfl, by rw [hi]; rfl, trivial⟩ ⟨rfl, rfl, rfl, by rw [hB]; rfl, by rw [hL]; rfl, trivial⟩ fun _ h => h⟩
  | succ k =>
    repeat'
      conv => whnf
      first
        | refine And.intro (a := drawB _ = true) (by kernel_rfl) ?_
        | refine And.intro (a := (_ : Bool) = true) rfl ?_
        | refine And.intro (a := (_ : Bool) = true ∧ (_ : Bool) = true) ⟨rfl, rfl⟩ ?_
        | refine And.intro (a := (_ : Bool) = true ∧ (_ : List _) = []) ⟨rfl, rfl⟩ ?_
        | refine And.intro (a := IR _ _) (And.intro (by omega) (by omega)) ?_
        | refine And.intro (a := (0 : Int) ≤ _ ∧ _ < _) (And.intro (by omega) (by omega)) ?_
        | refine splT ?_
        | refine splF ?_
        | refine splNot ?_
        | (refine splIn (fun hc => ?_) (fun hc => ?_) <;> first | (exfalso; omega) | skip)
        | (refine splD (fun hc => ?_) (fun hc => ?_) <;> first | (exfalso; omega) | skip)
        | (refine splE (fun hc => ?_) (fun hc => ?_) <;> first | (exfalso; omega) | skip)
        | (refine splNE (fun hc => ?_) (fun hc => ?_) <;> first | (exfalso; omega) | skip)
        | ((with_reducible show CallEv _ _ 67 _ _ _ _ _); refine callE (k := 67) (fun β w' hbw => after_val g.f (g.le + (k + 1 : Nat)) _ hf (by omega) (by omega)) ?_)
        | ((with_reducible show CallEv _ _ 70 _ _ _ _ _); refine callE (k := 70) (fun β w' hbw => load_ok g (g.le + (k + 1 : Nat)) _ hf hs (by omega) (by omega)) ?_)
        | refine And.intro (a := (_ : Bool) = true) (by simp only [Nat.beq_refl]; rfl) ?_
        | refine And.intro (a := ((_ : Bool) = true → 1 ≤ _) ∧ _ ≤ 9223372036854775807 ∧ _ ≤ 140737488355328) ⟨fun h => (by omega), by omega, by omega⟩ ?_
    · exact ⟨k + 1 + 1, by omega, by omega, Ent.ren (rho [(3, 8), (4, 9), (5, 11), (6, 12)]) rfl rfl ⟨rfl, rfl, rfl, by rw [hi]; rfl, trivial⟩ ⟨rfl, rfl, rfl, by rw [hB]; rfl, by rw [hL]; rfl, trivial⟩ fun _ h => h⟩
    · have hkk : k + 1 = g.k := by omega
      refine ⟨fun w' h => h, fun β w' hB hblk => ⟨⟨β 3, β 4, β 5, β 6⟩, ?_, ?_⟩⟩
      · rw [← hkk]; rfl
      · have h3 := hblk 3 _ rfl rfl
        have h5 := hblk 5 _ rfl rfl
        exact (h3.and h5).imp fun w2 ⟨q3, q5⟩ => by
          rw [hkk] at q3 q5
          exact ⟨Rd.of_owns (sz := 4) (f := Bx.cs) (fun _ => rfl) rfl (seenB_len g _).symm q3, Rd.of_owns (sz := 1) (f := bF) (fun _ => rfl) rfl (seenL_len g _).symm q5⟩
end Go.Proofs.Ytlehjapeomallaa

/- Comparing two ranges or two boxes tells whether they are the same. -/
namespace Go.Proofs.Ytlehjapeomallaa
open Go Sx Go.RowKit

/-! ### Ranges and boxes that are the same -/
def Rg.eqB (a b : Rg) : Bool := a.lo == b.lo && a.hi == b.hi
def Bx.eqB (a b : Bx) : Bool := a.x.eqB b.x && a.z.eqB b.z
theorem under3 : Try.prog.underlying 3 = some (.int .i64) := by kernel_rfl
theorem names23 : namesB Try.prog 23 = true := by kernel_rfl
theorem names47 : namesB Try.prog 47 = true := by kernel_rfl
theorem guard23 : Try.prog.eqGuardType Try.prog.depth 23 = false := by kernel_rfl
theorem guard47 : Try.prog.eqGuardType Try.prog.depth 47 = false := by kernel_rfl

theorem part3 (cs : List Value) (o : Nat) (v : Value) (w : World) (h : cs[o]? = some v) : (part 3 cs.toArray o).run Try.prog w = .ok v w :=
  run_part (β := fun _ => 0) (l := [.v v]) (s := .v v) tok3 (by
    obtain ⟨h1, h2⟩ := List.getElem?_eq_some_iff.1 h
    show List.take 1 (List.drop o cs) = [v]
    rw [List.drop_eq_getElem_cons h1, h2]; rfl) rfl (.inr ⟨rfl, rfl⟩)
theorem part23 (cs : List Value) (o : Nat) (v v' : Value) (w : World) (h : (cs.drop o).take 2 = [v, v']) : (part 23 cs.toArray o).run Try.prog w = .ok (.agg #[v, v']) w :=
  run_part (β := fun _ => 0) (l := [.v v, .v v']) (s := .agg [.v v, .v v']) tok23 h rfl (.inl ⟨rfl, rfl⟩)
theorem eqIn3 (d : Nat) (a b : Int) (w : World) : (Op.equalIn (d + 1) 3 (iv a) (iv b)).run Try.prog w = .ok (a == b) w := equalIn_int under3 a b
theorem eqIn23 (d : Nat) (a b : Rg) (w : World) : (Op.equalIn (d + 2) 23 a.v b.v).run Try.prog w = .ok (a.eqB b) w :=
  equalIn_two tok23 rfl (by decide) names23 (part3 _ 0 _ w rfl) (part3 _ 1 _ w rfl) (part3 _ 0 _ w rfl) (part3 _ 1 _ w rfl) (eqIn3 d _ _ w) (eqIn3 d _ _ w)
theorem eqIn47 (d : Nat) (a b : Bx) (w : World) : (Op.equalIn (d + 3) 47 a.v b.v).run Try.prog w = .ok (a.eqB b) w :=
  equalIn_two tok47 rfl (by decide) names47 (part23 _ 0 _ _ w rfl) (part23 _ 2 _ _ w rfl) (part23 _ 0 _ _ w rfl) (part23 _ 2 _ _ w rfl) (eqIn23 d a.x b.x w) (eqIn23 d a.z b.z w)
theorem eql23 (a b : Rg) (x y : Operand) : RunIs Try.prog (do eqGuard .eql 23 x y a.v b.v; binOp .eql 23 a.v b.v) (.bool (a.eqB b)) := runIs_eql guard23 fun w => eqIn23 9998 a b w
theorem eql47 (a b : Bx) (x y : Operand) : RunIs Try.prog (do eqGuard .eql 47 x y a.v b.v; binOp .eql 47 a.v b.v) (.bool (a.eqB b)) := runIs_eql guard47 fun w => eqIn47 9997 a b w
theorem neq23 (a b : Rg) (x y : Operand) : RunIs Try.prog (do eqGuard .neq 23 x y a.v b.v; binOp .neq 23 a.v b.v) (.bool (!(a.eqB b))) := runIs_neq guard23 fun w => eqIn23 9998 a b w
theorem neq47 (a b : Bx) (x y : Operand) : RunIs Try.prog (do eqGuard .neq 47 x y a.v b.v; binOp .neq 47 a.v b.v) (.bool (!(a.eqB b))) := runIs_neq guard47 fun w => eqIn47 9997 a b w

theorem eqlE23 {a b : Rg} {x y : Operand} {K : Value → Prop} (h : K (.bool (a.eqB b))) : ∃ v, (∀ _ : Nat → Nat, RunIs Try.prog (do eqGuard .eql 23 x y a.v b.v; binOp .eql 23 a.v b.v) v) ∧ K v := ⟨_, fun _ => eql23 a b x y, h⟩
theorem eqlE47 {a b : Bx} {x y : Operand} {K : Value → Prop} (h : K (.bool (a.eqB b))) : ∃ v, (∀ _ : Nat → Nat, RunIs Try.prog (do eqGuard .eql 47 x y a.v b.v; binOp .eql 47 a.v b.v) v) ∧ K v := ⟨_, fun _ => eql47 a b x y, h⟩
theorem neqE23 {a b : Rg} {x y : Operand} {K : Value → Prop} (h : K (.bool (!(a.eqB b)))) : ∃ v, (∀ _ : Nat → Nat, RunIs Try.prog (do eqGuard .neq 23 x y a.v b.v; binOp .neq 23 a.v b.v) v) ∧ K v := ⟨_, fun _ => neq23 a b x y, h⟩
theorem neqE47 {a b : Bx} {x y : Operand} {K : Value → Prop} (h : K (.bool (!(a.eqB b)))) : ∃ v, (∀ _ : Nat → Nat, RunIs Try.prog (do eqGuard .neq 47 x y a.v b.v; binOp .neq 47 a.v b.v) v) ∧ K v := ⟨_, fun _ => neq47 a b x y, h⟩
end Go.Proofs.Ytlehjapeomallaa

/- Whether a catch is sure at a tick: what the function returns. -/
namespace Go.Proofs.Ytlehjapeomallaa
open Go Sx Go.RowKit

theorem Rd.some {α : Type} {sz : Nat} {f : α → List Value} {o : Option Addr} {n c : Nat} {bs : List α} {w : World} (h : Rd sz f (.slice o n c) bs w) (hn : 1 ≤ n) :
    n = bs.length ∧ ∃ ad, o = .some ad ∧ ∀ k b, bs[k]? = .some b → ∀ j v, (f b)[j]? = .some v → w.cell? ((ad.add (k * sz)).add j) = .some v := by
  rcases h with ⟨h, _⟩ | ⟨ad, c', h, h2⟩
  · simp only [Value.slice.injEq] at h; omega
  · simp only [Value.slice.injEq] at h
    obtain ⟨rfl, rfl, rfl⟩ := h
    exact ⟨rfl, ad, rfl, h2⟩

abbrev Fg.svo (g : Fg) (o : Option Addr) (a b : Value) : Value := .agg #[iv g.f.a.x.lo, iv g.f.a.x.hi, iv g.f.a.z.lo, iv g.f.a.z.hi, iv g.f.s.x.lo, iv g.f.s.x.hi, iv g.f.s.z.lo, iv g.f.s.z.hi, iv g.f.m, .slice o g.n g.c, iv g.re, iv g.so, iv g.be, iv g.le, iv g.mo, a, b]
/-- The hands at a tick. -/
def hnd (g : Fg) (bs : List Bx) (t : Int) : Bx := (bs[(t % (g.n : Int)).toNat]?).getD ⟨⟨0, 0⟩, ⟨0, 0⟩⟩
/-- Is a catch sure, k ticks above Least after a release? -/
def sureB (g : Fg) (bs : List Bx) (r k : Int) : Bool :=
  decide (ldF g.f g.so (g.le + k) ≤ g.be) && (nearB (g.f.af (g.le + k)).x (hnd g bs (r + g.le + k)).x g.re && nearB (g.f.af (g.le + k)).z (hnd g bs (r + g.le + k)).z g.re)

theorem Fl.af_bd {f : Fl} (hf : f.ok = true) {t : Int} (h0 : 0 ≤ t) (h1 : t ≤ 300) :
    (-100000000 ≤ (f.af t).x.lo ∧ (f.af t).x.lo ≤ 100000000) ∧ (-100000000 ≤ (f.af t).x.hi ∧ (f.af t).x.hi ≤ 100000000) ∧ (-100000000 ≤ (f.af t).z.lo ∧ (f.af t).z.lo ≤ 100000000) ∧ (-100000000 ≤ (f.af t).z.hi ∧ (f.af t).z.hi ≤ 100000000) := by
  have hb := Fl.bd hf h0 h1
  have hf' := Fl.ok_iff.1 hf
  simp only [Fl.af]; omega

theorem near_ok2 (a b c d reach : Int) (w : World) (h0 : -100000000 ≤ a ∧ a ≤ 100000000) (h1 : -100000000 ≤ b ∧ b ≤ 100000000) (h2 : -100000000 ≤ c ∧ c ≤ 100000000) (h3 : -100000000 ≤ d ∧ d ≤ 100000000) :
    Calls Try.prog 92 #[.agg #[iv a, iv b], .agg #[iv c, iv d], iv reach] w fun e w' => e = .returned (.bool (nearB ⟨a, b⟩ ⟨c, d⟩ reach)) ∧ Below w.heap.size w w' := near_ok ⟨a, b⟩ ⟨c, d⟩ reach w h0 h1 h2 h3

set_option maxRecDepth 100000 in
theorem sure_ok (g : Fg) (bs : List Bx) (x : SeeX) (r : Int) (k : Nat) (w : World) (hg : g.ok bs = true) (hr : Rd 4 Bx.cs (.slice g.o g.n g.c) bs w) (hx : x.hx g w) (hr0 : 0 ≤ r ∧ r ≤ 6000) (hk : k < g.k) :
    Calls Try.prog 74 #[g.sv (x.bv g.k) (x.lv g.k), iv r, iv k] w fun e w' => e = .returned (.bool (sureB g bs r k)) ∧ Below w.heap.size w w' := by
  have hg' := Fg.ok_iff.1 hg
  have hkk : (g.k : Int) = g.mo - g.le + 1 := by unfold Fg.k; omega
  obtain ⟨hn, ad, ho, hc⟩ := hr.some (by omega)
  obtain ⟨_, ad1, ho1, hc1⟩ := hx.1.some (by omega)
  obtain ⟨_, ad2, ho2, hc2⟩ := hx.2.some (by omega)
  cases ho1
  cases ho2
  have hm0 := Int.emod_nonneg (r + g.le + k) (b := (g.n : Int)) (by omega)
  have hm1 := Int.emod_lt_of_pos (r + g.le + k) (b := (g.n : Int)) (by omega)
  obtain ⟨hb, hbe⟩ : ∃ b, bs[((r + g.le + k) % (g.n : Int)).toNat]? = some b := ⟨_, List.getElem?_eq_getElem (by omega)⟩
  have hh : hnd g bs (r + g.le + k) = hb := by unfold hnd; rw [hbe]; rfl
  have hbok : hb.ok 10000000 = true := hg'.2.2.1 _ (List.mem_of_getElem? hbe)
  have hbb := Bx.ok_iff.1 hbok
  have hab := Fl.af_bd hg'.1 (t := g.le + k) (by omega) (by omega)
  have e0 : ∀ w', Below w.heap.size w w' → ∀ j v, (Bx.cs hb)[j]? = some v → w'.cell? ((ad.add (((r + g.le + k) % (g.n : Int)).toNat * 4)).add j) = some v := fun w' hw' j v hv => ext_below hw' (hc _ _ hbe j v hv)
  have e1 : ∀ w', Below w.heap.size w w' → ∀ j v, (Bx.cs (g.f.af (g.le + k)))[j]? = some v → w'.cell? ((Addr.add ⟨x.b, 0, none⟩ (((k : Int)).toNat * 4)).add j) = some v := fun w' hw' j v hv => by
    rw [Int.toNat_natCast]; exact ext_below hw' (hc1 _ _ (seenB_get g g.k k hk) j v hv)
  have e2 : ∀ w', Below w.heap.size w w' → ∀ j v, [Value.bool (decide (ldF g.f g.so (g.le + k) ≤ g.be))][j]? = some v → w'.cell? ((Addr.add ⟨x.l, 0, none⟩ (((k : Int)).toNat * 1)).add j) = some v := fun w' hw' j v hv => by
    rw [Int.toNat_natCast]; exact ext_below hw' (hc2 _ _ (seenL_get g g.k k hk) j v hv)
  rw [show (.bool (sureB g bs r k) : Value) = .bool (decide (ldF g.f g.so (g.le + k) ≤ g.be) && (nearB (g.f.af (g.le + k)).x hb.x g.re && nearB (g.f.af (g.le + k)).z hb.z g.re)) from by unfold sureB; rw [hh]]
  generalize hab' : g.f.af (g.le + k) = ab at *
  generalize decide (ldF g.f g.so (g.le + k) ≤ g.be) = lb at *
  show Calls Try.prog 74 #[g.svo g.o (x.bv g.k) (x.lv g.k), iv r, iv k] w _
  rw [ho]
  refine calls_val env mixed Try.func74 has74 Try.ntmps74 [g.svo (some ad) (x.bv g.k) (x.lv g.k), iv r, iv k] (by simp) ?_
  cases lb with
  | false =>
    repeat'
      conv => whnf
      first
        | refine And.intro (a := drawB _ = true) (by kernel_rfl) ?_
        | refine And.intro (a := (_ : Bool) = true) rfl ?_
        | refine And.intro (a := (_ : Bool) = true ∧ (_ : Bool) = true) ⟨rfl, rfl⟩ ?_
        | refine And.intro (a := (_ : Bool) = true ∧ (_ : List _) = []) ⟨rfl, rfl⟩ ?_
        | refine And.intro (a := IR _ _) (And.intro (by omega) (by omega)) ?_
        | refine And.intro (a := (0 : Int) ≤ _ ∧ _ < _) (And.intro (by omega) (by omega)) ?_
        | refine splT ?_
        | refine splF ?_
        | refine splNot ?_
        | (refine splIn (fun hc => ?_) (fun hc => ?_) <;> first | (exfalso; omega) | skip)
        | (refine splD (fun hc => ?_) (fun hc => ?_) <;> first | (exfalso; omega) | skip)
        | (refine splE (fun hc => ?_) (fun hc => ?_) <;> first | (exfalso; omega) | skip)
        | (refine splNE (fun hc => ?_) (fun hc => ?_) <;> first | (exfalso; omega) | skip)
        | refine Exists.intro (α := List Value) [.bool false] ⟨⟨rfl, e2⟩, ?_⟩
    exact ⟨fun β => rfl, fun w' h => h⟩
  | true =>
    repeat'
      conv => whnf
      first
        | refine And.intro (a := drawB _ = true) (by kernel_rfl) ?_
        | refine And.intro (a := (_ : Bool) = true) rfl ?_
        | refine And.intro (a := (_ : Bool) = true ∧ (_ : Bool) = true) ⟨rfl, rfl⟩ ?_
        | refine And.intro (a := (_ : Bool) = true ∧ (_ : List _) = []) ⟨rfl, rfl⟩ ?_
        | refine And.intro (a := IR _ _) (And.intro (by omega) (by omega)) ?_
        | refine And.intro (a := (0 : Int) ≤ _ ∧ _ < _) (And.intro (by omega) (by omega)) ?_
        | refine splT ?_
        | refine splF ?_
        | refine splNot ?_
        | (refine splIn (fun hc => ?_) (fun hc => ?_) <;> first | (exfalso; omega) | skip)
        | (refine splD (fun hc => ?_) (fun hc => ?_) <;> first | (exfalso; omega) | skip)
        | (refine splE (fun hc => ?_) (fun hc => ?_) <;> first | (exfalso; omega) | skip)
        | (refine splNE (fun hc => ?_) (fun hc => ?_) <;> first | (exfalso; omega) | skip)
        | refine Exists.intro (α := List Value) [.bool true] ⟨⟨rfl, e2⟩, ?_⟩
        | refine remE (by omega) (by omega) ?_
        | refine Exists.intro (α := List Value) (Bx.cs hb) ⟨⟨rfl, e0⟩, ?_⟩
        | refine Exists.intro (α := List Value) (Bx.cs ab) ⟨⟨rfl, e1⟩, ?_⟩
        | refine eqlE47 (a := ⟨⟨_, _⟩, ⟨_, _⟩⟩) (b := ⟨⟨_, _⟩, ⟨_, _⟩⟩) ?_
        | ((with_reducible show CallEv _ _ 92 _ _ _ _ _); refine callE (k := 92) (fun β w' hbw => near_ok2 _ _ _ _ _ _ (by omega) (by omega) (by omega) (by omega)) ?_)
        | refine splB (fun hc => ?_) (fun hc => ?_)
    · refine ⟨fun β => congrArg Value.bool ?_, fun w' h => h⟩
      have h1 : ab.eqB hb = true := ‹_›
      have h2 : ab.eqB ⟨⟨0, 0⟩, ⟨0, 0⟩⟩ = true := ‹_›
      simp only [Bx.eqB, Rg.eqB, Bool.and_eq_true, beq_iff_eq] at h1 h2
      symm
      simp only [nearB, Bool.true_and, Bool.and_eq_true, decide_eq_true_eq]
      omega
    all_goals first
      | (have h1 : nearB ab.x hb.x g.re = true := ‹_›; exact ⟨fun β => congrArg Value.bool (by show nearB ab.z hb.z g.re = _; rw [h1]; simp only [Bool.true_and]), fun w' h => h⟩)
      | (have h1 : nearB ab.x hb.x g.re = false := ‹_›; exact ⟨fun β => congrArg Value.bool (by show false = _; rw [h1]; rfl), fun w' h => h⟩)
end Go.Proofs.Ytlehjapeomallaa

/- The iterator over the catches is a function value that has captured the flight and the release. -/
namespace Go.Proofs.Ytlehjapeomallaa
open Go Sx Go.RowKit

def Fg.scs (g : Fg) (a b : Value) : List Value := [iv g.f.a.x.lo, iv g.f.a.x.hi, iv g.f.a.z.lo, iv g.f.a.z.hi, iv g.f.s.x.lo, iv g.f.s.x.hi, iv g.f.s.z.lo, iv g.f.s.z.hi, iv g.f.m, .slice g.o g.n g.c, iv g.re, iv g.so, iv g.be, iv g.le, iv g.mo, a, b]
abbrev catV (x : Nat × Nat) : Value := .func (.func 84) #[] #[.pointer (some ⟨x.1, 0, none⟩), .pointer (some ⟨x.2, 0, none⟩)]
def catHx (g : Fg) (a b : Value) (r : Int) (x : Nat × Nat) (w : World) : Prop := w.heap[x.1]? = some (.cells (g.scs a b).toArray 123 (0, 0)) ∧ w.heap[x.2]? = some (.cells #[iv r] 3 (0, 0))

theorem catches_ok (g : Fg) (x : SeeX) (n : Nat) (r : Int) (w : World) :
    Calls Try.prog 63 #[g.sv (x.bv n) (x.lv n), iv r] w fun e w' => ∃ y, e = .returned (catV y) ∧ Below w.heap.size w w' ∧ St w.heap.size (catHx g (x.bv n) (x.lv n) r y) w' := by
  refine calls_fam env mixed Try.func63 has63 Try.ntmps63 [g.sv (x.bv n) (x.lv n), iv r] (by simp) ?_
  repeat'
    conv => whnf
    first
      | refine And.intro (a := drawB _ = true) (by kernel_rfl) ?_
      | refine And.intro (a := (_ : Bool) = true) rfl ?_
      | refine And.intro (a := (_ : Bool) = true ∧ (_ : Bool) = true) ⟨rfl, rfl⟩ ?_
      | refine And.intro (a := (_ : Bool) = true ∧ (_ : List _) = []) ⟨rfl, rfl⟩ ?_
      | refine And.intro (a := IR _ _) (And.intro (by omega) (by omega)) ?_
      | refine And.intro (a := (0 : Int) ≤ _ ∧ _ < _) (And.intro (by omega) (by omega)) ?_
      | refine splT ?_
      | refine splF ?_
      | refine splNot ?_
      | (refine splIn (fun hc => ?_) (fun hc => ?_) <;> first | (exfalso; omega) | skip)
      | (refine splD (fun hc => ?_) (fun hc => ?_) <;> first | (exfalso; omega) | skip)
      | (refine splE (fun hc => ?_) (fun hc => ?_) <;> first | (exfalso; omega) | skip)
      | (refine splNE (fun hc => ?_) (fun hc => ?_) <;> first | (exfalso; omega) | skip)
  exact ⟨fun w' h => h, fun β w' hB hblk => ⟨(β 0, β 1), rfl, (hblk 0 _ rfl rfl).and (hblk 1 _ rfl rfl)⟩⟩
end Go.Proofs.Ytlehjapeomallaa

/- The iterator over the ticks at which a catch is sure hands on just these, in their order, and stops when its loop stops. -/
namespace Go.Proofs.Ytlehjapeomallaa
open Go Sx Go.RowKit Go.Shelf
attribute [local go_sem] Oper.semAt_some

def catL (g : Fg) (bs : List Bx) (r : Int) : Nat → List Int
  | 0 => []
  | k + 1 => catL g bs r k ++ (if sureB g bs r k = true then [r + g.le + k] else [])

theorem catL_len (g : Fg) (bs : List Bx) (r : Int) : ∀ k, (catL g bs r k).length ≤ k
  | 0 => Nat.le_refl _
  | k + 1 => by
    have := catL_len g bs r k
    rw [catL, List.length_append]
    split <;> simp <;> omega
theorem catL_le (g : Fg) (bs : List Bx) (r : Int) {k : Nat} : ∀ {m : Nat}, k ≤ m → catL g bs r k <+: catL g bs r m
  | 0, h => by rw [Nat.le_zero.1 h]; exact List.prefix_refl _
  | m + 1, h => by
    rcases Nat.lt_or_ge m k with hk | hk
    · rw [show k = m + 1 from by omega]; exact List.prefix_refl _
    · exact (catL_le g bs r (m := m) hk).trans (by rw [catL]; exact List.prefix_append _ _)
theorem catL_pre (g : Fg) (bs : List Bx) (r : Int) {k m : Nat} (hs : sureB g bs r k = true) (h : k + 1 ≤ m) : catL g bs r k ++ [r + g.le + k] <+: catL g bs r m := by
  have := catL_le g bs r h
  rw [catL, hs] at this
  exact this
theorem below_grown {w w' : World} (h : Below w.heap.size w w') : w.grownBy w' none := ⟨h.os, h.tape, h.output, h.size, fun k hk _ => h.block k hk⟩

set_option maxHeartbeats 1000000 in
theorem cat84_in (F : Fence) (n : Nat) (hF : F = Fence.wide) (l n₀ : Nat) (g : Fg) (bs : List Bx) (x : SeeX) (r : Int) (ca : Nat × Nat) (J Jx : List Int → World → Prop) (hJ : ∀ s W W', J s W → W.grownBy W' none → J s W') (hg : g.ok bs = true) (hr0 : 0 ≤ r ∧ r ≤ 6000)
    (hY : ∀ pre x W, J pre W → pre.length < g.k → YieldAt F (n - 1) Try.prog l #[iv x] W fun e W' =>
      (e = .returned (.bool true) ∧ J (pre ++ [x]) W' ∧ Below n₀ W W') ∨ (e = .returned (.bool false) ∧ Jx (pre ++ [x]) W'))
    (W : World) (hW : ∀ W', Below n₀ W W' → catHx g (x.bv g.k) (x.lv g.k) r ca W' ∧ x.hx g W' ∧ Rd 4 Bx.cs (.slice g.o g.n g.c) bs W') (h0 : J [] W) (hn : n₀ ≤ W.heap.size) :
    CallsIn F n Try.prog 84 #[.func (.yield l) #[] #[], .pointer (some ⟨ca.1, 0, none⟩), .pointer (some ⟨ca.2, 0, none⟩)] W fun e W' => (∃ v, e = .returned v) ∧
      ((∃ ys, ys = catL g bs r g.k ∧ J ys W') ∨ (∃ pre, pre <+: catL g bs r g.k ∧ Jx pre W')) := by
  subst hF
  refine callsIn_of_wp Try.func84 rfl trivial ?_ rfl
  simp only [Try.ntmps84, List.size_toArray, List.length_cons, List.length_nil, Nat.reduceAdd, Nat.reduceSub, Array.replicate_succ, Array.replicate_zero, List.push_toArray, List.append_toArray, List.nil_append, List.cons_append]
  have c15 : ∀ W', Below n₀ W W' → W'.cell? ⟨ca.1, 15, none⟩ = some (x.bv g.k) := fun W' h => cell_of_row W' ca.1 15 _ 123 (0, 0) (hW W' h).1.1
  have hc15 := c15 W (Below.refl _ _)
  gi_wp2
  gi_loopw [8] (fun p wr => ∃ k : Nat, p = iv k ∧ k ≤ g.k ∧ Below n₀ W wr ∧ J (catL g bs r k) wr) (fun p _ => g.k - (intOf p).toNat)
  case atStart => exact ⟨0, rfl, Nat.zero_le _, Below.refl _ _, h0⟩
  case round =>
    obtain ⟨k, rfl, hk, hB, hJk⟩ := hrel
    have hg' := Fg.ok_iff.1 hg
    have hk300 : g.k ≤ 301 := by unfold Fg.k; omega
    have hn0 : n₀ ≤ wr.heap.size := Nat.le_trans hn hB.size
    rcases Nat.lt_or_ge k g.k with hlt | hge
    · obtain ⟨⟨hc1, hc2⟩, hx, hrd⟩ := hW wr hB
      have d0 := cell_of_row wr ca.1 0 _ 123 (0, 0) hc1
      have d1 := cell_of_row wr ca.1 1 _ 123 (0, 0) hc1
      have d2 := cell_of_row wr ca.1 2 _ 123 (0, 0) hc1
      have d3 := cell_of_row wr ca.1 3 _ 123 (0, 0) hc1
      have d4 := cell_of_row wr ca.1 4 _ 123 (0, 0) hc1
      have d5 := cell_of_row wr ca.1 5 _ 123 (0, 0) hc1
      have d6 := cell_of_row wr ca.1 6 _ 123 (0, 0) hc1
      have d7 := cell_of_row wr ca.1 7 _ 123 (0, 0) hc1
      have d8 := cell_of_row wr ca.1 8 _ 123 (0, 0) hc1
      have d9 := cell_of_row wr ca.1 9 _ 123 (0, 0) hc1
      have d10 := cell_of_row wr ca.1 10 _ 123 (0, 0) hc1
      have d11 := cell_of_row wr ca.1 11 _ 123 (0, 0) hc1
      have d12 := cell_of_row wr ca.1 12 _ 123 (0, 0) hc1
      have d13 := cell_of_row wr ca.1 13 _ 123 (0, 0) hc1
      have d14 := cell_of_row wr ca.1 14 _ 123 (0, 0) hc1
      have d15 := cell_of_row wr ca.1 15 _ 123 (0, 0) hc1
      have d16 := cell_of_row wr ca.1 16 _ 123 (0, 0) hc1
      have d20 := cell_of_row wr ca.2 0 _ 3 (0, 0) hc2
      simp only [Fg.scs, List.getElem?_toArray, List.getElem?_cons_zero, List.getElem?_cons_succ] at d0 d1 d2 d3 d4 d5 d6 d7 d8 d9 d10 d11 d12 d13 d14 d15 d16 d20
      cases hs : sureB g bs r k with
      | false =>
        gi_wp2
        refine ⟨trivial, fun h => (by cases h), (callsIn_wide.2 (sure_ok g bs x r k wr hg hrd hx hr0 hlt)).mono ?_⟩
        rw [hs]
        rintro e w3 ⟨rfl, hb3⟩
        gi_wp2
        refine ⟨fun _ h => (by cases h), ?_⟩
        gi_wp2
        go_roundw
        case rel => exact ⟨k + 1, rfl, by omega, hB.trans (hb3.mono hn0), by rw [catL, hs]; simp only [Bool.false_eq_true, if_false, List.append_nil]; exact hJ _ _ _ hJk (below_grown hb3)⟩
        case measure => simp only [intOf]; omega
      | true =>
        gi_wp2
        refine ⟨trivial, fun h => (by cases h), (callsIn_wide.2 (sure_ok g bs x r k wr hg hrd hx hr0 hlt)).mono ?_⟩
        rw [hs]
        rintro e w3 ⟨rfl, hb3⟩
        have hB3 : Below n₀ W w3 := hB.trans (hb3.mono hn0)
        obtain ⟨⟨hc31, hc32⟩, _, _⟩ := hW w3 hB3
        have d313 := cell_of_row w3 ca.1 13 _ 123 (0, 0) hc31
        have d320 := cell_of_row w3 ca.2 0 _ 3 (0, 0) hc32
        simp only [Fg.scs, List.getElem?_toArray, List.getElem?_cons_zero, List.getElem?_cons_succ] at d313 d320
        have hJ3 : J (catL g bs r k) w3 := hJ _ _ _ hJk (below_grown hb3)
        obtain ⟨fn, tmps, assign, body, hy, hR⟩ := hY (catL g bs r k) (r + g.le + k) w3 hJ3 (Nat.lt_of_le_of_lt (catL_len g bs r k) hlt)
        gi_wp2
        refine ⟨fun h => (by cases h), hR.mono ?_⟩
        rintro e W4 (⟨rfl, hJ4, hk4⟩ | ⟨rfl, hJx4⟩)
        · gi_wp2
          go_roundw
          case rel => exact ⟨k + 1, rfl, by omega, hB3.trans hk4, by rw [catL, hs]; exact hJ4⟩
          case measure => simp only [intOf]; omega
        · gi_wp2
          refine bodyPost_ret (results_none rfl _ _ _) rfl ?_
          exact ⟨⟨_, rfl⟩, .inr ⟨_, catL_pre g bs r hs (by omega), hJx4⟩⟩
    · have hkg : k = g.k := by omega
      subst hkg
      gi_wp2
      go_end0
      exact ⟨⟨_, rfl⟩, .inl ⟨_, rfl, hJk⟩⟩
end Go.Proofs.Ytlehjapeomallaa

/- Collecting the ticks at which a catch is sure: a slice of its own that holds them. -/
namespace Go.Proofs.Ytlehjapeomallaa
open Go Sx Go.RowKit Go.Shelf
attribute [local go_sem] Oper.semAt_some

theorem info3 : (Try.prog.info? 3).map (fun i => (i.zero, i.size, i.bytes)) = some (some (.int .i64 0), 1, 8) := by kernel_rfl
theorem under43 : Try.prog.underlying 43 = some (.slice 3) := by kernel_rfl

/-- What the iterator's reads want: they lie below n₀. -/
def IterAt (n₀ : Nat) (g : Fg) (bs : List Bx) (x : SeeX) (r : Int) (ca : Nat × Nat) (w : World) : Prop :=
  ∀ W', Below n₀ w W' → catHx g (x.bv g.k) (x.lv g.k) r ca W' ∧ x.hx g W' ∧ Rd 4 Bx.cs (.slice g.o g.n g.c) bs W'
theorem IterAt.below {n₀ : Nat} {g : Fg} {bs : List Bx} {x : SeeX} {r : Int} {ca : Nat × Nat} {w w' : World} (h : IterAt n₀ g bs x r ca w) (hb : Below n₀ w w') : IterAt n₀ g bs x r ca w' :=
  fun W hW => h W (hb.trans hW)

theorem cat84_stops (n n₀ : Nat) (g : Fg) (bs : List Bx) (x : SeeX) (r : Int) (ca : Nat × Nat) (hg : g.ok bs = true) (hr0 : 0 ≤ r ∧ r ≤ 6000) (w : World) (hn : n₀ ≤ w.heap.size) (hi : IterAt n₀ g bs x r ca w) :
    SeqStopsK Fence.wide n Try.prog 84 #[.pointer (some ⟨ca.1, 0, none⟩), .pointer (some ⟨ca.2, 0, none⟩)] (fun t : Int => #[Value.int .i64 t]) (Below n₀) (fun ys => ys = catL g bs r g.k) (fun pre => pre <+: catL g bs r g.k) g.k w := fun l J Jx W hW hJ _ hY h0 =>
  cat84_in Fence.wide n rfl l n₀ g bs x r ca J Jx (fun s A B hs hgr => hJ s A B none hs hgr (fun r e => by cases e)) hg hr0 hY W (hi.below (hW.mono hn)) h0 (Nat.le_trans hn hW.size)

set_option maxRecDepth 100000 in
set_option maxHeartbeats 2000000 in
theorem append83_ok (g : Fg) (bs : List Bx) (x : SeeX) (r : Int) (ca : Nat × Nat) (hg : g.ok bs = true) (hr0 : 0 ≤ r ∧ r ≤ 6000) (w : World) (hit : IterAt w.heap.size g bs x r ca w) :
    Calls Try.prog 83 #[.slice none 0 0, catV ca] w fun e W' => ∃ v, e = .returned v ∧ W'.ownsRow w.heap.size 3 1 v (catL g bs r g.k).length ((catL g bs r g.k).map (Value.int .i64)) ∧ Below w.heap.size w W' := by
  refine callsIn_wide.1 (?_ : CallsIn Fence.wide 5 Try.prog 83 _ w _)
  obtain ⟨i0, hi, hz0, hz1, hz2⟩ := info_parts info3
  have hk300 : g.k ≤ 301 := by have := Fg.ok_iff.1 hg; unfold Fg.k; omega
  refine callsIn_of_wp_marks Try.func83 rfl trivial ?_ rfl
  simp only [Try.ntmps83, List.size_toArray, List.length_cons, List.length_nil, Nat.reduceAdd, Nat.reduceSub, Array.replicate_succ, Array.replicate_zero, List.push_toArray, List.append_toArray, List.nil_append, List.cons_append]
  gi_wp2
  have bO := Boxed.new w 43 (.slice none 0 0)
  have hB0 : Below w.heap.size w (w.alloc (.cells #[.slice none 0 0] 43)) := (Below.refl _ w).alloc (Nat.le_refl _) _
  refine wpIn_rangeFunc_ownG (n := 5) rfl (by decide) (gf := 84) (lb := #[.pointer (some ⟨ca.1, 0, none⟩), .pointer (some ⟨ca.2, 0, none⟩)]) rfl trivial (enters_of Try.func84 (by kernel_rfl) rfl)
    (cat84_stops 4 w.heap.size g bs x r ca hg hr0 _ (by simp) (hit.below hB0)) belowK_t (belowK_b (by simp)) (Below.refl _ _) (fun _ => rfl)
    (fun pre W => (∃ v, Boxed W w.heap.size 43 v ∧ W.ownsRow w.heap.size 3 1 v pre.length (pre.map (Value.int .i64)) ∧ True) ∧ Below w.heap.size w W)
    (fun _ _ _ => False)
    (OwnFrom.and (Own.from (holdsRow_own w.heap.size w.heap.size 43 3 1 (fun pre : List Int => pre.length) (fun pre => pre.map (Value.int .i64)) (fun _ _ => True)) _) (ownFrom_below (Nat.le_refl _) (by simp)))
    (fun _ _ _ _ _ hs _ _ => hs)
    ⟨⟨_, bO, World.ownsRow_nil _ _ _ _, trivial⟩, hB0⟩
    (fun y => { tmps := #[.slice none 0 0, catV ca, .pointer (some ⟨w.heap.size, 0, none⟩), undef, .slice none 0 0, .int .i64 y, catV ca, .int .i64 y, undef, undef, undef, undef, undef], defers := [] }) ?assign ?body ?done ?stop
  case assign =>
    intro l x W K hK
    gi_wp2
    exact hK
  case body =>
    rintro l pre y W ⟨⟨v, hv, hrow, -⟩, hB⟩ hlt
    have hc := hv.cell
    gi_wp2_with (gi_at_builtin; refine wpListIn_append_own _ rfl _ _ 43 rfl w.heap.size 3 i0 (.int .i64 0) 1 8 under43 hi hz0 hz1 hz2 rfl (by decide) _ _ _ rfl (hrow.alloc _) ⟨W.heap.size, 0, none⟩ 1 1 [.int .i64 y] rfl rfl (cell_one_new _ _ _) (by simp [Value.oneCell']) (by simp only [maxLen]; omega) (by omega) (by have := hB.size; simp; omega) ?_; intro v' w1 hown' hgrow _; obtain ⟨g', cap', rfl⟩ := ownsRow_succ hown'; obtain ⟨hv1, hv2, hr2, hk2, hb2⟩ := hv.appended (by decide) hrow hB.size (Nat.le_refl _) hown' hgrow; have hc1 := hv1.cell; have hf1 := hv1.frozen)
    exact ⟨hk2.from _, hb2, ⟨_, hv2, by simpa using hr2, trivial⟩, hB.trans hb2⟩
  case done =>
    rintro D ys W hD rfl ⟨⟨v, hv, hrow, -⟩, hB⟩ hK
    have hc := hv.cell
    gi_wp2
    refine ⟨by simp, .inl ⟨_, _, rfl, run_takeDeferred hK, ?_⟩⟩
    exact ⟨_, results_tmp rfl _ _ _, v, rfl, ownsRow_putObj hrow _ hK rfl, hB.trans (belowK_b (w := w) (Nat.le_refl _) W D _ _ (by simp at hD; omega) hK rfl rfl)⟩
  case stop =>
    rintro D c pre W _ _ h _
    exact h.elim
end Go.Proofs.Ytlehjapeomallaa

/- The catches of any release: the function returns a slice that holds them, or the error. -/
namespace Go.Proofs.Ytlehjapeomallaa
open Go Sx Go.RowKit

theorem block_below {w w' : World} {n : Nat} {b : Nat} {o : Obj} (h : Below w.heap.size w w') (hb : w.heap[b]? = some o) (_ : n = n) : w'.heap[b]? = some o := (h.block b (Array.getElem?_eq_some_iff.1 hb).1).trans hb
theorem IterAt.of {g : Fg} {bs : List Bx} {x : SeeX} {r : Int} {ca : Nat × Nat} {w : World} (h1 : catHx g (x.bv g.k) (x.lv g.k) r ca w) (h2 : x.hx g w) (h3 : Rd 4 Bx.cs (.slice g.o g.n g.c) bs w) : IterAt w.heap.size g bs x r ca w :=
  fun _ hW => ⟨⟨block_below (n := 0) hW h1.1 rfl, block_below (n := 0) hW h1.2 rfl⟩, ⟨h2.1.below hW, h2.2.below hW⟩, h3.below hW⟩
theorem IterAt.later {g : Fg} {bs : List Bx} {x : SeeX} {r : Int} {ca : Nat × Nat} {w w' : World} (h : IterAt w.heap.size g bs x r ca w) (hb : Below w.heap.size w w') : IterAt w'.heap.size g bs x r ca w' :=
  fun W hW => h W (hb.trans (hW.mono hb.size))

theorem owns_ints {w' : World} {base : Nat} {v : Value} {xs : List Int} (h : w'.ownsRow base 3 1 v xs.length (xs.map (Value.int .i64))) :
    ∃ y : Option Addr × Nat, v = .slice y.1 xs.length y.2 ∧ St base (Rd 1 iF (.slice y.1 xs.length y.2) xs) w' := by
  have hx : xs.map (Value.int .i64) = xs.flatMap iF := by
    have : ∀ l : List Int, l.map (Value.int .i64) = l.flatMap iF := by
      intro l
      induction l with
      | nil => rfl
      | cons a l ih => rw [List.map_cons, List.flatMap_cons, ih]; rfl
    exact this xs
  rcases h.2 with ⟨rfl, h0⟩ | ⟨b, cap, cur, rfl, h1, h2, h3, h4, h5, h6⟩
  · have : xs = [] := List.eq_nil_of_length_eq_zero h0
    subst this
    exact ⟨(none, 0), rfl, fun _ _ => .inl ⟨rfl, rfl⟩⟩
  · refine ⟨(some ⟨b, 0, none⟩, cap), rfl, fun w2 hk => Rd.of_owns (sz := 1) (f := iF) (base := base) (ty := 3) (fun _ => rfl) hx rfl ⟨h.1, .inr ⟨b, cap, cur, rfl, h1, ?_, h3, h4, h5, h6⟩⟩⟩
    rw [hk.same b h1 (Array.getElem?_eq_some_iff.1 h2).1]
    exact h2

theorem St_stst {n m : Nat} {p : World → Prop} {w : World} (h : St m p w) (hn : n ≤ m) : St m (St n p) w := fun _ k2 w3 k3 => h w3 (k2.trans (k3.mono hn))

/-- A slice of ints, come as a result: where it lies. -/
abbrev sV (n : Nat) (y : Option Addr × Nat) : Value := .slice y.1 n y.2

theorem append83_fam (g : Fg) (bs : List Bx) (x : SeeX) (r : Int) (ca : Nat × Nat) (hg : g.ok bs = true) (hr0 : 0 ≤ r ∧ r ≤ 6000) (w : World) (hit : IterAt w.heap.size g bs x r ca w) :
    Calls Try.prog 83 #[.slice none 0 0, catV ca] w fun e w' => ∃ y : Option Addr × Nat, e = .returned (sV (catL g bs r g.k).length y) ∧ Below w.heap.size w w' ∧ St w.heap.size (Rd 1 iF (sV (catL g bs r g.k).length y) (catL g bs r g.k)) w' :=
  (append83_ok g bs x r ca hg hr0 w hit).mono fun e w' ⟨v, he, ho, hb⟩ => by
    obtain ⟨y, rfl, h⟩ := owns_ints ho
    exact ⟨y, he, hb, h⟩

theorem collect_ok (g : Fg) (bs : List Bx) (x : SeeX) (r : Int) (ca : Nat × Nat) (hg : g.ok bs = true) (hr0 : 0 ≤ r ∧ r ≤ 6000) (w : World) (hit : IterAt w.heap.size g bs x r ca w) :
    Calls Try.prog 61 #[catV ca] w fun e w' => ∃ y : Option Addr × Nat, e = .returned (sV (catL g bs r g.k).length y) ∧ Below w.heap.size w w' ∧ St w.heap.size (Rd 1 iF (sV (catL g bs r g.k).length y) (catL g bs r g.k)) w' := by
  refine calls_fam env mixed Try.func61 has61 Try.ntmps61 [catV ca] (by simp) ?_
  repeat'
    conv => whnf
    first
      | refine And.intro (a := drawB _ = true) (by kernel_rfl) ?_
      | refine And.intro (a := (_ : Bool) = true) rfl ?_
      | refine And.intro (a := (_ : Bool) = true ∧ (_ : Bool) = true) ⟨rfl, rfl⟩ ?_
      | refine And.intro (a := (_ : Bool) = true ∧ (_ : List _) = []) ⟨rfl, rfl⟩ ?_
      | refine And.intro (a := IR _ _) (And.intro (by omega) (by omega)) ?_
      | refine And.intro (a := (0 : Int) ≤ _ ∧ _ < _) (And.intro (by omega) (by omega)) ?_
      | refine splT ?_
      | refine splF ?_
      | refine splNot ?_
      | (refine splIn (fun hc => ?_) (fun hc => ?_) <;> first | (exfalso; omega) | skip)
      | (refine splD (fun hc => ?_) (fun hc => ?_) <;> first | (exfalso; omega) | skip)
      | (refine splE (fun hc => ?_) (fun hc => ?_) <;> first | (exfalso; omega) | skip)
      | (refine splNE (fun hc => ?_) (fun hc => ?_) <;> first | (exfalso; omega) | skip)
      | ((with_reducible show CallEv _ _ 83 _ _ _ _ _); refine callF [] (sV (catL g bs r g.k).length) (fun y => St w.heap.size (Rd 1 iF (sV (catL g bs r g.k).length y) (catL g bs r g.k))) (fun β w' _ hbw => (append83_fam g bs x r ca hg hr0 w' (hit.later hbw)).mono fun _ _ ⟨y, h1, h2, h3⟩ => ⟨y, h1, h2, St_stst h3 hbw.size⟩) ?_; intro y)
  exact ⟨fun w' h => h.1, fun β w' h _ => ⟨y, rfl, h.2⟩⟩

/-- The ticks at which a catch is sure, or none where the flight or the release is not right. -/
def catR (g : Fg) (bs : List Bx) (r : Int) : List Int := if g.ok bs = true ∧ (0 ≤ r ∧ r ≤ 6000) then catL g bs r g.k else []
def catE (g : Fg) (bs : List Bx) (r : Int) : Int := if g.ok bs = true then (if 0 ≤ r ∧ r ≤ 6000 then 0 else 2) else 1

theorem Catches_ok (g : Fg) (bs : List Bx) (r : Int) (w : World) (hrd : Rd 4 Bx.cs (.slice g.o g.n g.c) bs w) (hl : bs.length ≤ 1000000) :
    Calls Try.prog 24 #[g.v, iv r] w fun e w' => ∃ y : Option Addr × Nat, e = .returned (.tuple #[sV (catR g bs r).length y, iv (catE g bs r)]) ∧ Below w.heap.size w w' ∧ St w.heap.size (Rd 1 iF (sV (catR g bs r).length y) (catR g bs r)) w' := by
  refine calls_fam env mixed Try.func24 has24 Try.ntmps24 [g.v, iv r] (by simp) ?_
  by_cases hg : g.ok bs = true
  · have hg' := Fg.ok_iff.1 hg
    by_cases hr0 : 0 ≤ r ∧ r ≤ 6000
    · rw [show catR g bs r = catL g bs r g.k from if_pos ⟨hg, hr0⟩, show catE g bs r = 0 from by rw [catE, if_pos hg, if_pos hr0]]
      repeat'
        conv => whnf
        first
          | refine And.intro (a := drawB _ = true) (by kernel_rfl) ?_
          | refine And.intro (a := (_ : Bool) = true) rfl ?_
          | refine And.intro (a := (_ : Bool) = true ∧ (_ : Bool) = true) ⟨rfl, rfl⟩ ?_
          | refine And.intro (a := (_ : Bool) = true ∧ (_ : List _) = []) ⟨rfl, rfl⟩ ?_
          | refine And.intro (a := IR _ _) (And.intro (by omega) (by omega)) ?_
          | refine And.intro (a := (0 : Int) ≤ _ ∧ _ < _) (And.intro (by omega) (by omega)) ?_
          | refine splT ?_
          | refine splF ?_
          | refine splNot ?_
          | (refine splIn (fun hc => ?_) (fun hc => ?_) <;> first | (exfalso; omega) | skip)
          | (refine splD (fun hc => ?_) (fun hc => ?_) <;> first | (exfalso; omega) | skip)
          | (refine splE (fun hc => ?_) (fun hc => ?_) <;> first | (exfalso; omega) | skip)
          | (refine splNE (fun hc => ?_) (fun hc => ?_) <;> first | (exfalso; omega) | skip)
          | ((with_reducible show CallEv _ _ 60 _ _ _ _ _); refine callE (k := 60) (fun β w' hbw => Gvalid_ok g bs _ (hrd.below hbw) hl) ?_)
          | ((with_reducible show CallEv _ _ 58 _ _ _ _ _); refine callE (k := 58) (fun β w' hbw => within_ok _ _ _ _) ?_)
          | ((with_reducible show CallEv _ _ 62 _ _ _ _ _); refine callF [] (fun x : SeeX => g.sv (x.bv g.k) (x.lv g.k)) (fun x => x.hx g) (fun β w' _ _ => see_ok g w' hg'.1 hg'.2.2.2.2.1 (by omega) (by omega) (by omega)) ?_; intro x)
          | ((with_reducible show CallEv _ _ 63 _ _ _ _ _); refine callF [] catV (fun y => catHx g (x.bv g.k) (x.lv g.k) r y) (fun β w' _ _ => catches_ok g x g.k r w') ?_; intro ca)
          | ((with_reducible show CallEv _ _ 61 _ _ _ _ _); refine callF [] (sV (catL g bs r g.k).length) (fun y => St w.heap.size (Rd 1 iF (sV (catL g bs r g.k).length y) (catL g bs r g.k))) (fun β w' _ hbw => (collect_ok g bs x r ca hg hr0 w' (IterAt.of hbw.2 hbw.1.2 (hrd.below hbw.1.1))).mono fun _ _ ⟨y, h1, h2, h3⟩ => ⟨y, h1, h2, St_stst h3 hbw.1.1.size⟩) ?_; intro y)
          | refine splB (fun hc => ?_) (fun hc => ?_)
      all_goals first
        | exact ⟨fun w' h => h.1.1.1, fun β w' h _ => ⟨y, rfl, h.2⟩⟩
        | (exfalso; simp_all)
    · rw [show catR g bs r = [] from if_neg fun h => hr0 h.2, show catE g bs r = 2 from by rw [catE, if_pos hg, if_neg hr0]]
      repeat'
        conv => whnf
        first
          | refine And.intro (a := drawB _ = true) (by kernel_rfl) ?_
          | refine And.intro (a := (_ : Bool) = true) rfl ?_
          | refine And.intro (a := (_ : Bool) = true ∧ (_ : Bool) = true) ⟨rfl, rfl⟩ ?_
          | refine And.intro (a := (_ : Bool) = true ∧ (_ : List _) = []) ⟨rfl, rfl⟩ ?_
          | refine And.intro (a := IR _ _) (And.intro (by omega) (by omega)) ?_
          | refine And.intro (a := (0 : Int) ≤ _ ∧ _ < _) (And.intro (by omega) (by omega)) ?_
          | refine splT ?_
          | refine splF ?_
          | refine splNot ?_
          | (refine splIn (fun hc => ?_) (fun hc => ?_) <;> first | (exfalso; omega) | skip)
          | (refine splD (fun hc => ?_) (fun hc => ?_) <;> first | (exfalso; omega) | skip)
          | (refine splE (fun hc => ?_) (fun hc => ?_) <;> first | (exfalso; omega) | skip)
          | (refine splNE (fun hc => ?_) (fun hc => ?_) <;> first | (exfalso; omega) | skip)
          | ((with_reducible show CallEv _ _ 60 _ _ _ _ _); refine callE (k := 60) (fun β w' hbw => Gvalid_ok g bs _ (hrd.below hbw) hl) ?_)
          | ((with_reducible show CallEv _ _ 58 _ _ _ _ _); refine callE (k := 58) (fun β w' hbw => within_ok _ _ _ _) ?_)
          | refine splB (fun hc => ?_) (fun hc => ?_)
      all_goals first
        | exact ⟨fun w' h => h, fun β w' h _ => ⟨(none, 0), rfl, fun _ _ => .inl ⟨rfl, rfl⟩⟩⟩
        | (exfalso; simp_all)
  · rw [show catR g bs r = [] from if_neg fun h => hg h.1, show catE g bs r = 1 from by rw [catE, if_neg hg]]
    repeat'
      conv => whnf
      first
        | refine And.intro (a := drawB _ = true) (by kernel_rfl) ?_
        | refine And.intro (a := (_ : Bool) = true) rfl ?_
        | refine And.intro (a := (_ : Bool) = true ∧ (_ : Bool) = true) ⟨rfl, rfl⟩ ?_
        | refine And.intro (a := (_ : Bool) = true ∧ (_ : List _) = []) ⟨rfl, rfl⟩ ?_
        | refine And.intro (a := IR _ _) (And.intro (by omega) (by omega)) ?_
        | refine And.intro (a := (0 : Int) ≤ _ ∧ _ < _) (And.intro (by omega) (by omega)) ?_
        | refine splT ?_
        | refine splF ?_
        | refine splNot ?_
        | (refine splIn (fun hc => ?_) (fun hc => ?_) <;> first | (exfalso; omega) | skip)
        | (refine splD (fun hc => ?_) (fun hc => ?_) <;> first | (exfalso; omega) | skip)
        | (refine splE (fun hc => ?_) (fun hc => ?_) <;> first | (exfalso; omega) | skip)
        | (refine splNE (fun hc => ?_) (fun hc => ?_) <;> first | (exfalso; omega) | skip)
        | ((with_reducible show CallEv _ _ 60 _ _ _ _ _); refine callE (k := 60) (fun β w' hbw => Gvalid_ok g bs _ (hrd.below hbw) hl) ?_)
        | refine splB (fun hc => ?_) (fun hc => ?_)
    all_goals first
      | exact ⟨fun w' h => h, fun β w' h _ => ⟨(none, 0), rfl, fun _ _ => .inl ⟨rfl, rfl⟩⟩⟩
      | (exfalso; simp_all)
end Go.Proofs.Ytlehjapeomallaa
