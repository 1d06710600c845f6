/- Rigs: their values; what a load pulls. -/
import Derived.Test.YtaciigegbgnadaaGI
namespace Go.Proofs.Ytaciigegbgnadaa
open Go Tx Go.RowKit
set_option linter.unusedSimpArgs false
set_option linter.unusedVariables false

/-- A load: where it lies, of which kind it is, from what to what it pulls. -/
structure Ld where
  beam : Int
  at' : Int
  kind : Nat
  lo : Int
  hi : Int
abbrev Ld.cs (l : Ld) : List Value := [iv l.beam, iv l.at', .int .u8 l.kind, iv l.lo, iv l.hi]
/-- A beam: its hangers, where these hang, its weight, what it bears. -/
structure Bm where
  lo : Int
  hi : Int
  ab : Int
  aa : Int
  bb : Int
  ba : Int
  wt : Int
  cap : Int
abbrev Bm.cs (b : Bm) : List Value := [iv b.lo, iv b.hi, iv b.ab, iv b.aa, iv b.bb, iv b.ba, iv b.wt, iv b.cap]
/-- A rig's value: where its three slices lie, and its three factors. -/
structure Rig where
  po : Option Addr
  pn : Nat
  pc : Nat
  bo : Option Addr
  bn : Nat
  bc : Nat
  f0 : Int
  f1 : Int
  f2 : Int
  lo : Option Addr
  ln : Nat
  lc : Nat
abbrev Rig.cs (r : Rig) : List Value := [.slice r.po r.pn r.pc, .slice r.bo r.bn r.bc, iv r.f0, iv r.f1, iv r.f2, .slice r.lo r.ln r.lc]
abbrev Rig.v (r : Rig) : Value := .agg #[.slice r.po r.pn r.pc, .slice r.bo r.bn r.bc, iv r.f0, iv r.f1, iv r.f2, .slice r.lo r.ln r.lc]
def Rig.fac (r : Rig) : Nat → Int
  | 0 => r.f0
  | 1 => r.f1
  | _ => r.f2
/-- The most that a load pulls. -/
def hiP (r : Rig) (l : Ld) : Int := (l.hi * r.fac l.kind + 999) / 1000

set_option maxHeartbeats 1000000 in
set_option maxRecDepth 100000 in
theorem pull_ok (r : Rig) (LL : List Ld) (k : Nat) (l : Ld) (w : World) (hrd : Rd 5 Ld.cs (.slice r.lo LL.length r.lc) LL w) (hn : r.ln = LL.length) (hk : LL[k]? = some l) (hl : LL.length ≤ 1000000)
    (hkind : l.kind ≤ 2) (hhi : 0 ≤ l.hi ∧ l.hi ≤ 1000000000) (hf : 0 ≤ r.fac l.kind ∧ r.fac l.kind ≤ 1000000) :
    Calls Try.prog 68 #[r.v, iv k] w fun e w' => e = .returned (.agg #[iv l.lo, iv (hiP r l)]) ∧ Below w.heap.size w w' := by
  obtain ⟨po, pn, pc, bo, bn, bc, f0, f1, f2, lo, ln, lc⟩ := r
  dsimp only at hrd hn
  subst hn
  refine calls_val env mixed Try.func68 has68 Try.ntmps68 [.agg #[.slice po pn pc, .slice bo bn bc, iv f0, iv f1, iv f2, .slice lo LL.length lc], iv k] (by simp) ?_
  have hkl := (List.getElem?_eq_some_iff.1 hk).1
  obtain ⟨_, ad, rfl, _⟩ := hrd.ptr (by omega)
  have e0 := fun (w' : World) hw' => rd_ati (hrd.below (w' := w') hw') hk
  obtain ⟨lb, la, lk, ll, lh⟩ := l
  dsimp only at *
  unfold hiP
  have hm0 : 0 ≤ lh * Rig.fac ⟨po, pn, pc, bo, bn, bc, f0, f1, f2, some ad, LL.length, lc⟩ lk := Int.mul_nonneg hhi.1 hf.1
  have hm1 : lh * Rig.fac ⟨po, pn, pc, bo, bn, bc, f0, f1, f2, some ad, LL.length, lc⟩ lk ≤ 1000000000 * 1000000 := Int.mul_le_mul hhi.2 hf.2 hf.1 (by omega)
  dsimp only
  repeat'
    conv => whnf
    first
      | refine And.intro (a := drawB _ = true) (by kernel_rfl) ?_
      | refine And.intro (a := (_ : Bool) = true) rfl ?_
      | refine And.intro (a := (_ : Bool) = true ∧ (_ : Bool) = true) ⟨rfl, rfl⟩ ?_
      | refine And.intro (a := (_ : Bool) = true ∧ (_ : List _) = []) ⟨rfl, rfl⟩ ?_
      | refine And.intro (a := IR _ _) (And.intro (by omega) (by omega)) ?_
      | refine wrapE (And.intro (by omega) (by omega)) ?_
      | refine And.intro (a := (0 : Int) ≤ _ ∧ _ < _) (And.intro (by omega) (by omega)) ?_
      | refine And.intro (a := (_ : Bool) = true) (by simp only [Nat.beq_refl]; rfl) ?_
      | refine And.intro (a := ((_ : Bool) = true → 1 ≤ _) ∧ _ ≤ 9223372036854775807 ∧ _ ≤ 140737488355328) ⟨fun h => (by first | omega | cases h), by omega, by omega⟩ ?_
      | refine splT ?_
      | refine splF ?_
      | refine splNot ?_
      | (refine splIn (fun hc => ?_) (fun hc => ?_) <;> first | (exfalso; omega) | (exfalso; dsimp only at hc; omega) | skip)
      | (refine splD (fun hc => ?_) (fun hc => ?_) <;> first | (exfalso; omega) | (exfalso; dsimp only at hc; omega) | skip)
      | (refine splE (fun hc => ?_) (fun hc => ?_) <;> first | (exfalso; omega) | (exfalso; dsimp only at hc; omega) | skip)
      | (refine splNE (fun hc => ?_) (fun hc => ?_) <;> first | (exfalso; omega) | (exfalso; dsimp only at hc; omega) | skip)
      | refine Exists.intro (α := List Value) [iv lb, iv la, .int .u8 lk, iv ll, iv lh] ⟨⟨rfl, fun w' hw' => e0 w' hw'⟩, ?_⟩
  obtain rfl | rfl | rfl : lk = 0 ∨ lk = 1 ∨ lk = 2 := by omega
  all_goals simp only [Rig.fac] at hf hm0 hm1
  all_goals skip
  repeat'
    conv => whnf
    first
      | refine And.intro (a := drawB _ = true) (by kernel_rfl) ?_
      | refine And.intro (a := (_ : Bool) = true) rfl ?_
      | refine And.intro (a := (_ : Bool) = true ∧ (_ : Bool) = true) ⟨rfl, rfl⟩ ?_
      | refine And.intro (a := (_ : Bool) = true ∧ (_ : List _) = []) ⟨rfl, rfl⟩ ?_
      | refine And.intro (a := IR _ _) (And.intro (by omega) (by omega)) ?_
      | refine wrapE (And.intro (by omega) (by omega)) ?_
      | refine And.intro (a := (0 : Int) ≤ _ ∧ _ < _) (And.intro (by omega) (by omega)) ?_
      | refine And.intro (a := (_ : Bool) = true) (by simp only [Nat.beq_refl]; rfl) ?_
      | refine And.intro (a := ((_ : Bool) = true → 1 ≤ _) ∧ _ ≤ 9223372036854775807 ∧ _ ≤ 140737488355328) ⟨fun h => (by first | omega | cases h), by omega, by omega⟩ ?_
      | refine splT ?_
      | refine splF ?_
      | refine splNot ?_
      | (refine splIn (fun hc => ?_) (fun hc => ?_) <;> first | (exfalso; omega) | (exfalso; dsimp only at hc; omega) | skip)
      | (refine splD (fun hc => ?_) (fun hc => ?_) <;> first | (exfalso; omega) | (exfalso; dsimp only at hc; omega) | skip)
      | (refine splE (fun hc => ?_) (fun hc => ?_) <;> first | (exfalso; omega) | (exfalso; dsimp only at hc; omega) | skip)
      | (refine splNE (fun hc => ?_) (fun hc => ?_) <;> first | (exfalso; omega) | (exfalso; dsimp only at hc; omega) | skip)
      | refine quoE (by omega) (by omega) (And.intro (by omega) (by omega)) ?_
  all_goals conv => whnf
  all_goals exact ⟨fun β => rfl, fun w' h => h⟩
end Go.Proofs.Ytaciigegbgnadaa
