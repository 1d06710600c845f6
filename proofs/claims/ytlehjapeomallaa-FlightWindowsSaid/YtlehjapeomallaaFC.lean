/- Whether a catch is sure at a tick: what the function returns. -/
import Derived.Test.YtlehjapeomallaaFB
namespace Go.Proofs.Ytlehjapeomallaa
open Go Sx Go.RowKit

theorem Rd.some {α : Type} {sz : Nat} {f : α → List Value} {o : Option Addr} {n c : Nat} {bs : List α} {w : World} (h : Rd sz f (.slice o n c) bs w) (hn : 1 ≤ n) :
    n = bs.length ∧ ∃ ad, o = .some ad ∧ ∀ k b, bs[k]? = .some b → ∀ j v, (f b)[j]? = .some v → w.cell? ((ad.add (k * sz)).add j) = .some v := by
  rcases h with ⟨h, _⟩ | ⟨ad, c', h, h2⟩
  · simp only [Value.slice.injEq] at h; omega
  · simp only [Value.slice.injEq] at h
    obtain ⟨rfl, rfl, rfl⟩ := h
    exact ⟨rfl, ad, rfl, h2⟩

abbrev Fg.svo (g : Fg) (o : Option Addr) (a b : Value) : Value := .agg #[iv g.f.a.x.lo, iv g.f.a.x.hi, iv g.f.a.z.lo, iv g.f.a.z.hi, iv g.f.s.x.lo, iv g.f.s.x.hi, iv g.f.s.z.lo, iv g.f.s.z.hi, iv g.f.m, .slice o g.n g.c, iv g.re, iv g.so, iv g.be, iv g.le, iv g.mo, a, b]
/-- The hands at a tick. -/
def hnd (g : Fg) (bs : List Bx) (t : Int) : Bx := (bs[(t % (g.n : Int)).toNat]?).getD ⟨⟨0, 0⟩, ⟨0, 0⟩⟩
/-- Is a catch sure, k ticks above Least after a release? -/
def sureB (g : Fg) (bs : List Bx) (r k : Int) : Bool :=
  decide (ldF g.f g.so (g.le + k) ≤ g.be) && (nearB (g.f.af (g.le + k)).x (hnd g bs (r + g.le + k)).x g.re && nearB (g.f.af (g.le + k)).z (hnd g bs (r + g.le + k)).z g.re)

theorem Fl.af_bd {f : Fl} (hf : f.ok = true) {t : Int} (h0 : 0 ≤ t) (h1 : t ≤ 300) :
    (-100000000 ≤ (f.af t).x.lo ∧ (f.af t).x.lo ≤ 100000000) ∧ (-100000000 ≤ (f.af t).x.hi ∧ (f.af t).x.hi ≤ 100000000) ∧ (-100000000 ≤ (f.af t).z.lo ∧ (f.af t).z.lo ≤ 100000000) ∧ (-100000000 ≤ (f.af t).z.hi ∧ (f.af t).z.hi ≤ 100000000) := by
  have hb := Fl.bd hf h0 h1
  have hf' := Fl.ok_iff.1 hf
  simp only [Fl.af]; omega

theorem near_ok2 (a b c d reach : Int) (w : World) (h0 : -100000000 ≤ a ∧ a ≤ 100000000) (h1 : -100000000 ≤ b ∧ b ≤ 100000000) (h2 : -100000000 ≤ c ∧ c ≤ 100000000) (h3 : -100000000 ≤ d ∧ d ≤ 100000000) :
    Calls Try.prog 92 #[.agg #[iv a, iv b], .agg #[iv c, iv d], iv reach] w fun e w' => e = .returned (.bool (nearB ⟨a, b⟩ ⟨c, d⟩ reach)) ∧ Below w.heap.size w w' := near_ok ⟨a, b⟩ ⟨c, d⟩ reach w h0 h1 h2 h3

set_option maxRecDepth 100000 in
theorem sure_ok (g : Fg) (bs : List Bx) (x : SeeX) (r : Int) (k : Nat) (w : World) (hg : g.ok bs = true) (hr : Rd 4 Bx.cs (.slice g.o g.n g.c) bs w) (hx : x.hx g w) (hr0 : 0 ≤ r ∧ r ≤ 6000) (hk : k < g.k) :
    Calls Try.prog 74 #[g.sv (x.bv g.k) (x.lv g.k), iv r, iv k] w fun e w' => e = .returned (.bool (sureB g bs r k)) ∧ Below w.heap.size w w' := by
  have hg' := Fg.ok_iff.1 hg
  have hkk : (g.k : Int) = g.mo - g.le + 1 := by unfold Fg.k; omega
  obtain ⟨hn, ad, ho, hc⟩ := hr.some (by omega)
  obtain ⟨_, ad1, ho1, hc1⟩ := hx.1.some (by omega)
  obtain ⟨_, ad2, ho2, hc2⟩ := hx.2.some (by omega)
  cases ho1
  cases ho2
  have hm0 := Int.emod_nonneg (r + g.le + k) (b := (g.n : Int)) (by omega)
  have hm1 := Int.emod_lt_of_pos (r + g.le + k) (b := (g.n : Int)) (by omega)
  obtain ⟨hb, hbe⟩ : ∃ b, bs[((r + g.le + k) % (g.n : Int)).toNat]? = some b := ⟨_, List.getElem?_eq_getElem (by omega)⟩
  have hh : hnd g bs (r + g.le + k) = hb := by unfold hnd; rw [hbe]; rfl
  have hbok : hb.ok 10000000 = true := hg'.2.2.1 _ (List.mem_of_getElem? hbe)
  have hbb := Bx.ok_iff.1 hbok
  have hab := Fl.af_bd hg'.1 (t := g.le + k) (by omega) (by omega)
  have e0 : ∀ w', Below w.heap.size w w' → ∀ j v, (Bx.cs hb)[j]? = some v → w'.cell? ((ad.add (((r + g.le + k) % (g.n : Int)).toNat * 4)).add j) = some v := fun w' hw' j v hv => ext_below hw' (hc _ _ hbe j v hv)
  have e1 : ∀ w', Below w.heap.size w w' → ∀ j v, (Bx.cs (g.f.af (g.le + k)))[j]? = some v → w'.cell? ((Addr.add ⟨x.b, 0, none⟩ (((k : Int)).toNat * 4)).add j) = some v := fun w' hw' j v hv => by
    rw [Int.toNat_natCast]; exact ext_below hw' (hc1 _ _ (seenB_get g g.k k hk) j v hv)
  have e2 : ∀ w', Below w.heap.size w w' → ∀ j v, [Value.bool (decide (ldF g.f g.so (g.le + k) ≤ g.be))][j]? = some v → w'.cell? ((Addr.add ⟨x.l, 0, none⟩ (((k : Int)).toNat * 1)).add j) = some v := fun w' hw' j v hv => by
    rw [Int.toNat_natCast]; exact ext_below hw' (hc2 _ _ (seenL_get g g.k k hk) j v hv)
  rw [show (.bool (sureB g bs r k) : Value) = .bool (decide (ldF g.f g.so (g.le + k) ≤ g.be) && (nearB (g.f.af (g.le + k)).x hb.x g.re && nearB (g.f.af (g.le + k)).z hb.z g.re)) from by unfold sureB; rw [hh]]
  generalize hab' : g.f.af (g.le + k) = ab at *
  generalize decide (ldF g.f g.so (g.le + k) ≤ g.be) = lb at *
  show Calls Try.prog 74 #[g.svo g.o (x.bv g.k) (x.lv g.k), iv r, iv k] w _
  rw [ho]
  refine calls_val env mixed Try.func74 has74 Try.ntmps74 [g.svo (some ad) (x.bv g.k) (x.lv g.k), iv r, iv k] (by simp) ?_
  cases lb with
  | false =>
    repeat'
      conv => whnf
      first
        | refine And.intro (a := drawB _ = true) (by kernel_rfl) ?_
        | refine And.intro (a := (_ : Bool) = true) rfl ?_
        | refine And.intro (a := (_ : Bool) = true ∧ (_ : Bool) = true) ⟨rfl, rfl⟩ ?_
        | refine And.intro (a := (_ : Bool) = true ∧ (_ : List _) = []) ⟨rfl, rfl⟩ ?_
        | refine And.intro (a := IR _ _) (And.intro (by omega) (by omega)) ?_
        | refine And.intro (a := (0 : Int) ≤ _ ∧ _ < _) (And.intro (by omega) (by omega)) ?_
        | refine splT ?_
        | refine splF ?_
        | refine splNot ?_
        | (refine splIn (fun hc => ?_) (fun hc => ?_) <;> first | (exfalso; omega) | skip)
        | (refine splD (fun hc => ?_) (fun hc => ?_) <;> first | (exfalso; omega) | skip)
        | (refine splE (fun hc => ?_) (fun hc => ?_) <;> first | (exfalso; omega) | skip)
        | (refine splNE (fun hc => ?_) (fun hc => ?_) <;> first | (exfalso; omega) | skip)
        | refine Exists.intro (α := List Value) [.bool false] ⟨⟨rfl, e2⟩, ?_⟩
    exact ⟨fun β => rfl, fun w' h => h⟩
  | true =>
    repeat'
      conv => whnf
      first
        | refine And.intro (a := drawB _ = true) (by kernel_rfl) ?_
        | refine And.intro (a := (_ : Bool) = true) rfl ?_
        | refine And.intro (a := (_ : Bool) = true ∧ (_ : Bool) = true) ⟨rfl, rfl⟩ ?_
        | refine And.intro (a := (_ : Bool) = true ∧ (_ : List _) = []) ⟨rfl, rfl⟩ ?_
        | refine And.intro (a := IR _ _) (And.intro (by omega) (by omega)) ?_
        | refine And.intro (a := (0 : Int) ≤ _ ∧ _ < _) (And.intro (by omega) (by omega)) ?_
        | refine splT ?_
        | refine splF ?_
        | refine splNot ?_
        | (refine splIn (fun hc => ?_) (fun hc => ?_) <;> first | (exfalso; omega) | skip)
        | (refine splD (fun hc => ?_) (fun hc => ?_) <;> first | (exfalso; omega) | skip)
        | (refine splE (fun hc => ?_) (fun hc => ?_) <;> first | (exfalso; omega) | skip)
        | (refine splNE (fun hc => ?_) (fun hc => ?_) <;> first | (exfalso; omega) | skip)
        | refine Exists.intro (α := List Value) [.bool true] ⟨⟨rfl, e2⟩, ?_⟩
        | refine remE (by omega) (by omega) ?_
        | refine Exists.intro (α := List Value) (Bx.cs hb) ⟨⟨rfl, e0⟩, ?_⟩
        | refine Exists.intro (α := List Value) (Bx.cs ab) ⟨⟨rfl, e1⟩, ?_⟩
        | refine eqlE47 (a := ⟨⟨_, _⟩, ⟨_, _⟩⟩) (b := ⟨⟨_, _⟩, ⟨_, _⟩⟩) ?_
        | ((with_reducible show CallEv _ _ 92 _ _ _ _ _); refine callE (k := 92) (fun β w' hbw => near_ok2 _ _ _ _ _ _ (by omega) (by omega) (by omega) (by omega)) ?_)
        | refine splB (fun hc => ?_) (fun hc => ?_)
    · refine ⟨fun β => congrArg Value.bool ?_, fun w' h => h⟩
      have h1 : ab.eqB hb = true := ‹_›
      have h2 : ab.eqB ⟨⟨0, 0⟩, ⟨0, 0⟩⟩ = true := ‹_›
      simp only [Bx.eqB, Rg.eqB, Bool.and_eq_true, beq_iff_eq] at h1 h2
      symm
      simp only [nearB, Bool.true_and, Bool.and_eq_true, decide_eq_true_eq]
      omega
    all_goals first
      | (have h1 : nearB ab.x hb.x g.re = true := ‹_›; exact ⟨fun β => congrArg Value.bool (by show nearB ab.z hb.z g.re = _; rw [h1]; simp only [Bool.true_and]), fun w' h => h⟩)
      | (have h1 : nearB ab.x hb.x g.re = false := ‹_›; exact ⟨fun β => congrArg Value.bool (by show false = _; rw [h1]; rfl), fun w' h => h⟩)
end Go.Proofs.Ytlehjapeomallaa
