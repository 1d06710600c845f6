/- The reference's words on flights: few, Right, Near, Load and Sure return what the program's return. -/
import Derived.Test.YtlehjapeomallaaFO
namespace Go.Proofs.Ytlehjapeomallaa
open Go Sx Go.RowKit

theorem few_ok (g : Fg) (w : World) :
    Calls Try.prog 23 #[g.v] w fun e w' => e = .returned (.bool (decide ((g.n : Int) ≤ 700))) ∧ Below w.heap.size w w' := by
  refine calls_val env mixed Try.func23 has23 Try.ntmps23 [g.v] (by simp) ?_
  repeat'
    conv => whnf
    first
      | refine And.intro (a := drawB _ = true) (by kernel_rfl) ?_
      | refine And.intro (a := (_ : Bool) = true) rfl ?_
      | refine And.intro (a := (_ : Bool) = true ∧ (_ : Bool) = true) ⟨rfl, rfl⟩ ?_
      | refine And.intro (a := (_ : Bool) = true ∧ (_ : List _) = []) ⟨rfl, rfl⟩ ?_
      | refine And.intro (a := IR _ _) (And.intro (by omega) (by omega)) ?_
      | refine And.intro (a := (0 : Int) ≤ _ ∧ _ < _) (And.intro (by omega) (by omega)) ?_
      | refine splT ?_
      | refine splF ?_
      | refine splNot ?_
      | (refine splIn (fun hc => ?_) (fun hc => ?_) <;> first | (exfalso; omega) | skip)
      | (refine splD (fun hc => ?_) (fun hc => ?_) <;> first | (exfalso; omega) | skip)
      | (refine splE (fun hc => ?_) (fun hc => ?_) <;> first | (exfalso; omega) | skip)
      | (refine splNE (fun hc => ?_) (fun hc => ?_) <;> first | (exfalso; omega) | skip)
  exact ⟨fun β => rfl, fun w' h => h⟩

theorem Near_ok (a b c d reach : Int) (w : World) (h0 : -100000000 ≤ a ∧ a ≤ b) (h1 : b ≤ 100000000) (h2 : -100000000 ≤ c ∧ c ≤ d) (h3 : d ≤ 100000000) :
    Calls Try.prog 72 #[.agg #[iv a, iv b], .agg #[iv c, iv d], iv reach] w fun e w' => e = .returned (.bool (nearB ⟨a, b⟩ ⟨c, d⟩ reach)) ∧ Below w.heap.size w w' := by
  refine calls_val env mixed Try.func72 has72 Try.ntmps72 [.agg #[iv a, iv b], .agg #[iv c, iv d], iv reach] (by simp) ?_
  repeat'
    conv => whnf
    first
      | refine And.intro (a := drawB _ = true) (by kernel_rfl) ?_
      | refine And.intro (a := (_ : Bool) = true) rfl ?_
      | refine And.intro (a := (_ : Bool) = true ∧ (_ : Bool) = true) ⟨rfl, rfl⟩ ?_
      | refine And.intro (a := (_ : Bool) = true ∧ (_ : List _) = []) ⟨rfl, rfl⟩ ?_
      | refine And.intro (a := IR _ _) (And.intro (by omega) (by omega)) ?_
      | refine And.intro (a := (0 : Int) ≤ _ ∧ _ < _) (And.intro (by omega) (by omega)) ?_
      | refine splT ?_
      | refine splF ?_
      | refine splNot ?_
      | (refine splIn (fun hc => ?_) (fun hc => ?_) <;> first | (exfalso; omega) | skip)
      | (refine splD (fun hc => ?_) (fun hc => ?_) <;> first | (exfalso; omega) | skip)
      | (refine splE (fun hc => ?_) (fun hc => ?_) <;> first | (exfalso; omega) | skip)
      | (refine splNE (fun hc => ?_) (fun hc => ?_) <;> first | (exfalso; omega) | skip)
      | ((with_reducible show CallEv _ _ 71 _ _ _ _ _); refine callE (k := 71) (fun β w' hbw => Size_ok _ _ (by omega)) ?_)
  all_goals
    refine ⟨fun β => congrArg Value.bool ?_, fun w' h => h⟩
    simp only [imax_eq] at *
    unfold nearB
    rw [Bool.eq_iff_iff]
    simp only [Bool.and_eq_true, decide_eq_true_eq, Bool.false_eq_true, false_iff]
    omega

theorem divUp {n s : Int} (hs : 1 ≤ s) : (n + s - 1) / s = if n % s = 0 then n / s else n / s + 1 := by
  have h1 := Int.mul_ediv_add_emod n s
  have h2 := Int.emod_nonneg n (b := s) (by omega)
  have h3 := Int.emod_lt_of_pos n (b := s) (by omega)
  have h4 : n + s - 1 = (n % s + s - 1) + s * (n / s) := by omega
  rw [h4, Int.add_mul_ediv_left _ _ (by omega)]
  by_cases h : n % s = 0
  · rw [if_pos h, h, Int.ediv_eq_zero_of_lt (by omega) (by omega)]; omega
  · rw [if_neg h]
    have : (n % s + s - 1) / s = 1 := by
      have h5 : n % s + s - 1 = (n % s - 1) + s * 1 := by omega
      rw [h5, Int.add_mul_ediv_left _ _ (by omega), Int.ediv_eq_zero_of_lt (by omega) (by omega)]; omega
    omega

theorem gr4 (a b c d : Int) : gr [a, b, c, d] = imax (imax (imax (imax a (-a)) (imax b (-b))) (imax c (-c))) (imax d (-d)) := by
  simp only [gr, List.foldl, imax_eq]; omega

set_option maxRecDepth 100000 in
theorem Rload_ok (g : Fg) (t : Int) (w : World) (hf : g.f.ok = true) (hs : 1 ≤ g.so ∧ g.so ≤ 100) (h0 : 0 ≤ t) (h1 : t ≤ 300) :
    Calls Try.prog 46 #[g.v, iv t] w fun e w' => e = .returned (iv (ldF g.f g.so t)) ∧ Below w.heap.size w w' := by
  have hb := ld_bd hf hs h0 h1
  have hf' := Fl.ok_iff.1 hf
  have hm : IR .i64 (ldF g.f g.so t) := ⟨by omega, by omega⟩
  have hd := divUp (n := gr [g.f.s.x.lo, g.f.s.x.hi, g.f.s.z.lo - 98 * t, g.f.s.z.hi - 98 * t]) hs.1
  unfold ldF at *
  rw [gr4] at *
  refine calls_val env mixed Try.func46 has46 Try.ntmps46 [g.v, iv t] (by simp) ?_
  by_cases hc : imax (imax (imax (imax g.f.s.x.lo (-g.f.s.x.lo)) (imax g.f.s.x.hi (-g.f.s.x.hi))) (imax (g.f.s.z.lo - 98 * t) (-(g.f.s.z.lo - 98 * t)))) (imax (g.f.s.z.hi - 98 * t) (-(g.f.s.z.hi - 98 * t))) % g.so = 0
  · rw [if_pos hc] at hd
    rw [hd] at hm hb ⊢
    repeat'
      conv => whnf
      first
        | refine And.intro (a := drawB _ = true) (by kernel_rfl) ?_
        | refine And.intro (a := (_ : Bool) = true) rfl ?_
        | refine And.intro (a := (_ : Bool) = true ∧ (_ : Bool) = true) ⟨rfl, rfl⟩ ?_
        | refine And.intro (a := (_ : Bool) = true ∧ (_ : List _) = []) ⟨rfl, rfl⟩ ?_
        | refine And.intro (a := IR _ _) (And.intro (by omega) (by omega)) ?_
        | refine And.intro (a := (0 : Int) ≤ _ ∧ _ < _) (And.intro (by omega) (by omega)) ?_
        | refine splT ?_
        | refine splF ?_
        | refine splNot ?_
        | (refine splIn (fun hc => ?_) (fun hc => ?_) <;> first | (exfalso; omega) | skip)
        | (refine splD (fun hc => ?_) (fun hc => ?_) <;> first | (exfalso; omega) | skip)
        | (refine splE (fun hc => ?_) (fun hc => ?_) <;> first | (exfalso; omega) | skip)
        | (refine splNE (fun hc => ?_) (fun hc => ?_) <;> first | (exfalso; omega) | skip)
        | ((with_reducible show CallEv _ _ 71 _ _ _ _ _); refine callE (k := 71) (fun β w' hbw => Size_ok _ _ (by omega)) ?_)
        | refine quoE (by omega) (by omega) (And.intro (by omega) (by omega)) ?_
        | refine remE (by omega) (by omega) ?_
        | refine And.intro (a := IR _ _) hm ?_
    exact ⟨fun β => rfl, fun w' h => h⟩
  · rw [if_neg hc] at hd
    rw [hd] at hm hb ⊢
    repeat'
      conv => whnf
      first
        | refine And.intro (a := drawB _ = true) (by kernel_rfl) ?_
        | refine And.intro (a := (_ : Bool) = true) rfl ?_
        | refine And.intro (a := (_ : Bool) = true ∧ (_ : Bool) = true) ⟨rfl, rfl⟩ ?_
        | refine And.intro (a := (_ : Bool) = true ∧ (_ : List _) = []) ⟨rfl, rfl⟩ ?_
        | refine And.intro (a := IR _ _) (And.intro (by omega) (by omega)) ?_
        | refine And.intro (a := (0 : Int) ≤ _ ∧ _ < _) (And.intro (by omega) (by omega)) ?_
        | refine splT ?_
        | refine splF ?_
        | refine splNot ?_
        | (refine splIn (fun hc => ?_) (fun hc => ?_) <;> first | (exfalso; omega) | skip)
        | (refine splD (fun hc => ?_) (fun hc => ?_) <;> first | (exfalso; omega) | skip)
        | (refine splE (fun hc => ?_) (fun hc => ?_) <;> first | (exfalso; omega) | skip)
        | (refine splNE (fun hc => ?_) (fun hc => ?_) <;> first | (exfalso; omega) | skip)
        | ((with_reducible show CallEv _ _ 71 _ _ _ _ _); refine callE (k := 71) (fun β w' hbw => Size_ok _ _ (by omega)) ?_)
        | refine quoE (by omega) (by omega) (And.intro (by omega) (by omega)) ?_
        | refine remE (by omega) (by omega) ?_
        | refine And.intro (a := IR _ _) hm ?_
    exact ⟨fun β => rfl, fun w' h => h⟩

theorem Bx.lohi {b : Bx} (h : b.ok 10000000 = true) : (-100000000 ≤ b.x.lo ∧ b.x.lo ≤ b.x.hi) ∧ b.x.hi ≤ 100000000 ∧ (-100000000 ≤ b.z.lo ∧ b.z.lo ≤ b.z.hi) ∧ b.z.hi ≤ 100000000 := by
  have := Bx.ok_iff.1 h
  omega
theorem Fl.lohi {f : Fl} (hf : f.ok = true) {t : Int} (h0 : 0 ≤ t) (h1 : t ≤ 300) :
    (-100000000 ≤ (f.af t).x.lo ∧ (f.af t).x.lo ≤ (f.af t).x.hi) ∧ (f.af t).x.hi ≤ 100000000 ∧ (-100000000 ≤ (f.af t).z.lo ∧ (f.af t).z.lo ≤ (f.af t).z.hi) ∧ (f.af t).z.hi ≤ 100000000 := by
  have := Fl.af_bd hf h0 h1
  have hf' := Fl.ok_iff.1 hf
  have a1 := Int.mul_le_mul_of_nonneg_left hf'.2.1.1.2.1 h0
  have a2 := Fl.zle hf h0
  refine ⟨⟨this.1.1, ?_⟩, this.2.1.2, ⟨this.2.2.1.1, a2⟩, this.2.2.2.2⟩
  simp only [Fl.af]; omega

abbrev Fg.vo (g : Fg) (o : Option Addr) : Value := .agg #[iv g.f.a.x.lo, iv g.f.a.x.hi, iv g.f.a.z.lo, iv g.f.a.z.hi, iv g.f.s.x.lo, iv g.f.s.x.hi, iv g.f.s.z.lo, iv g.f.s.z.hi, iv g.f.m, .slice o g.n g.c, iv g.re, iv g.so, iv g.be, iv g.le, iv g.mo]
/-- Is a catch sure at a tick, for a release at another one? -/
def sureAt (g : Fg) (bs : List Bx) (r at' : Int) : Bool := inB (at' - r) g.le g.mo && sureB g bs r (at' - r - g.le)

set_option maxRecDepth 100000 in
theorem Rsure_ok (g : Fg) (bs : List Bx) (r at' : Int) (w : World) (hg : g.ok bs = true) (hr : Rd 4 Bx.cs (.slice g.o g.n g.c) bs w) (hr0 : 0 ≤ r ∧ r ≤ 100000) (ha : 0 ≤ at' ∧ at' ≤ 1000000) :
    Calls Try.prog 47 #[g.v, iv r, iv at'] w fun e w' => e = .returned (.bool (sureAt g bs r at')) ∧ Below w.heap.size w w' := by
  have hg' := Fg.ok_iff.1 hg
  by_cases hin : inB (at' - r) g.le g.mo = true
  · have hin' := inB_iff.1 hin
    have hsa : sureAt g bs r at' = (decide (ldF g.f g.so (at' - r) ≤ g.be) && (nearB (g.f.af (at' - r)).x (hnd g bs at').x g.re && nearB (g.f.af (at' - r)).z (hnd g bs at').z g.re)) := by
      unfold sureAt sureB
      rw [hin, Bool.true_and, show g.le + (at' - r - g.le) = at' - r from by omega, show r + g.le + (at' - r - g.le) = at' from by omega]
    rw [hsa]
    obtain ⟨hn, ad, ho, hc⟩ := hr.some (by omega)
    have hm0 := Int.emod_nonneg at' (b := (g.n : Int)) (by omega)
    have hm1 := Int.emod_lt_of_pos at' (b := (g.n : Int)) (by omega)
    obtain ⟨hb, hbe⟩ : ∃ b, bs[(at' % (g.n : Int)).toNat]? = some b := ⟨_, List.getElem?_eq_getElem (by omega)⟩
    have hh : hnd g bs at' = hb := by unfold hnd; rw [hbe]; rfl
    rw [hh]
    have hbok : hb.ok 10000000 = true := hg'.2.2.1 _ (List.mem_of_getElem? hbe)
    have hbb := Bx.lohi hbok
    have hab := Fl.lohi hg'.1 (t := at' - r) (by omega) (by omega)
    have e0 : ∀ w', Below w.heap.size w w' → ∀ j v, (Bx.cs hb)[j]? = some v → w'.cell? ((ad.add ((at' % (g.n : Int)).toNat * 4)).add j) = some v := fun w' hw' j v hv => ext_below hw' (hc _ _ hbe j v hv)
    have hafc := fun w' => Rafter_ok g.f (at' - r) w' hg'.1 (by omega) (by omega)
    have hldc : ∀ w', Calls Try.prog 46 #[g.vo (some ad), iv (at' - r)] w' fun e w'' => e = .returned (iv (ldF g.f g.so (at' - r))) ∧ Below w'.heap.size w' w'' := fun w' => by
      have := Rload_ok g (at' - r) w' hg'.1 hg'.2.2.2.2.1 (by omega) (by omega)
      rwa [show g.v = g.vo (some ad) from by rw [← ho]] at this
    generalize g.f.af (at' - r) = ab at *
    obtain ⟨⟨x0, x1⟩, ⟨z0, z1⟩⟩ := ab
    obtain ⟨⟨y0, y1⟩, ⟨v0, v1⟩⟩ := hb
    dsimp only at *
    replace hafc : ∀ w', Calls Try.prog 45 #[g.f.v, iv (at' - r)] w' fun e w'' => e = .returned (.agg #[iv x0, iv x1, iv z0, iv z1]) ∧ Below w'.heap.size w' w'' := hafc
    show Calls Try.prog 47 #[g.vo g.o, iv r, iv at'] w _
    rw [ho]
    refine calls_val env mixed Try.func47 has47 Try.ntmps47 [g.vo (some ad), iv r, iv at'] (by simp) ?_
    repeat'
      conv => whnf
      first
        | refine And.intro (a := drawB _ = true) (by kernel_rfl) ?_
        | refine And.intro (a := (_ : Bool) = true) rfl ?_
        | refine And.intro (a := (_ : Bool) = true ∧ (_ : Bool) = true) ⟨rfl, rfl⟩ ?_
        | refine And.intro (a := (_ : Bool) = true ∧ (_ : List _) = []) ⟨rfl, rfl⟩ ?_
        | refine And.intro (a := IR _ _) (And.intro (by omega) (by omega)) ?_
        | refine And.intro (a := (0 : Int) ≤ _ ∧ _ < _) (And.intro (by omega) (by omega)) ?_
        | refine splT ?_
        | refine splF ?_
        | refine splNot ?_
        | (refine splIn (fun hc => ?_) (fun hc => ?_) <;> first | (exfalso; omega) | skip)
        | (refine splD (fun hc => ?_) (fun hc => ?_) <;> first | (exfalso; omega) | skip)
        | (refine splE (fun hc => ?_) (fun hc => ?_) <;> first | (exfalso; omega) | skip)
        | (refine splNE (fun hc => ?_) (fun hc => ?_) <;> first | (exfalso; omega) | skip)
        | ((with_reducible show CallEv _ _ 19 _ _ _ _ _); refine callE (k := 19) (fun β w' hbw => In_ok _ _ _ _) ?_)
        | ((with_reducible show CallEv _ _ 45 _ _ _ _ _); refine callE (k := 45) (fun β w' hbw => hafc _) ?_)
        | refine remE (by omega) (by omega) ?_
        | refine Exists.intro (α := List Value) [iv y0, iv y1, iv v0, iv v1] ⟨⟨rfl, e0⟩, ?_⟩
        | ((with_reducible show CallEv _ _ 72 _ _ _ _ _); refine callE (k := 72) (fun β w' hbw => Near_ok _ _ _ _ _ _ (by omega) (by omega) (by omega) (by omega)) ?_)
        | ((with_reducible show CallEv _ _ 46 _ _ _ _ _); refine callE (k := 46) (fun β w' hbw => hldc _) ?_)
        | refine splB (fun hc => ?_) (fun hc => ?_)
    all_goals first
      | exact ⟨fun β => congrArg Value.bool (by simp only [*]; simp [*]), fun w' h => h⟩
      | (exfalso; simp_all; done)
      | skip
  · have hsa : sureAt g bs r at' = false := by
      unfold sureAt
      rw [Bool.eq_false_iff.2 hin, Bool.false_and]
    rw [hsa]
    refine calls_val env mixed Try.func47 has47 Try.ntmps47 [g.v, iv r, iv at'] (by simp) ?_
    rw [inB_iff] at hin
    repeat'
      conv => whnf
      first
        | refine And.intro (a := drawB _ = true) (by kernel_rfl) ?_
        | refine And.intro (a := (_ : Bool) = true) rfl ?_
        | refine And.intro (a := (_ : Bool) = true ∧ (_ : Bool) = true) ⟨rfl, rfl⟩ ?_
        | refine And.intro (a := (_ : Bool) = true ∧ (_ : List _) = []) ⟨rfl, rfl⟩ ?_
        | refine And.intro (a := IR _ _) (And.intro (by omega) (by omega)) ?_
        | refine And.intro (a := (0 : Int) ≤ _ ∧ _ < _) (And.intro (by omega) (by omega)) ?_
        | refine splT ?_
        | refine splF ?_
        | refine splNot ?_
        | (refine splIn (fun hc => ?_) (fun hc => ?_) <;> first | (exfalso; omega) | skip)
        | (refine splD (fun hc => ?_) (fun hc => ?_) <;> first | (exfalso; omega) | skip)
        | (refine splE (fun hc => ?_) (fun hc => ?_) <;> first | (exfalso; omega) | skip)
        | (refine splNE (fun hc => ?_) (fun hc => ?_) <;> first | (exfalso; omega) | skip)
        | ((with_reducible show CallEv _ _ 19 _ _ _ _ _); refine callE (k := 19) (fun β w' hbw => In_ok _ _ _ _) ?_)
    exact ⟨fun β => rfl, fun w' h => h⟩
end Go.Proofs.Ytlehjapeomallaa
