/- The reference: limits; the first part that may be over, the first hanger that may be slack. -/
import Derived.Test.YtaciigegbgnadaaIR
import Derived.Test.YtaciigegbgnadaaIS
import Derived.Test.YtaciigegbgnadaaHD
namespace Go.Proofs.Ytaciigegbgnadaa
open Go Tx Go.RowKit
set_option linter.unusedSimpArgs false
set_option linter.unusedVariables false

/-- What a part may bear. -/
def limP (PP : List Int) (BB : List Bm) (b a : Int) : Int := if b = -1 then PP.getD a.toNat 0 else capN BB b.toNat
theorem find_rng (p : Int × Int → Bool) (f : Nat → Int × Int) : ∀ n k, ((List.range' k n).map f).find? p = if fstN (fun j => p (f j)) n k < k + n then some (f (fstN (fun j => p (f j)) n k)) else none
  | 0, k => by simp [fstN]
  | n + 1, k => by
    rw [List.range'_succ, List.map_cons, List.find?_cons]
    unfold fstN
    cases h : p (f k)
    · simp only [Bool.false_eq_true, if_false]
      rw [find_rng p f n (k + 1), show k + 1 + n = k + (n + 1) from by omega]
    · simp only [if_true]
      rw [if_pos (by omega)]
theorem find_hgs (p : Int × Int → Bool) : ∀ n i, ((List.range' i n).flatMap fun i : Nat => [((i : Int), (0 : Int)), ((i : Int), 1)]).find? p = (hgS (fun i k => p ((i : Int), (k : Int))) n i).map fun q => ((q.1 : Int), (q.2 : Int))
  | 0, i => rfl
  | n + 1, i => by
    rw [List.range'_succ, List.flatMap_cons, hgS]
    simp only [List.cons_append, List.nil_append, List.find?_cons]
    rw [find_hgs p n (i + 1)]
    show (match p ((i : Int), 0) with | true => _ | false => _) = _
    cases h0 : p ((i : Int), 0)
    · rw [if_neg (by simp)]
      dsimp only
      cases h1 : p ((i : Int), 1)
      · rw [if_neg (by simp)]
      · rw [if_pos rfl]; rfl
    · rw [if_pos rfl]; rfl
theorem find_prL (p : Int × Int → Bool) (n m : Nat) : (prL n m).find? p = if fstN (fun j => p (-1, (j : Int))) n 0 < n then some (-1, (fstN (fun j => p (-1, (j : Int))) n 0 : Int)) else (hgO (fun i k => p ((i : Int), (k : Int))) m).map fun q => ((q.1 : Int), (q.2 : Int)) := by
  have h1 := find_rng p (fun j => (-1, (j : Int))) n 0
  have h2 := find_hgs p m 0
  rw [← List.range_eq_range'] at h1 h2
  unfold prL prP prH
  rw [List.find?_append, h1, h2, Nat.zero_add]
  split
  · rfl
  · rfl
theorem hgS_congr {is is' : Nat → Nat → Bool} (h : ∀ i k, is i k = is' i k) : ∀ n i, hgS is n i = hgS is' n i
  | 0, _ => rfl
  | n + 1, i => by rw [hgS, hgS, h, h, hgS_congr h n (i + 1)]
theorem rowP_p' (F : Fr) (j : Nat) : rowP F (-1) j = F.p j := funext fun c => ob_p F c j
theorem rowP_h' (F : Fr) (j k : Nat) : rowP F j k = F.h j k := funext fun c => ob_h F c j k
def ovQ (r : Rig) (PP : List Int) (BB : List Bm) (LL : List Ld) (F : Fr) (q : Int × Int) : Bool := decide (endD r LL (rowP F q.1 q.2) true > limP PP BB q.1 q.2 * 216000)
def slQ (r : Rig) (LL : List Ld) (F : Fr) (q : Int × Int) : Bool := decide (q.1 ≥ 0) && decide (endD r LL (rowP F q.1 q.2) false < 0)
def wkP (F : Fr) (o : Option (Int × Int)) : Wk := o.map fun q => (q.1, q.2, rowP F q.1 q.2)
theorem ovO_find (r : Rig) (PP : List Int) (BB : List Bm) (LL : List Ld) (F : Fr) : ovO r PP BB LL F = wkP F ((prL PP.length BB.length).find? (ovQ r PP BB LL F)) := by
  have e1 : (fun j : Nat => ovQ r PP BB LL F (-1, (j : Int))) = fun j => decide (endD r LL (F.p j) true > PP.getD j 0 * 216000) := funext fun j => by
    unfold ovQ limP
    rw [if_pos rfl, rowP_p', Int.toNat_natCast]
  have e2 : ∀ i k : Nat, ovQ r PP BB LL F ((i : Int), (k : Int)) = decide (endD r LL (F.h i k) true > capN BB i * 216000) := fun i k => by
    unfold ovQ limP
    rw [if_neg (by show ¬ (i : Int) = -1; omega), rowP_h', Int.toNat_natCast]
  rw [find_prL, e1]
  unfold ovO hgO
  rw [hgS_congr e2 BB.length 0]
  show (if ovF r PP LL F < PP.length then _ else _) = wkP F (if ovF r PP LL F < PP.length then some (-1, (ovF r PP LL F : Int)) else _)
  split
  · show _ = some (-1, (ovF r PP LL F : Int), rowP F (-1) (ovF r PP LL F)); rw [rowP_p']
  · unfold hgW wkP
    rw [Option.map_map]
    refine congrArg (fun f => Option.map f _) (funext fun q => ?_)
    show _ = ((q.1 : Int), (q.2 : Int), rowP F q.1 q.2)
    rw [rowP_h']
theorem slO_find (r : Rig) (PP : List Int) (BB : List Bm) (LL : List Ld) (F : Fr) : slO r BB LL F = wkP F ((prL PP.length BB.length).find? (slQ r LL F)) := by
  have e2 : ∀ i k : Nat, slQ r LL F ((i : Int), (k : Int)) = decide (endD r LL (F.h i k) false < 0) := fun i k => by
    unfold slQ
    rw [rowP_h', decide_eq_true (show (i : Int) ≥ 0 by omega), Bool.true_and]
  have e3 : ¬ fstN (fun j : Nat => slQ r LL F (-1, (j : Int))) PP.length 0 < PP.length := fun h => by
    have := (fstN_spec (p := fun j : Nat => slQ r LL F (-1, (j : Int))) PP.length 0).2.2.2 (by omega)
    simp [slQ] at this
  rw [find_prL, if_neg e3]
  unfold slO hgO
  rw [hgS_congr e2 BB.length 0]
  unfold hgW wkP
  rw [Option.map_map]
  refine congrArg (fun f => Option.map f _) (funext fun q => ?_)
  show _ = ((q.1 : Int), (q.2 : Int), rowP F q.1 q.2)
  rw [rowP_h']

set_option maxRecDepth 100000 in
theorem Limit_ok (r : Rig) (PP : List Int) (BB : List Bm) (LL : List Ld) (b a : Int) (w : World) (h : RigX r PP BB LL w) (hr : rigOk r.f0 r.f1 r.f2 PP BB LL = true) (hp : partOk PP.length BB.length b a) :
    Calls Try.prog 47 #[r.v, .agg #[iv b, iv a]] w fun e w' => e = .returned (iv (limP PP BB b a * 216000)) ∧ Below w.heap.size w w' := by
  have hri := rigOk_iff.1 hr
  have hpn := h.pn
  have hbn := h.bn
  have hP := h.p
  have hB := h.b
  obtain ⟨po, pn, pc, bo, bn, bc, f0, f1, f2, lo, ln, lc⟩ := r
  dsimp only at hpn hbn hP hB
  subst hpn
  subst hbn
  refine calls_val env mixed Try.func47 has47 Try.ntmps47 [.agg #[.slice po PP.length pc, .slice bo BB.length bc, iv f0, iv f1, iv f2, .slice lo ln lc], .agg #[iv b, iv a]] (by simp) ?_
  unfold limP
  have hm12 : BB.length ≤ 12 := hri.2.2.1
  rcases hp with ⟨rfl, h1, h2⟩ | ⟨h1, h2, h3, h4⟩
  · obtain ⟨k, rfl⟩ := Int.eq_ofNat_of_zero_le h1
    obtain ⟨n, hn⟩ : ∃ n, PP[k]? = some n := ⟨_, List.getElem?_eq_getElem (by omega)⟩
    have hnb := List.all_eq_true.1 hri.2.1 n (List.mem_of_getElem? hn)
    rw [inB_iff] at hnb
    obtain ⟨_, ad, rfl, _⟩ := hP.ptr (by omega)
    have e0 := fun (w' : World) (hw' : Below w.heap.size w w') => rd_ati (hP.below hw') hn
    rw [if_pos rfl, Int.toNat_natCast, List.getD_eq_getElem?_getD, hn, Option.getD_some]
    repeat'
      conv => whnf
      first
        | refine And.intro (a := drawB _ = true) (by kernel_rfl) ?_
        | refine And.intro (a := (_ : Bool) = true) rfl ?_
        | refine And.intro (a := (_ : Bool) = true ∧ (_ : Bool) = true) ⟨rfl, rfl⟩ ?_
        | refine And.intro (a := (_ : Bool) = true ∧ (_ : List _) = []) ⟨rfl, rfl⟩ ?_
        | refine And.intro (a := IR _ _) (And.intro (by omega) (by omega)) ?_
        | refine wrapE (And.intro (by omega) (by omega)) ?_
        | refine And.intro (a := (0 : Int) ≤ _ ∧ _ < _) (And.intro (by omega) (by omega)) ?_
        | refine And.intro (a := (_ : Bool) = true) (by simp only [Nat.beq_refl]; rfl) ?_
        | refine And.intro (a := ((_ : Bool) = true → 1 ≤ _) ∧ _ ≤ 9223372036854775807 ∧ _ ≤ 140737488355328) ⟨fun h => (by first | omega | cases h), by omega, by omega⟩ ?_
        | refine splT ?_
        | refine splF ?_
        | refine splNot ?_
        | (refine splIn (fun hc => ?_) (fun hc => ?_) <;> first | (exfalso; omega) | (exfalso; dsimp only at hc; omega) | skip)
        | (refine splD (fun hc => ?_) (fun hc => ?_) <;> first | (exfalso; omega) | (exfalso; dsimp only at hc; omega) | skip)
        | (refine splE (fun hc => ?_) (fun hc => ?_) <;> first | (exfalso; omega) | (exfalso; dsimp only at hc; omega) | skip)
        | (refine splNE (fun hc => ?_) (fun hc => ?_) <;> first | (exfalso; omega) | (exfalso; dsimp only at hc; omega) | skip)
        | refine Exists.intro (α := List Value) [iv n] ⟨⟨rfl, fun w' hw' => e0 w' hw'⟩, ?_⟩
    all_goals first | (exfalso; omega) | exact ⟨fun β => rfl, fun w' h => h⟩ | (trace_state; sorry)
  · obtain ⟨k, rfl⟩ := Int.eq_ofNat_of_zero_le h1
    obtain ⟨m, hm⟩ : ∃ m, BB[k]? = some m := ⟨_, List.getElem?_eq_getElem (by omega)⟩
    have hmb := (bmOk_iff.1 (bm_at hr hm)).2.2.2.2.2.2
    obtain ⟨_, ad, rfl, _⟩ := hB.ptr (by omega)
    have e0 := fun (w' : World) (hw' : Below w.heap.size w w') => rd_fld (hB.below hw') hm 7 (iv m.cap) rfl
    rw [if_neg (by omega), Int.toNat_natCast, show capN BB k = m.cap from by unfold capN; rw [hm]]
    generalize m.cap = x at *
    repeat'
      conv => whnf
      first
        | refine And.intro (a := drawB _ = true) (by kernel_rfl) ?_
        | refine And.intro (a := (_ : Bool) = true) rfl ?_
        | refine And.intro (a := (_ : Bool) = true ∧ (_ : Bool) = true) ⟨rfl, rfl⟩ ?_
        | refine And.intro (a := (_ : Bool) = true ∧ (_ : List _) = []) ⟨rfl, rfl⟩ ?_
        | refine And.intro (a := IR _ _) (And.intro (by omega) (by omega)) ?_
        | refine wrapE (And.intro (by omega) (by omega)) ?_
        | refine And.intro (a := (0 : Int) ≤ _ ∧ _ < _) (And.intro (by omega) (by omega)) ?_
        | refine And.intro (a := (_ : Bool) = true) (by simp only [Nat.beq_refl]; rfl) ?_
        | refine And.intro (a := ((_ : Bool) = true → 1 ≤ _) ∧ _ ≤ 9223372036854775807 ∧ _ ≤ 140737488355328) ⟨fun h => (by first | omega | cases h), by omega, by omega⟩ ?_
        | refine splT ?_
        | refine splF ?_
        | refine splNot ?_
        | (refine splIn (fun hc => ?_) (fun hc => ?_) <;> first | (exfalso; omega) | (exfalso; dsimp only at hc; omega) | skip)
        | (refine splD (fun hc => ?_) (fun hc => ?_) <;> first | (exfalso; omega) | (exfalso; dsimp only at hc; omega) | skip)
        | (refine splE (fun hc => ?_) (fun hc => ?_) <;> first | (exfalso; omega) | (exfalso; dsimp only at hc; omega) | skip)
        | (refine splNE (fun hc => ?_) (fun hc => ?_) <;> first | (exfalso; omega) | (exfalso; dsimp only at hc; omega) | skip)
        | refine Exists.intro (α := List Value) [iv x] ⟨⟨rfl, fun w' hw' => e0 w' hw'⟩, ?_⟩
    all_goals first | (exfalso; omega) | exact ⟨fun β => rfl, fun w' h => h⟩ | (trace_state; sorry)
end Go.Proofs.Ytaciigegbgnadaa
