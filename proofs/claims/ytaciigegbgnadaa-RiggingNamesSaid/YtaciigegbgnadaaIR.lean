/- The reference: the pulls with which a part bears most, or least: Witness; the parts. -/
import Derived.Test.YtaciigegbgnadaaIQ
import Derived.Test.YtaciigegbgnadaaIN
namespace Go.Proofs.Ytaciigegbgnadaa
open Go Tx Go.RowKit
set_option linter.unusedSimpArgs false
set_option linter.unusedVariables false

/-- The row of a part. -/
def rowP (F : Fr) (b a : Int) : Row := fun c => ob F c (b, a)
theorem rbS_row {f0 f1 f2 : Int} {PP : List Int} {BB : List Bm} {LL : List Ld} (hr : rigOk f0 f1 f2 PP BB LL = true) {P : List Int} (hl : P.length = LL.length) {b a : Int} (hq : qv (b, a)) : rbS BB LL P 1 (b, a) = dotR (rowP (frF BB LL) b a) P P.length := by
  rw [rbS_ob hr hl hq, dotR_sum, Int.one_mul, Int.add_comm]
  rfl
theorem endV_if (r : Rig) (x : Int) (most : Bool) (l : Ld) : endV r x most l = if (0 < x ∧ most = true) ∨ (x < 0 ∧ most = false) then hiP r l else l.lo := by
  unfold endV
  cases most
  · by_cases h : x < 0
    · rw [if_pos ⟨by omega, by simp; omega⟩, if_pos (.inr ⟨h, rfl⟩)]
    · rw [if_neg (fun hc => by have := hc.2; simp at this; omega), if_neg (fun hc => by rcases hc with ⟨_, h2⟩ | ⟨h2, _⟩; cases h2; exact h h2)]
  · by_cases h : 0 < x
    · rw [if_pos ⟨by omega, by simp; omega⟩, if_pos (.inl ⟨h, rfl⟩)]
    · rw [if_neg (fun hc => by have := hc.2; simp at this; omega), if_neg (fun hc => by rcases hc with ⟨h2, _⟩ | ⟨_, h2⟩; exact h h2; cases h2)]

set_option maxHeartbeats 16000000 in
set_option maxRecDepth 100000 in
/-- Witness's code, its state at its end: a family over what its list is. -/
theorem Witness_own (r : Rig) (PP : List Int) (BB : List Bm) (LL : List Ld) (b a : Int) (most : Bool) (w : World) (h : RigX r PP BB LL w) (hr : rigOk r.f0 r.f1 r.f2 PP BB LL = true) (hp : partOk PP.length BB.length b a) (hne : LL ≠ []) :
    Calls Try.prog 40 #[r.v, .agg #[iv b, iv a], .bool most] w fun e w' => ∃ bb c, e = .returned (.tuple #[.slice (some ⟨bb, 0, none⟩) LL.length c, iv (endD r LL (rowP (frF BB LL) b a) most)]) ∧ w.heap.size ≤ bb ∧ Below w.heap.size w w' ∧
      w'.ownsRow 0 3 1 (.slice (some ⟨bb, 0, none⟩) LL.length c) LL.length ((endL r (rowP (frF BB LL) b a) most LL).flatMap iF) := by
  have hri := rigOk_iff.1 hr
  have hl20 : LL.length ≤ 20 := hri.2.2.2.2.1
  have hm12 := hri.2.2.1
  have hEl := endL_len r (rowP (frF BB LL) b a) most LL
  have hEB := endL_B hr (rowP (frF BB LL) b a) most
  have hEat := fun (k : Nat) (l : Ld) (hl : LL[k]? = some l) => endL_at (r := r) (x := rowP (frF BB LL) b a) (most := most) hl
  have h73 := fun (k : Nat) (w' : World) (hb : Below w.heap.size w w') (hk : k < LL.length) => Given_ok r PP BB LL k b a w' (h.below hb) hr hk hp
  have h36 := fun (o : Option Addr) (c : Nat) (w' : World) (hb : Below w.heap.size w w') (hP : Rd 1 iF (.slice o (endL r (rowP (frF BB LL) b a) most LL).length c) (endL r (rowP (frF BB LL) b a) most LL) w') => BearsR_ok r PP BB LL (endL r (rowP (frF BB LL) b a) most LL) o c 1 w' (h.below hb) hr hEB hEl hP (by omega)
  have h74 := fun (S : Int × Int → Int) (po qo : Option Addr) (pc qc : Nat) (w' : World) (hP : Rd 1 iF (.slice po PP.length pc) (stP PP.length S) w') (hH : Rd 2 gF (.slice qo BB.length qc) (stH BB.length S) w') => ofR_ok PP.length BB.length S b a po qo pc qc w' hp hP hH (by omega) (by omega)
  have hD : endD r LL (rowP (frF BB LL) b a) most = rbS BB LL (endL r (rowP (frF BB LL) b a) most LL) 1 (b, a) := by
    rw [rbS_row hr hEl hp.qv, hEl]; rfl
  rw [hD]
  clear hD
  generalize hE : endL r (rowP (frF BB LL) b a) most LL = E at *
  generalize rbS BB LL E 1 = S at *
  have h74 := h74 S
  generalize stP PP.length S = L1 at *
  generalize stH BB.length S = L2 at *
  generalize S (b, a) = val at *
  have hX := h
  obtain ⟨_, al, hal, _⟩ := h.l.ptr (by cases LL with | nil => exact absurd rfl hne | cons => simp)
  have hlnn := h.ln
  obtain ⟨po', pn, pc', bo, bn, bc, f0, f1, f2, lo, ln, lc⟩ := r
  dsimp only at hlnn hri hal
  subst hlnn
  subst hal
  refine calls_fam2 env mixed Try.func40 has40 Try.ntmps40 [.agg #[.slice po' pn pc', .slice bo bn bc, iv f0, iv f1, iv f2, .slice (some al) LL.length lc], .agg #[iv b, iv a], .bool most] (by simp) ?_
  repeat'
   conv => whnf
   first
    | refine zA ?_ | refine zB ?_ | refine zC ?_ | refine zD ?_ | refine zE ?_ | refine zF ?_ | refine zG ?_ | refine zH ?_ | refine zI ?_ | refine splT ?_ | refine splF ?_ | refine splNot ?_
    | ((first | refine splIn (fun hc => ?_) (fun hc => ?_) | refine splD (fun hc => ?_) (fun hc => ?_) | refine splE (fun hc => ?_) (fun hc => ?_) | refine splNE (fun hc => ?_) (fun hc => ?_)) <;> first | (exfalso; omega) | (exfalso; dsimp only at hc; omega) | skip)
  refine loopN 4 (fun k : Nat => [(2, .v (.bool most)), (3, .ptr 0 0), (4, .ptr 1 0), (8, oSV 2 3 (E.take k)), (9, .v (iv k))])
    (fun k => (0, .cells [.v (.slice po' pn pc'), .v (.slice bo bn bc), .v (iv f0), .v (iv f1), .v (iv f2), .v (.slice (some al) LL.length lc)] 48) :: (1, .cells [.v (iv b), .v (iv a)] 91) :: oM 2 3 1 iF 3 (E.take k)) (fun k => k ≤ LL.length) (fun k => LL.length - k) 0 (Nat.zero_le _) ⟨rfl, rfl, rfl, rfl, rfl, trivial⟩ ⟨rfl, rfl, trivial⟩ (fun k _ => by cases E.take k <;> exact ⟨rfl, rfl⟩) ?_
  intro k hk
  rcases Nat.lt_or_ge k LL.length with hkl | hkl
  · obtain ⟨l, hl⟩ : ∃ l, LL[k]? = some l := ⟨_, List.getElem?_eq_getElem (by omega)⟩
    have hlo := List.all_eq_true.1 hri.2.2.2.2.2.2 l (List.mem_of_getElem? hl)
    rw [ldOk_iff] at hlo
    have hfac := fac_bd (r := ⟨po', pn, pc', bo, bn, bc, f0, f1, f2, some al, LL.length, lc⟩) hri.2.2.2.2.2.1 l.kind
    have h45 := fun (w' : World) (hb' : Below w.heap.size w w') => PullR_ok ⟨po', pn, pc', bo, bn, bc, f0, f1, f2, some al, LL.length, lc⟩ LL k l w' (hX.below hb').l rfl hl (by omega) (by omega) (by omega) (by omega)
    have h73 := fun (w' : World) (hb : Below w.heap.size w w') => h73 k w' hb hkl
    have ht : E.take (k + 1) = E.take k ++ [endV ⟨po', pn, pc', bo, bn, bc, f0, f1, f2, some al, LL.length, lc⟩ (ob (frF BB LL) k (b, a)) most l] := by rw [List.take_add_one, hEat k l hl]; rfl
    have hlen : (E.take k).length ≤ k := List.length_take_le _ _
    rw [endV_if] at ht
    generalize hiP ⟨po', pn, pc', bo, bn, bc, f0, f1, f2, some al, LL.length, lc⟩ l = hi at *
    generalize l.lo = ll at *
    generalize ob (frF BB LL) k (b, a) = g at *
    generalize E.take k = T at *
    by_cases hcc : (0 < g ∧ most = true) ∨ (g < 0 ∧ most = false)
    all_goals first | rw [if_pos hcc] at ht | rw [if_neg hcc] at ht
    all_goals cases most
    all_goals simp only [and_true, true_and, and_false, false_and, or_false, false_or, Bool.false_eq_true, Bool.true_eq_false, Int.not_lt, reduceCtorEq] at hcc
    all_goals rcases T with _ | ⟨a0, T⟩
    all_goals try simp only [List.length_cons] at hlen
    all_goals skip
    repeat'
     conv => whnf
     first
      | refine zA ?_ | refine zB ?_ | refine zC ?_ | refine zD ?_ | refine zE ?_ | refine zF ?_ | refine zG ?_ | refine zH ?_ | refine zI ?_ | refine splT ?_ | refine splF ?_ | refine splNot ?_
      | ((first | refine splIn (fun hc => ?_) (fun hc => ?_) | refine splD (fun hc => ?_) (fun hc => ?_) | refine splE (fun hc => ?_) (fun hc => ?_) | refine splNE (fun hc => ?_) (fun hc => ?_)) <;> first | (exfalso; omega) | (exfalso; dsimp only at hc; omega) | skip)
      | ((with_reducible show CallEv _ _ 45 _ _ _ _ _); refine callE (k := 45) (fun β w' hbw => h45 _ hbw) ?_)
      | ((with_reducible show CallEv _ _ 73 _ _ _ _ _); refine callE (k := 73) (fun β w' hbw => h73 _ hbw) ?_)
    all_goals first
      | (exfalso; omega)
      | exact ⟨k + 1, by omega, by omega, Ent.ren (rho [(2, 6), (3, 7)]) rfl (by rw [ht]; rfl) ⟨rfl, rfl, rfl, by rw [ht]; rfl, rfl, trivial⟩ (by rw [ht]; exact ⟨rfl, rfl, rfl, trivial⟩) fun _ h => h⟩
      | exact ⟨k + 1, by omega, by omega, Ent.ren (rho [(2, 6), (3, 7)]) rfl (by rw [ht]; rfl) ⟨rfl, rfl, rfl, by rw [ht]; simp [oSV]; rfl, rfl, trivial⟩ (by rw [ht]; exact ⟨rfl, rfl, by simp [oM]; rfl, trivial⟩) fun _ h => h⟩
  · rw [List.take_of_length_le (show E.length ≤ k by omega)]
    cases hcE : E with
    | nil => exfalso; rw [hcE] at hEl; exact hne (List.length_eq_zero_iff.1 hEl.symm)
    | cons a0 A =>
      rw [hcE] at h36 hEl
      clear h73 hEat
      repeat'
       conv => whnf
       first
        | refine zA ?_ | refine zB ?_ | refine zC ?_ | refine zD ?_ | refine zE ?_ | refine zF ?_ | refine zG ?_ | refine zH ?_ | refine zI ?_ | refine splT ?_ | refine splF ?_ | refine splNot ?_
        | ((first | refine splIn (fun hc => ?_) (fun hc => ?_) | refine splD (fun hc => ?_) (fun hc => ?_) | refine splE (fun hc => ?_) (fun hc => ?_) | refine splNE (fun hc => ?_) (fun hc => ?_)) <;> first | (exfalso; omega) | (exfalso; dsimp only at hc; omega) | skip)
        | ((with_reducible show CallEv _ _ 36 _ _ _ _ _); refine callF [2] (fun y : YS L1 × YS L2 => .tuple #[sV PP.length y.1.1, sV BB.length y.2.1]) (fun y w2 => Rd 1 iF (sV PP.length y.1.1) L1 w2 ∧ Rd 2 gF (sV BB.length y.2.1) L2 w2) (fun β w' hbk hbw => h36 _ _ w' hbw (Rd.of_owns (sz := 1) (f := iF) (bs := a0 :: A) (fun _ => rfl) rfl rfl (hbk 2 (by simp) _ rfl))) ?_; intro z; obtain ⟨⟨⟨x1, x2⟩, hx0⟩, ⟨⟨x3, x4⟩, hx'⟩⟩ := z; dsimp only at hx0 ⊢)
        | ((with_reducible show CallEv _ _ 74 _ _ _ _ _); refine callE (k := 74) (fun β w' hbw => h74 _ _ _ _ w' hbw.2.1 hbw.2.2) ?_)
      all_goals first | (exfalso; omega) | exact ⟨fun w' h => h.1, fun β w' hB hB2 hblk => ⟨β 2, β 3, by rw [← hEl]; rfl, (hblk 2 _ rfl rfl).1, hB2, by rw [← hEl]; exact (hblk 2 _ rfl rfl).2⟩⟩
/-- Without loads. -/
theorem Witness_nil (r : Rig) (PP : List Int) (BB : List Bm) (LL : List Ld) (b a : Int) (most : Bool) (w : World) (h : RigX r PP BB LL w) (hr : rigOk r.f0 r.f1 r.f2 PP BB LL = true) (hp : partOk PP.length BB.length b a) (hne : LL = []) :
    Calls Try.prog 40 #[r.v, .agg #[iv b, iv a], .bool most] w fun e w' => e = .returned (.tuple #[.slice none 0 0, iv (endD r LL (rowP (frF BB LL) b a) most)]) ∧ Below w.heap.size w w' := by
  subst hne
  have hri := rigOk_iff.1 hr
  have hm12 := hri.2.2.1
  have hEB : pullsB [] := ⟨by simp, fun x hx => by cases hx⟩
  have h36 := fun (w' : World) (hb : Below w.heap.size w w') => BearsR_ok r PP BB [] [] none 0 1 w' (h.below hb) hr hEB rfl (.inl ⟨rfl, rfl⟩) (by omega)
  have h74 := fun (S : Int × Int → Int) (po qo : Option Addr) (pc qc : Nat) (w' : World) (hP : Rd 1 iF (.slice po PP.length pc) (stP PP.length S) w') (hH : Rd 2 gF (.slice qo BB.length qc) (stH BB.length S) w') => ofR_ok PP.length BB.length S b a po qo pc qc w' hp hP hH (by omega) (by omega)
  have hD : endD r [] (rowP (frF BB []) b a) most = rbS BB [] [] 1 (b, a) := by
    rw [rbS_row hr rfl hp.qv]; rfl
  rw [hD]
  clear hD
  generalize rbS BB [] [] 1 = S at *
  have h74 := h74 S
  generalize stP PP.length S = L1 at *
  generalize stH BB.length S = L2 at *
  generalize S (b, a) = val at *
  have hX := h
  have hlnn := h.ln
  obtain ⟨po', pn, pc', bo, bn, bc, f0, f1, f2, lo, ln, lc⟩ := r
  dsimp only at hlnn hri
  subst hlnn
  refine calls_val env mixed Try.func40 has40 Try.ntmps40 [.agg #[.slice po' pn pc', .slice bo bn bc, iv f0, iv f1, iv f2, .slice lo ([] : List Ld).length lc], .agg #[iv b, iv a], .bool most] (by simp) ?_
  repeat'
   conv => whnf
   first
    | refine zA ?_ | refine zB ?_ | refine zC ?_ | refine zD ?_ | refine zE ?_ | refine zF ?_ | refine zG ?_ | refine zH ?_ | refine zI ?_ | refine splT ?_ | refine splF ?_ | refine splNot ?_
    | ((first | refine splIn (fun hc => ?_) (fun hc => ?_) | refine splD (fun hc => ?_) (fun hc => ?_) | refine splE (fun hc => ?_) (fun hc => ?_) | refine splNE (fun hc => ?_) (fun hc => ?_)) <;> first | (exfalso; omega) | (exfalso; dsimp only at hc; omega) | skip)
  refine loopN 2 (fun k : Nat => [(2, .v (.bool most)), (3, .ptr 0 0), (4, .ptr 1 0), (8, .v (.slice none 0 0)), (9, .v (iv 0))])
    (fun k => [(0, .cells [.v (.slice po' pn pc'), .v (.slice bo bn bc), .v (iv f0), .v (iv f1), .v (iv f2), .v (.slice lo ([] : List Ld).length lc)] 48), (1, .cells [.v (iv b), .v (iv a)] 91)]) (fun k => k ≤ 0) (fun k => 0 - k) 0 (Nat.zero_le _) ⟨rfl, rfl, rfl, rfl, rfl, trivial⟩ ⟨rfl, rfl, trivial⟩ (fun k _ => ⟨rfl, rfl⟩) ?_
  intro k hk
  have hz : (([] : List Ld).length : Int) = 0 := rfl
  repeat'
   conv => whnf
   first
    | refine zA ?_ | refine zB ?_ | refine zC ?_ | refine zD ?_ | refine zE ?_ | refine zF ?_ | refine zG ?_ | refine zH ?_ | refine zI ?_ | refine splT ?_ | refine splF ?_ | refine splNot ?_
    | ((first | refine splIn (fun hc => ?_) (fun hc => ?_) | refine splD (fun hc => ?_) (fun hc => ?_) | refine splE (fun hc => ?_) (fun hc => ?_) | refine splNE (fun hc => ?_) (fun hc => ?_)) <;> first | (exfalso; omega) | (exfalso; dsimp only at hc; omega) | skip)
    | ((with_reducible show CallEv _ _ 36 _ _ _ _ _); refine callF [] (fun y : YS L1 × YS L2 => .tuple #[sV PP.length y.1.1, sV BB.length y.2.1]) (fun y w2 => Rd 1 iF (sV PP.length y.1.1) L1 w2 ∧ Rd 2 gF (sV BB.length y.2.1) L2 w2) (fun β w' hbk hbw => h36 w' hbw) ?_; intro z; obtain ⟨⟨⟨x1, x2⟩, hx0⟩, ⟨⟨x3, x4⟩, hx'⟩⟩ := z; dsimp only at hx0 ⊢)
    | ((with_reducible show CallEv _ _ 74 _ _ _ _ _); refine callE (k := 74) (fun β w' hbw => h74 _ _ _ _ w' hbw.2.1 hbw.2.2) ?_)
  all_goals first | (exfalso; omega) | exact ⟨fun β => rfl, fun w' h => h.1⟩
end Go.Proofs.Ytaciigegbgnadaa
