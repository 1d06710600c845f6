/- The ends of what a row bears: what least, most and of return. -/
import Derived.Test.YtaciigegbgnadaaGY
namespace Go.Proofs.Ytaciigegbgnadaa
open Go Tx Go.RowKit
set_option linter.unusedSimpArgs false
set_option linter.unusedVariables false

/-- A row that is not great. -/
def rowQ (x : Row) : Prop := ∀ c, (x c).natAbs ≤ Bb c 12
theorem Bb_mono {c k : Nat} (h : k ≤ 12) : Bb c k ≤ Bb c 12 := by
  unfold Bb
  split
  · have := Nat.mul_le_mul_right 474552000000000 h; omega
  · omega
theorem hiP_bd {r : Rig} {l : Ld} (hf : 1000 ≤ r.fac l.kind ∧ r.fac l.kind ≤ 20000) (hl : 0 ≤ l.hi ∧ l.hi ≤ 1000000) : l.hi ≤ hiP r l ∧ hiP r l ≤ 20000000 := by
  unfold hiP
  have h0 : 0 ≤ l.hi * r.fac l.kind := Int.mul_nonneg hl.1 (by omega)
  have h1 : l.hi * r.fac l.kind ≤ 1000000 * 20000 := Int.mul_le_mul hl.2 hf.2 (by omega) (by omega)
  have h2 : l.hi * 1000 ≤ l.hi * r.fac l.kind := Int.mul_le_mul_of_nonneg_left hf.1 hl.1
  omega
theorem mul_q {a p : Int} (h1 : a.natAbs ≤ 474552000) (h2 : p.natAbs ≤ 20000000) : -9491040000000000 ≤ a * p ∧ a * p ≤ 9491040000000000 := by
  have h := Int.natAbs_mul a p
  have h3 : a.natAbs * p.natAbs ≤ 474552000 * 20000000 := Nat.mul_le_mul h1 h2
  omega
/-- Pulls that are not great. -/
def pullsB (P : List Int) : Prop := P.length ≤ 20 ∧ ∀ n ∈ P, 0 ≤ n ∧ n ≤ 20000000
theorem dotB_of {x : Row} {P : List Int} (hx : rowQ x) (hP : pullsB P) : dotB x P := by
  refine ⟨hP.1, ?_, fun i hi => ?_⟩
  · have := hx 20
    unfold Bb at this
    rw [if_pos rfl] at this
    omega
  · have h1 := hx i
    have hi20 : i ≠ 20 := by have := hP.1; omega
    unfold Bb at h1
    rw [if_neg hi20] at h1
    have h2 : (P.getD i 0).natAbs ≤ 20000000 := by
      rw [List.getD_eq_getElem?_getD, List.getElem?_eq_getElem hi]
      have := hP.2 _ (List.getElem_mem hi)
      simp only [Option.getD_some]
      omega
    have := mul_q h1 h2
    omega
theorem endL_B {r : Rig} {PP : List Int} {BB : List Bm} {LL : List Ld} (hr : rigOk r.f0 r.f1 r.f2 PP BB LL = true) (x : Row) (most : Bool) : pullsB (endL r x most LL) := by
  rw [rigOk_iff] at hr
  obtain ⟨q1, q2, q3, q4, q5, q6, q7⟩ := hr
  refine ⟨by rw [endL_len]; exact q5, fun n hn => ?_⟩
  obtain ⟨k, hk⟩ := List.getElem?_of_mem hn
  have hkl : k < LL.length := by rw [← endL_len r x most LL]; exact (List.getElem?_eq_some_iff.1 hk).1
  rw [endL_at (List.getElem?_eq_getElem hkl), Option.some.injEq] at hk
  have hlo := List.all_eq_true.1 q7 _ (List.getElem_mem hkl)
  rw [ldOk_iff] at hlo
  have := hiP_bd (fac_bd (r := r) q6 LL[k].kind) hlo.2.2.2.1
  unfold endV at hk
  split at hk <;> omega
/-- The greatest, or the least, that a row bears. -/
def endD (r : Rig) (LL : List Ld) (x : Row) (most : Bool) : Int := dotR x (endL r x most LL) LL.length
theorem endD_bd {r : Rig} {PP : List Int} {BB : List Bm} {LL : List Ld} {x : Row} (hr : rigOk r.f0 r.f1 r.f2 PP BB LL = true) (hx : rowQ x) (most : Bool) : -9000000000000000000 ≤ endD r LL x most ∧ endD r LL x most ≤ 9000000000000000000 := by
  have h := dotR_bd (dotB_of hx (endL_B hr x most)) LL.length (by rw [endL_len]; exact Nat.le_refl _)
  rw [rigOk_iff] at hr
  unfold endD
  omega

set_option maxHeartbeats 4000000 in
set_option maxRecDepth 100000 in
theorem least_ok (r : Rig) (PP : List Int) (BB : List Bm) (LL : List Ld) (F : Fr) (y : FrA) (x : Row) (w : World) (h : RigIn r PP BB LL w) (hr : rigOk r.f0 r.f1 r.f2 PP BB LL = true) (hy : FrIn r PP.length BB.length F y w) (hx : rowQ x) :
    Calls Try.prog 95 #[.pointer (some ⟨y.fb, 0, none⟩), .agg (rwL x).toArray] w fun e w' => e = .returned (iv (endD r LL x false)) ∧ Below w.heap.size w w' := by
  refine calls_val env mixed Try.func95 has95 Try.ntmps95 [.pointer (some ⟨y.fb, 0, none⟩), .agg (rwL x).toArray] (by simp) ?_
  have he := fun (w' : World) (hb : Below w.heap.size w w') => end_ok r PP BB LL F y x false w' (h.below hb) hr (hy.below hb)
  have hd := fun (o : Option Addr) (c : Nat) (w' : World) (hrd : Rd 1 iF (.slice o (endL r x false LL).length c) (endL r x false LL) w') => bears_ok x (endL r x false LL) o c w' hrd (dotB_of hx (endL_B hr x false))
  rw [endL_len] at hd
  have hl := endL_len r x false LL
  unfold endD
  generalize endL r x false LL = E at *
  generalize y.fb = fb at *
  repeat'
   conv => whnf
   first
    | refine zA ?_ | refine zB ?_ | refine zC ?_ | refine zD ?_ | refine zE ?_ | refine zF ?_ | refine zG ?_ | refine zH ?_ | refine zI ?_ | refine splT ?_ | refine splF ?_ | refine splNot ?_
    | ((first | refine splIn (fun hc => ?_) (fun hc => ?_) | refine splD (fun hc => ?_) (fun hc => ?_) | refine splE (fun hc => ?_) (fun hc => ?_) | refine splNE (fun hc => ?_) (fun hc => ?_)) <;> first | (exfalso; omega) | (exfalso; dsimp only at hc; omega) | skip)
    | ((with_reducible show CallEv _ _ 76 _ _ _ _ _); refine callO 1 [] (.os 1 2 LL.length) LL.length 1 (E.flatMap iF) 3 rfl (fun β w' _ hbw => (he w' hbw).mono fun _ _ ⟨b, c, h1, h2, h3, h4⟩ => ⟨b, c, h1, h2, h3, h4⟩) ?_)
    | ((with_reducible show CallEv _ _ 70 _ _ _ _ _); refine callM (k := 70) [1] (fun β w' hbk hbw => hd _ _ w' (Rd.of_owns (sz := 1) (f := iF) (bs := E) (fun _ => rfl) rfl hl.symm (hbk 1 (by simp) _ rfl))) ?_)
  all_goals first | exact ⟨fun β => rfl, fun w' h => h⟩
set_option maxHeartbeats 4000000 in
set_option maxRecDepth 100000 in
theorem most_ok (r : Rig) (PP : List Int) (BB : List Bm) (LL : List Ld) (F : Fr) (y : FrA) (x : Row) (w : World) (h : RigIn r PP BB LL w) (hr : rigOk r.f0 r.f1 r.f2 PP BB LL = true) (hy : FrIn r PP.length BB.length F y w) (hx : rowQ x) :
    Calls Try.prog 96 #[.pointer (some ⟨y.fb, 0, none⟩), .agg (rwL x).toArray] w fun e w' => e = .returned (iv (endD r LL x true)) ∧ Below w.heap.size w w' := by
  refine calls_val env mixed Try.func96 has96 Try.ntmps96 [.pointer (some ⟨y.fb, 0, none⟩), .agg (rwL x).toArray] (by simp) ?_
  have he := fun (w' : World) (hb : Below w.heap.size w w') => end_ok r PP BB LL F y x true w' (h.below hb) hr (hy.below hb)
  have hd := fun (o : Option Addr) (c : Nat) (w' : World) (hrd : Rd 1 iF (.slice o (endL r x true LL).length c) (endL r x true LL) w') => bears_ok x (endL r x true LL) o c w' hrd (dotB_of hx (endL_B hr x true))
  rw [endL_len] at hd
  have hl := endL_len r x true LL
  unfold endD
  generalize endL r x true LL = E at *
  generalize y.fb = fb at *
  repeat'
   conv => whnf
   first
    | refine zA ?_ | refine zB ?_ | refine zC ?_ | refine zD ?_ | refine zE ?_ | refine zF ?_ | refine zG ?_ | refine zH ?_ | refine zI ?_ | refine splT ?_ | refine splF ?_ | refine splNot ?_
    | ((first | refine splIn (fun hc => ?_) (fun hc => ?_) | refine splD (fun hc => ?_) (fun hc => ?_) | refine splE (fun hc => ?_) (fun hc => ?_) | refine splNE (fun hc => ?_) (fun hc => ?_)) <;> first | (exfalso; omega) | (exfalso; dsimp only at hc; omega) | skip)
    | ((with_reducible show CallEv _ _ 76 _ _ _ _ _); refine callO 1 [] (.os 1 2 LL.length) LL.length 1 (E.flatMap iF) 3 rfl (fun β w' _ hbw => (he w' hbw).mono fun _ _ ⟨b, c, h1, h2, h3, h4⟩ => ⟨b, c, h1, h2, h3, h4⟩) ?_)
    | ((with_reducible show CallEv _ _ 70 _ _ _ _ _); refine callM (k := 70) [1] (fun β w' hbk hbw => hd _ _ w' (Rd.of_owns (sz := 1) (f := iF) (bs := E) (fun _ => rfl) rfl hl.symm (hbk 1 (by simp) _ rfl))) ?_)
  all_goals first | exact ⟨fun β => rfl, fun w' h => h⟩
set_option maxHeartbeats 4000000 in
set_option maxRecDepth 100000 in
theorem of_ok (r : Rig) (PP : List Int) (BB : List Bm) (LL : List Ld) (F : Fr) (y : FrA) (x : Row) (w : World) (h : RigIn r PP BB LL w) (hr : rigOk r.f0 r.f1 r.f2 PP BB LL = true) (hy : FrIn r PP.length BB.length F y w) (hx : rowQ x) :
    Calls Try.prog 72 #[.pointer (some ⟨y.fb, 0, none⟩), .agg (rwL x).toArray] w fun e w' => e = .returned (.agg #[iv (endD r LL x false), iv (endD r LL x true)]) ∧ Below w.heap.size w w' := by
  refine calls_val env mixed Try.func72 has72 Try.ntmps72 [.pointer (some ⟨y.fb, 0, none⟩), .agg (rwL x).toArray] (by simp) ?_
  have h1 := fun (w' : World) (hb : Below w.heap.size w w') => least_ok r PP BB LL F y x w' (h.below hb) hr (hy.below hb) hx
  have h2 := fun (w' : World) (hb : Below w.heap.size w w') => most_ok r PP BB LL F y x w' (h.below hb) hr (hy.below hb) hx
  generalize endD r LL x false = e0 at *
  generalize endD r LL x true = e1 at *
  generalize y.fb = fb at *
  repeat'
   conv => whnf
   first
    | refine zA ?_ | refine zB ?_ | refine zC ?_ | refine zD ?_ | refine zE ?_ | refine zF ?_ | refine zG ?_ | refine zH ?_ | refine zI ?_ | refine splT ?_ | refine splF ?_ | refine splNot ?_
    | ((first | refine splIn (fun hc => ?_) (fun hc => ?_) | refine splD (fun hc => ?_) (fun hc => ?_) | refine splE (fun hc => ?_) (fun hc => ?_) | refine splNE (fun hc => ?_) (fun hc => ?_)) <;> first | (exfalso; omega) | (exfalso; dsimp only at hc; omega) | skip)
    | ((with_reducible show CallEv _ _ 95 _ _ _ _ _); refine callE (k := 95) (fun β w' hbw => h1 _ hbw) ?_)
    | ((with_reducible show CallEv _ _ 96 _ _ _ _ _); refine callE (k := 96) (fun β w' hbw => h2 _ hbw) ?_)
  all_goals first | exact ⟨fun β => rfl, fun w' h => h⟩
end Go.Proofs.Ytaciigegbgnadaa
