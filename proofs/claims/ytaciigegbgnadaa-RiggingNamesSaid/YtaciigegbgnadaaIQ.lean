/- The reference: what a part bears of one load alone: of, Given. -/
import Derived.Test.YtaciigegbgnadaaIM
namespace Go.Proofs.Ytaciigegbgnadaa.Tx
open Go Go.RowKit
/-- The place of an element of an array that lies elsewhere. -/
theorem idxP {P : Program} (T : Env P) {dst : Option Tmp} {ty : TypeId} {pos : String} {after : Array Edge} {gd : Option (Nat × Bool)} {gs : List Nat} {σ : Sg} {K : Ef → Prop} {t e n : Nat} {x ix : Operand} {ad : Addr} {k : IntKind} {z : Int}
    {sz : Nat} {zr : List Value} {by_ : Nat} {ti : TI} (hx : gv σ x = some (.v (.pointer (some ad)))) (hix : gv σ ix = some (.v (.int k z))) (ht : T.ty t = some ⟨sz, zr, by_, .arr n e⟩) (he : T.ty e = some ti) (h01 : 0 ≤ z ∧ z < n)
    (hK : K ⟨.v (.pointer (some (ad.add (z.toNat * ti.size)))), [], [], gs ++ (os x ++ os ix), []⟩) : OpEv P ⟨dst, .indexAddr t x ix, ty, pos, after, gd⟩ gs σ K := by
  refine .mk _ (by rfl) (fun k hk => by simp [hk]) rfl (runOK_pure fun β a w hss => ?_) hK
  have e1 := gv_eval hss hx (fun k hk => by simp [hk])
  have e2 := gv_eval hss hix (fun k hk => by simp [hk])
  have hu := under_arr (T.tok t _ ht) rfl
  have hsz := (T.tok e ti he).run_sizeOf w
  simp only [execOp, Instr.indexAt, e1, e2, SV.c, asIntOf, Sem.run_bind, Sem.run_pure, Result.andThen_ok, Go.run_underlying hu w, Instr.sureAddr, h01.1, h01.2, and_self, if_true, hsz]
end Go.Proofs.Ytaciigegbgnadaa.Tx
namespace Go.Proofs.Ytaciigegbgnadaa
open Go Tx Go.RowKit
set_option linter.unusedSimpArgs false
set_option linter.unusedVariables false

/-- A point or a hanger of a rig. -/
def partOk (n m : Nat) (b a : Int) : Prop := (b = -1 ∧ 0 ≤ a ∧ a < n) ∨ (0 ≤ b ∧ b < m ∧ 0 ≤ a ∧ a ≤ 1)
theorem partOk.qv {n m : Nat} {b a : Int} (h : partOk n m b a) : qv (b, a) := by
  rcases h with ⟨h1, h2, h3⟩ | ⟨h1, h2, h3, h4⟩
  · exact ⟨.inl h1, h2⟩
  · exact ⟨.inr ⟨h1, h4⟩, h3⟩
set_option maxRecDepth 100000 in
theorem ofR_ok (n m : Nat) (S : Int × Int → Int) (b a : Int) (po qo : Option Addr) (pc qc : Nat) (w : World) (hp : partOk n m b a) (hP : Rd 1 iF (.slice po n pc) (stP n S) w) (hH : Rd 2 gF (.slice qo m qc) (stH m S) w) (hn : n ≤ 1000000) (hm : m ≤ 1000000) :
    Calls Try.prog 74 #[.agg #[iv b, iv a], .slice po n pc, .slice qo m qc] w fun e w' => e = .returned (iv (S (b, a))) ∧ Below w.heap.size w w' := by
  refine calls_val env mixed Try.func74 has74 Try.ntmps74 [.agg #[iv b, iv a], .slice po n pc, .slice qo m qc] (by simp) ?_
  have lp := stP_len n S
  have lh := stH_len m S
  rcases hp with ⟨rfl, h1, h2⟩ | ⟨h1, h2, h3, h4⟩
  · obtain ⟨k, rfl⟩ := Int.eq_ofNat_of_zero_le h1
    have hk : k < n := by omega
    obtain ⟨_, ad, rfl, _⟩ := hP.ptr (by omega)
    have e0 := fun (w' : World) (hw' : Below w.heap.size w w') => rd_ati (hP.below hw') (stP_at (S := S) hk)
    generalize S (-1, (k : Int)) = x at *
    repeat'
     conv => whnf
     first
      | refine zA ?_ | refine zB ?_ | refine zC ?_ | refine zD ?_ | refine zE ?_ | refine zF ?_ | refine zG ?_ | refine zH ?_ | refine zI ?_ | refine splT ?_ | refine splF ?_ | refine splNot ?_
      | ((first | refine splIn (fun hc => ?_) (fun hc => ?_) | refine splD (fun hc => ?_) (fun hc => ?_) | refine splE (fun hc => ?_) (fun hc => ?_) | refine splNE (fun hc => ?_) (fun hc => ?_)) <;> first | (exfalso; omega) | (exfalso; dsimp only at hc; omega) | skip)
      | refine Exists.intro (α := List Value) [iv x] ⟨⟨rfl, fun w' hw' => e0 w' hw'⟩, ?_⟩
    all_goals first | (exfalso; omega) | exact ⟨fun β => rfl, fun w' h => h⟩
  · obtain ⟨k, rfl⟩ := Int.eq_ofNat_of_zero_le h1
    have hk : k < m := by omega
    obtain ⟨_, ad, rfl, _⟩ := hH.ptr (by omega)
    have e0 := fun (w' : World) (hw' : Below w.heap.size w w') => rd_fld (hH.below hw') (stH_at (S := S) hk) 0 (iv (S ((k : Int), 0))) rfl
    have e1 := fun (w' : World) (hw' : Below w.heap.size w w') => rd_fld (hH.below hw') (stH_at (S := S) hk) 1 (iv (S ((k : Int), 1))) rfl
    obtain rfl | rfl : a = 0 ∨ a = 1 := by omega
    · generalize S ((k : Int), 0) = x at *
      repeat'
       conv => whnf
       first
        | refine zA ?_ | refine zB ?_ | refine zC ?_ | refine zD ?_ | refine zE ?_ | refine zF ?_ | refine zG ?_ | refine zH ?_ | refine zI ?_ | refine splT ?_ | refine splF ?_ | refine splNot ?_
        | ((first | refine splIn (fun hc => ?_) (fun hc => ?_) | refine splD (fun hc => ?_) (fun hc => ?_) | refine splE (fun hc => ?_) (fun hc => ?_) | refine splNE (fun hc => ?_) (fun hc => ?_)) <;> first | (exfalso; omega) | (exfalso; dsimp only at hc; omega) | skip)
        | refine idxP env rfl rfl rfl rfl (And.intro (by omega) (by omega)) ?_
        | refine Exists.intro (α := List Value) [iv x] ⟨⟨rfl, fun w' hw' => e0 w' hw'⟩, ?_⟩
      all_goals first | (exfalso; omega) | exact ⟨fun β => rfl, fun w' h => h⟩
    · generalize S ((k : Int), 1) = x at *
      repeat'
       conv => whnf
       first
        | refine zA ?_ | refine zB ?_ | refine zC ?_ | refine zD ?_ | refine zE ?_ | refine zF ?_ | refine zG ?_ | refine zH ?_ | refine zI ?_ | refine splT ?_ | refine splF ?_ | refine splNot ?_
        | ((first | refine splIn (fun hc => ?_) (fun hc => ?_) | refine splD (fun hc => ?_) (fun hc => ?_) | refine splE (fun hc => ?_) (fun hc => ?_) | refine splNE (fun hc => ?_) (fun hc => ?_)) <;> first | (exfalso; omega) | (exfalso; dsimp only at hc; omega) | skip)
        | refine idxP env rfl rfl rfl rfl (And.intro (by omega) (by omega)) ?_
        | refine Exists.intro (α := List Value) [iv x] ⟨⟨rfl, fun w' hw' => e1 w' hw'⟩, ?_⟩
      all_goals first | (exfalso; omega) | exact ⟨fun β => rfl, fun w' h => h⟩

def unitP (n k : Nat) : List Int := (List.replicate n (0 : Int)).set k 1
theorem unitP_len (n k : Nat) : (unitP n k).length = n := by simp [unitP]
theorem unitP_B {n : Nat} (k : Nat) (h : n ≤ 20) : pullsB (unitP n k) := by
  refine ⟨by rw [unitP_len]; exact h, fun x hx => ?_⟩
  unfold unitP at hx
  rcases List.mem_or_eq_of_mem_set hx with h | rfl
  · rw [List.eq_of_mem_replicate h]; omega
  · omega
section
variable {f0 f1 f2 : Int} {PP : List Int} {BB : List Bm} {LL : List Ld} (hr : rigOk f0 f1 f2 PP BB LL = true)
include hr
theorem rbS_unit {k : Nat} (hk : k < LL.length) {q : Int × Int} (hq : qv q) : rbS BB LL (unitP LL.length k) 0 q = ob (frF BB LL) k q := by
  rw [rbS_ob hr (unitP_len _ _) hq, unitP_len, Int.zero_mul, Int.add_zero]
  rw [sumI_congr (g := fun j => if j = k then ob (frF BB LL) k q else 0) fun j hj => ?_]
  · exact sumI_one hk
  · rw [List.getD_eq_getElem?_getD, unitP, List.getElem?_set]
    by_cases h : k = j
    · subst h
      rw [if_pos rfl, if_pos (by simp; exact hj), if_pos rfl]; simp
    · rw [if_neg h, if_neg (fun hc => h hc.symm)]
      simp [hj]
end

set_option maxHeartbeats 8000000 in
set_option maxRecDepth 100000 in
theorem Given_ok (r : Rig) (PP : List Int) (BB : List Bm) (LL : List Ld) (k : Nat) (b a : Int) (w : World) (h : RigX r PP BB LL w) (hr : rigOk r.f0 r.f1 r.f2 PP BB LL = true) (hk : k < LL.length) (hp : partOk PP.length BB.length b a) :
    Calls Try.prog 73 #[r.v, iv k, .agg #[iv b, iv a]] w fun e w' => e = .returned (iv (ob (frF BB LL) k (b, a))) ∧ Below w.heap.size w w' := by
  have hri := rigOk_iff.1 hr
  have hl20 : LL.length ≤ 20 := hri.2.2.2.2.1
  have hm12 := hri.2.2.1
  have hul := unitP_len LL.length k
  have h36 := fun (o : Option Addr) (c : Nat) (w' : World) (hb : Below w.heap.size w w') (hP : Rd 1 iF (.slice o (unitP LL.length k).length c) (unitP LL.length k) w') => BearsR_ok r PP BB LL (unitP LL.length k) o c 0 w' (h.below hb) hr (unitP_B k hl20) hul hP (by omega)
  rw [hul] at h36
  rw [← rbS_unit hr hk hp.qv]
  have h74 := fun (S : Int × Int → Int) (po qo : Option Addr) (pc qc : Nat) (w' : World) (hP : Rd 1 iF (.slice po PP.length pc) (stP PP.length S) w') (hH : Rd 2 gF (.slice qo BB.length qc) (stH BB.length S) w') => ofR_ok PP.length BB.length S b a po qo pc qc w' hp hP hH (by omega) (by omega)
  generalize rbS BB LL (unitP LL.length k) 0 = S at *
  have h74 := h74 S
  have hU : (List.replicate LL.length (0 : Int)).set k 1 = unitP LL.length k := rfl
  have hkD : k < (List.replicate LL.length (0 : Int)).length := by simp; exact hk
  generalize unitP LL.length k = U at *
  have hlnn := h.ln
  obtain ⟨po', pn, pc', bo, bn, bc, f0, f1, f2, lo, ln, lc⟩ := r
  dsimp only at hlnn hri
  subst hlnn
  generalize stP PP.length S = L1 at *
  generalize stH BB.length S = L2 at *
  refine calls_val env mixed Try.func73 has73 Try.ntmps73 [.agg #[.slice po' pn pc', .slice bo bn bc, iv f0, iv f1, iv f2, .slice lo LL.length lc], iv k, .agg #[iv b, iv a]] (by simp) ?_
  repeat'
   conv => whnf
   first
    | refine zA ?_ | refine zB ?_ | refine zC ?_ | refine zD ?_ | refine zE ?_ | refine zF ?_ | refine zG ?_ | refine zH ?_ | refine zI ?_ | refine splT ?_ | refine splF ?_ | refine splNot ?_
    | ((first | refine splIn (fun hc => ?_) (fun hc => ?_) | refine splD (fun hc => ?_) (fun hc => ?_) | refine splE (fun hc => ?_) (fun hc => ?_) | refine splNE (fun hc => ?_) (fun hc => ?_)) <;> first | (exfalso; omega) | (exfalso; dsimp only at hc; omega) | skip)
    | refine mkO env 2 LL.length ((List.replicate LL.length (0 : Int)).flatMap iF) rfl rfl rfl (by decide) rfl (by omega) (by decide) (by rw [List.flatMap_replicate]; rfl) rfl ?_
    | (refine And.intro (a := _ + _ ≤ List.length _) (stS' hkD _) ?_; rw [stE hkD, hU])
    | ((with_reducible show CallEv _ _ 36 _ _ _ _ _); refine callF [2] (fun y : YS L1 × YS L2 => .tuple #[sV PP.length y.1.1, sV BB.length y.2.1]) (fun y w2 => Rd 1 iF (sV PP.length y.1.1) L1 w2 ∧ Rd 2 gF (sV BB.length y.2.1) L2 w2) (fun β w' hbk hbw => h36 _ _ w' hbw (Rd.of_owns (sz := 1) (f := iF) (bs := U) (fun _ => rfl) rfl hul.symm (hbk 2 (by simp) _ rfl))) ?_; intro z; obtain ⟨⟨⟨x1, x2⟩, hx0⟩, ⟨⟨x3, x4⟩, hx'⟩⟩ := z; dsimp only at hx0 ⊢)
    | ((with_reducible show CallEv _ _ 74 _ _ _ _ _); refine callE (k := 74) (fun β w' hbw => h74 _ _ _ _ w' hbw.2.1 hbw.2.2) ?_)
  all_goals first | (exfalso; omega) | exact ⟨fun β => rfl, fun w' h => h.1⟩
end Go.Proofs.Ytaciigegbgnadaa
