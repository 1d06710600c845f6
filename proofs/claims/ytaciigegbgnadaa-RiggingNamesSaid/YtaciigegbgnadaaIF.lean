/- The reference: what a load pulls; pulls that are drawn: what Pull and drawn return. -/
import Derived.Test.YtaciigegbgnadaaHD
import Derived.Test.YtaciigegbgnadaaPo
namespace Go.Proofs.Ytaciigegbgnadaa
open Go Tx Go.RowKit
set_option linter.unusedSimpArgs false
set_option linter.unusedVariables false

theorem u32_under : Try.prog.underlying 132 = some (.int .u32) := by kernel_rfl
theorem u16_under : Try.prog.underlying 70 = some (.int .u16) := by kernel_rfl
theorem u8_under : Try.prog.underlying 5 = some (.int .u8) := by kernel_rfl
theorem under3' : Try.prog.underlying 3 = some (.int .i64) := by kernel_rfl
theorem cv32 (n : Int) (h : 0 ≤ n ∧ n ≤ 4294967295) : RunIs Try.prog (convert 132 3 (.int .u32 n)) (iv n) := fun w => by
  have h3 : IntKind.i64.wrap n = n := IR.wrap (k := .i64) ⟨by omega, by omega⟩
  simp [convert, Conv.intToInt, Go.run_underlying u32_under w, Go.run_underlying under3' w, h3]
theorem cv16 (n : Int) (h : 0 ≤ n ∧ n ≤ 65535) : RunIs Try.prog (convert 70 3 (.int .u16 n)) (iv n) := fun w => by
  have h3 : IntKind.i64.wrap n = n := IR.wrap (k := .i64) ⟨by omega, by omega⟩
  simp [convert, Conv.intToInt, Go.run_underlying u16_under w, Go.run_underlying under3' w, h3]
theorem cv8 (n : Int) (h : 0 ≤ n ∧ n ≤ 255) : RunIs Try.prog (convert 5 3 (.int .u8 n)) (iv n) := fun w => by
  have h3 : IntKind.i64.wrap n = n := IR.wrap (k := .i64) ⟨by omega, by omega⟩
  simp [convert, Conv.intToInt, Go.run_underlying u8_under w, Go.run_underlying under3' w, h3]

set_option maxHeartbeats 1000000 in
set_option maxRecDepth 100000 in
theorem PullR_ok (r : Rig) (LL : List Ld) (k : Nat) (l : Ld) (w : World) (hrd : Rd 5 Ld.cs (.slice r.lo LL.length r.lc) LL w) (hn : r.ln = LL.length) (hk : LL[k]? = some l) (hl : LL.length ≤ 1000000)
    (hkind : l.kind ≤ 2) (hhi : 0 ≤ l.hi ∧ l.hi ≤ 1000000000) (hf : 0 ≤ r.fac l.kind ∧ r.fac l.kind ≤ 1000000) :
    Calls Try.prog 45 #[r.v, iv k] w fun e w' => e = .returned (.agg #[iv l.lo, iv (hiP r l)]) ∧ Below w.heap.size w w' := by
  obtain ⟨po, pn, pc, bo, bn, bc, f0, f1, f2, lo, ln, lc⟩ := r
  dsimp only at hrd hn
  subst hn
  refine calls_val env mixed Try.func45 has45 Try.ntmps45 [.agg #[.slice po pn pc, .slice bo bn bc, iv f0, iv f1, iv f2, .slice lo LL.length lc], iv k] (by simp) ?_
  have hkl := (List.getElem?_eq_some_iff.1 hk).1
  obtain ⟨_, ad, rfl, _⟩ := hrd.ptr (by omega)
  have e1 := fun (w' : World) hw' => rd_fld (hrd.below (w' := w') hw') hk
  obtain ⟨lb, la, lk, ll, lh⟩ := l
  dsimp only at *
  unfold hiP
  have hm0 : 0 ≤ lh * Rig.fac ⟨po, pn, pc, bo, bn, bc, f0, f1, f2, some ad, LL.length, lc⟩ lk := Int.mul_nonneg hhi.1 hf.1
  have hm1 : lh * Rig.fac ⟨po, pn, pc, bo, bn, bc, f0, f1, f2, some ad, LL.length, lc⟩ lk ≤ 1000000000 * 1000000 := Int.mul_le_mul hhi.2 hf.2 hf.1 (by omega)
  dsimp only
  obtain rfl | rfl | rfl : lk = 0 ∨ lk = 1 ∨ lk = 2 := by omega
  all_goals simp only [Rig.fac] at hf hm0 hm1
  all_goals skip
  repeat'
   conv => whnf
   first
    | refine zA ?_ | refine zB ?_ | refine zC ?_ | refine zD ?_ | refine zE ?_ | refine zF ?_ | refine zG ?_ | refine zH ?_ | refine zI ?_ | refine splT ?_ | refine splF ?_ | refine splNot ?_
    | ((first | refine splIn (fun hc => ?_) (fun hc => ?_) | refine splD (fun hc => ?_) (fun hc => ?_) | refine splE (fun hc => ?_) (fun hc => ?_) | refine splNE (fun hc => ?_) (fun hc => ?_)) <;> first | (exfalso; omega) | (exfalso; dsimp only at hc; omega) | skip)
    | refine Exists.intro (α := List Value) [iv ll] ⟨⟨rfl, fun w' hw' => e1 w' hw' 3 _ rfl⟩, ?_⟩
    | refine Exists.intro (α := List Value) [iv lh] ⟨⟨rfl, fun w' hw' => e1 w' hw' 4 _ rfl⟩, ?_⟩
    | refine Exists.intro (α := List Value) [.int .u8 0] ⟨⟨rfl, fun w' hw' => e1 w' hw' 2 _ rfl⟩, ?_⟩
    | refine Exists.intro (α := List Value) [.int .u8 1] ⟨⟨rfl, fun w' hw' => e1 w' hw' 2 _ rfl⟩, ?_⟩
    | refine Exists.intro (α := List Value) [.int .u8 2] ⟨⟨rfl, fun w' hw' => e1 w' hw' 2 _ rfl⟩, ?_⟩
    | refine quoE (by omega) (by omega) (And.intro (by omega) (by omega)) ?_
  all_goals conv => whnf
  all_goals exact ⟨fun β => rfl, fun w' h => h⟩

abbrev uF (n : Int) : List Value := [.int .u32 n]
/-- Pulls of loads, chosen by numbers. -/
def drN (by_ : List Int) (k : Nat) : Int := if 0 < by_.length then by_.getD (k % by_.length) 0 else 0
def drV (r : Rig) (l : Ld) (n : Int) : Int := l.lo + n % (hiP r l - l.lo + 1)
def drL (r : Rig) (LL : List Ld) (by_ : List Int) : List Int := (List.range LL.length).map fun k => match LL[k]? with | some l => drV r l (drN by_ k) | none => 0
theorem drL_at {r : Rig} {LL : List Ld} {by_ : List Int} {k : Nat} {l : Ld} (h : LL[k]? = some l) : (drL r LL by_)[k]? = some (drV r l (drN by_ k)) := by
  have := (List.getElem?_eq_some_iff.1 h).1
  unfold drL
  rw [rng_at _ this, h]
theorem drL_len (r : Rig) (LL : List Ld) (by_ : List Int) : (drL r LL by_).length = LL.length := by simp [drL]
theorem pulB_of {r : Rig} : ∀ {L : List Ld} {P : List Int}, P.length = L.length → (∀ (k : Nat) n l, P[k]? = some n → L[k]? = some l → l.lo ≤ n ∧ n ≤ hiP r l) → pulB r L P = true
  | [], [], _, _ => rfl
  | [], n :: P, h, _ => by simp at h
  | l :: L, [], h, _ => by simp at h
  | l :: L, n :: P, h, hp => by
    rw [pulB, Bool.and_eq_true, inB_iff]
    exact ⟨hp 0 n l rfl rfl, pulB_of (by simpa using h) fun k n' l' h1 h2 => hp (k + 1) n' l' (by simpa using h1) (by simpa using h2)⟩
theorem drL_pul {r : Rig} {PP : List Int} {BB : List Bm} {LL : List Ld} (hr : rigOk r.f0 r.f1 r.f2 PP BB LL = true) (by_ : List Int) : pulB r LL (drL r LL by_) = true := by
  refine pulB_of (drL_len _ _ _) fun k n l h1 h2 => ?_
  rw [drL_at h2, Option.some.injEq] at h1
  have hri := rigOk_iff.1 hr
  have hlo := List.all_eq_true.1 hri.2.2.2.2.2.2 l (List.mem_of_getElem? h2)
  rw [ldOk_iff] at hlo
  have hb := hiP_bd (fac_bd (r := r) hri.2.2.2.2.2.1 l.kind) hlo.2.2.2.1
  unfold drV at h1
  have e1 := Int.emod_nonneg (drN by_ k) (b := hiP r l - l.lo + 1) (by omega)
  have e2 := Int.emod_lt_of_pos (drN by_ k) (b := hiP r l - l.lo + 1) (by omega)
  omega

set_option maxHeartbeats 4000000 in
set_option maxRecDepth 100000 in
theorem drawn_ok (r : Rig) (PP : List Int) (BB : List Bm) (LL : List Ld) (U : List Int) (uo : Option Addr) (uc : Nat) (w : World) (h : RigIn r PP BB LL w) (hr : rigOk r.f0 r.f1 r.f2 PP BB LL = true) (hU : Rd 1 uF (.slice uo U.length uc) U w) (hul : U.length ≤ 9223372036854775807) (hu : ∀ n ∈ U, 0 ≤ n ∧ n ≤ 4294967295) :
    Calls Try.prog 28 #[r.v, .slice uo U.length uc] w fun e w' => ∃ y : Option Addr × Nat, e = .returned (sV LL.length y) ∧ Below w.heap.size w w' ∧ St w.heap.size (Rd 1 iF (sV LL.length y) (drL r LL U)) w' := by
  obtain ⟨po, pn, pc, bo, bn, bc, f0, f1, f2, lo, ln, lc⟩ := r
  obtain ⟨hP, hB, hL, rfl, rfl, rfl, l1, l2, l3⟩ := h
  dsimp only at hP hB hL l1 l2 l3 hr ⊢
  refine calls_fam env mixed Try.func28 has28 Try.ntmps28 [.agg #[.slice po PP.length pc, .slice bo BB.length bc, iv f0, iv f1, iv f2, .slice lo LL.length lc], .slice uo U.length uc] (by simp) ?_
  have hl := drL_len ⟨po, PP.length, pc, bo, BB.length, bc, f0, f1, f2, lo, LL.length, lc⟩ LL U
  have hat := fun (k : Nat) (l : Ld) (h : LL[k]? = some l) => drL_at (r := ⟨po, PP.length, pc, bo, BB.length, bc, f0, f1, f2, lo, LL.length, lc⟩) (by_ := U) h
  generalize hA : drL ⟨po, PP.length, pc, bo, BB.length, bc, f0, f1, f2, lo, LL.length, lc⟩ LL U = A at *
  repeat'
   conv => whnf
   first
    | refine zA ?_ | refine zB ?_ | refine zC ?_ | refine zD ?_ | refine zE ?_ | refine zF ?_ | refine zG ?_ | refine zH ?_ | refine zI ?_ | refine splT ?_ | refine splF ?_ | refine splNot ?_
    | ((first | refine splIn (fun hc => ?_) (fun hc => ?_) | refine splD (fun hc => ?_) (fun hc => ?_) | refine splE (fun hc => ?_) (fun hc => ?_) | refine splNE (fun hc => ?_) (fun hc => ?_)) <;> first | (exfalso; omega) | (exfalso; dsimp only at hc; omega) | skip)
  refine loopN 3 (fun k : Nat => [(1, .v (.slice uo U.length uc)), (2, .ptr 0 0), (5, oSV 1 2 (A.take k)), (6, .v (iv k))]) (fun k => (0, .cells [.v (.slice po PP.length pc), .v (.slice bo BB.length bc), .v (iv f0), .v (iv f1), .v (iv f2), .v (.slice lo LL.length lc)] 48) :: oM 1 2 1 iF 3 (A.take k))
    (fun k => k ≤ LL.length) (fun k => LL.length - k) 0 (Nat.zero_le _) ⟨rfl, rfl, rfl, rfl, trivial⟩ ⟨rfl, trivial⟩ (fun k _ => by cases A.take k <;> exact ⟨rfl, rfl⟩) ?_
  intro k hk
  rcases Nat.lt_or_ge k LL.length with hkl | hkl
  · obtain ⟨l, hb⟩ : ∃ b, LL[k]? = some b := ⟨_, List.getElem?_eq_getElem hkl⟩
    have hri := rigOk_iff.1 hr
    have hlo := List.all_eq_true.1 hri.2.2.2.2.2.2 l (List.mem_of_getElem? hb)
    rw [ldOk_iff] at hlo
    have hfac := fac_bd (r := ⟨po, PP.length, pc, bo, BB.length, bc, f0, f1, f2, lo, LL.length, lc⟩) hri.2.2.2.2.2.1 l.kind
    have hp := fun (w' : World) (hb' : Below w.heap.size w w') => PullR_ok ⟨po, PP.length, pc, bo, BB.length, bc, f0, f1, f2, lo, LL.length, lc⟩ LL k l w' (hL.below hb') rfl hb l3 (by omega) (by omega) (by omega)
    have hbd := hiP_bd hfac hlo.2.2.2.1
    have ht : A.take (k + 1) = A.take k ++ [drV ⟨po, PP.length, pc, bo, BB.length, bc, f0, f1, f2, lo, LL.length, lc⟩ l (drN U k)] := by rw [List.take_add_one, hat k l hb]; rfl
    have hlen : (A.take k).length ≤ k := List.length_take_le _ _
    have hlk : (A.take k).length ≤ 20 := by omega
    unfold drV at ht
    generalize hiP ⟨po, PP.length, pc, bo, BB.length, bc, f0, f1, f2, lo, LL.length, lc⟩ l = hi at *
    obtain ⟨ll, hll⟩ : ∃ x, l.lo = x := ⟨_, rfl⟩
    rw [hll] at hp ht hlo
    have e1 := Int.emod_nonneg (drN U k) (b := hi - ll + 1) (by omega)
    have e2 := Int.emod_lt_of_pos (drN U k) (b := hi - ll + 1) (by omega)
    generalize A.take k = T at *
    by_cases hu0 : 0 < U.length
    · obtain ⟨n, hn⟩ : ∃ n, U[k % U.length]? = some n := ⟨_, List.getElem?_eq_getElem (Nat.mod_lt _ hu0)⟩
      have hnb := hu n (List.mem_of_getElem? hn)
      obtain ⟨_, ad, rfl, _⟩ := hU.ptr hu0
      have hz : (k : Int) % (U.length : Int) = ((k % U.length : Nat) : Int) := (Int.natCast_emod k U.length).symm
      have hzl : k % U.length < U.length := Nat.mod_lt _ hu0
      have eU := fun (w' : World) (hw' : Below w.heap.size w w') => rd_ati (hU.below hw') hn
      have hdn : drN U k = n := by unfold drN; rw [if_pos hu0, List.getD_eq_getElem?_getD, hn]; rfl
      rw [hdn] at ht e1 e2
      generalize k % U.length = kk at *
      cases T with
      | nil =>
        repeat'
         conv => whnf
         first
          | refine zA ?_ | refine zB ?_ | refine zC ?_ | refine zD ?_ | refine zE ?_ | refine zF ?_ | refine zG ?_ | refine zH ?_ | refine zI ?_ | refine splT ?_ | refine splF ?_ | refine splNot ?_
          | ((first | refine splIn (fun hc => ?_) (fun hc => ?_) | refine splD (fun hc => ?_) (fun hc => ?_) | refine splE (fun hc => ?_) (fun hc => ?_) | refine splNE (fun hc => ?_) (fun hc => ?_)) <;> first | (exfalso; omega) | (exfalso; dsimp only at hc; omega) | skip)
          | ((with_reducible show CallEv _ _ 45 _ _ _ _ _); refine callE (k := 45) (fun β w' hbw => hp _ hbw) ?_)
          | (refine remE (by omega) (by omega) ?_; rw [hz])
          | refine remE (by omega) (by omega) ?_
          | refine Exists.intro (α := List Value) [.int .u32 n] ⟨⟨rfl, fun w' hw' => eU w' hw'⟩, ?_⟩
          | refine Exists.intro (α := Value) (iv n) ⟨cv32 n hnb, ?_⟩
        all_goals first | (exfalso; omega) | exact ⟨k + 1, by omega, by omega, Ent.ren (rho [(1, 5), (2, 6)]) rfl (by rw [ht]; rfl) ⟨rfl, rfl, by rw [ht]; rfl, rfl, trivial⟩ (by rw [ht]; exact ⟨rfl, rfl, trivial⟩) fun _ h => h⟩
      | cons a T =>
        simp only [List.length_cons] at hlen hlk
        repeat'
         conv => whnf
         first
          | refine zA ?_ | refine zB ?_ | refine zC ?_ | refine zD ?_ | refine zE ?_ | refine zF ?_ | refine zG ?_ | refine zH ?_ | refine zI ?_ | refine splT ?_ | refine splF ?_ | refine splNot ?_
          | ((first | refine splIn (fun hc => ?_) (fun hc => ?_) | refine splD (fun hc => ?_) (fun hc => ?_) | refine splE (fun hc => ?_) (fun hc => ?_) | refine splNE (fun hc => ?_) (fun hc => ?_)) <;> first | (exfalso; omega) | (exfalso; dsimp only at hc; omega) | skip)
          | ((with_reducible show CallEv _ _ 45 _ _ _ _ _); refine callE (k := 45) (fun β w' hbw => hp _ hbw) ?_)
          | (refine remE (by omega) (by omega) ?_; rw [hz])
          | refine remE (by omega) (by omega) ?_
          | refine Exists.intro (α := List Value) [.int .u32 n] ⟨⟨rfl, fun w' hw' => eU w' hw'⟩, ?_⟩
          | refine Exists.intro (α := Value) (iv n) ⟨cv32 n hnb, ?_⟩
        all_goals first | (exfalso; omega) | exact ⟨k + 1, by omega, by omega, Ent.ren (rho [(1, 5), (2, 6)]) rfl (by rw [ht]; rfl) ⟨rfl, rfl, by rw [ht]; simp [oSV]; rfl, rfl, trivial⟩ (by rw [ht]; exact ⟨rfl, by simp [oM]; rfl, trivial⟩) fun _ h => h⟩
    · have hdn : drN U k = 0 := by unfold drN; rw [if_neg hu0]
      rw [hdn] at ht e1 e2
      cases T with
      | nil =>
        repeat'
         conv => whnf
         first
          | refine zA ?_ | refine zB ?_ | refine zC ?_ | refine zD ?_ | refine zE ?_ | refine zF ?_ | refine zG ?_ | refine zH ?_ | refine zI ?_ | refine splT ?_ | refine splF ?_ | refine splNot ?_
          | ((first | refine splIn (fun hc => ?_) (fun hc => ?_) | refine splD (fun hc => ?_) (fun hc => ?_) | refine splE (fun hc => ?_) (fun hc => ?_) | refine splNE (fun hc => ?_) (fun hc => ?_)) <;> first | (exfalso; omega) | (exfalso; dsimp only at hc; omega) | skip)
          | ((with_reducible show CallEv _ _ 45 _ _ _ _ _); refine callE (k := 45) (fun β w' hbw => hp _ hbw) ?_)
          | refine remE (by omega) (by omega) ?_
        all_goals first | (exfalso; omega) | exact ⟨k + 1, by omega, by omega, Ent.ren (rho [(1, 5), (2, 6)]) rfl (by rw [ht]; rfl) ⟨rfl, rfl, by rw [ht]; rfl, rfl, trivial⟩ (by rw [ht]; exact ⟨rfl, rfl, trivial⟩) fun _ h => h⟩
      | cons a T =>
        simp only [List.length_cons] at hlen hlk
        repeat'
         conv => whnf
         first
          | refine zA ?_ | refine zB ?_ | refine zC ?_ | refine zD ?_ | refine zE ?_ | refine zF ?_ | refine zG ?_ | refine zH ?_ | refine zI ?_ | refine splT ?_ | refine splF ?_ | refine splNot ?_
          | ((first | refine splIn (fun hc => ?_) (fun hc => ?_) | refine splD (fun hc => ?_) (fun hc => ?_) | refine splE (fun hc => ?_) (fun hc => ?_) | refine splNE (fun hc => ?_) (fun hc => ?_)) <;> first | (exfalso; omega) | (exfalso; dsimp only at hc; omega) | skip)
          | ((with_reducible show CallEv _ _ 45 _ _ _ _ _); refine callE (k := 45) (fun β w' hbw => hp _ hbw) ?_)
          | refine remE (by omega) (by omega) ?_
        all_goals first | (exfalso; omega) | exact ⟨k + 1, by omega, by omega, Ent.ren (rho [(1, 5), (2, 6)]) rfl (by rw [ht]; rfl) ⟨rfl, rfl, by rw [ht]; simp [oSV]; rfl, rfl, trivial⟩ (by rw [ht]; exact ⟨rfl, by simp [oM]; rfl, trivial⟩) fun _ h => h⟩
  · rw [List.take_of_length_le (by omega)]
    rw [← hl]
    cases A with
    | nil =>
      repeat'
       conv => whnf
       first
        | refine zA ?_ | refine zB ?_ | refine zC ?_ | refine zD ?_ | refine zE ?_ | refine zF ?_ | refine zG ?_ | refine zH ?_ | refine zI ?_ | refine splT ?_ | refine splF ?_ | refine splNot ?_
        | ((first | refine splIn (fun hc => ?_) (fun hc => ?_) | refine splD (fun hc => ?_) (fun hc => ?_) | refine splE (fun hc => ?_) (fun hc => ?_) | refine splNE (fun hc => ?_) (fun hc => ?_)) <;> first | (exfalso; omega) | (exfalso; dsimp only at hc; omega) | skip)
      all_goals first | (exfalso; simp at hl; omega) | exact ⟨fun w' h => h, fun β w' hB hblk => oNil (i := 1) (j := 2) (f := iF) (sz := 1)⟩
    | cons a L =>
      repeat'
       conv => whnf
       first
        | refine zA ?_ | refine zB ?_ | refine zC ?_ | refine zD ?_ | refine zE ?_ | refine zF ?_ | refine zG ?_ | refine zH ?_ | refine zI ?_ | refine splT ?_ | refine splF ?_ | refine splNot ?_
        | ((first | refine splIn (fun hc => ?_) (fun hc => ?_) | refine splD (fun hc => ?_) (fun hc => ?_) | refine splE (fun hc => ?_) (fun hc => ?_) | refine splNE (fun hc => ?_) (fun hc => ?_)) <;> first | (exfalso; omega) | (exfalso; dsimp only at hc; omega) | skip)
      all_goals first | (exfalso; omega) | exact ⟨fun w' h => h, fun β w' hB hblk => oEnd (sz := 1) (f := iF) (fun _ => rfl) a L (hblk 1 _ rfl rfl)⟩
end Go.Proofs.Ytaciigegbgnadaa
