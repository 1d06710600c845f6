/- drawn: its row as the caller's own; without loads it is nil. -/
import Derived.Test.YtaciigegbgnadaaJF
import Derived.Test.YtaciigegbgnadaaIF
namespace Go.Proofs.Ytaciigegbgnadaa
open Go Tx Go.RowKit
set_option linter.unusedSimpArgs false
set_option linter.unusedVariables false

set_option maxHeartbeats 4000000 in
set_option maxRecDepth 100000 in
theorem drawn_own (r : Rig) (PP : List Int) (BB : List Bm) (LL : List Ld) (U : List Int) (uo : Option Addr) (uc : Nat) (w : World) (h : RigIn r PP BB LL w) (hr : rigOk r.f0 r.f1 r.f2 PP BB LL = true) (hU : Rd 1 uF (.slice uo U.length uc) U w) (hul : U.length ≤ 9223372036854775807) (hu : ∀ n ∈ U, 0 ≤ n ∧ n ≤ 4294967295) (hne : LL ≠ []) :
    Calls Try.prog 28 #[r.v, .slice uo U.length uc] w fun e w' => ∃ b c, e = .returned (.slice (some ⟨b, 0, none⟩) LL.length c) ∧ w.heap.size ≤ b ∧ Below w.heap.size w w' ∧ w'.ownsRow 0 3 1 (.slice (some ⟨b, 0, none⟩) LL.length c) LL.length ((drL r LL U).flatMap iF) := by
  obtain ⟨po, pn, pc, bo, bn, bc, f0, f1, f2, lo, ln, lc⟩ := r
  obtain ⟨hP, hB, hL, rfl, rfl, rfl, l1, l2, l3⟩ := h
  dsimp only at hP hB hL l1 l2 l3 hr ⊢
  refine calls_fam2 env mixed Try.func28 has28 Try.ntmps28 [.agg #[.slice po PP.length pc, .slice bo BB.length bc, iv f0, iv f1, iv f2, .slice lo LL.length lc], .slice uo U.length uc] (by simp) ?_
  have hl := drL_len ⟨po, PP.length, pc, bo, BB.length, bc, f0, f1, f2, lo, LL.length, lc⟩ LL U
  have hat := fun (k : Nat) (l : Ld) (h : LL[k]? = some l) => drL_at (r := ⟨po, PP.length, pc, bo, BB.length, bc, f0, f1, f2, lo, LL.length, lc⟩) (by_ := U) h
  generalize hA : drL ⟨po, PP.length, pc, bo, BB.length, bc, f0, f1, f2, lo, LL.length, lc⟩ LL U = A at *
  repeat'
   conv => whnf
   first
    | refine zA ?_ | refine zB ?_ | refine zC ?_ | refine zD ?_ | refine zE ?_ | refine zF ?_ | refine zG ?_ | refine zH ?_ | refine zI ?_ | refine splT ?_ | refine splF ?_ | refine splNot ?_
    | ((first | refine splIn (fun hc => ?_) (fun hc => ?_) | refine splD (fun hc => ?_) (fun hc => ?_) | refine splE (fun hc => ?_) (fun hc => ?_) | refine splNE (fun hc => ?_) (fun hc => ?_)) <;> first | (exfalso; omega) | (exfalso; dsimp only at hc; omega) | skip)
  refine loopN 3 (fun k : Nat => [(1, .v (.slice uo U.length uc)), (2, .ptr 0 0), (5, oSV 1 2 (A.take k)), (6, .v (iv k))]) (fun k => (0, .cells [.v (.slice po PP.length pc), .v (.slice bo BB.length bc), .v (iv f0), .v (iv f1), .v (iv f2), .v (.slice lo LL.length lc)] 48) :: oM 1 2 1 iF 3 (A.take k))
    (fun k => k ≤ LL.length) (fun k => LL.length - k) 0 (Nat.zero_le _) ⟨rfl, rfl, rfl, rfl, trivial⟩ ⟨rfl, trivial⟩ (fun k _ => by cases A.take k <;> exact ⟨rfl, rfl⟩) ?_
  intro k hk
  rcases Nat.lt_or_ge k LL.length with hkl | hkl
  · obtain ⟨l, hb⟩ : ∃ b, LL[k]? = some b := ⟨_, List.getElem?_eq_getElem hkl⟩
    have hri := rigOk_iff.1 hr
    have hlo := List.all_eq_true.1 hri.2.2.2.2.2.2 l (List.mem_of_getElem? hb)
    rw [ldOk_iff] at hlo
    have hfac := fac_bd (r := ⟨po, PP.length, pc, bo, BB.length, bc, f0, f1, f2, lo, LL.length, lc⟩) hri.2.2.2.2.2.1 l.kind
    have hp := fun (w' : World) (hb' : Below w.heap.size w w') => PullR_ok ⟨po, PP.length, pc, bo, BB.length, bc, f0, f1, f2, lo, LL.length, lc⟩ LL k l w' (hL.below hb') rfl hb l3 (by omega) (by omega) (by omega)
    have hbd := hiP_bd hfac hlo.2.2.2.1
    have ht : A.take (k + 1) = A.take k ++ [drV ⟨po, PP.length, pc, bo, BB.length, bc, f0, f1, f2, lo, LL.length, lc⟩ l (drN U k)] := by rw [List.take_add_one, hat k l hb]; rfl
    have hlen : (A.take k).length ≤ k := List.length_take_le _ _
    have hlk : (A.take k).length ≤ 20 := by omega
    unfold drV at ht
    generalize hiP ⟨po, PP.length, pc, bo, BB.length, bc, f0, f1, f2, lo, LL.length, lc⟩ l = hi at *
    obtain ⟨ll, hll⟩ : ∃ x, l.lo = x := ⟨_, rfl⟩
    rw [hll] at hp ht hlo
    have e1 := Int.emod_nonneg (drN U k) (b := hi - ll + 1) (by omega)
    have e2 := Int.emod_lt_of_pos (drN U k) (b := hi - ll + 1) (by omega)
    generalize A.take k = T at *
    by_cases hu0 : 0 < U.length
    · obtain ⟨n, hn⟩ : ∃ n, U[k % U.length]? = some n := ⟨_, List.getElem?_eq_getElem (Nat.mod_lt _ hu0)⟩
      have hnb := hu n (List.mem_of_getElem? hn)
      obtain ⟨_, ad, rfl, _⟩ := hU.ptr hu0
      have hz : (k : Int) % (U.length : Int) = ((k % U.length : Nat) : Int) := (Int.natCast_emod k U.length).symm
      have hzl : k % U.length < U.length := Nat.mod_lt _ hu0
      have eU := fun (w' : World) (hw' : Below w.heap.size w w') => rd_ati (hU.below hw') hn
      have hdn : drN U k = n := by unfold drN; rw [if_pos hu0, List.getD_eq_getElem?_getD, hn]; rfl
      rw [hdn] at ht e1 e2
      generalize k % U.length = kk at *
      cases T with
      | nil =>
        repeat'
         conv => whnf
         first
          | refine zA ?_ | refine zB ?_ | refine zC ?_ | refine zD ?_ | refine zE ?_ | refine zF ?_ | refine zG ?_ | refine zH ?_ | refine zI ?_ | refine splT ?_ | refine splF ?_ | refine splNot ?_
          | ((first | refine splIn (fun hc => ?_) (fun hc => ?_) | refine splD (fun hc => ?_) (fun hc => ?_) | refine splE (fun hc => ?_) (fun hc => ?_) | refine splNE (fun hc => ?_) (fun hc => ?_)) <;> first | (exfalso; omega) | (exfalso; dsimp only at hc; omega) | skip)
          | ((with_reducible show CallEv _ _ 45 _ _ _ _ _); refine callE (k := 45) (fun β w' hbw => hp _ hbw) ?_)
          | (refine remE (by omega) (by omega) ?_; rw [hz])
          | refine remE (by omega) (by omega) ?_
          | refine Exists.intro (α := List Value) [.int .u32 n] ⟨⟨rfl, fun w' hw' => eU w' hw'⟩, ?_⟩
          | refine Exists.intro (α := Value) (iv n) ⟨cv32 n hnb, ?_⟩
        all_goals first | (exfalso; omega) | exact ⟨k + 1, by omega, by omega, Ent.ren (rho [(1, 5), (2, 6)]) rfl (by rw [ht]; rfl) ⟨rfl, rfl, by rw [ht]; rfl, rfl, trivial⟩ (by rw [ht]; exact ⟨rfl, rfl, trivial⟩) fun _ h => h⟩
      | cons a T =>
        simp only [List.length_cons] at hlen hlk
        repeat'
         conv => whnf
         first
          | refine zA ?_ | refine zB ?_ | refine zC ?_ | refine zD ?_ | refine zE ?_ | refine zF ?_ | refine zG ?_ | refine zH ?_ | refine zI ?_ | refine splT ?_ | refine splF ?_ | refine splNot ?_
          | ((first | refine splIn (fun hc => ?_) (fun hc => ?_) | refine splD (fun hc => ?_) (fun hc => ?_) | refine splE (fun hc => ?_) (fun hc => ?_) | refine splNE (fun hc => ?_) (fun hc => ?_)) <;> first | (exfalso; omega) | (exfalso; dsimp only at hc; omega) | skip)
          | ((with_reducible show CallEv _ _ 45 _ _ _ _ _); refine callE (k := 45) (fun β w' hbw => hp _ hbw) ?_)
          | (refine remE (by omega) (by omega) ?_; rw [hz])
          | refine remE (by omega) (by omega) ?_
          | refine Exists.intro (α := List Value) [.int .u32 n] ⟨⟨rfl, fun w' hw' => eU w' hw'⟩, ?_⟩
          | refine Exists.intro (α := Value) (iv n) ⟨cv32 n hnb, ?_⟩
        all_goals first | (exfalso; omega) | exact ⟨k + 1, by omega, by omega, Ent.ren (rho [(1, 5), (2, 6)]) rfl (by rw [ht]; rfl) ⟨rfl, rfl, by rw [ht]; simp [oSV]; rfl, rfl, trivial⟩ (by rw [ht]; exact ⟨rfl, by simp [oM]; rfl, trivial⟩) fun _ h => h⟩
    · have hdn : drN U k = 0 := by unfold drN; rw [if_neg hu0]
      rw [hdn] at ht e1 e2
      cases T with
      | nil =>
        repeat'
         conv => whnf
         first
          | refine zA ?_ | refine zB ?_ | refine zC ?_ | refine zD ?_ | refine zE ?_ | refine zF ?_ | refine zG ?_ | refine zH ?_ | refine zI ?_ | refine splT ?_ | refine splF ?_ | refine splNot ?_
          | ((first | refine splIn (fun hc => ?_) (fun hc => ?_) | refine splD (fun hc => ?_) (fun hc => ?_) | refine splE (fun hc => ?_) (fun hc => ?_) | refine splNE (fun hc => ?_) (fun hc => ?_)) <;> first | (exfalso; omega) | (exfalso; dsimp only at hc; omega) | skip)
          | ((with_reducible show CallEv _ _ 45 _ _ _ _ _); refine callE (k := 45) (fun β w' hbw => hp _ hbw) ?_)
          | refine remE (by omega) (by omega) ?_
        all_goals first | (exfalso; omega) | exact ⟨k + 1, by omega, by omega, Ent.ren (rho [(1, 5), (2, 6)]) rfl (by rw [ht]; rfl) ⟨rfl, rfl, by rw [ht]; rfl, rfl, trivial⟩ (by rw [ht]; exact ⟨rfl, rfl, trivial⟩) fun _ h => h⟩
      | cons a T =>
        simp only [List.length_cons] at hlen hlk
        repeat'
         conv => whnf
         first
          | refine zA ?_ | refine zB ?_ | refine zC ?_ | refine zD ?_ | refine zE ?_ | refine zF ?_ | refine zG ?_ | refine zH ?_ | refine zI ?_ | refine splT ?_ | refine splF ?_ | refine splNot ?_
          | ((first | refine splIn (fun hc => ?_) (fun hc => ?_) | refine splD (fun hc => ?_) (fun hc => ?_) | refine splE (fun hc => ?_) (fun hc => ?_) | refine splNE (fun hc => ?_) (fun hc => ?_)) <;> first | (exfalso; omega) | (exfalso; dsimp only at hc; omega) | skip)
          | ((with_reducible show CallEv _ _ 45 _ _ _ _ _); refine callE (k := 45) (fun β w' hbw => hp _ hbw) ?_)
          | refine remE (by omega) (by omega) ?_
        all_goals first | (exfalso; omega) | exact ⟨k + 1, by omega, by omega, Ent.ren (rho [(1, 5), (2, 6)]) rfl (by rw [ht]; rfl) ⟨rfl, rfl, by rw [ht]; simp [oSV]; rfl, rfl, trivial⟩ (by rw [ht]; exact ⟨rfl, by simp [oM]; rfl, trivial⟩) fun _ h => h⟩
  · rw [List.take_of_length_le (by omega)]
    rw [← hl]
    cases A with
    | nil =>
      repeat'
       conv => whnf
       first
        | refine zA ?_ | refine zB ?_ | refine zC ?_ | refine zD ?_ | refine zE ?_ | refine zF ?_ | refine zG ?_ | refine zH ?_ | refine zI ?_ | refine splT ?_ | refine splF ?_ | refine splNot ?_
        | ((first | refine splIn (fun hc => ?_) (fun hc => ?_) | refine splD (fun hc => ?_) (fun hc => ?_) | refine splE (fun hc => ?_) (fun hc => ?_) | refine splNE (fun hc => ?_) (fun hc => ?_)) <;> first | (exfalso; omega) | (exfalso; dsimp only at hc; omega) | skip)
      all_goals first | (exfalso; simp at hl; omega) | (exfalso; exact hne (List.eq_nil_of_length_eq_zero hl.symm))
    | cons a L =>
      repeat'
       conv => whnf
       first
        | refine zA ?_ | refine zB ?_ | refine zC ?_ | refine zD ?_ | refine zE ?_ | refine zF ?_ | refine zG ?_ | refine zH ?_ | refine zI ?_ | refine splT ?_ | refine splF ?_ | refine splNot ?_
        | ((first | refine splIn (fun hc => ?_) (fun hc => ?_) | refine splD (fun hc => ?_) (fun hc => ?_) | refine splE (fun hc => ?_) (fun hc => ?_) | refine splNE (fun hc => ?_) (fun hc => ?_)) <;> first | (exfalso; omega) | (exfalso; dsimp only at hc; omega) | skip)
      all_goals first | (exfalso; omega) | exact ⟨fun w' h => h, fun β w' hB hB2 hblk => ⟨β 1, β 2, rfl, (hblk 1 _ rfl rfl).1, hB2, (hblk 1 _ rfl rfl).2⟩⟩

set_option maxRecDepth 100000 in
theorem drawn_nil (r : Rig) (uo : Option Addr) (un uc : Nat) (w : World) (hn : r.ln = 0) :
    Calls Try.prog 28 #[r.v, .slice uo un uc] w fun e w' => e = .returned (.slice none 0 0) ∧ Below w.heap.size w w' := by
  obtain ⟨po, pn, pc, bo, bn, bc, f0, f1, f2, lo, ln, lc⟩ := r
  dsimp only at hn
  subst hn
  refine calls_val env mixed Try.func28 has28 Try.ntmps28 [.agg #[.slice po pn pc, .slice bo bn bc, iv f0, iv f1, iv f2, .slice lo 0 lc], .slice uo un uc] (by simp) ?_
  repeat'
   conv => whnf
   first
    | refine zA ?_ | refine zB ?_ | refine zC ?_ | refine zD ?_ | refine zE ?_ | refine zF ?_ | refine zG ?_ | refine zH ?_ | refine zI ?_ | refine splT ?_ | refine splF ?_ | refine splNot ?_
    | ((first | refine splIn (fun hc => ?_) (fun hc => ?_) | refine splD (fun hc => ?_) (fun hc => ?_) | refine splE (fun hc => ?_) (fun hc => ?_) | refine splNE (fun hc => ?_) (fun hc => ?_)) <;> first | (exfalso; omega) | (exfalso; dsimp only at hc; omega) | skip)
  refine loopN 1 (fun k : Nat => [(2, .ptr 0 0), (5, .v (.slice none 0 0)), (6, .v (iv 0))]) (fun _ => [(0, .cells [.v (.slice po pn pc), .v (.slice bo bn bc), .v (iv f0), .v (iv f1), .v (iv f2), .v (.slice lo 0 lc)] 48)])
    (fun _ => True) (fun _ => 0) 0 trivial ⟨rfl, rfl, rfl, trivial⟩ ⟨rfl, trivial⟩ (fun _ _ => ⟨rfl, rfl⟩) ?_
  intro k _
  repeat'
   conv => whnf
   first
    | refine zA ?_ | refine zB ?_ | refine zC ?_ | refine zD ?_ | refine zE ?_ | refine zF ?_ | refine zG ?_ | refine zH ?_ | refine zI ?_ | refine splT ?_ | refine splF ?_ | refine splNot ?_
    | ((first | refine splIn (fun hc => ?_) (fun hc => ?_) | refine splD (fun hc => ?_) (fun hc => ?_) | refine splE (fun hc => ?_) (fun hc => ?_) | refine splNE (fun hc => ?_) (fun hc => ?_)) <;> first | (exfalso; omega) | (exfalso; dsimp only at hc; omega) | skip)
  all_goals first | (exfalso; omega) | exact ⟨fun β => rfl, fun w' h => h⟩
end Go.Proofs.Ytaciigegbgnadaa
