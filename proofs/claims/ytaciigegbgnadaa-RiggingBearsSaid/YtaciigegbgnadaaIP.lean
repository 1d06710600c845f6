/- RiggingBears answers true. -/
import Derived.Test.YtaciigegbgnadaaIN
import Derived.Test.YtaciigegbgnadaaIE
import Derived.Test.YtaciigegbgnadaaID
import Derived.Test.YtaciigegbgnadaaHF
namespace Go.Proofs.Ytaciigegbgnadaa
open Go Tx Go.RowKit
set_option linter.unusedSimpArgs false
set_option linter.unusedVariables false

theorem CheckRig_nr (PP : List Int) (BB : List Bm) (LL : List Ld) (f0 f1 f2 : Int) (y : (Option Addr × Nat) × (Option Addr × Nat) × (Option Addr × Nat)) (w : World) (h : nrH PP BB LL y w) (h1 : PP.length ≤ 1000000) (h2 : BB.length ≤ 1000000) (h3 : LL.length ≤ 1000000) :
    Calls Try.prog 34 #[nrV PP BB LL f0 f1 f2 y] w fun e w' => e = .returned (iv (if rigOk f0 f1 f2 PP BB LL = true then 0 else 1)) ∧ Below w.heap.size w w' := CheckRig_ok (nrR PP BB LL f0 f1 f2 y) PP BB LL w (h.rin h1 h2 h3)

set_option maxHeartbeats 8000000 in
set_option maxRecDepth 100000 in
theorem RiggingBears_ok (r : Rig) (PP : List Int) (BB : List Bm) (LL : List Ld) (P : List Int) (uo : Option Addr) (uc : Nat) (w : World) (hX : RigX r PP BB LL w) (hU : Rd 1 iF (.slice uo P.length uc) P w) (hul : P.length ≤ 9223372036854775807) :
    Calls Try.prog 7 #[r.v, .slice uo P.length uc] w fun e w' => e = .returned (.bool true) ∧ Below w.heap.size w w' := by
  have hpn := hX.pn
  have hbn := hX.bn
  have hln := hX.ln
  have pl := hX.pl
  have bl := hX.bl
  have ll := hX.ll
  have h33 := fun (w' : World) => Thin_ok r w' (by omega) (by omega) (by omega)
  have h27 := fun (w' : World) (hb : Below w.heap.size w w') => Right_ok r PP BB LL w' (hX.below hb)
  rw [hpn, hbn, hln] at h33
  by_cases hbig : thB PP.length BB.length LL.length = false ∨ 30 < P.length
  · obtain ⟨po, pn, pc, bo, bn, bc, f0, f1, f2, lo, ln, lc⟩ := r
    dsimp only at h33 hpn hbn hln
    refine calls_val env mixed Try.func7 has7 Try.ntmps7 [.agg #[.slice po pn pc, .slice bo bn bc, iv f0, iv f1, iv f2, .slice lo ln lc], .slice uo P.length uc] (by simp) ?_
    cases ht : thB PP.length BB.length LL.length
    all_goals rw [ht] at h33
    all_goals skip
    repeat'
     conv => whnf
     first
      | refine zA ?_ | refine zB ?_ | refine zC ?_ | refine zD ?_ | refine zE ?_ | refine zF ?_ | refine zG ?_ | refine zH ?_ | refine zI ?_ | refine splT ?_ | refine splF ?_ | refine splNot ?_
      | ((first | refine splIn (fun hc => ?_) (fun hc => ?_) | refine splD (fun hc => ?_) (fun hc => ?_) | refine splE (fun hc => ?_) (fun hc => ?_) | refine splNE (fun hc => ?_) (fun hc => ?_)) <;> first | (exfalso; omega) | (exfalso; dsimp only at hc; omega) | skip)
      | ((with_reducible show CallEv _ _ 33 _ _ _ _ _); refine callE (k := 33) (fun β w' hbw => h33 _) ?_)
      | ((with_reducible show CallEv _ _ 16 _ _ _ _ _); refine callE (k := 16) (fun β w' hbw => awake_ok _) ?_)
    all_goals first | (exfalso; omega) | exact ⟨fun β => rfl, fun w' h => h⟩ | (exfalso; rw [ht] at hbig; simp at hbig; omega)
  have ht : thB PP.length BB.length LL.length = true := by
    cases ht : thB PP.length BB.length LL.length
    · exact absurd (.inl ht) hbig
    · rfl
  have hp30 : P.length ≤ 30 := by omega
  rw [ht] at h33
  have hth : PP.length ≤ 16 ∧ BB.length ≤ 16 ∧ LL.length ≤ 24 := by simp [thB] at ht; omega
  clear hbig ht
  have h30 := fun (w' : World) (hb : Below w.heap.size w w') => Rig_ok r PP BB LL w' ((hX.rin (by omega) (by omega) (by omega)).below hb) (by omega) (by omega)
  have h31 := fun (w' : World) (hb : Below w.heap.size w w') => list_fam P uo uc w' (hU.below hb) (by omega)
  have h34 := fun (y : (Option Addr × Nat) × (Option Addr × Nat) × (Option Addr × Nat)) (w' : World) (h : nrH PP BB LL y w') => CheckRig_nr PP BB LL r.f0 r.f1 r.f2 y w' h (by omega) (by omega) (by omega)
  cases hr : rigOk r.f0 r.f1 r.f2 PP BB LL with
  | false =>
    rw [hr] at h27 h34
    rw [if_neg (by simp)] at h34
    have h29 := fun (y : (Option Addr × Nat) × (Option Addr × Nat) × (Option Addr × Nat)) (o : Option Addr) (c : Nat) (w' : World) (h : nrH PP BB LL y w') (hP : Rd 1 iF (.slice o P.length c) P w') => Bears_bad PP BB LL r.f0 r.f1 r.f2 r ⟨rfl, rfl, rfl⟩ P 1 (.inl ⟨hr, rfl⟩) y o c w' h (by omega) (by omega) (by omega) hP (by omega)
    obtain ⟨po, pn, pc, bo, bn, bc, f0, f1, f2, lo, ln, lc⟩ := r
    dsimp only at h29 h33 h30 h34 hpn hbn hln
    refine calls_val env mixed Try.func7 has7 Try.ntmps7 [.agg #[.slice po pn pc, .slice bo bn bc, iv f0, iv f1, iv f2, .slice lo ln lc], .slice uo P.length uc] (by simp) ?_
    repeat'
     conv => whnf
     first
      | refine zA ?_ | refine zB ?_ | refine zC ?_ | refine zD ?_ | refine zE ?_ | refine zF ?_ | refine zG ?_ | refine zH ?_ | refine zI ?_ | refine splT ?_ | refine splF ?_ | refine splNot ?_
      | ((first | refine splIn (fun hc => ?_) (fun hc => ?_) | refine splD (fun hc => ?_) (fun hc => ?_) | refine splE (fun hc => ?_) (fun hc => ?_) | refine splNE (fun hc => ?_) (fun hc => ?_)) <;> first | (exfalso; omega) | (exfalso; dsimp only at hc; omega) | skip)
      | ((with_reducible show CallEv _ _ 33 _ _ _ _ _); refine callE (k := 33) (fun β w' hbw => h33 _) ?_)
      | ((with_reducible show CallEv _ _ 16 _ _ _ _ _); refine callE (k := 16) (fun β w' hbw => awake_ok _) ?_)
      | ((with_reducible show CallEv _ _ 27 _ _ _ _ _); refine callE (k := 27) (fun β w' hbw => h27 _ (by first | exact hbw | exact hbw.1 | exact hbw.1.1 | exact hbw.1.1.1 | exact hbw.1.1.1.1 | exact hbw.1.1.1.1.1 | exact hbw.1.1.1.1.1.1 | exact hbw.1.1.1.1.1.1.1)) ?_)
      | ((with_reducible show CallEv _ _ 30 _ _ _ _ _); refine callF [] (nrV PP BB LL f0 f1 f2) (nrH PP BB LL) (fun β w' _ hbw => h30 w' (by first | exact hbw | exact hbw.1 | exact hbw.1.1 | exact hbw.1.1.1 | exact hbw.1.1.1.1 | exact hbw.1.1.1.1.1 | exact hbw.1.1.1.1.1.1 | exact hbw.1.1.1.1.1.1.1)) ?_; intro y; obtain ⟨⟨v1, v2⟩, ⟨v3, v4⟩, v5, v6⟩ := y; dsimp only)
      | ((with_reducible show CallEv _ _ 31 _ _ _ _ _); refine callF [] (fun y : Option Addr × Nat => sV P.length y) (fun y => Rd 1 iF (sV P.length y) P) (fun β w' _ hbw => h31 w' (by first | exact hbw | exact hbw.1 | exact hbw.1.1 | exact hbw.1.1.1 | exact hbw.1.1.1.1 | exact hbw.1.1.1.1.1 | exact hbw.1.1.1.1.1.1 | exact hbw.1.1.1.1.1.1.1)) ?_; intro y; obtain ⟨u1, u2⟩ := y; dsimp only)
      | ((with_reducible show CallEv _ _ 29 _ _ _ _ _); refine callF [] (fun z : (Option Addr × Nat) × (Option Addr × Nat) => .tuple #[sV 0 z.1, sV 0 z.2, iv 1]) (fun z w2 => True) (fun β w' _ hbw => h29 ((_, _), (_, _), (_, _)) _ _ w' hbw.1.2 hbw.2) ?_; intro z; obtain ⟨⟨z1, z2⟩, ⟨z3, z4⟩⟩ := z; dsimp only)
      | ((with_reducible show CallEv _ _ 34 _ _ _ _ _); refine callE (k := 34) (fun β w' hbw => h34 ((_, _), (_, _), (_, _)) w' hbw.2) ?_)
    all_goals first | (exfalso; omega) | exact ⟨fun β => rfl, fun w' h => (by first | exact h | exact h.1 | exact h.1.1 | exact h.1.1.1 | exact h.1.1.1.1 | exact h.1.1.1.1.1 | exact h.1.1.1.1.1.1 | exact h.1.1.1.1.1.1.1)⟩
  | true =>
    rw [hr] at h27 h34
    rw [if_pos rfl] at h34
    have h35 := fun (w' : World) (hb : Below w.heap.size w w') => PullsR_ok r PP BB LL P uo uc w' (hX.below hb) hr (hU.below hb) (by omega)
    cases hpu : pulB r LL P with
    | false =>
      rw [hpu] at h35
      have h29 := fun (y : (Option Addr × Nat) × (Option Addr × Nat) × (Option Addr × Nat)) (o : Option Addr) (c : Nat) (w' : World) (h : nrH PP BB LL y w') (hP : Rd 1 iF (.slice o P.length c) P w') => Bears_bad PP BB LL r.f0 r.f1 r.f2 r ⟨rfl, rfl, rfl⟩ P 2 (.inr ⟨hr, hpu, rfl⟩) y o c w' h (by omega) (by omega) (by omega) hP (by omega)
      obtain ⟨po, pn, pc, bo, bn, bc, f0, f1, f2, lo, ln, lc⟩ := r
      dsimp only at h29 h33 h30 h34 hpn hbn hln
      refine calls_val env mixed Try.func7 has7 Try.ntmps7 [.agg #[.slice po pn pc, .slice bo bn bc, iv f0, iv f1, iv f2, .slice lo ln lc], .slice uo P.length uc] (by simp) ?_
      repeat'
       conv => whnf
       first
        | refine zA ?_ | refine zB ?_ | refine zC ?_ | refine zD ?_ | refine zE ?_ | refine zF ?_ | refine zG ?_ | refine zH ?_ | refine zI ?_ | refine splT ?_ | refine splF ?_ | refine splNot ?_
        | ((first | refine splIn (fun hc => ?_) (fun hc => ?_) | refine splD (fun hc => ?_) (fun hc => ?_) | refine splE (fun hc => ?_) (fun hc => ?_) | refine splNE (fun hc => ?_) (fun hc => ?_)) <;> first | (exfalso; omega) | (exfalso; dsimp only at hc; omega) | skip)
        | ((with_reducible show CallEv _ _ 33 _ _ _ _ _); refine callE (k := 33) (fun β w' hbw => h33 _) ?_)
        | ((with_reducible show CallEv _ _ 16 _ _ _ _ _); refine callE (k := 16) (fun β w' hbw => awake_ok _) ?_)
        | ((with_reducible show CallEv _ _ 27 _ _ _ _ _); refine callE (k := 27) (fun β w' hbw => h27 _ (by first | exact hbw | exact hbw.1 | exact hbw.1.1 | exact hbw.1.1.1 | exact hbw.1.1.1.1 | exact hbw.1.1.1.1.1 | exact hbw.1.1.1.1.1.1 | exact hbw.1.1.1.1.1.1.1)) ?_)
        | ((with_reducible show CallEv _ _ 35 _ _ _ _ _); refine callE (k := 35) (fun β w' hbw => h35 _ (by first | exact hbw | exact hbw.1 | exact hbw.1.1 | exact hbw.1.1.1 | exact hbw.1.1.1.1 | exact hbw.1.1.1.1.1 | exact hbw.1.1.1.1.1.1 | exact hbw.1.1.1.1.1.1.1)) ?_)
        | ((with_reducible show CallEv _ _ 30 _ _ _ _ _); refine callF [] (nrV PP BB LL f0 f1 f2) (nrH PP BB LL) (fun β w' _ hbw => h30 w' (by first | exact hbw | exact hbw.1 | exact hbw.1.1 | exact hbw.1.1.1 | exact hbw.1.1.1.1 | exact hbw.1.1.1.1.1 | exact hbw.1.1.1.1.1.1 | exact hbw.1.1.1.1.1.1.1)) ?_; intro y; obtain ⟨⟨v1, v2⟩, ⟨v3, v4⟩, v5, v6⟩ := y; dsimp only)
        | ((with_reducible show CallEv _ _ 31 _ _ _ _ _); refine callF [] (fun y : Option Addr × Nat => sV P.length y) (fun y => Rd 1 iF (sV P.length y) P) (fun β w' _ hbw => h31 w' (by first | exact hbw | exact hbw.1 | exact hbw.1.1 | exact hbw.1.1.1 | exact hbw.1.1.1.1 | exact hbw.1.1.1.1.1 | exact hbw.1.1.1.1.1.1 | exact hbw.1.1.1.1.1.1.1)) ?_; intro y; obtain ⟨u1, u2⟩ := y; dsimp only)
        | ((with_reducible show CallEv _ _ 29 _ _ _ _ _); refine callF [] (fun z : (Option Addr × Nat) × (Option Addr × Nat) => .tuple #[sV 0 z.1, sV 0 z.2, iv 2]) (fun z w2 => True) (fun β w' _ hbw => h29 ((_, _), (_, _), (_, _)) _ _ w' hbw.1.2 hbw.2) ?_; intro z; obtain ⟨⟨z1, z2⟩, ⟨z3, z4⟩⟩ := z; dsimp only)
        | ((with_reducible show CallEv _ _ 34 _ _ _ _ _); refine callE (k := 34) (fun β w' hbw => h34 ((_, _), (_, _), (_, _)) w' hbw.2) ?_)
      all_goals first | (exfalso; omega) | exact ⟨fun β => rfl, fun w' h => (by first | exact h | exact h.1 | exact h.1.1 | exact h.1.1.1 | exact h.1.1.1.1 | exact h.1.1.1.1.1 | exact h.1.1.1.1.1.1 | exact h.1.1.1.1.1.1.1)⟩
    | true =>
      rw [hpu] at h35
      have hlP := pulB_len hpu
      have hPB := pulB_B hr hpu
      have h29 := fun (y : (Option Addr × Nat) × (Option Addr × Nat) × (Option Addr × Nat)) (o : Option Addr) (c : Nat) (w' : World) (h : nrH PP BB LL y w') (hP : Rd 1 iF (.slice o P.length c) P w') => Bears_nr PP BB LL r.f0 r.f1 r.f2 r hr ⟨rfl, rfl, rfl⟩ P hpu y o c w' h (by omega) hP
      have h36 := fun (w' : World) (hb : Below w.heap.size w w') => BearsR_ok r PP BB LL P uo uc 1 w' (hX.below hb) hr hPB hlP (hU.below hb) (by omega)
      rw [stP_bPt hr hlP, stH_bHg hr hlP] at h36
      have l1 : (bPt (frF BB LL) PP.length P).length = PP.length := by simp [bPt]
      have l2 : (bHg (frF BB LL) BB.length P).length = BB.length := by simp [bHg]
      generalize bPt (frF BB LL) PP.length P = PT at *
      generalize bHg (frF BB LL) BB.length P = HG at *
      have h25 := fun (o p : Option Addr) (c d : Nat) (w' : World) (hA : Rd 1 iF (.slice o PT.length c) PT w') (hB : Rd 1 iF (.slice p PT.length d) PT w') => ints_ok PT PT o p c d w' hA hB (by omega) (by omega)
      have h37 := fun (o p : Option Addr) (c d : Nat) (w' : World) (hA : Rd 2 gF (.slice o HG.length c) HG w') (hB : Rd 2 gF (.slice p HG.length d) HG w') => pairs_ok HG HG o p c d w' hA hB (by omega) (by omega)
      rw [decide_eq_true rfl] at h25 h37
      rw [l1] at h25
      rw [l2] at h37
      obtain ⟨po, pn, pc, bo, bn, bc, f0, f1, f2, lo, ln, lc⟩ := r
      dsimp only at h29 h33 h30 h34 hpn hbn hln
      refine calls_val env mixed Try.func7 has7 Try.ntmps7 [.agg #[.slice po pn pc, .slice bo bn bc, iv f0, iv f1, iv f2, .slice lo ln lc], .slice uo P.length uc] (by simp) ?_
      repeat'
       conv => whnf
       first
        | refine zA ?_ | refine zB ?_ | refine zC ?_ | refine zD ?_ | refine zE ?_ | refine zF ?_ | refine zG ?_ | refine zH ?_ | refine zI ?_ | refine splT ?_ | refine splF ?_ | refine splNot ?_
        | ((first | refine splIn (fun hc => ?_) (fun hc => ?_) | refine splD (fun hc => ?_) (fun hc => ?_) | refine splE (fun hc => ?_) (fun hc => ?_) | refine splNE (fun hc => ?_) (fun hc => ?_)) <;> first | (exfalso; omega) | (exfalso; dsimp only at hc; omega) | skip)
        | ((with_reducible show CallEv _ _ 33 _ _ _ _ _); refine callE (k := 33) (fun β w' hbw => h33 _) ?_)
        | ((with_reducible show CallEv _ _ 16 _ _ _ _ _); refine callE (k := 16) (fun β w' hbw => awake_ok _) ?_)
        | ((with_reducible show CallEv _ _ 27 _ _ _ _ _); refine callE (k := 27) (fun β w' hbw => h27 _ (by first | exact hbw | exact hbw.1 | exact hbw.1.1 | exact hbw.1.1.1 | exact hbw.1.1.1.1 | exact hbw.1.1.1.1.1 | exact hbw.1.1.1.1.1.1 | exact hbw.1.1.1.1.1.1.1)) ?_)
        | ((with_reducible show CallEv _ _ 35 _ _ _ _ _); refine callE (k := 35) (fun β w' hbw => h35 _ (by first | exact hbw | exact hbw.1 | exact hbw.1.1 | exact hbw.1.1.1 | exact hbw.1.1.1.1 | exact hbw.1.1.1.1.1 | exact hbw.1.1.1.1.1.1 | exact hbw.1.1.1.1.1.1.1)) ?_)
        | ((with_reducible show CallEv _ _ 30 _ _ _ _ _); refine callF [] (nrV PP BB LL f0 f1 f2) (nrH PP BB LL) (fun β w' _ hbw => h30 w' (by first | exact hbw | exact hbw.1 | exact hbw.1.1 | exact hbw.1.1.1 | exact hbw.1.1.1.1 | exact hbw.1.1.1.1.1 | exact hbw.1.1.1.1.1.1 | exact hbw.1.1.1.1.1.1.1)) ?_; intro y; obtain ⟨⟨v1, v2⟩, ⟨v3, v4⟩, v5, v6⟩ := y; dsimp only)
        | ((with_reducible show CallEv _ _ 31 _ _ _ _ _); refine callF [] (fun y : Option Addr × Nat => sV P.length y) (fun y => Rd 1 iF (sV P.length y) P) (fun β w' _ hbw => h31 w' (by first | exact hbw | exact hbw.1 | exact hbw.1.1 | exact hbw.1.1.1 | exact hbw.1.1.1.1 | exact hbw.1.1.1.1.1 | exact hbw.1.1.1.1.1.1 | exact hbw.1.1.1.1.1.1.1)) ?_; intro y; obtain ⟨u1, u2⟩ := y; dsimp only)
        | ((with_reducible show CallEv _ _ 29 _ _ _ _ _); refine callF [] (fun z : YS PT × YS HG => .tuple #[sV PP.length z.1.1, sV BB.length z.2.1, iv 0]) (fun z w2 => Rd 1 iF (sV PP.length z.1.1) PT w2 ∧ Rd 2 gF (sV BB.length z.2.1) HG w2) (fun β w' _ hbw => h29 ((_, _), (_, _), (_, _)) _ _ w' hbw.1.2 hbw.2) ?_; intro z; obtain ⟨⟨⟨z1, z2⟩, hz0⟩, ⟨⟨z3, z4⟩, hz'⟩⟩ := z; dsimp only at hz0 ⊢)
        | ((with_reducible show CallEv _ _ 34 _ _ _ _ _); refine callE (k := 34) (fun β w' hbw => h34 ((_, _), (_, _), (_, _)) w' hbw.2) ?_)
        | ((with_reducible show CallEv _ _ 36 _ _ _ _ _); refine callF [] (fun z : YS PT × YS HG => .tuple #[sV PP.length z.1.1, sV BB.length z.2.1]) (fun z w2 => Rd 1 iF (sV PP.length z.1.1) PT w2 ∧ Rd 2 gF (sV BB.length z.2.1) HG w2) (fun β w' _ hbw => h36 w' (by first | exact hbw | exact hbw.1 | exact hbw.1.1 | exact hbw.1.1.1 | exact hbw.1.1.1.1 | exact hbw.1.1.1.1.1 | exact hbw.1.1.1.1.1.1 | exact hbw.1.1.1.1.1.1.1)) ?_; intro z; obtain ⟨⟨⟨x1, x2⟩, hx0⟩, ⟨⟨x3, x4⟩, hx'⟩⟩ := z; dsimp only at hx0 ⊢)
        | ((with_reducible show CallEv _ _ 25 _ _ _ _ _); refine callE (k := 25) (fun β w' hbw => h25 _ _ _ _ w' hbw.1.1.2.1 hbw.2.1) ?_)
        | ((with_reducible show CallEv _ _ 37 _ _ _ _ _); refine callE (k := 37) (fun β w' hbw => h37 _ _ _ _ w' hbw.1.1.2.2 hbw.2.2) ?_)
      all_goals first | (exfalso; omega) | exact ⟨fun β => rfl, fun w' h => (by first | exact h | exact h.1 | exact h.1.1 | exact h.1.1.1 | exact h.1.1.1.1 | exact h.1.1.1.1.1 | exact h.1.1.1.1.1.1 | exact h.1.1.1.1.1.1.1)⟩
end Go.Proofs.Ytaciigegbgnadaa
