/- RiggingAll answers true. -/
import Derived.Test.YtaciigegbgnadaaIG
namespace Go.Proofs.Ytaciigegbgnadaa
open Go Tx Go.RowKit
set_option linter.unusedSimpArgs false
set_option linter.unusedVariables false

set_option maxHeartbeats 8000000 in
set_option maxRecDepth 100000 in
theorem RiggingAll_ok (r : Rig) (PP : List Int) (BB : List Bm) (LL : List Ld) (U : List Int) (uo : Option Addr) (uc : Nat) (w : World) (hX : RigX r PP BB LL w) (hU : Rd 1 uF (.slice uo U.length uc) U w) (hul : U.length ≤ 9223372036854775807) (hu : ∀ n ∈ U, 0 ≤ n ∧ n ≤ 4294967295) :
    Calls Try.prog 4 #[r.v, .slice uo U.length uc] w fun e w' => e = .returned (.bool true) ∧ Below w.heap.size w w' := by
  have h27 := fun (w' : World) (hb : Below w.heap.size w w') => Right_ok r PP BB LL w' (hX.below hb)
  cases hr : rigOk r.f0 r.f1 r.f2 PP BB LL with
  | false =>
    rw [hr] at h27
    obtain ⟨po, pn, pc, bo, bn, bc, f0, f1, f2, lo, ln, lc⟩ := r
    refine calls_val env mixed Try.func4 has4 Try.ntmps4 [.agg #[.slice po pn pc, .slice bo bn bc, iv f0, iv f1, iv f2, .slice lo ln lc], .slice uo U.length uc] (by simp) ?_
    repeat'
     conv => whnf
     first
      | refine zA ?_ | refine zB ?_ | refine zC ?_ | refine zD ?_ | refine zE ?_ | refine zF ?_ | refine zG ?_ | refine zH ?_ | refine zI ?_ | refine splT ?_ | refine splF ?_ | refine splNot ?_
      | ((first | refine splIn (fun hc => ?_) (fun hc => ?_) | refine splD (fun hc => ?_) (fun hc => ?_) | refine splE (fun hc => ?_) (fun hc => ?_) | refine splNE (fun hc => ?_) (fun hc => ?_)) <;> first | (exfalso; omega) | (exfalso; dsimp only at hc; omega) | skip)
      | ((with_reducible show CallEv _ _ 27 _ _ _ _ _); refine callE (k := 27) (fun β w' hbw => h27 _ hbw) ?_)
      | ((with_reducible show CallEv _ _ 16 _ _ _ _ _); refine callE (k := 16) (fun β w' hbw => awake_ok _) ?_)
    all_goals first | (exfalso; omega) | exact ⟨fun β => rfl, fun w' h => h⟩
  | true =>
    rw [hr] at h27
    have hri := rigOk_iff.1 hr
    have hin := hX.rin (by omega) (by omega) (by omega)
    have h28 := fun (w' : World) (hb : Below w.heap.size w w') => drawn_ok r PP BB LL U uo uc w' (hin.below hb) hr (hU.below hb) hul hu
    have h30 := fun (w' : World) (hb : Below w.heap.size w w') => Rig_ok r PP BB LL w' (hin.below hb) (by omega) (by omega)
    have hpul := drL_pul hr U
    have hlA := drL_len r LL U
    have hPB := pulB_B hr hpul
    generalize drL r LL U = A at *
    have h31 := fun (o : Option Addr) (c : Nat) (w' : World) (h : Rd 1 iF (.slice o A.length c) A w') => list_fam A o c w' h (by omega)
    have h29 := fun (y : (Option Addr × Nat) × (Option Addr × Nat) × (Option Addr × Nat)) (o : Option Addr) (c : Nat) (w' : World) (h : nrH PP BB LL y w') (hP : Rd 1 iF (.slice o A.length c) A w') => Bears_nr PP BB LL r.f0 r.f1 r.f2 r hr ⟨rfl, rfl, rfl⟩ A hpul y o c w' h (by omega) hP
    have hsum := all_sum hr hlA
    have hQ := (frF_Q hr).1
    have hDb : ∀ j, -200000000000000000 ≤ dotR ((frF BB LL).p j) A A.length ∧ dotR ((frF BB LL).p j) A A.length ≤ 200000000000000000 := fun j => by
      have := dotR_q (hQ j) hPB A.length (Nat.le_refl _)
      have := hPB.1
      omega
    have hAb : ∀ j, -4320000000000 ≤ A.getD j 0 * 216000 ∧ A.getD j 0 * 216000 ≤ 4320000000000 := fun j => by
      rw [List.getD_eq_getElem?_getD]
      cases hj : A[j]? with
      | none => simp
      | some n => have := hPB.2 n (List.mem_of_getElem? hj); simp only [Option.getD_some]; omega
    have hWb : ∀ j, -216000000000 ≤ wtN BB j * 216000 ∧ wtN BB j * 216000 ≤ 216000000000 := fun j => by
      unfold wtN
      cases hj : BB[j]? with
      | none => simp
      | some b => have := (bmOk_iff.1 (bm_at hr hj)).2.2.2.2.2.1; dsimp only; omega
    obtain ⟨fD, hfD⟩ : ∃ fD : Nat → Int, ∀ j, dotR ((frF BB LL).p j) A A.length = fD j := ⟨_, fun _ => rfl⟩
    obtain ⟨fA, hfA⟩ : ∃ fA : Nat → Int, ∀ i, A.getD i 0 * 216000 = fA i := ⟨_, fun _ => rfl⟩
    obtain ⟨fW, hfW⟩ : ∃ fW : Nat → Int, ∀ i, wtN BB i * 216000 = fW i := ⟨_, fun _ => rfl⟩
    have hbPt : ∀ k, k < PP.length → (bPt (frF BB LL) PP.length A)[k]? = some (fD k) := fun k hk => (rng_at _ hk).trans (by rw [hfD])
    rw [sumI_congr (fun j _ => hfD j), sumI_congr (fun j _ => hfA j), sumI_congr (fun j _ => hfW j)] at hsum
    simp only [hfD] at hDb
    simp only [hfA] at hAb
    simp only [hfW] at hWb
    have hS1 := sum_bd (f := fD) hDb (by omega)
    have hS2 := sum_bd (f := fA) hAb (by omega)
    have hS3 := sum_bd (f := fW) hWb (by omega)
    have hlP : (bPt (frF BB LL) PP.length A).length = PP.length := by simp [bPt]
    have hq : ∀ (f : Nat → Int) k, sumI (k + 1) f = sumI k f + f k := fun f k => rfl
    have hz : ∀ f : Nat → Int, sumI 0 f = 0 := fun f => rfl
    generalize bPt (frF BB LL) PP.length A = PT at *
    generalize bHg (frF BB LL) BB.length A = HG at *
    have hB := hX.b
    have hbn := hX.bn
    have hpn := hX.pn
    obtain ⟨po, pn, pc, bo, bn, bc, f0, f1, f2, lo, ln, lc⟩ := r
    dsimp only at h29 hB hbn hpn h30
    subst hbn
    subst hpn
    refine calls_val env mixed Try.func4 has4 Try.ntmps4 [.agg #[.slice po PP.length pc, .slice bo BB.length bc, iv f0, iv f1, iv f2, .slice lo ln lc], .slice uo U.length uc] (by simp) ?_
    rw [← hlA] at h28
    repeat'
     conv => whnf
     first
      | refine zA ?_ | refine zB ?_ | refine zC ?_ | refine zD ?_ | refine zE ?_ | refine zF ?_ | refine zG ?_ | refine zH ?_ | refine zI ?_ | refine splT ?_ | refine splF ?_ | refine splNot ?_
      | ((first | refine splIn (fun hc => ?_) (fun hc => ?_) | refine splD (fun hc => ?_) (fun hc => ?_) | refine splE (fun hc => ?_) (fun hc => ?_) | refine splNE (fun hc => ?_) (fun hc => ?_)) <;> first | (exfalso; omega) | (exfalso; dsimp only at hc; omega) | skip)
      | ((with_reducible show CallEv _ _ 27 _ _ _ _ _); refine callE (k := 27) (fun β w' hbw => h27 _ hbw) ?_)
      | ((with_reducible show CallEv _ _ 28 _ _ _ _ _); refine callF [] (fun y : YS A => sV A.length y.1) (fun y => Rd 1 iF (sV A.length y.1) A) (fun β w' _ hbw => (h28 w' (by first | exact hbw | exact hbw.1 | exact hbw.1.1 | exact hbw.1.1.1 | exact hbw.1.1.1.1 | exact hbw.1.1.1.1.1 | exact hbw.1.1.1.1.1.1 | exact hbw.1.1.1.1.1.1.1)).mono fun e w2 ⟨y, h1, h2, h3⟩ => ⟨⟨y, rd_ys h3.now⟩, h1, h2, h3⟩) ?_; intro y; obtain ⟨⟨y1, y2⟩, hy0⟩ := y; dsimp only at hy0 ⊢)
      | ((with_reducible show CallEv _ _ 30 _ _ _ _ _); refine callF [] (nrV PP BB LL f0 f1 f2) (nrH PP BB LL) (fun β w' _ hbw => h30 w' (by first | exact hbw | exact hbw.1 | exact hbw.1.1 | exact hbw.1.1.1 | exact hbw.1.1.1.1 | exact hbw.1.1.1.1.1 | exact hbw.1.1.1.1.1.1 | exact hbw.1.1.1.1.1.1.1)) ?_; intro y; obtain ⟨⟨v1, v2⟩, ⟨v3, v4⟩, v5, v6⟩ := y; dsimp only)
      | ((with_reducible show CallEv _ _ 31 _ _ _ _ _); refine callF [] (fun y : Option Addr × Nat => sV A.length y) (fun y => Rd 1 iF (sV A.length y) A) (fun β w' _ hbw => h31 _ _ w' hbw.1.2) ?_; intro y; obtain ⟨u1, u2⟩ := y; dsimp only)
      | ((with_reducible show CallEv _ _ 29 _ _ _ _ _); refine callF [] (fun z : YS PT × YS HG => .tuple #[sV PP.length z.1.1, sV BB.length z.2.1, iv 0]) (fun z w2 => Rd 1 iF (sV PP.length z.1.1) PT w2 ∧ Rd 2 gF (sV BB.length z.2.1) HG w2) (fun β w' _ hbw => h29 ((_, _), (_, _), (_, _)) _ _ w' hbw.1.2 hbw.2) ?_; intro z; obtain ⟨⟨⟨z1, z2⟩, hz0⟩, ⟨⟨z3, z4⟩, hz'⟩⟩ := z; dsimp only at hz0 ⊢)
    all_goals first | (exfalso; omega) | skip
    have hP1 : 1 ≤ PP.length := by omega
    have hP12 : PP.length ≤ 12 := by omega
    have hz1 : ∃ ad, z1 = some ad := hz0.resolve_left fun hc => by rw [hc] at hlP; simp at hlP; omega
    obtain ⟨za, rfl⟩ := hz1
    refine loopN 1 (fun k : Nat => [(2, .ptr 0 0), (5, .v (sV A.length (y1, y2))), (6, .v (sV PP.length (some za, z2))), (9, .v (iv (sumI k fD))), (10, .v (iv k))]) (fun _ => [(0, .cells [.v (.slice po PP.length pc), .v (.slice bo BB.length bc), .v (iv f0), .v (iv f1), .v (iv f2), .v (.slice lo ln lc)] 48)])
      (fun k => k ≤ PP.length) (fun k => PP.length - k) 0 (Nat.zero_le _) ⟨rfl, rfl, rfl, by rw [hz]; rfl, rfl, trivial⟩ ⟨rfl, trivial⟩ (fun _ _ => ⟨rfl, rfl⟩) ?_
    intro k hk
    have s1 := hS1 k
    rcases Nat.lt_or_ge k PP.length with hkl | hkl
    · have hat := hbPt k hkl
      have hd := hDb k
      have hqk := hq fD k
      generalize fD k = x at *
      generalize sumI k fD = S at *
      repeat'
       conv => whnf
       first
        | refine zA ?_ | refine zB ?_ | refine zC ?_ | refine zD ?_ | refine zE ?_ | refine zF ?_ | refine zG ?_ | refine zH ?_ | refine zI ?_ | refine splT ?_ | refine splF ?_ | refine splNot ?_
        | ((first | refine splIn (fun hc => ?_) (fun hc => ?_) | refine splD (fun hc => ?_) (fun hc => ?_) | refine splE (fun hc => ?_) (fun hc => ?_) | refine splNE (fun hc => ?_) (fun hc => ?_)) <;> first | (exfalso; omega) | (exfalso; dsimp only at hc; omega) | skip)
        | refine Exists.intro (α := List Value) [iv x] ⟨⟨rfl, fun w' hw' => rd_ati hw'.2.1 hat⟩, ?_⟩
      all_goals first | (exfalso; omega) | exact ⟨k + 1, by omega, by omega, Ent.weak rfl ⟨rfl, rfl, rfl, by rw [hqk]; rfl, rfl, trivial⟩ ⟨rfl, trivial⟩ fun _ h => h⟩
    obtain rfl : k = PP.length := by omega
    clear hbPt
    generalize sumI PP.length fD = S1 at *
    repeat'
     conv => whnf
     first
      | refine zA ?_ | refine zB ?_ | refine zC ?_ | refine zD ?_ | refine zE ?_ | refine zF ?_ | refine zG ?_ | refine zH ?_ | refine zI ?_ | refine splT ?_ | refine splF ?_ | refine splNot ?_
      | ((first | refine splIn (fun hc => ?_) (fun hc => ?_) | refine splD (fun hc => ?_) (fun hc => ?_) | refine splE (fun hc => ?_) (fun hc => ?_) | refine splNE (fun hc => ?_) (fun hc => ?_)) <;> first | (exfalso; omega) | (exfalso; dsimp only at hc; omega) | skip)
    all_goals first | (exfalso; omega) | skip
    refine loopN 1 (fun k : Nat => [(2, .ptr 0 0), (5, .v (sV A.length (y1, y2))), (9, .v (iv (S1 - sumI k fA))), (11, .v (iv k))]) (fun _ => [(0, .cells [.v (.slice po PP.length pc), .v (.slice bo BB.length bc), .v (iv f0), .v (iv f1), .v (iv f2), .v (.slice lo ln lc)] 48)])
      (fun k => k ≤ A.length) (fun k => A.length - k) 0 (Nat.zero_le _) ⟨rfl, rfl, by rw [hz, Int.sub_zero]; rfl, rfl, trivial⟩ ⟨rfl, trivial⟩ (fun _ _ => ⟨rfl, rfl⟩) ?_
    clear hk hkl
    intro k hk
    have hA20 : A.length ≤ 20 := hPB.1
    have s2 := hS2 k
    rcases Nat.lt_or_ge k A.length with hkl | hkl
    · obtain ⟨n, hn⟩ : ∃ n, A[k]? = some n := ⟨_, List.getElem?_eq_getElem hkl⟩
      have hnb := hPB.2 n (List.mem_of_getElem? hn)
      have hy1 : ∃ ad, y1 = some ad := hy0.resolve_left fun hc => by rw [hc] at hkl; simp at hkl
      obtain ⟨ya, rfl⟩ := hy1
      have hqk := hq fA k
      have hfk := hfA k
      rw [List.getD_eq_getElem?_getD, hn, Option.getD_some] at hfk
      have hfin : S1 - sumI (k + 1) fA = S1 - sumI k fA - n * 216000 := by rw [hqk, ← hfk]; omega
      generalize sumI k fA = S2 at *
      repeat'
       conv => whnf
       first
        | refine zA ?_ | refine zB ?_ | refine zC ?_ | refine zD ?_ | refine zE ?_ | refine zF ?_ | refine zG ?_ | refine zH ?_ | refine zI ?_ | refine splT ?_ | refine splF ?_ | refine splNot ?_
        | ((first | refine splIn (fun hc => ?_) (fun hc => ?_) | refine splD (fun hc => ?_) (fun hc => ?_) | refine splE (fun hc => ?_) (fun hc => ?_) | refine splNE (fun hc => ?_) (fun hc => ?_)) <;> first | (exfalso; omega) | (exfalso; dsimp only at hc; omega) | skip)
        | refine Exists.intro (α := List Value) [iv n] ⟨⟨rfl, fun w' hw' => rd_ati hw'.1.1.1.2 hn⟩, ?_⟩
      all_goals first | (exfalso; omega) | exact ⟨k + 1, by omega, by omega, Ent.weak rfl ⟨rfl, rfl, by rw [hfin]; rfl, rfl, trivial⟩ ⟨rfl, trivial⟩ fun _ h => h⟩
    obtain rfl : k = A.length := by omega
    generalize sumI A.length fA = S2 at *
    repeat'
     conv => whnf
     first
      | refine zA ?_ | refine zB ?_ | refine zC ?_ | refine zD ?_ | refine zE ?_ | refine zF ?_ | refine zG ?_ | refine zH ?_ | refine zI ?_ | refine splT ?_ | refine splF ?_ | refine splNot ?_
      | ((first | refine splIn (fun hc => ?_) (fun hc => ?_) | refine splD (fun hc => ?_) (fun hc => ?_) | refine splE (fun hc => ?_) (fun hc => ?_) | refine splNE (fun hc => ?_) (fun hc => ?_)) <;> first | (exfalso; omega) | (exfalso; dsimp only at hc; omega) | skip)
    all_goals first | (exfalso; omega) | skip
    refine loopN 1 (fun k : Nat => [(2, .ptr 0 0), (9, .v (iv (S1 - S2 - sumI k fW))), (12, .v (iv k))]) (fun _ => [(0, .cells [.v (.slice po PP.length pc), .v (.slice bo BB.length bc), .v (iv f0), .v (iv f1), .v (iv f2), .v (.slice lo ln lc)] 48)])
      (fun k => k ≤ BB.length) (fun k => BB.length - k) 0 (Nat.zero_le _) ⟨rfl, by rw [hz, Int.sub_zero]; rfl, rfl, trivial⟩ ⟨rfl, trivial⟩ (fun _ _ => ⟨rfl, rfl⟩) ?_
    clear hk hkl
    intro k hk
    have hB12 : BB.length ≤ 12 := hri.2.2.1
    have s3 := hS3 k
    rcases Nat.lt_or_ge k BB.length with hkl | hkl
    · obtain ⟨b, hb⟩ : ∃ n, BB[k]? = some n := ⟨_, List.getElem?_eq_getElem hkl⟩
      obtain ⟨_, ad, rfl, _⟩ := hB.ptr (by omega)
      have e1 := fun (w' : World) (hw' : Below w.heap.size w w') => rd_fld (hB.below hw') hb 6 (iv b.wt) rfl
      have hwb := (bmOk_iff.1 (bm_at hr hb)).2.2.2.2.2.1
      have hqk := hq fW k
      have hfk := hfW k
      unfold wtN at hfk
      rw [hb] at hfk
      dsimp only at hfk
      have hfin : S1 - S2 - sumI (k + 1) fW = S1 - S2 - sumI k fW - b.wt * 216000 := by rw [hqk, ← hfk]; omega
      generalize sumI k fW = S3 at *
      generalize b.wt = x at *
      repeat'
       conv => whnf
       first
        | refine zA ?_ | refine zB ?_ | refine zC ?_ | refine zD ?_ | refine zE ?_ | refine zF ?_ | refine zG ?_ | refine zH ?_ | refine zI ?_ | refine splT ?_ | refine splF ?_ | refine splNot ?_
        | ((first | refine splIn (fun hc => ?_) (fun hc => ?_) | refine splD (fun hc => ?_) (fun hc => ?_) | refine splE (fun hc => ?_) (fun hc => ?_) | refine splNE (fun hc => ?_) (fun hc => ?_)) <;> first | (exfalso; omega) | (exfalso; dsimp only at hc; omega) | skip)
        | refine Exists.intro (α := List Value) [iv x] ⟨⟨rfl, fun w' hw' => e1 w' (by first | exact hw' | exact hw'.1 | exact hw'.1.1 | exact hw'.1.1.1 | exact hw'.1.1.1.1 | exact hw'.1.1.1.1.1)⟩, ?_⟩
      all_goals first | (exfalso; omega) | exact ⟨k + 1, by omega, by omega, Ent.weak rfl ⟨rfl, by rw [hfin]; rfl, rfl, trivial⟩ ⟨rfl, trivial⟩ fun _ h => h⟩
    obtain rfl : k = BB.length := by omega
    rw [hsum]
    repeat'
     conv => whnf
     first
      | refine zA ?_ | refine zB ?_ | refine zC ?_ | refine zD ?_ | refine zE ?_ | refine zF ?_ | refine zG ?_ | refine zH ?_ | refine zI ?_ | refine splT ?_ | refine splF ?_ | refine splNot ?_
      | ((first | refine splIn (fun hc => ?_) (fun hc => ?_) | refine splD (fun hc => ?_) (fun hc => ?_) | refine splE (fun hc => ?_) (fun hc => ?_) | refine splNE (fun hc => ?_) (fun hc => ?_)) <;> first | (exfalso; omega) | (exfalso; dsimp only at hc; omega) | skip)
      | ((with_reducible show CallEv _ _ 16 _ _ _ _ _); refine callE (k := 16) (fun β w' hbw => awake_ok _) ?_)
    all_goals first | (exfalso; omega) | exact ⟨fun β => rfl, fun w' h => h.1.1.1.1⟩
end Go.Proofs.Ytaciigegbgnadaa
