/- borne: what a part bears. -/
import Derived.Test.YtaciigegbgnadaaJG
import Derived.Test.YtaciigegbgnadaaIX
namespace Go.Proofs.Ytaciigegbgnadaa
open Go Tx Go.RowKit
set_option linter.unusedSimpArgs false
set_option linter.unusedVariables false

/-- What is said of a callee's new rows by names 0 .., said by the caller's names nb ... -/
theorem mv_gen {nb k : Nat} {fr : List Nat} {V0 V1 : SV} {m0 m1 : List (Nat × Blk)} {β : Nat → Nat} {w w' : World} {e : Ending} (hfr : fr = List.range' nb k)
    (hV : ∀ γ δ : Nat → Nat, (∀ i, i < k → δ (nb + i) = γ i) → V1.c δ = V0.c γ)
    (hm : ∀ i b, (i, b) ∈ m1 → ∃ i0 b0, i = nb + i0 ∧ i0 < k ∧ (i0, b0) ∈ m0 ∧ ∀ γ δ : Nat → Nat, (∀ i, i < k → δ (nb + i) = γ i) → ∀ w x, b0.ok γ w x → b.ok δ w x)
    (h : ∃ γ : Nat → Nat, e = .returned (V0.c γ) ∧ Below w.heap.size w w' ∧ (∀ i b, (i, b) ∈ m0 → w.heap.size ≤ γ i ∧ b.ok γ w' (γ i)) ∧ ∀ i b j b', (i, b) ∈ m0 → (j, b') ∈ m0 → i ≠ j → γ i ≠ γ j) :
    ∃ γ : Nat → Nat, e = .returned (V1.c γ) ∧ (∀ i, i ∉ fr → γ i = β i) ∧ Below w.heap.size w w' ∧ (∀ i b, (i, b) ∈ m1 → w.heap.size ≤ γ i ∧ b.ok γ w' (γ i)) ∧ ∀ i b j b', (i, b) ∈ m1 → (j, b') ∈ m1 → i ≠ j → γ i ≠ γ j := by
  obtain ⟨γ, h1, h2, h3, h4⟩ := h
  have hδ : ∀ i, i < k → (fun i => if nb ≤ i ∧ i < nb + k then γ (i - nb) else β i) (nb + i) = γ i := fun i hi => by
    show (if _ then _ else _) = _
    rw [if_pos (by omega), Nat.add_sub_cancel_left]
  have ha : ∀ i, i ∉ fr → (fun i => if nb ≤ i ∧ i < nb + k then γ (i - nb) else β i) i = β i := fun i hi => by
    rw [hfr, List.mem_range'_1] at hi
    show (if _ then _ else _) = _
    rw [if_neg hi]
  refine ⟨fun i => if nb ≤ i ∧ i < nb + k then γ (i - nb) else β i, by rw [h1, hV _ _ hδ], ha, h2, ?_, ?_⟩
  all_goals generalize (fun i => if nb ≤ i ∧ i < nb + k then γ (i - nb) else β i) = δ at *
  · intro i b hi
    obtain ⟨i0, b0, rfl, hk, hm0, hok⟩ := hm i b hi
    rw [hδ i0 hk]
    exact ⟨(h3 _ _ hm0).1, hok γ δ hδ _ _ (h3 _ _ hm0).2⟩
  · intro i b j b' hi hj hne
    obtain ⟨i0, b0, rfl, hk, hm0, _⟩ := hm i b hi
    obtain ⟨j0, b0', rfl, hk', hm0', _⟩ := hm j b' hj
    rw [hδ i0 hk, hδ j0 hk']
    exact h4 _ _ _ _ hm0 hm0' (by omega)
theorem own_mv {j j' n sz : Nat} {xs : List Value} {ty : TypeId} {γ δ : Nat → Nat} {w : World} {x : Nat} (hj : δ j' = γ j) (h : (Blk.own j n sz xs ty).ok γ w x) : (Blk.own j' n sz xs ty).ok δ w x := by
  simp only [Blk.ok] at h ⊢
  rw [hj]; exact h
theorem br_V (nb n : Nat) (B : List (Int × Int)) (γ δ : Nat → Nat) (h : ∀ i, i < 4 → δ (nb + i) = γ i) : (brS nb n B).c δ = (brS 0 n B).c γ := by
  have h0 := h 0 (by omega)
  have h1 := h 1 (by omega)
  have h2 := h 2 (by omega)
  have h3 := h 3 (by omega)
  rw [Nat.add_zero] at h0
  cases B <;> simp [brS, oSV, SV.c, SV.cs, h0, h1, h2, h3]
theorem br_m (nb : Nat) (A : List Int) (B : List (Int × Int)) (i : Nat) (b : Blk) (hi : (i, b) ∈ brM nb A B) : ∃ i0 b0, i = nb + i0 ∧ i0 < 4 ∧ (i0, b0) ∈ brM 0 A B ∧ ∀ γ δ : Nat → Nat, (∀ i, i < 4 → δ (nb + i) = γ i) → ∀ w x, b0.ok γ w x → b.ok δ w x := by
  unfold brM at hi
  rw [List.mem_cons] at hi
  rcases hi with hi | hi
  · simp only [Prod.mk.injEq] at hi
    obtain ⟨rfl, rfl⟩ := hi
    exact ⟨0, _, rfl, by omega, List.mem_cons_self, fun γ δ h w x ho => own_mv (h 1 (by omega)) ho⟩
  · cases B with
    | nil => cases hi
    | cons b0 B =>
      simp only [oM, List.mem_singleton, Prod.mk.injEq] at hi
      obtain ⟨rfl, rfl⟩ := hi
      exact ⟨2, _, rfl, by omega, List.mem_cons_of_mem _ (List.mem_singleton.2 rfl), fun γ δ h w x ho => own_mv (h 3 (by omega)) ho⟩

set_option maxHeartbeats 8000000 in
set_option maxRecDepth 100000 in
theorem borne_ok (PP : List Int) (BB : List Bm) (LL : List Ld) (f0 f1 f2 : Int) (r : Rig) (hr : rigOk f0 f1 f2 PP BB LL = true) (hf : r.f0 = f0 ∧ r.f1 = f1 ∧ r.f2 = f2) (A : List Int) (hA : pulB r LL A = true) (y : (Option Addr × Nat) × (Option Addr × Nat) × (Option Addr × Nat)) (o : Option Addr) (c : Nat) (b a : Int)
    (hp : partOk PP.length BB.length b a) (w : World) (h : nrH PP BB LL y w) (hP : Rd 1 iF (.slice o A.length c) A w) :
    Calls Try.prog 46 #[nrV PP BB LL f0 f1 f2 y, .slice o A.length c, .agg #[iv b, iv a]] w fun e w' => e = .returned (.tuple #[iv (dotR (rowP (frF BB LL) b a) A A.length), .bool true]) ∧ Below w.heap.size w w' := by
  have hri := rigOk_iff.1 hr
  have hlA := pulB_len hA
  have hl20 := hri.2.2.2.2.1
  have hA' : pulB (nrR PP BB LL f0 f1 f2 y) LL A = true := by rw [← hA]; exact pulB_fac (fac_eq (r := nrR PP BB LL f0 f1 f2 y) hf.1.symm hf.2.1.symm hf.2.2.symm) LL A
  have hBo := fun (o : Option Addr) (c : Nat) (w' : World) (hb : Below w.heap.size w w') (hP : Rd 1 iF (.slice o A.length c) A w') => Bears_own (nrR PP BB LL f0 f1 f2 y) PP BB LL A o c w' ((h.rin (by omega) (by omega) (by omega)).below hb) hP (by omega) hr hA'
  have hPn : (bPt (frF BB LL) PP.length A).length = PP.length := by simp [bPt]
  have hHn : (bHg (frF BB LL) BB.length A).length = BB.length := by simp [bHg]
  have hD : (b = -1 → (bPt (frF BB LL) PP.length A)[a.toNat]? = some (dotR (rowP (frF BB LL) b a) A A.length)) ∧ (b ≠ -1 → ∃ u v, (bHg (frF BB LL) BB.length A)[b.toNat]? = some (u, v) ∧ dotR (rowP (frF BB LL) b a) A A.length = if a = 0 then u else v) := by
    rcases hp with ⟨rfl, h1, h2⟩ | ⟨h1, h2, h3, h4⟩
    · obtain ⟨k, rfl⟩ := Int.eq_ofNat_of_zero_le h1
      refine ⟨fun _ => ?_, fun hc => absurd rfl hc⟩
      rw [rowP_p']
      exact rng_at _ (by omega)
    · obtain ⟨k, rfl⟩ := Int.eq_ofNat_of_zero_le h1
      refine ⟨fun hc => (by omega), fun _ => ⟨_, _, rng_at (fun j => (dotR ((frF BB LL).h j 0) A A.length, dotR ((frF BB LL).h j 1) A A.length)) (show k < BB.length by omega), ?_⟩⟩
      obtain rfl | rfl : a = 0 ∨ a = 1 := by omega
      · rw [if_pos rfl]; exact congrArg (fun x => dotR x A A.length) (rowP_h' (frF BB LL) k 0)
      · rw [if_neg (by omega)]; exact congrArg (fun x => dotR x A A.length) (rowP_h' (frF BB LL) k 1)
  generalize dotR (rowP (frF BB LL) b a) A A.length = val at *
  obtain ⟨⟨o1, c1⟩, ⟨o2, c2⟩, o3, c3⟩ := y

  refine calls_valV env mixed Try.func46 has46 Try.ntmps46 [nrV PP BB LL f0 f1 f2 ((o1, c1), (o2, c2), (o3, c3)), .slice o A.length c, .agg #[iv b, iv a]] (by simp) ?_
  generalize bPt (frF BB LL) PP.length A = PT at *
  generalize bHg (frF BB LL) BB.length A = HG at *
  refine VC.cutD env mixed 2 2 (fun z : YS PT × YS HG => [(5, .ptr 1 0), (8, .v (sV PP.length z.1.1)), (9, .v (sV BB.length z.2.1)), (10, .v (iv 0))]) (fun _ => [(1, .cells [.v (iv b), .v (iv a)] 91)])
    (fun z w2 => Below w.heap.size w w2 ∧ Rd 1 iF (sV PP.length z.1.1) PT w2 ∧ Rd 2 gF (sV BB.length z.2.1) HG w2) (fun _ => True) (fun _ _ => ⟨rfl, rfl⟩) ?_ ?_
  · cases A with
    | nil =>
      have h31 := fun (w' : World) (hb : Below w.heap.size w w') => list_none o c w' (hP.below hb)
      have hB0 := fun (w' : World) (hb : Below w.heap.size w w') => hBo none 0 w' hb (.inl ⟨rfl, rfl⟩)
      cases HG with
      | nil =>
        skip
        repeat'
         conv => whnf
         first
          | refine zA ?_ | refine zB ?_ | refine zC ?_ | refine zD ?_ | refine zE ?_ | refine zF ?_ | refine zG ?_ | refine zH ?_ | refine zI ?_ | refine splT ?_ | refine splF ?_ | refine splNot ?_
          | ((first | refine splIn (fun hc => ?_) (fun hc => ?_) | refine splD (fun hc => ?_) (fun hc => ?_) | refine splE (fun hc => ?_) (fun hc => ?_) | refine splNE (fun hc => ?_) (fun hc => ?_)) <;> first | (exfalso; omega) | (exfalso; dsimp only at hc; omega) | skip)
          | ((with_reducible show CallEv _ _ 31 _ _ _ _ _); refine callE (k := 31) (fun β w' hbw => h31 _ hbw) ?_)
          | ((with_reducible show CallEv _ _ 29 _ _ _ _ _); refine callR [2, 3, 4, 5] [] (brM 2 PT []) (brS 2 PP.length []) rfl (fun i b hi => by simp [brM, oM] at hi; obtain ⟨rfl, _⟩ := hi; decide) (fun β w' hbk hbw => (hB0 w' hbw).mono fun e w2 h => mv_gen (nb := 2) (k := 4) rfl (br_V 2 _ _) (br_m 2 _ _) h) ?_)
        refine ⟨rfl, Dis.mk [2] (fun i hi => by simp at hi; subst hi; exact ⟨_, rfl, rfl⟩) fun β w1 hb hw => ⟨(⟨(some ⟨β 2, 0, none⟩, β 3), .inr ⟨_, rfl⟩⟩, ⟨(none, 0), .inl rfl⟩), trivial, ⟨⟨_, rfl, rfl⟩, ⟨_, rfl, rfl⟩, ⟨_, rfl, by rw [← hHn]; rfl⟩, ⟨_, rfl, rfl⟩, trivial⟩, ⟨⟨rfl, _, _, _, rfl, rfl, rfl⟩, trivial⟩, fun w2 h2 hb2 => ⟨h2, Rd.of_owns (sz := 1) (f := iF) (fun _ => rfl) rfl hPn.symm (by rw [← hPn]; exact hb2 2 (by simp) _ rfl), by rw [← hHn]; exact .inl ⟨rfl, rfl⟩⟩⟩⟩
      | cons g0 HG =>
        skip
        repeat'
         conv => whnf
         first
          | refine zA ?_ | refine zB ?_ | refine zC ?_ | refine zD ?_ | refine zE ?_ | refine zF ?_ | refine zG ?_ | refine zH ?_ | refine zI ?_ | refine splT ?_ | refine splF ?_ | refine splNot ?_
          | ((first | refine splIn (fun hc => ?_) (fun hc => ?_) | refine splD (fun hc => ?_) (fun hc => ?_) | refine splE (fun hc => ?_) (fun hc => ?_) | refine splNE (fun hc => ?_) (fun hc => ?_)) <;> first | (exfalso; omega) | (exfalso; dsimp only at hc; omega) | skip)
          | ((with_reducible show CallEv _ _ 31 _ _ _ _ _); refine callE (k := 31) (fun β w' hbw => h31 _ hbw) ?_)
          | ((with_reducible show CallEv _ _ 29 _ _ _ _ _); refine callR [2, 3, 4, 5] [] (brM 2 PT (g0 :: HG)) (brS 2 PP.length (g0 :: HG)) rfl (fun i b hi => by simp [brM, oM] at hi; rcases hi with ⟨rfl, _⟩ | ⟨rfl, _⟩ <;> decide) (fun β w' hbk hbw => (hB0 w' hbw).mono fun e w2 h => mv_gen (nb := 2) (k := 4) rfl (br_V 2 _ _) (br_m 2 _ _) h) ?_)
        refine ⟨rfl, Dis.mk [2, 4] (fun i hi => by simp at hi; rcases hi with rfl | rfl <;> exact ⟨_, rfl, rfl⟩) fun β w1 hb hw => ⟨(⟨(some ⟨β 2, 0, none⟩, β 3), .inr ⟨_, rfl⟩⟩, ⟨(some ⟨β 4, 0, none⟩, β 5), .inr ⟨_, rfl⟩⟩), trivial, ⟨⟨_, rfl, rfl⟩, ⟨_, rfl, rfl⟩, ⟨_, rfl, by rw [← hHn]; rfl⟩, ⟨_, rfl, rfl⟩, trivial⟩, ⟨⟨rfl, _, _, _, rfl, rfl, rfl⟩, trivial⟩, fun w2 h2 hb2 => ⟨h2, Rd.of_owns (sz := 1) (f := iF) (fun _ => rfl) rfl hPn.symm (by rw [← hPn]; exact hb2 2 (by simp) _ rfl), Rd.of_owns (sz := 2) (f := gF) (fun _ => rfl) rfl hHn.symm (by rw [← hHn]; exact hb2 4 (by simp) _ rfl)⟩⟩⟩
    | cons a0 A =>
      have h31 := fun (w' : World) (hb : Below w.heap.size w w') => list_own (a0 :: A) o c w' (hP.below hb) (by simp) (by omega)
      simp only [List.length_cons] at h31 hlA
      cases HG with
      | nil =>
        skip
        repeat'
         conv => whnf
         first
          | refine zA ?_ | refine zB ?_ | refine zC ?_ | refine zD ?_ | refine zE ?_ | refine zF ?_ | refine zG ?_ | refine zH ?_ | refine zI ?_ | refine splT ?_ | refine splF ?_ | refine splNot ?_
          | ((first | refine splIn (fun hc => ?_) (fun hc => ?_) | refine splD (fun hc => ?_) (fun hc => ?_) | refine splE (fun hc => ?_) (fun hc => ?_) | refine splNE (fun hc => ?_) (fun hc => ?_)) <;> first | (exfalso; omega) | (exfalso; dsimp only at hc; omega) | skip)
          | ((with_reducible show CallEv _ _ 31 _ _ _ _ _); refine callO 2 [] (.os 2 3 (A.length + 1)) (A.length + 1) 1 ((a0 :: A).flatMap iF) 3 rfl (fun β w' _ hbw => (h31 w' hbw).mono fun _ _ ⟨b, c, h1, h2, h3, h4⟩ => ⟨b, c, h1, h2, h3, h4⟩) ?_)
          | ((with_reducible show CallEv _ _ 29 _ _ _ _ _); refine callR [4, 5, 6, 7] [2] (brM 4 PT []) (brS 4 PP.length []) rfl (fun i b hi => by simp [brM, oM] at hi; obtain ⟨rfl, _⟩ := hi; decide) (fun β w' hbk hbw => (hBo (some ⟨β 2, 0, none⟩) (β 3) w' hbw (Rd.of_owns (sz := 1) (f := iF) (fun _ => rfl) rfl rfl (hbk 2 (by simp) _ rfl))).mono fun e w2 h => mv_gen (nb := 4) (k := 4) rfl (br_V 4 _ _) (br_m 4 _ _) h) ?_)
        refine ⟨rfl, Dis.mk [4] (fun i hi => by simp at hi; subst hi; exact ⟨_, rfl, rfl⟩) fun β w1 hb hw => ⟨(⟨(some ⟨β 4, 0, none⟩, β 5), .inr ⟨_, rfl⟩⟩, ⟨(none, 0), .inl rfl⟩), trivial, ⟨⟨_, rfl, rfl⟩, ⟨_, rfl, rfl⟩, ⟨_, rfl, by rw [← hHn]; rfl⟩, ⟨_, rfl, rfl⟩, trivial⟩, ⟨⟨rfl, _, _, _, rfl, rfl, rfl⟩, trivial⟩, fun w2 h2 hb2 => ⟨h2, Rd.of_owns (sz := 1) (f := iF) (fun _ => rfl) rfl hPn.symm (by rw [← hPn]; exact hb2 4 (by simp) _ rfl), by rw [← hHn]; exact .inl ⟨rfl, rfl⟩⟩⟩⟩
      | cons g0 HG =>
        skip
        repeat'
         conv => whnf
         first
          | refine zA ?_ | refine zB ?_ | refine zC ?_ | refine zD ?_ | refine zE ?_ | refine zF ?_ | refine zG ?_ | refine zH ?_ | refine zI ?_ | refine splT ?_ | refine splF ?_ | refine splNot ?_
          | ((first | refine splIn (fun hc => ?_) (fun hc => ?_) | refine splD (fun hc => ?_) (fun hc => ?_) | refine splE (fun hc => ?_) (fun hc => ?_) | refine splNE (fun hc => ?_) (fun hc => ?_)) <;> first | (exfalso; omega) | (exfalso; dsimp only at hc; omega) | skip)
          | ((with_reducible show CallEv _ _ 31 _ _ _ _ _); refine callO 2 [] (.os 2 3 (A.length + 1)) (A.length + 1) 1 ((a0 :: A).flatMap iF) 3 rfl (fun β w' _ hbw => (h31 w' hbw).mono fun _ _ ⟨b, c, h1, h2, h3, h4⟩ => ⟨b, c, h1, h2, h3, h4⟩) ?_)
          | ((with_reducible show CallEv _ _ 29 _ _ _ _ _); refine callR [4, 5, 6, 7] [2] (brM 4 PT (g0 :: HG)) (brS 4 PP.length (g0 :: HG)) rfl (fun i b hi => by simp [brM, oM] at hi; rcases hi with ⟨rfl, _⟩ | ⟨rfl, _⟩ <;> decide) (fun β w' hbk hbw => (hBo (some ⟨β 2, 0, none⟩) (β 3) w' hbw (Rd.of_owns (sz := 1) (f := iF) (fun _ => rfl) rfl rfl (hbk 2 (by simp) _ rfl))).mono fun e w2 h => mv_gen (nb := 4) (k := 4) rfl (br_V 4 _ _) (br_m 4 _ _) h) ?_)
        refine ⟨rfl, Dis.mk [4, 6] (fun i hi => by simp at hi; rcases hi with rfl | rfl <;> exact ⟨_, rfl, rfl⟩) fun β w1 hb hw => ⟨(⟨(some ⟨β 4, 0, none⟩, β 5), .inr ⟨_, rfl⟩⟩, ⟨(some ⟨β 6, 0, none⟩, β 7), .inr ⟨_, rfl⟩⟩), trivial, ⟨⟨_, rfl, rfl⟩, ⟨_, rfl, rfl⟩, ⟨_, rfl, by rw [← hHn]; rfl⟩, ⟨_, rfl, rfl⟩, trivial⟩, ⟨⟨rfl, _, _, _, rfl, rfl, rfl⟩, trivial⟩, fun w2 h2 hb2 => ⟨h2, Rd.of_owns (sz := 1) (f := iF) (fun _ => rfl) rfl hPn.symm (by rw [← hPn]; exact hb2 4 (by simp) _ rfl), Rd.of_owns (sz := 2) (f := gF) (fun _ => rfl) rfl hHn.symm (by rw [← hHn]; exact hb2 6 (by simp) _ rfl)⟩⟩⟩
  · rintro ⟨⟨⟨p1, p2⟩, hp1⟩, ⟨⟨q1, q2⟩, hq1⟩⟩ _
    refine VC.of env mixed ?_
    dsimp only at hp1 hq1 ⊢
    have hP12 : PP.length ≤ 12 := by omega
    have hB12 : BB.length ≤ 12 := hri.2.2.1
    rcases hp with ⟨rfl, h1, h2⟩ | ⟨h1, h2, h3, h4⟩
    · have hat := hD.1 rfl
      obtain ⟨k, rfl⟩ := Int.eq_ofNat_of_zero_le h1
      rw [Int.toNat_natCast] at hat
      obtain ⟨ad, rfl⟩ := hp1.resolve_left fun hc => by rw [hc] at hat; simp at hat
      clear hD hBo
      repeat'
       conv => whnf
       first
        | refine zA ?_ | refine zB ?_ | refine zC ?_ | refine zD ?_ | refine zE ?_ | refine zF ?_ | refine zG ?_ | refine zH ?_ | refine zI ?_ | refine splT ?_ | refine splF ?_ | refine splNot ?_
        | ((first | refine splIn (fun hc => ?_) (fun hc => ?_) | refine splD (fun hc => ?_) (fun hc => ?_) | refine splE (fun hc => ?_) (fun hc => ?_) | refine splNE (fun hc => ?_) (fun hc => ?_)) <;> first | (exfalso; omega) | (exfalso; dsimp only at hc; omega) | skip)
        | refine Exists.intro (α := List Value) [iv val] ⟨⟨rfl, fun w' hw' => rd_ati hw'.2.1 hat⟩, ?_⟩
      all_goals first | (exfalso; omega) | exact ⟨fun β => rfl, fun w' h => h.1⟩
    · obtain ⟨u, v, hat, hv⟩ := hD.2 (by omega)
      obtain ⟨k, rfl⟩ := Int.eq_ofNat_of_zero_le h1
      rw [Int.toNat_natCast] at hat
      obtain ⟨ad, rfl⟩ := hq1.resolve_left fun hc => by rw [hc] at hat; simp at hat
      clear hD hBo
      have e0 := fun (w' : World) (hw' : Rd 2 gF (sV BB.length (some ad, q2)) HG w') => rd_fld hw' hat 0 (iv u) rfl
      have e1 := fun (w' : World) (hw' : Rd 2 gF (sV BB.length (some ad, q2)) HG w') => rd_fld hw' hat 1 (iv v) rfl
      obtain rfl | rfl : a = 0 ∨ a = 1 := by omega
      · rw [if_pos rfl] at hv
        subst hv
        repeat'
         conv => whnf
         first
          | refine zA ?_ | refine zB ?_ | refine zC ?_ | refine zD ?_ | refine zE ?_ | refine zF ?_ | refine zG ?_ | refine zH ?_ | refine zI ?_ | refine splT ?_ | refine splF ?_ | refine splNot ?_
          | ((first | refine splIn (fun hc => ?_) (fun hc => ?_) | refine splD (fun hc => ?_) (fun hc => ?_) | refine splE (fun hc => ?_) (fun hc => ?_) | refine splNE (fun hc => ?_) (fun hc => ?_)) <;> first | (exfalso; omega) | (exfalso; dsimp only at hc; omega) | skip)
          | refine idxP env rfl rfl rfl rfl (And.intro (by omega) (by omega)) ?_
          | refine Exists.intro (α := List Value) [iv val] ⟨⟨rfl, fun w' hw' => e0 w' hw'.2.2⟩, ?_⟩
        all_goals first | (exfalso; omega) | exact ⟨fun β => rfl, fun w' h => h.1⟩
      · rw [if_neg (by omega)] at hv
        subst hv
        repeat'
         conv => whnf
         first
          | refine zA ?_ | refine zB ?_ | refine zC ?_ | refine zD ?_ | refine zE ?_ | refine zF ?_ | refine zG ?_ | refine zH ?_ | refine zI ?_ | refine splT ?_ | refine splF ?_ | refine splNot ?_
          | ((first | refine splIn (fun hc => ?_) (fun hc => ?_) | refine splD (fun hc => ?_) (fun hc => ?_) | refine splE (fun hc => ?_) (fun hc => ?_) | refine splNE (fun hc => ?_) (fun hc => ?_)) <;> first | (exfalso; omega) | (exfalso; dsimp only at hc; omega) | skip)
          | refine idxP env rfl rfl rfl rfl (And.intro (by omega) (by omega)) ?_
          | refine Exists.intro (α := List Value) [iv val] ⟨⟨rfl, fun w' hw' => e1 w' hw'.2.2⟩, ?_⟩
        all_goals first | (exfalso; omega) | exact ⟨fun β => rfl, fun w' h => h.1⟩
end Go.Proofs.Ytaciigegbgnadaa
