import Derived.Test.YtaciigegbgnadaaGP
/- The beams of a rig: whether they are right. -/
namespace Go.Proofs.Ytaciigegbgnadaa
open Go Tx Go.RowKit
set_option linter.unusedSimpArgs false
set_option linter.unusedVariables false

/-- The depth of a beam behind its first hanger, of beams ahead of it being known; behind both. -/
def dA (b : Bm) (ds : List Int) : Int := if b.ab = -1 then 1 else imax 1 (ds.getD b.ab.toNat 0 + 1)
def dB (b : Bm) (ds : List Int) : Int := if b.bb = -1 then dA b ds else imax (dA b ds) (ds.getD b.bb.toNat 0 + 1)
def dv (b : Bm) (ds : List Int) : Nat → Int
  | 0 => 1
  | 1 => dA b ds
  | _ => dB b ds
def bmOk (pn : Nat) (i : Int) (b : Bm) : Bool := inB b.lo 0 60 && (inB b.hi 0 60 && (spanB b && (hasB pn b.ab b.aa i && (hasB pn b.bb b.ba i && (inB b.wt 0 1000000 && inB b.cap 0 1000000)))))
def bmsOk (pn : Nat) : List Int → List Bm → Bool
  | _, [] => true
  | ds, b :: r => (bmOk pn ds.length b && decide (dB b ds ≤ 3)) && bmsOk pn (ds ++ [dB b ds]) r
/-- The depths of beams, of some ahead of them being known. -/
def dps : List Int → List Bm → List Int
  | ds, [] => ds
  | ds, b :: r => dps (ds ++ [dB b ds]) r
theorem dps_append : ∀ (l r : List Bm) (ds : List Int), dps ds (l ++ r) = dps (dps ds l) r
  | [], _, _ => rfl
  | b :: l, r, ds => dps_append l r _
theorem dps_len : ∀ (l : List Bm) (ds : List Int), (dps ds l).length = ds.length + l.length
  | [], _ => rfl
  | b :: l, ds => by rw [dps, dps_len l]; simp; omega
theorem dps_take {BB : List Bm} {k : Nat} {b : Bm} (h : BB[k]? = some b) (ds : List Int) : dps ds (BB.take (k + 1)) = dps ds (BB.take k) ++ [dB b (dps ds (BB.take k))] := by
  rw [List.take_add_one, h, Option.toList_some, dps_append]; rfl
theorem bmsOk_drop {pn : Nat} {BB : List Bm} {k : Nat} {b : Bm} {ds : List Int} (h : BB[k]? = some b) : bmsOk pn ds (BB.drop k) = ((bmOk pn ds.length b && decide (dB b ds ≤ 3)) && bmsOk pn (ds ++ [dB b ds]) (BB.drop (k + 1))) := by
  obtain ⟨h1, h2⟩ := List.getElem?_eq_some_iff.1 h
  rw [List.drop_eq_getElem_cons h1, h2, bmsOk]
theorem hasB_cases {pn : Nat} {b a n : Int} (h : hasB pn b a n = true) : (b = -1 ∧ 0 ≤ a ∧ a ≤ (pn : Int) - 1) ∨ (b ≠ -1 ∧ (0 ≤ b ∧ b ≤ n - 1) ∧ 0 ≤ a ∧ a ≤ 60) := by
  unfold hasB at h
  split at h
  · exact .inl ⟨by assumption, inB_iff.1 h⟩
  · rw [Bool.and_eq_true, inB_iff, inB_iff] at h
    exact .inr ⟨by assumption, h⟩
theorem bmOk_iff {pn : Nat} {i : Int} {b : Bm} : bmOk pn i b = true ↔ (0 ≤ b.lo ∧ b.lo ≤ 60) ∧ (0 ≤ b.hi ∧ b.hi ≤ 60) ∧ spanB b = true ∧ hasB pn b.ab b.aa i = true ∧ hasB pn b.bb b.ba i = true ∧ (0 ≤ b.wt ∧ b.wt ≤ 1000000) ∧ (0 ≤ b.cap ∧ b.cap ≤ 1000000) := by
  unfold bmOk
  simp only [Bool.and_eq_true, inB_iff]
theorem set_take {L : List Int} {k : Nat} {v : Int} (hk : k < L.length) : (L.set k v).take (k + 1) = L.take k ++ [v] := by
  rw [List.take_add_one, List.getElem?_set_self hk, List.take_set_of_le (Nat.le_refl _)]; rfl
theorem imax_bd {x y : Int} (h1 : 1 ≤ x ∧ x ≤ 4) (h2 : 1 ≤ y ∧ y ≤ 4) : 1 ≤ imax x y ∧ imax x y ≤ 4 := by rw [imax_eq]; omega
/-- Depths that are right. -/
def dsB (ds : List Int) : Prop := ∀ (j : Nat) (n : Int), ds[j]? = some n → 1 ≤ n ∧ n ≤ 3
theorem dA_bd {b : Bm} {ds : List Int} (hd : dsB ds) : 1 ≤ dA b ds ∧ dA b ds ≤ 4 := by
  unfold dA
  split
  · omega
  · refine imax_bd (by omega) ?_
    rw [List.getD_eq_getElem?_getD]
    cases h : ds[b.ab.toNat]? with
    | none => simp
    | some n => have := hd _ _ h; simp; omega
theorem dB_bd {b : Bm} {ds : List Int} (hd : dsB ds) : 1 ≤ dB b ds ∧ dB b ds ≤ 4 := by
  unfold dB
  split
  · exact dA_bd hd
  · refine imax_bd (dA_bd hd) ?_
    rw [List.getD_eq_getElem?_getD]
    cases h : ds[b.bb.toNat]? with
    | none => simp
    | some n => have := hd _ _ h; simp; omega
theorem dsB_snoc {ds : List Int} {n : Int} (hd : dsB ds) (hn : 1 ≤ n ∧ n ≤ 3) : dsB (ds ++ [n]) := fun j m h => by
  rw [List.getElem?_append] at h
  split at h
  · exact hd j m h
  · have : j - ds.length = 0 := by
      have := (List.getElem?_eq_some_iff.1 h).1
      simp at this; omega
    rw [this] at h
    simp at h; omega
theorem atS {L : List Int} {k : Nat} {n : Int} (h : L[k]? = some n) : ∀ j v, [iv n][j]? = some v → (L.flatMap iF)[(k : Int).toNat * 1 + j]? = some v := fun j v hj => by
  match j, hj with
  | 0, hj => cases hj; rw [Int.toNat_natCast, Nat.mul_one, Nat.add_zero]; exact atF h
theorem atZ {L : List Int} {z : Int} {n : Int} (h : L[z.toNat]? = some n) : ∀ j v, [iv n][j]? = some v → (L.flatMap iF)[z.toNat * 1 + j]? = some v := fun j v hj => by
  match j, hj with
  | 0, hj => cases hj; rw [Nat.mul_one, Nat.add_zero]; exact atF h
theorem stS' {L : List Int} {k : Nat} (hk : k < L.length) (n : Int) : (k : Int).toNat * 1 + [iv n].length ≤ (L.flatMap iF).length := by
  rw [lenF, Int.toNat_natCast, Nat.mul_one]; exact hk
theorem stE {L : List Int} {k : Nat} (hk : k < L.length) (n : Int) : (L.flatMap iF).take ((k : Int).toNat * ti3.size) ++ [iv n] ++ (L.flatMap iF).drop ((k : Int).toNat * ti3.size + [iv n].length) = (L.set k n).flatMap iF := by
  rw [show ti3.size = 1 from rfl, Int.toNat_natCast, Nat.mul_one, ← setF hk, List.append_assoc]; rfl

theorem atS2 {L : List Int} {k : Nat} (hk : k < L.length) (n : Int) : ∀ j v, [iv n][j]? = some v → ((L.set k n).flatMap iF)[(k : Int).toNat * 1 + j]? = some v := atS (List.getElem?_set_self hk)
theorem atZ2 {L : List Int} {z : Int} {n a : Int} {k : Nat} (h : L[z.toNat]? = some n) (hz : z.toNat ≠ k) : ∀ j v, [iv n][j]? = some v → ((L.set k a).flatMap iF)[z.toNat * 1 + j]? = some v := atZ (by rw [List.getElem?_set_ne (Ne.symm hz)]; exact h)
theorem stS2 {L : List Int} {k : Nat} (hk : k < L.length) (a n : Int) : (k : Int).toNat * 1 + [iv n].length ≤ ((L.set k a).flatMap iF).length := stS' (by rw [List.length_set]; exact hk) n
theorem stE2 {L : List Int} {k : Nat} (hk : k < L.length) (a n : Int) : ((L.set k a).flatMap iF).take ((k : Int).toNat * ti3.size) ++ [iv n] ++ ((L.set k a).flatMap iF).drop ((k : Int).toNat * ti3.size + [iv n].length) = (L.set k n).flatMap iF := by
  rw [stE (by rw [List.length_set]; exact hk), List.set_set]

set_option maxHeartbeats 4000000 in
set_option maxRecDepth 100000 in
theorem beams_ok (r : Rig) (BB : List Bm) (w : World) (hrd : Rd 8 Bm.cs (.slice r.bo BB.length r.bc) BB w) (hn : r.bn = BB.length) (hl : BB.length ≤ 12) (hp : r.pn ≤ 1000000) :
    Calls Try.prog 87 #[r.v] w fun e w' => e = .returned (.bool (bmsOk r.pn [] BB)) ∧ Below w.heap.size w w' := by
  obtain ⟨po, pn, pc, bo, bn, bc, f0, f1, f2, lo, ln, lc⟩ := r
  dsimp only at hrd hn hp ⊢
  subst hn
  refine calls_val env mixed Try.func87 has87 Try.ntmps87 [.agg #[.slice po pn pc, .slice bo BB.length bc, iv f0, iv f1, iv f2, .slice lo ln lc]] (by simp) ?_
  repeat'
   conv => whnf
   first
    | refine zA ?_ | refine zB ?_ | refine zC ?_ | refine zD ?_ | refine zE ?_ | refine zF ?_ | refine zG ?_ | refine zH ?_ | refine zI ?_ | refine splT ?_ | refine splF ?_ | refine splNot ?_
    | ((first | refine splIn (fun hc => ?_) (fun hc => ?_) | refine splD (fun hc => ?_) (fun hc => ?_) | refine splE (fun hc => ?_) (fun hc => ?_) | refine splNE (fun hc => ?_) (fun hc => ?_)) <;> first | (exfalso; omega) | (exfalso; dsimp only at hc; omega) | skip)
    | refine mkO env 1 BB.length ((List.replicate BB.length (0 : Int)).flatMap iF) rfl rfl rfl (by decide) rfl (by omega) (by decide) (by rw [List.flatMap_replicate]; rfl) rfl ?_
  refine loopN2 3 (fun (k : Nat) (D : List Int) => [(1, .ptr 0 0), (3, .os 1 2 BB.length), (13, .v (.slice bo BB.length bc)), (14, .v (iv BB.length)), (15, .v (iv k))])
    (fun k D => [(0, .cells [.v (.slice po pn pc), .v (.slice bo BB.length bc), .v (iv f0), .v (iv f1), .v (iv f2), .v (.slice lo ln lc)] 58), (1, .own 2 BB.length 1 (D.flatMap iF) 3)])
    (fun k D => k ≤ BB.length ∧ D.length = BB.length ∧ D.take k = dps [] (BB.take k) ∧ bmsOk pn [] BB = bmsOk pn (dps [] (BB.take k)) (BB.drop k) ∧ dsB (dps [] (BB.take k))) (fun k _ => BB.length - k) 0 (List.replicate BB.length 0)
    ⟨Nat.zero_le _, by simp, rfl, rfl, fun j n (h : ([] : List Int)[j]? = some n) => by simp at h⟩ ⟨rfl, rfl, rfl, rfl, rfl, trivial⟩ ⟨rfl, rfl, trivial⟩ (fun _ _ _ => ⟨rfl, rfl⟩) ?_
  intro k D ⟨hk, hD, hDk, hen, hds⟩
  rcases Nat.lt_or_ge k BB.length with hkl | hkl
  · obtain ⟨b, hb⟩ : ∃ b, BB[k]? = some b := ⟨_, List.getElem?_eq_getElem hkl⟩
    obtain ⟨_, ad, rfl, _⟩ := hrd.ptr (by omega)
    have e0 := fun (w' : World) hw' => rd_ati (hrd.below (w' := w') hw') hb
    have hdl : (dps [] (BB.take k)).length = k := by rw [dps_len]; simp; omega
    rw [bmsOk_drop hb, hdl] at hen
    have hnx := dps_take hb []
    have hF : bmOk pn k b = false → false = bmsOk pn [] BB := fun h => by rw [hen, h]; rfl
    have hS := span_ok b
    have hsB : spanB b = spanB b := rfl
    obtain ⟨b1, b2, b3, b4, b5, b6, b7, b8⟩ := b
    dsimp only at hS
    repeat'
     conv => whnf
     first
      | refine zA ?_ | refine zB ?_ | refine zC ?_ | refine zD ?_ | refine zE ?_ | refine zF ?_ | refine zG ?_ | refine zH ?_ | refine zI ?_ | refine splT ?_ | refine splF ?_ | refine splNot ?_
      | ((first | refine splIn (fun hc => ?_) (fun hc => ?_) | refine splD (fun hc => ?_) (fun hc => ?_) | refine splE (fun hc => ?_) (fun hc => ?_) | refine splNE (fun hc => ?_) (fun hc => ?_)) <;> first | (exfalso; omega) | (exfalso; dsimp only at hc; omega) | skip)
      | refine Exists.intro (α := List Value) [iv b1, iv b2, iv b3, iv b4, iv b5, iv b6, iv b7, iv b8] ⟨⟨rfl, fun w' hw' => e0 w' hw'⟩, ?_⟩
      | ((with_reducible show CallEv _ _ 56 _ _ _ _ _); refine callE (k := 56) (fun β w' hbw => within_ok _ _ _ _) ?_)
      | ((with_reducible show CallEv _ _ 105 _ _ _ _ _); refine callE (k := 105) (fun β w' hbw => hS _ (by omega) (by omega)) ?_)
      | ((with_reducible show CallEv _ _ 78 _ _ _ _ _); refine callE (k := 78) (fun β w' hbw => has78_ok ⟨po, pn, pc, some ad, BB.length, bc, f0, f1, f2, lo, ln, lc⟩ _ _ _ _ hp (by omega)) ?_)
      | ((with_reducible show CallEv _ _ 86 _ _ _ _ _); refine callE (k := 86) (fun β w' hbw => force_ok _ _) ?_)
      | refine splB (fun hb => ?_) (fun hb => ?_)
    all_goals first | exact ⟨fun β => congrArg Value.bool (hF (by rw [Bool.eq_false_iff]; intro hc; rw [bmOk_iff] at hc; first | omega | simp_all)), fun w' h => h⟩ | skip
    have hok : bmOk pn k ⟨b1, b2, b3, b4, b5, b6, b7, b8⟩ = true := by rw [bmOk_iff]; exact ⟨by assumption, by assumption, by assumption, by assumption, by assumption, by assumption, by assumption⟩
    rw [hok, Bool.true_and] at hen
    clear hF hS
    have g1 := hasB_cases (show hasB pn b3 b4 k = true by assumption)
    have g2 := hasB_cases (show hasB pn b5 b6 k = true by assumption)
    generalize hT : dps [] (BB.take k) = T at *
    have hat : ∀ z : Int, 0 ≤ z → z ≤ (k : Int) - 1 → ∃ n, T[z.toNat]? = some n ∧ D[z.toNat]? = some n ∧ 1 ≤ n ∧ n ≤ 3 := fun z h1 h2 => by
      obtain ⟨n, hn⟩ : ∃ n, T[z.toNat]? = some n := ⟨_, List.getElem?_eq_getElem (by omega)⟩
      refine ⟨n, hn, ?_, hds _ _ hn⟩
      rw [← hDk, List.getElem?_take] at hn
      split at hn
      · exact hn
      · cases hn
    have hkD : k < D.length := by omega
    repeat'
     conv => whnf
     first
      | refine zA ?_ | refine zB ?_ | refine zC ?_ | refine zD ?_ | refine zE ?_ | refine zF ?_ | refine zG ?_ | refine zH ?_ | refine zI ?_ | refine splT ?_ | refine splF ?_ | refine splNot ?_
      | ((first | refine splIn (fun hc => ?_) (fun hc => ?_) | refine splD (fun hc => ?_) (fun hc => ?_) | refine splE (fun hc => ?_) (fun hc => ?_) | refine splNE (fun hc => ?_) (fun hc => ?_)) <;> first | (exfalso; omega) | (exfalso; dsimp only at hc; omega) | skip)
      | (refine And.intro (a := _ + _ ≤ List.length _) (stS' hkD 1) ?_; rw [stE hkD 1])
    have hT3 : dsB T := hds
    conv => whnf
    refine loopN 4 (fun m : Nat => [(1, .ptr 0 0), (3, .os 1 2 BB.length), (4, .v (iv k)), (13, .v (.slice (some ad) BB.length bc)), (14, .v (iv BB.length)), (15, .v (iv k)), (70, .agg [.v (iv b3), .v (iv b4), .v (iv b5), .v (iv b6)]), (71, .v (iv m))])
      (fun m => [(0, .cells [.v (.slice po pn pc), .v (.slice (some ad) BB.length bc), .v (iv f0), .v (iv f1), .v (iv f2), .v (.slice lo ln lc)] 58), (1, .own 2 BB.length 1 ((D.set k (dv ⟨b1, b2, b3, b4, b5, b6, b7, b8⟩ T m)).flatMap iF) 3)])
      (fun m => m ≤ 2) (fun m => 2 - m) 0 (by omega) ⟨rfl, rfl, rfl, rfl, rfl, rfl, rfl, rfl, trivial⟩ ⟨rfl, rfl, trivial⟩ (fun _ _ => ⟨rfl, rfl⟩) ?_
    intro m hm
    obtain rfl | rfl | rfl : m = 0 ∨ m = 1 ∨ m = 2 := by omega
    · by_cases hg : b3 = -1
      · have hA : dv ⟨b1, b2, b3, b4, b5, b6, b7, b8⟩ T 1 = 1 := if_pos hg
        repeat'
         conv => whnf
         first
          | refine zA ?_ | refine zB ?_ | refine zC ?_ | refine zD ?_ | refine zE ?_ | refine zF ?_ | refine zG ?_ | refine zH ?_ | refine zI ?_ | refine splT ?_ | refine splF ?_ | refine splNot ?_
          | ((first | refine splIn (fun hc => ?_) (fun hc => ?_) | refine splD (fun hc => ?_) (fun hc => ?_) | refine splE (fun hc => ?_) (fun hc => ?_) | refine splNE (fun hc => ?_) (fun hc => ?_)) <;> first | (exfalso; omega) | (exfalso; dsimp only at hc; omega) | skip)
          | refine idxS env rfl rfl rfl rfl (And.intro (by omega) (by omega)) rfl rfl (.inl ⟨rfl, rfl⟩) rfl ?_
        all_goals first | (exfalso; omega) | exact ⟨1, by omega, by omega, Ent.weak rfl ⟨rfl, rfl, rfl, rfl, rfl, rfl, rfl, rfl, trivial⟩ ⟨rfl, by rw [hA]; rfl, trivial⟩ fun _ h => h⟩
      · obtain ⟨n, hn1, hn2, hn3⟩ := hat b3 (by omega) (by omega)
        have hA : dv ⟨b1, b2, b3, b4, b5, b6, b7, b8⟩ T 1 = imax 1 (n + 1) := by
          show dA _ _ = _
          rw [dA, if_neg hg, List.getD_eq_getElem?_getD, hn1]; rfl
        have hne : b3.toNat ≠ k := by omega
        repeat'
         conv => whnf
         first
          | refine zA ?_ | refine zB ?_ | refine zC ?_ | refine zD ?_ | refine zE ?_ | refine zF ?_ | refine zG ?_ | refine zH ?_ | refine zI ?_ | refine splT ?_ | refine splF ?_ | refine splNot ?_
          | ((first | refine splIn (fun hc => ?_) (fun hc => ?_) | refine splD (fun hc => ?_) (fun hc => ?_) | refine splE (fun hc => ?_) (fun hc => ?_) | refine splNE (fun hc => ?_) (fun hc => ?_)) <;> first | (exfalso; omega) | (exfalso; dsimp only at hc; omega) | skip)
          | refine idxS env rfl rfl rfl rfl (And.intro (by omega) (by omega)) rfl rfl (.inl ⟨rfl, rfl⟩) rfl ?_
          | refine Exists.intro (α := List Value) [iv 1] ⟨⟨rfl, atS2 hkD 1⟩, ?_⟩
          | refine Exists.intro (α := List Value) [iv n] ⟨⟨rfl, atZ2 hn2 hne⟩, ?_⟩
          | (refine And.intro (a := _ + _ ≤ List.length _) (stS2 hkD _ _) ?_; rw [stE2 hkD])
        all_goals first | (exfalso; omega) | exact ⟨1, by omega, by omega, Ent.weak rfl ⟨rfl, rfl, rfl, rfl, rfl, rfl, rfl, rfl, trivial⟩ ⟨rfl, by rw [hA]; rfl, trivial⟩ fun _ h => h⟩
    · have hab := dA_bd (b := ⟨b1, b2, b3, b4, b5, b6, b7, b8⟩) hT3
      generalize hz : dA ⟨b1, b2, b3, b4, b5, b6, b7, b8⟩ T = z at *
      have hz1 : dv ⟨b1, b2, b3, b4, b5, b6, b7, b8⟩ T 1 = z := hz
      rw [hz1]
      by_cases hg : b5 = -1
      · have hA : dv ⟨b1, b2, b3, b4, b5, b6, b7, b8⟩ T 2 = z := (if_pos hg).trans hz
        repeat'
         conv => whnf
         first
          | refine zA ?_ | refine zB ?_ | refine zC ?_ | refine zD ?_ | refine zE ?_ | refine zF ?_ | refine zG ?_ | refine zH ?_ | refine zI ?_ | refine splT ?_ | refine splF ?_ | refine splNot ?_
          | ((first | refine splIn (fun hc => ?_) (fun hc => ?_) | refine splD (fun hc => ?_) (fun hc => ?_) | refine splE (fun hc => ?_) (fun hc => ?_) | refine splNE (fun hc => ?_) (fun hc => ?_)) <;> first | (exfalso; omega) | (exfalso; dsimp only at hc; omega) | skip)
          | refine idxS env rfl rfl rfl rfl (And.intro (by omega) (by omega)) rfl rfl (.inl ⟨rfl, rfl⟩) rfl ?_
        all_goals first | (exfalso; omega) | exact ⟨2, by omega, by omega, Ent.weak rfl ⟨rfl, rfl, rfl, rfl, rfl, rfl, rfl, rfl, trivial⟩ ⟨rfl, by rw [hA]; rfl, trivial⟩ fun _ h => h⟩
      · obtain ⟨n, hn1, hn2, hn3⟩ := hat b5 (by omega) (by omega)
        have hA : dv ⟨b1, b2, b3, b4, b5, b6, b7, b8⟩ T 2 = imax z (n + 1) := by
          show dB _ _ = _
          rw [dB, if_neg hg, hz, List.getD_eq_getElem?_getD, hn1]; rfl
        have hne : b5.toNat ≠ k := by omega
        repeat'
         conv => whnf
         first
          | refine zA ?_ | refine zB ?_ | refine zC ?_ | refine zD ?_ | refine zE ?_ | refine zF ?_ | refine zG ?_ | refine zH ?_ | refine zI ?_ | refine splT ?_ | refine splF ?_ | refine splNot ?_
          | ((first | refine splIn (fun hc => ?_) (fun hc => ?_) | refine splD (fun hc => ?_) (fun hc => ?_) | refine splE (fun hc => ?_) (fun hc => ?_) | refine splNE (fun hc => ?_) (fun hc => ?_)) <;> first | (exfalso; omega) | (exfalso; dsimp only at hc; omega) | skip)
          | refine idxS env rfl rfl rfl rfl (And.intro (by omega) (by omega)) rfl rfl (.inl ⟨rfl, rfl⟩) rfl ?_
          | refine Exists.intro (α := List Value) [iv z] ⟨⟨rfl, atS2 hkD z⟩, ?_⟩
          | refine Exists.intro (α := List Value) [iv n] ⟨⟨rfl, atZ2 hn2 hne⟩, ?_⟩
          | (refine And.intro (a := _ + _ ≤ List.length _) (stS2 hkD _ _) ?_; rw [stE2 hkD])
        all_goals first | (exfalso; omega) | exact ⟨2, by omega, by omega, Ent.weak rfl ⟨rfl, rfl, rfl, rfl, rfl, rfl, rfl, rfl, trivial⟩ ⟨rfl, by rw [hA]; rfl, trivial⟩ fun _ h => h⟩
    · have hab := dB_bd (b := ⟨b1, b2, b3, b4, b5, b6, b7, b8⟩) hT3
      rw [show dv ⟨b1, b2, b3, b4, b5, b6, b7, b8⟩ T 2 = dB ⟨b1, b2, b3, b4, b5, b6, b7, b8⟩ T from rfl]
      generalize dB ⟨b1, b2, b3, b4, b5, b6, b7, b8⟩ T = z at *
      by_cases hz3 : z ≤ 3
      · rw [decide_eq_true hz3, Bool.true_and] at hen
        repeat'
         conv => whnf
         first
          | refine zA ?_ | refine zB ?_ | refine zC ?_ | refine zD ?_ | refine zE ?_ | refine zF ?_ | refine zG ?_ | refine zH ?_ | refine zI ?_ | refine splT ?_ | refine splF ?_ | refine splNot ?_
          | ((first | refine splIn (fun hc => ?_) (fun hc => ?_) | refine splD (fun hc => ?_) (fun hc => ?_) | refine splE (fun hc => ?_) (fun hc => ?_) | refine splNE (fun hc => ?_) (fun hc => ?_)) <;> first | (exfalso; omega) | (exfalso; dsimp only at hc; omega) | skip)
          | refine Exists.intro (α := List Value) [iv z] ⟨⟨rfl, atS2 hkD z⟩, ?_⟩
        all_goals first | (exfalso; omega) | exact ⟨k + 1, D.set k z, ⟨by omega, by rw [List.length_set]; exact hD, by rw [hnx, set_take hkD, hDk], by rw [hnx]; exact hen, by rw [hnx]; exact dsB_snoc hT3 (by omega)⟩, by omega, Ent.weak rfl ⟨rfl, rfl, rfl, rfl, rfl, trivial⟩ ⟨rfl, rfl, trivial⟩ fun _ h => h⟩
      · rw [decide_eq_false hz3, Bool.false_and] at hen
        rw [hen]
        repeat'
         conv => whnf
         first
          | refine zA ?_ | refine zB ?_ | refine zC ?_ | refine zD ?_ | refine zE ?_ | refine zF ?_ | refine zG ?_ | refine zH ?_ | refine zI ?_ | refine splT ?_ | refine splF ?_ | refine splNot ?_
          | ((first | refine splIn (fun hc => ?_) (fun hc => ?_) | refine splD (fun hc => ?_) (fun hc => ?_) | refine splE (fun hc => ?_) (fun hc => ?_) | refine splNE (fun hc => ?_) (fun hc => ?_)) <;> first | (exfalso; omega) | (exfalso; dsimp only at hc; omega) | skip)
          | refine Exists.intro (α := List Value) [iv z] ⟨⟨rfl, atS2 hkD z⟩, ?_⟩
        all_goals first | (exfalso; omega) | exact ⟨fun β => rfl, fun w' h => h⟩
  · rw [List.drop_eq_nil_of_le hkl] at hen
    rw [hen]
    repeat'
     conv => whnf
     first
      | refine zA ?_ | refine zB ?_ | refine zC ?_ | refine zD ?_ | refine zE ?_ | refine zF ?_ | refine zG ?_ | refine zH ?_ | refine zI ?_ | refine splT ?_ | refine splF ?_ | refine splNot ?_
      | ((first | refine splIn (fun hc => ?_) (fun hc => ?_) | refine splD (fun hc => ?_) (fun hc => ?_) | refine splE (fun hc => ?_) (fun hc => ?_) | refine splNE (fun hc => ?_) (fun hc => ?_)) <;> first | (exfalso; omega) | (exfalso; dsimp only at hc; omega) | skip)
    all_goals first | exact ⟨fun β => congrArg Value.bool (decide_eq_true (show (BB.length : Int) ≤ 12 by omega)), fun w' h => h⟩ | (exfalso; omega)
end Go.Proofs.Ytaciigegbgnadaa

/- Rigs: whether they are right: what valid returns. -/
namespace Go.Proofs.Ytaciigegbgnadaa
open Go Tx Go.RowKit
set_option linter.unusedSimpArgs false
set_option linter.unusedVariables false

/-- The lists of a rig lie where its value says. -/
structure RigIn (r : Rig) (PP : List Int) (BB : List Bm) (LL : List Ld) (w : World) : Prop where
  p : Rd 1 iF (.slice r.po PP.length r.pc) PP w
  b : Rd 8 Bm.cs (.slice r.bo BB.length r.bc) BB w
  l : Rd 5 Ld.cs (.slice r.lo LL.length r.lc) LL w
  pn : r.pn = PP.length
  bn : r.bn = BB.length
  ln : r.ln = LL.length
  pl : PP.length ≤ 1000000
  bl : BB.length ≤ 1000000
  ll : LL.length ≤ 1000000
theorem RigIn.below {r : Rig} {PP : List Int} {BB : List Bm} {LL : List Ld} {w w' : World} (h : RigIn r PP BB LL w) (hb : Below w.heap.size w w') : RigIn r PP BB LL w' :=
  ⟨h.p.below hb, h.b.below hb, h.l.below hb, h.pn, h.bn, h.ln, h.pl, h.bl, h.ll⟩
def fB (n : Int) : Bool := inB n 0 1000000
def fcB (n : Int) : Bool := inB n 1000 20000
def ldOk (pn : Nat) (bn : Int) (l : Ld) : Bool := hasB pn l.beam l.at' bn && (decide ((l.kind : Int) ≤ 2) && (inB l.lo 0 1000000 && (inB l.hi 0 1000000 && decide (l.lo ≤ l.hi))))
theorem ldOk_iff {pn : Nat} {bn : Int} {l : Ld} : ldOk pn bn l = true ↔ hasB pn l.beam l.at' bn = true ∧ (l.kind : Int) ≤ 2 ∧ (0 ≤ l.lo ∧ l.lo ≤ 1000000) ∧ (0 ≤ l.hi ∧ l.hi ≤ 1000000) ∧ l.lo ≤ l.hi := by
  unfold ldOk
  simp only [Bool.and_eq_true, inB_iff, decide_eq_true_eq]
def rigOk (f0 f1 f2 : Int) (PP : List Int) (BB : List Bm) (LL : List Ld) : Bool :=
  inB PP.length 1 12 && (PP.all (fun n => inB n 0 1000000) && (decide (BB.length ≤ 12) && (bmsOk PP.length [] BB && (decide (LL.length ≤ 20) && ([f0, f1, f2].all (fun n => inB n 1000 20000) && LL.all (ldOk PP.length BB.length))))))
theorem rigOk_iff {f0 f1 f2 : Int} {PP : List Int} {BB : List Bm} {LL : List Ld} : rigOk f0 f1 f2 PP BB LL = true ↔ (1 ≤ (PP.length : Int) ∧ (PP.length : Int) ≤ 12) ∧ PP.all (fun n => inB n 0 1000000) = true ∧ BB.length ≤ 12 ∧ bmsOk PP.length [] BB = true ∧ LL.length ≤ 20 ∧ [f0, f1, f2].all (fun n => inB n 1000 20000) = true ∧ LL.all (ldOk PP.length BB.length) = true := by
  unfold rigOk
  simp only [Bool.and_eq_true, inB_iff, decide_eq_true_eq]
theorem rd_fac {w : World} {b : Nat} {x y z : Value} {f0 f1 f2 : Int} {ty : TypeId} (h : w.heap[b]? = some (.cells #[x, y, iv f0, iv f1, iv f2, z] ty (0, 0))) : Rd 1 iF (.slice (some ⟨b, 2, none⟩) 3 3) [f0, f1, f2] w := by
  refine .inr ⟨_, _, rfl, fun k g hk j v hv => ?_⟩
  have hk3 : k < 3 := (List.getElem?_eq_some_iff.1 hk).1
  have hj : j = 0 := by have := (List.getElem?_eq_some_iff.1 hv).1; simp at this; omega
  subst hj
  simp only [List.getElem?_cons_zero, Option.some.injEq] at hv
  subst hv
  rw [own_add, own_add, cell_of_row w b _ _ ty (0, 0) h]
  obtain rfl | rfl | rfl : k = 0 ∨ k = 1 ∨ k = 2 := by omega
  all_goals (simp at hk; subst hk; rfl)

set_option maxHeartbeats 4000000 in
set_option maxRecDepth 100000 in
theorem valid_ok (r : Rig) (PP : List Int) (BB : List Bm) (LL : List Ld) (w : World) (h : RigIn r PP BB LL w) :
    Calls Try.prog 67 #[r.v] w fun e w' => e = .returned (.bool (rigOk r.f0 r.f1 r.f2 PP BB LL)) ∧ Below w.heap.size w w' := by
  obtain ⟨po, pn, pc, bo, bn, bc, f0, f1, f2, lo, ln, lc⟩ := r
  obtain ⟨hP, hB, hL, rfl, rfl, rfl, l1, l2, l3⟩ := h
  dsimp only at hP hB hL l1 l2 l3 ⊢
  refine calls_val env mixed Try.func67 has67 Try.ntmps67 [.agg #[.slice po PP.length pc, .slice bo BB.length bc, iv f0, iv f1, iv f2, .slice lo LL.length lc]] (by simp) ?_
  have hv1 := fun w' (hb : Below w.heap.size w w') => all86_ok PP po pc w' (hP.below hb) l1
  have hv2 := fun w' (hb : Below w.heap.size w w') (h12 : BB.length ≤ 12) => beams_ok ⟨po, PP.length, pc, bo, BB.length, bc, f0, f1, f2, lo, LL.length, lc⟩ BB w' (hB.below hb) rfl h12 l1
  have hv3 := fun (b : Nat) (ty : TypeId) (x y z : Value) (w' : World) (h : w'.heap[b]? = some (.cells #[x, y, iv f0, iv f1, iv f2, z] ty (0, 0))) => all89_ok [f0, f1, f2] _ 3 w' (rd_fac h) (by simp)
  have hF : rigOk f0 f1 f2 PP BB LL = false → false = rigOk f0 f1 f2 PP BB LL := fun h => h.symm
  cases q1 : PP.all (fun n => inB n 0 1000000) <;> cases q2 : bmsOk PP.length [] BB <;> cases q3 : [f0, f1, f2].all (fun n => inB n 1000 20000)
  all_goals rw [q1] at hv1
  all_goals rw [q3] at hv3
  all_goals dsimp only at hv2
  all_goals rw [q2] at hv2
  all_goals skip
  repeat'
   conv => whnf
   first
    | refine zA ?_ | refine zB ?_ | refine zC ?_ | refine zD ?_ | refine zE ?_ | refine zF ?_ | refine zG ?_ | refine zH ?_ | refine zI ?_ | refine splT ?_ | refine splF ?_ | refine splNot ?_
    | ((first | refine splIn (fun hc => ?_) (fun hc => ?_) | refine splD (fun hc => ?_) (fun hc => ?_) | refine splE (fun hc => ?_) (fun hc => ?_) | refine splNE (fun hc => ?_) (fun hc => ?_)) <;> first | (exfalso; omega) | (exfalso; dsimp only at hc; omega) | skip)
    | ((with_reducible show CallEv _ _ 56 _ _ _ _ _); refine callE (k := 56) (fun β w' hbw => within_ok _ _ _ _) ?_)
    | ((with_reducible show CallEv _ _ 85 [_, .v (.func (.func 86) _ _)] _ _ _ _); refine callE (k := 85) (fun β w' hbw => hv1 w' hbw) ?_)
    | ((with_reducible show CallEv _ _ 85 [_, .v (.func (.func 89) _ _)] _ _ _ _); refine callM (k := 85) [0] (fun β w' hbk hbw => hv3 _ _ _ _ _ w' (hbk 0 (by simp) _ rfl)) ?_)
    | ((with_reducible show CallEv _ _ 87 _ _ _ _ _); refine callE (k := 87) (fun β w' hbw => hv2 _ hbw (by omega)) ?_)
    | ((with_reducible show CallEv _ _ 90 _ _ _ _ _); refine callI env mixed 1000 [36] Try.func90 has90 Try.ntmps90 (Nat.le_of_ble_eq_true rfl) rfl rfl rfl ?_)
    | ((with_reducible show CallEv _ _ 106 _ _ _ _ _); refine callI env mixed 2000 [] Try.func106 has106 Try.ntmps106 (Nat.le_of_ble_eq_true rfl) rfl rfl rfl ?_)
    | ((with_reducible show CallEv _ _ 111 _ _ _ _ _); refine callI env mixed 3000 [] Try.func111 has111 Try.ntmps111 (Nat.le_of_ble_eq_true rfl) rfl rfl rfl ?_)
  all_goals first | exact ⟨fun β => congrArg Value.bool (hF (by rw [Bool.eq_false_iff]; intro hc; rw [rigOk_iff] at hc; first | omega | simp_all)), fun w' h => h⟩ | skip
  conv => whnf
  refine loopE (fun k : Nat => [(0, .v (.slice lo LL.length lc)), (1, .fn (.func 107) [.ptr 1 0]), (7, .v (iv LL.length)), (8, .v (iv k))])
    (fun k => [(0, .cells [.v (.slice po PP.length pc), .v (.slice bo BB.length bc), .v (iv f0), .v (iv f1), .v (iv f2), .v (.slice lo LL.length lc)] 58), (1, .cells [.fn (.func 88) [.ptr 0 0]] 156)])
    (fun k => k ≤ LL.length ∧ (LL.take k).all (ldOk PP.length BB.length) = true) (fun k => LL.length - k) 0 ⟨Nat.zero_le _, rfl⟩ ⟨rfl, rfl, rfl, rfl, trivial⟩ ⟨rfl, rfl, trivial⟩ (fun _ => ⟨rfl, rfl⟩) ?_
  intro k ⟨hk, hall⟩
  rcases Nat.lt_or_ge k LL.length with hkl | hkl
  · obtain ⟨l, hb⟩ : ∃ b, LL[k]? = some b := ⟨_, List.getElem?_eq_getElem hkl⟩
    obtain ⟨_, ad, rfl, _⟩ := hL.ptr (by omega)
    have ht : (LL.take (k + 1)).all (ldOk PP.length BB.length) = ldOk PP.length BB.length l := by rw [List.take_add_one, hb]; simp [hall]
    have e0 := fun (w' : World) hw' => rd_ati (hL.below (w' := w') hw') hb
    have hno : ldOk PP.length BB.length l = false → rigOk f0 f1 f2 PP BB LL = false := fun h => by
      rw [Bool.eq_false_iff]; intro hc; rw [rigOk_iff, List.all_eq_true (l := LL)] at hc
      rw [hc.2.2.2.2.2.2 l (List.mem_of_getElem? hb)] at h; cases h
    obtain ⟨l1, l2, l3, l4, l5⟩ := l
    repeat'
     conv => whnf
     first
      | refine zA ?_ | refine zB ?_ | refine zC ?_ | refine zD ?_ | refine zE ?_ | refine zF ?_ | refine zG ?_ | refine zH ?_ | refine zI ?_ | refine splT ?_ | refine splF ?_ | refine splNot ?_
      | ((first | refine splIn (fun hc => ?_) (fun hc => ?_) | refine splD (fun hc => ?_) (fun hc => ?_) | refine splE (fun hc => ?_) (fun hc => ?_) | refine splNE (fun hc => ?_) (fun hc => ?_)) <;> first | (exfalso; omega) | (exfalso; dsimp only at hc; omega) | skip)
      | refine Exists.intro (α := List Value) [iv l1, iv l2, .int .u8 l3, iv l4, iv l5] ⟨⟨rfl, fun w' hw' => e0 w' hw'⟩, ?_⟩
      | ((with_reducible show CallEv _ _ 107 _ _ _ _ _); refine callI env mixed 4000 [0,1,5,7,8] Try.func107 has107 Try.ntmps107 (Nat.le_of_ble_eq_true rfl) rfl rfl rfl ?_)
      | ((with_reducible show CallEv _ _ 88 _ _ _ _ _); refine callI env mixed 5000 [] Try.func88 has88 Try.ntmps88 (Nat.le_of_ble_eq_true rfl) rfl rfl rfl ?_)
      | ((with_reducible show CallEv _ _ 78 _ _ _ _ _); refine callE (k := 78) (fun β w' hbw => has78_ok ⟨po, PP.length, pc, bo, BB.length, bc, f0, f1, f2, some ad, LL.length, lc⟩ _ _ _ _ (by omega) (by omega)) ?_)
      | ((with_reducible show CallEv _ _ 86 _ _ _ _ _); refine callE (k := 86) (fun β w' hbw => force_ok _ _) ?_)
      | refine splB (fun hb => ?_) (fun hb => ?_)
    all_goals first
      | exact ⟨k + 1, ⟨by omega, by rw [ht, ldOk_iff]; refine ⟨by assumption, ?_⟩; dsimp only; omega⟩, by omega, Ent.weak rfl ⟨rfl, rfl, rfl, rfl, trivial⟩ ⟨rfl, rfl, trivial⟩ fun _ h => h⟩
      | exact ⟨fun β => congrArg Value.bool (hno (by rw [Bool.eq_false_iff]; intro hc; rw [ldOk_iff] at hc; dsimp only at hc; first | omega | simp_all)).symm, fun w' h => h⟩
      | skip
  · rw [List.take_of_length_le hkl] at hall
    have hy : rigOk f0 f1 f2 PP BB LL = true := by
      rw [rigOk_iff]; exact ⟨by omega, q1, by omega, q2, by omega, q3, hall⟩
    rw [hy]
    repeat'
     conv => whnf
     first
      | refine zA ?_ | refine zB ?_ | refine zC ?_ | refine zD ?_ | refine zE ?_ | refine zF ?_ | refine zG ?_ | refine zH ?_ | refine zI ?_ | refine splT ?_ | refine splF ?_ | refine splNot ?_
      | ((first | refine splIn (fun hc => ?_) (fun hc => ?_) | refine splD (fun hc => ?_) (fun hc => ?_) | refine splE (fun hc => ?_) (fun hc => ?_) | refine splNE (fun hc => ?_) (fun hc => ?_)) <;> first | (exfalso; omega) | (exfalso; dsimp only at hc; omega) | skip)
    all_goals first | exact ⟨fun β => rfl, fun w' h => h⟩ | (exfalso; omega) | skip
end Go.Proofs.Ytaciigegbgnadaa

/- Engine arms that lacked: nil checks; callees that change rows of the caller; rows of rows written at a place. -/
namespace Go.Proofs.Ytaciigegbgnadaa.Tx
open Go Go.RowKit
set_option linter.unusedSimpArgs false
set_option linter.unusedVariables false

theorem nilE {P : Program} {dst : Option Tmp} {ty : TypeId} {pos : String} {after : Array Edge} {gd : Option (Nat × Bool)} {gs : List Nat} {σ : Sg} {K : Ef → Prop} {KF : Option KT} {x : Operand} {i o : Nat} (hx : gv σ x = some (.ptr i o))
    (hB : efB σ ⟨.ptr i o, [], [], gs ++ os x, []⟩ = true) (hK : K ⟨.ptr i o, [], [], gs ++ os x, []⟩) : OpEvS P ⟨dst, .nilCheck x, ty, pos, after, gd⟩ gs σ K KF := by
  refine .mk _ hB (fun k hk => by simp [hk]) rfl (runOK_pure fun β a w hss => ?_) hK
  have e1 := gv_eval hss hx (fun k hk => by simp [hk])
  simp only [execOp, e1, SV.c, Sem.run_pure]
theorem nilX {P : Program} {dst : Option Tmp} {ty : TypeId} {pos : String} {after : Array Edge} {gd : Option (Nat × Bool)} {gs : List Nat} {σ : Sg} {K : Ef → Prop} {KF : Option KT} {x : Operand} {ad : Addr} (hx : gv σ x = some (.v (.pointer (some ad))))
    (hB : efB σ ⟨.v (.pointer (some ad)), [], [], gs ++ os x, []⟩ = true) (hK : K ⟨.v (.pointer (some ad)), [], [], gs ++ os x, []⟩) : OpEvS P ⟨dst, .nilCheck x, ty, pos, after, gd⟩ gs σ K KF := by
  refine .mk _ hB (fun k hk => by simp [hk]) rfl (runOK_pure fun β a w hss => ?_) hK
  have e1 := gv_eval hss hx (fun k hk => by simp [hk])
  simp only [execOp, e1, SV.c, Sem.run_pure]

mutual
theorem SV.c_lt {β β' : Nat → Nat} {n : Nat} (h : ∀ i, i < n → β' i = β i) : ∀ s : SV, s.lt n = true → s.c β' = s.c β
  | .v _, _ => rfl
  | .ptr i o, hs => by simp only [SV.lt, Nat.blt_eq] at hs; simp only [SV.c, h i hs]
  | .sl i _ _ _, hs => by simp only [SV.lt, Nat.blt_eq] at hs; simp only [SV.c, h i hs]
  | .os i j _, hs => by simp only [SV.lt, Bool.and_eq_true, Nat.blt_eq] at hs; simp only [SV.c, h i hs.1, h j hs.2]
  | .agg l, hs => by simp only [SV.lt] at hs; simp only [SV.c, SV.cs_lt h l hs]
  | .fn _ cap, hs => by simp only [SV.lt] at hs; simp only [SV.c, SV.cs_lt h cap hs]
  | .mv _ cap, hs => by simp only [SV.lt] at hs; simp only [SV.c, SV.cs_lt h cap hs]
  | .tup l, hs => by simp only [SV.lt] at hs; simp only [SV.c, SV.cs_lt h l hs]
theorem SV.cs_lt {β β' : Nat → Nat} {n : Nat} (h : ∀ i, i < n → β' i = β i) : ∀ l : List SV, SV.lts n l = true → SV.cs β' l = SV.cs β l
  | [], _ => rfl
  | x :: r, hs => by
    simp only [SV.lts, Bool.and_eq_true] at hs
    simp only [SV.cs, SV.c_lt h x hs.1, SV.cs_lt h r hs.2]
end
theorem Blk.ok_nm {β β' : Nat → Nat} {n : Nat} (h : ∀ i, i < n → β' i = β i) {w : World} {b : Nat} (k : Blk) (hk : k.lt n = true) (ho : k.ok β w b) : k.ok β' w b := by
  cases k with
  | gone => trivial
  | cells l ty => simp only [Blk.ok] at *; rw [SV.cs_lt h l hk]; exact ho
  | row xs ty => exact ho
  | own j n' sz xs ty => simp only [Blk.lt, Nat.blt_eq] at hk; simp only [Blk.ok, h j hk] at *; exact ho
  | grow j n' sz xs ty => simp only [Blk.lt, Bool.and_eq_true, Nat.blt_eq] at hk; simp only [Blk.ok, h j hk.1, SV.cs_lt h xs hk.2] at *; exact ho

/-- Ghosts that hold the names of the first own blocks. -/
def pinG : Nat → List (Nat × SV)
  | 0 => []
  | n + 1 => (n, .ptr n 0) :: pinG n
theorem pinG_lk : ∀ {n i : Nat}, i < n → lk (pinG n) i = some (.ptr i 0)
  | n + 1, i, h => by
    rw [pinG, lk]
    cases hb : Nat.beq i n with
    | true => rw [Nat.eq_of_beq_eq_true hb]; rfl
    | false =>
      have : i ≠ n := fun e => by subst e; simp at hb
      exact pinG_lk (by omega)
theorem pinG_all : ∀ {n k : Nat} {s : SV}, lk (pinG n) k = some s → k < n ∧ s = .ptr k 0
  | n + 1, k, s, h => by
    rw [pinG, lk] at h
    cases hb : Nat.beq k n with
    | true =>
      rw [hb, cond_true, Option.some.injEq] at h
      have := Nat.eq_of_beq_eq_true hb
      subst this
      exact ⟨by omega, h.symm⟩
    | false =>
      rw [hb, cond_false] at h
      have := pinG_all h
      exact ⟨by omega, this.2⟩

/-- **A CALLEE THAT CHANGES ROWS OF ITS CALLER**: m0 is what it finds, m1 what it leaves; it names the blocks as the caller does. -/
theorem calls_WS {P : Program} (T : Env P) (hm : P.follows .mixedOrders = true) {k : Nat} {fn : Func} {c : Code} (hfn : P.funcs[k]? = some fn) (hb : fn.body = some c) {nt : Nat} (hnt : fn.ntmps = nt) (args : List SV) (m0 m1 : List (Nat × Blk)) (nb0 : Nat) (v : Value)
    (hlen : args.length ≤ nt) (hargs : SV.lts nb0 args = true) (hm0 : mB nb0 m0 = true) (hm1 : mB nb0 m1 = true) (hlive : ∀ i b, lk m0 i = some b → b.live = true)
    {Hp : World → Prop} (hvc : ∀ h : World → Prop, (∀ w', h w' → Hp w') → vc T c ⟨nt, slotsOf 0 args, m0, nb0, h, ⟨pinG nb0, [], 0⟩⟩ (endΦ T fn fun s σ => (∀ β, s.c β = v) ∧ MSub σ.m m1 ∧ (∀ w', σ.h w' → h w') ∧ σ.z.g = pinG nb0))
    {β : Nat → Nat} {w : World} (hok : ∀ i b, lk m0 i = some b → b.ok β w (β i)) (hinj : ∀ i j bi bj, lk m0 i = some bi → lk m0 j = some bj → i ≠ j → β i ≠ β j) (hst : ∀ w', Chg (fun b => ∃ i bk, lk m0 i = some bk ∧ β i = b) w w' → Hp w') :
    Calls P k (SV.cs β args).toArray w fun e w' => e = .returned v ∧ Chg (fun b => ∃ i bk, lk m0 i = some bk ∧ β i = b) w w' ∧ ∀ i b, lk m1 i = some b → b.ok β w' (β i) := by
  have hmk := okB (nt := 0) (t := []) (m := m0) (nb := nb0) (h := fun _ => True) (z := ⟨[], [], 0⟩) rfl hm0 rfl
  have hm1k := okB (nt := 0) (t := []) (m := m1) (nb := nb0) (h := fun _ => True) (z := ⟨[], [], 0⟩) rfl hm1 rfl
  let D : Nat → Prop := fun b => b < w.heap.size ∧ ¬ ∃ i bk, lk m0 i = some bk ∧ β i = b
  let h0 : World → Prop := fun w' => Chg (fun b => ∃ i bk, lk m0 i = some bk ∧ β i = b) w w'
  let X : Cx := ⟨fun k => .pointer (some ⟨β k, 0, none⟩), [], []⟩
  have hmem : Mem ⟨nt, slotsOf 0 args, m0, nb0, h0, ⟨pinG nb0, [], 0⟩⟩ β D w :=
    ⟨hok, fun i j bi bj h1 h2 _ _ hne => hinj i j bi bj h1 h2 hne, fun i b hi _ hD => hD.2 ⟨i, b, hi, rfl⟩, fun b hD => hD.1,
     fun w' hc => ⟨hc.os, hc.tape, hc.output, hc.size, fun b hb hX => hc.same b hb (fun hD => hD ⟨hb, hX⟩)⟩⟩
  have hamb : Amb X ⟨pinG nb0, [], 0⟩ β D w :=
    ⟨fun k s hk => by rw [(pinG_all hk).2]; rfl, fun p hp => (by cases hp), fun i e hi => (by simp [lk] at hi), rfl, List.nodup_nil, fun d hd => (by cases hd)⟩
  have hg0 : ∀ k s, lk (pinG nb0) k = some s → s.lt nb0 = true := fun k s hk => by
    obtain ⟨h1, h2⟩ := pinG_all hk
    subst h2
    simp only [SV.lt, Nat.blt_eq]; exact h1
  refine (calls_vc T hm hfn hb hnt (args := args) (m0 := m0) (nb0 := nb0) (h := h0) (z0 := ⟨pinG nb0, [], 0⟩) hlen hargs hmk.wf.m hg0 (hvc h0 hst) X hamb hmem).mono fun e w' ⟨s, σ', β', D', he, ⟨h1, h2, h3, h4⟩, h5, h6, h7, h8⟩ => ?_
  have hpin : ∀ i, i < nb0 → β' i = β i := fun i hi => by
    have := h8.g i (.ptr i 0) (by rw [h4]; exact pinG_lk hi)
    simp only [X, SV.c, Value.pointer.injEq, Option.some.injEq, Addr.mk.injEq] at this
    exact this.1.symm
  refine ⟨by rw [he, h1], h3 w' (h7.h w' (Chg.refl _ _)), fun i b hi => ?_⟩
  obtain ⟨q1, q2⟩ := hm1k.wf.m i b hi
  have := h7.m i b (h2.get i b hi)
  rw [hpin i q1] at this
  exact Blk.ok_nm (fun j hj => (hpin j hj).symm) b q2 this

/-- The same, nothing said of the rest. -/
theorem calls_W {P : Program} (T : Env P) (hm : P.follows .mixedOrders = true) {k : Nat} {fn : Func} {c : Code} (hfn : P.funcs[k]? = some fn) (hb : fn.body = some c) {nt : Nat} (hnt : fn.ntmps = nt) (args : List SV) (m0 m1 : List (Nat × Blk)) (nb0 : Nat) (v : Value)
    (hlen : args.length ≤ nt) (hargs : SV.lts nb0 args = true) (hm0 : mB nb0 m0 = true) (hm1 : mB nb0 m1 = true) (hlive : ∀ i b, lk m0 i = some b → b.live = true)
    (hvc : ∀ h : World → Prop, vc T c ⟨nt, slotsOf 0 args, m0, nb0, h, ⟨pinG nb0, [], 0⟩⟩ (endΦ T fn fun s σ => (∀ β, s.c β = v) ∧ MSub σ.m m1 ∧ (∀ w', σ.h w' → h w') ∧ σ.z.g = pinG nb0))
    {β : Nat → Nat} {w : World} (hok : ∀ i b, lk m0 i = some b → b.ok β w (β i)) (hinj : ∀ i j bi bj, lk m0 i = some bi → lk m0 j = some bj → i ≠ j → β i ≠ β j) :
    Calls P k (SV.cs β args).toArray w fun e w' => e = .returned v ∧ Chg (fun b => ∃ i bk, lk m0 i = some bk ∧ β i = b) w w' ∧ ∀ i b, lk m1 i = some b → b.ok β w' (β i) :=
  calls_WS T hm hfn hb hnt args m0 m1 nb0 v hlen hargs hm0 hm1 hlive (Hp := fun _ => True) (fun h _ => hvc h) hok hinj fun _ _ => trivial

/-- The call of such a callee: what is said of the rest of the world abides when its rows change. -/
theorem callWS {P : Program} {σ : Sg} {k : Nat} {args : List SV} {rs : List Nat} {K : Ef → Prop} {KF : Option KT} (rb : List Nat) (m1 : List (Nat × Blk)) (v : Value)
    (hB : efB σ ⟨.v v, [], m1, [], rb⟩ = true) (hall : ∀ i ∈ rb, ∃ bk, (i, bk) ∈ m1)
    (h : ∀ β w, (∀ i ∈ rb, ∀ b, lk σ.m i = some b → b.ok β w (β i)) → (∀ i ∈ rb, ∀ j ∈ rb, ∀ bi bj, lk σ.m i = some bi → lk σ.m j = some bj → bi.live = true → bj.live = true → i ≠ j → β i ≠ β j) →
      (∀ w', Chg (fun b => ∃ i ∈ rb, (∃ bk, lk σ.m i = some bk ∧ bk.live = true) ∧ β i = b) w w' → σ.h w') →
      Calls P k (SV.cs β args).toArray w fun e w' => e = .returned v ∧ Chg (fun b => ∃ i ∈ rb, β i = b) w w' ∧ ∀ i b, (i, b) ∈ m1 → b.ok β w' (β i))
    (hK : K ⟨.v v, [], m1, rs, rb⟩) : CallEv P σ k args (efB σ) rs K KF :=
  .mk ⟨.v v, [], m1, [], rb⟩ hB (fun β w h1 h2 hst => (h β w h1 h2 hst).mono fun e w' ⟨he, hc, ho⟩ =>
    ⟨β, he, fun _ _ => rfl, ⟨hc.os, hc.tape, hc.output, hc.size, fun b hb hX => hc.same b hb fun ⟨i, hi, hib⟩ => hX (by obtain ⟨bk, hbk⟩ := hall i hi; exact ⟨i, bk, hbk, by simp, hib⟩)⟩, ho, fun i hi => (by cases hi), fun i hi => (by cases hi)⟩) hK
/-- The call of such a callee. -/
theorem callW {P : Program} {σ : Sg} {k : Nat} {args : List SV} {rs : List Nat} {K : Ef → Prop} {KF : Option KT} (rb : List Nat) (m1 : List (Nat × Blk)) (v : Value)
    (hB : efB σ ⟨.v v, [], m1, [], rb⟩ = true) (hall : ∀ i ∈ rb, ∃ bk, (i, bk) ∈ m1)
    (h : ∀ β w, (∀ i ∈ rb, ∀ b, lk σ.m i = some b → b.ok β w (β i)) → (∀ i ∈ rb, ∀ j ∈ rb, ∀ bi bj, lk σ.m i = some bi → lk σ.m j = some bj → bi.live = true → bj.live = true → i ≠ j → β i ≠ β j) → σ.h w →
      Calls P k (SV.cs β args).toArray w fun e w' => e = .returned v ∧ Chg (fun b => ∃ i ∈ rb, β i = b) w w' ∧ ∀ i b, (i, b) ∈ m1 → b.ok β w' (β i))
    (hK : K ⟨.v v, [], m1, rs, rb⟩) : CallEv P σ k args (efB σ) rs K KF :=
  callWS rb m1 v hB hall (fun β w h1 h2 hst => h β w h1 h2 (hst w (Chg.refl _ _))) hK

/-! ### Rows of equal parts -/
theorem fm_len {sz : Nat} {f : Nat → List Value} (hf : ∀ j, (f j).length = sz) : ∀ l : List Nat, (l.flatMap f).length = l.length * sz
  | [] => by simp
  | a :: l => by rw [List.flatMap_cons, List.length_append, hf, fm_len hf l, List.length_cons, Nat.succ_mul, Nat.add_comm]
theorem fm_split (f : Nat → List Value) {n k : Nat} (hk : k < n) : (List.range n).flatMap f = (List.range k).flatMap f ++ f k ++ ((List.range' (k + 1) (n - k - 1)).flatMap f) := by
  have : List.range n = List.range k ++ k :: List.range' (k + 1) (n - k - 1) := by
    rw [List.range_eq_range', List.range_eq_range', ← List.range'_succ, show n = k + (n - k - 1 + 1) from by omega, ← List.range'_append_1, Nat.zero_add]
    congr 2
    omega
  rw [this]
  simp [List.flatMap_append, List.flatMap_cons]
theorem fm_congr {f g : Nat → List Value} : ∀ {l : List Nat}, (∀ j ∈ l, f j = g j) → l.flatMap f = l.flatMap g
  | [], _ => rfl
  | a :: l, h => by rw [List.flatMap_cons, List.flatMap_cons, h a List.mem_cons_self, fm_congr fun j hj => h j (List.mem_cons_of_mem _ hj)]
/-- What lies at a place. -/
theorem fm_get {sz : Nat} {f : Nat → List Value} (hf : ∀ j, (f j).length = sz) {n k j : Nat} {v : Value} (hk : k < n) (hv : (f k)[j]? = some v) : ((List.range n).flatMap f)[k * sz + j]? = some v := by
  have hj : j < sz := by rw [← hf k]; exact (List.getElem?_eq_some_iff.1 hv).1
  have hl : ((List.range k).flatMap f).length = k * sz := by rw [fm_len hf, List.length_range]
  rw [fm_split f hk, List.append_assoc, List.getElem?_append_right (by omega), hl, Nat.add_sub_cancel_left, List.getElem?_append_left (by rw [hf]; exact hj), hv]
/-- One part written anew. -/
theorem fm_set {sz : Nat} {f : Nat → List Value} (hf : ∀ j, (f j).length = sz) {n k o : Nat} {v : List Value} (hk : k < n) (ho : o + v.length ≤ sz) :
    ((List.range n).flatMap f).take (k * sz + o) ++ v ++ ((List.range n).flatMap f).drop (k * sz + o + v.length) = (List.range n).flatMap (fun j => if j = k then (f k).take o ++ v ++ (f k).drop (o + v.length) else f j) := by
  have hl : ((List.range k).flatMap f).length = k * sz := by rw [fm_len hf, List.length_range]
  rw [fm_split (fun j => if j = k then (f k).take o ++ v ++ (f k).drop (o + v.length) else f j) hk, fm_split f hk, if_pos rfl]
  rw [fm_congr (f := fun j => if j = k then (f k).take o ++ v ++ (f k).drop (o + v.length) else f j) (g := f) (l := List.range k) (fun j hj => if_neg (by rw [List.mem_range] at hj; omega))]
  rw [fm_congr (f := fun j => if j = k then (f k).take o ++ v ++ (f k).drop (o + v.length) else f j) (g := f) (l := List.range' (k + 1) (n - k - 1)) (fun j hj => if_neg (by rw [List.mem_range'] at hj; omega))]
  have h1 : ((List.range k).flatMap f ++ f k ++ (List.range' (k + 1) (n - k - 1)).flatMap f).take (k * sz + o) = (List.range k).flatMap f ++ (f k).take o := by
    rw [List.append_assoc, ← hl, List.take_length_add_append, List.take_append_of_le_length (by rw [hf]; omega)]
  have h2 : ((List.range k).flatMap f ++ f k ++ (List.range' (k + 1) (n - k - 1)).flatMap f).drop (k * sz + o + v.length) = (f k).drop (o + v.length) ++ (List.range' (k + 1) (n - k - 1)).flatMap f := by
    rw [List.append_assoc, ← hl, Nat.add_assoc, List.drop_length_add_append, List.drop_append_of_le_length (by rw [hf]; omega)]
  rw [h1, h2]
  simp only [List.append_assoc]
end Go.Proofs.Ytaciigegbgnadaa.Tx

/- A frame: what its parts are given; put adds a row at a place. -/
namespace Go.Proofs.Ytaciigegbgnadaa
open Go Tx Go.RowKit
set_option linter.unusedSimpArgs false
set_option linter.unusedVariables false

/-- What the points, the hangers of the beams, and the notches of the beams are given. -/
structure Fr where
  p : Nat → Row
  h : Nat → Nat → Row
  u : Nat → Nat → Row
def addR (x y : Row) : Row := fun i => x i + y i
def putP (F : Fr) (a : Nat) (x : Row) : Fr := { F with p := fun j => if j = a then addR (F.p j) x else F.p j }
def putU (F : Fr) (b a : Nat) (x : Row) : Fr := { F with u := fun j c => if j = b then (if c = a then addR (F.u j c) x else F.u j c) else F.u j c }
def putF (F : Fr) (b a : Int) (x : Row) : Fr := if b = -1 then putP F a.toNat x else putU F b.toNat a.toNat x
def ptsL (n : Nat) (F : Fr) : List Value := (List.range n).flatMap fun j => rwL (F.p j)
def hgsL (m : Nat) (F : Fr) : List Value := (List.range m).flatMap fun j => (List.range 2).flatMap fun k => rwL (F.h j k)
def hngL (m : Nat) (F : Fr) : List Value := (List.range m).flatMap fun j => (List.range 61).flatMap fun a => rwL (F.u j a)
theorem rwL_len (x : Row) : (rwL x).length = 21 := rfl
theorem hg_len (F : Fr) (j : Nat) : ((List.range 2).flatMap fun k => rwL (F.h j k)).length = 42 := by rw [fm_len (sz := 21) (fun _ => rfl)]; rfl
theorem hn_len (F : Fr) (j : Nat) : ((List.range 61).flatMap fun k => rwL (F.u j k)).length = 1281 := by rw [fm_len (sz := 21) (fun _ => rfl)]; rfl
theorem pts_get {F : Fr} {n k j : Nat} {v : Value} (hk : k < n) (h : (rwL (F.p k))[j]? = some v) : (ptsL n F)[k * 21 + j]? = some v := fm_get (sz := 21) (f := fun j => rwL (F.p j)) (fun _ => rfl) hk h
theorem hng_get {F : Fr} {m k a j : Nat} {v : Value} (hk : k < m) (ha : a < 61) (h : (rwL (F.u k a))[j]? = some v) : (hngL m F)[k * 1281 + a * 21 + j]? = some v := by
  rw [Nat.add_assoc]
  exact fm_get (sz := 1281) (f := fun j => (List.range 61).flatMap fun a => rwL (F.u j a)) (hn_len F) hk (fm_get (sz := 21) (f := fun a => rwL (F.u k a)) (fun _ => rfl) ha h)
theorem hgs_get {F : Fr} {m k a j : Nat} {v : Value} (hk : k < m) (ha : a < 2) (h : (rwL (F.h k a))[j]? = some v) : (hgsL m F)[k * 42 + a * 21 + j]? = some v := by
  rw [Nat.add_assoc]
  exact fm_get (sz := 42) (f := fun j => (List.range 2).flatMap fun a => rwL (F.h j a)) (hg_len F) hk (fm_get (sz := 21) (f := fun a => rwL (F.h k a)) (fun _ => rfl) ha h)
theorem pts_len (n : Nat) (F : Fr) : (ptsL n F).length = n * 21 := by rw [ptsL, fm_len (sz := 21) (fun _ => rfl), List.length_range]
theorem hgs_len (n : Nat) (F : Fr) : (hgsL n F).length = n * 42 := by rw [hgsL, fm_len (hg_len F), List.length_range]
theorem hng_len (n : Nat) (F : Fr) : (hngL n F).length = n * 1281 := by rw [hngL, fm_len (hn_len F), List.length_range]
theorem pts_set {F : Fr} {n k : Nat} (hk : k < n) (x : Row) : (ptsL n F).take (k * 21) ++ rwL (fun i => F.p k i + x i) ++ (ptsL n F).drop (k * 21 + 21) = ptsL n (putP F k x) := by
  have := fm_set (sz := 21) (f := fun j => rwL (F.p j)) (fun _ => rfl) (o := 0) (v := rwL (fun i => F.p k i + x i)) hk (Nat.le_refl _)
  refine (Eq.trans this ?_)
  unfold ptsL
  refine fm_congr fun j _ => ?_
  by_cases h : j = k
  · subst h
    rw [if_pos rfl]
    simp only [putP, if_true]
    rw [List.drop_of_length_le (by rw [rwL_len]; exact Nat.le_refl _)]
    simp [addR]
  · rw [if_neg h]; simp only [putP, if_neg h]
theorem hng_set {F : Fr} {m k a : Nat} (hk : k < m) (ha : a < 61) (x : Row) : (hngL m F).take (k * 1281 + a * 21) ++ rwL (fun i => F.u k a i + x i) ++ (hngL m F).drop (k * 1281 + a * 21 + 21) = hngL m (putU F k a x) := by
  have := fm_set (sz := 1281) (f := fun j => (List.range 61).flatMap fun a => rwL (F.u j a)) (hn_len F) (o := a * 21) (v := rwL (fun i => F.u k a i + x i)) hk (by rw [rwL_len]; omega)
  refine (Eq.trans this ?_)
  unfold hngL
  refine fm_congr fun j _ => ?_
  by_cases h : j = k
  · subst h
    rw [if_pos rfl]
    have h2 := fm_set (sz := 21) (f := fun a => rwL (F.u j a)) (fun _ => rfl) (o := 0) (v := rwL (fun i => F.u j a i + x i)) ha (Nat.le_refl _)
    refine (Eq.trans h2 ?_)
    refine fm_congr fun c _ => ?_
    by_cases h : c = a
    · subst h
      rw [if_pos rfl]
      simp only [putU, if_true]
      rw [List.drop_of_length_le (by rw [rwL_len]; exact Nat.le_refl _)]
      simp [addR]
    · rw [if_neg h]; simp only [putU, if_true, if_neg h]
  · rw [if_neg h]; simp only [putU, if_neg h]

/-- The cells of a frame: its rig, and where its three rows lie. -/
abbrev frC (r : Rig) (n m : Nat) : List SV := [.v (.slice r.po r.pn r.pc), .v (.slice r.bo r.bn r.bc), .v (iv r.f0), .v (iv r.f1), .v (iv r.f2), .v (.slice r.lo r.ln r.lc), .os 1 2 n, .os 3 4 m, .os 5 6 m]
abbrev frM (r : Rig) (n m : Nat) (F : Fr) : List (Nat × Blk) := [(7, .cells (frC r n m) 140), (1, .own 2 n 21 (ptsL n F) 142), (5, .own 6 m 1281 (hngL m F) 162)]

theorem valsK_mk : ∀ (vs : List Value) {K : List Value → Prop}, K vs → valsK (vs.map .v) K
  | [], _, h => h
  | x :: r, K, h => by
    show valsK (r.map .v) fun l => K (x :: l)
    exact valsK_mk r h

set_option maxHeartbeats 4000000 in
set_option maxRecDepth 100000 in
theorem put_p (r : Rig) (n m : Nat) (F : Fr) (a : Nat) (x : Row) (hn : n ≤ 12) (ha : a < n) (hf : rwB (F.p a)) (hx : rwB x) {β : Nat → Nat} {w : World}
    (hok : ∀ i b, lk (frM r n m F) i = some b → b.ok β w (β i)) (hinj : ∀ i j bi bj, lk (frM r n m F) i = some bi → lk (frM r n m F) j = some bj → i ≠ j → β i ≠ β j) :
    Calls Try.prog 91 (SV.cs β [.ptr 7 0, .v (.agg #[iv (-1), iv a]), .v (.agg (rwL x).toArray)]).toArray w fun e w' => e = .returned (.tuple #[]) ∧ Chg (fun b => ∃ i bk, lk (frM r n m F) i = some bk ∧ β i = b) w w' ∧
      ∀ i b, lk (frM r n m (putP F a x)) i = some b → b.ok β w' (β i) := by
  refine calls_W env mixed Try.func91 has91 Try.ntmps91 [.ptr 7 0, .v (.agg #[iv (-1), iv a]), .v (.agg (rwL x).toArray)] (frM r n m F) (frM r n m (putP F a x)) 9 (.tuple #[]) (by simp) rfl rfl rfl (fun i b hi => ?_) (fun h => ?_) hok hinj
  · have := lk_mem hi
    simp only [List.mem_cons, Prod.mk.injEq, List.not_mem_nil, or_false] at this
    rcases this with ⟨_, rfl⟩ | ⟨_, rfl⟩ | ⟨_, rfl⟩ <;> rfl
  obtain ⟨po, pn, pc, bo, bn, bc, f0, f1, f2, lo, ln, lc⟩ := r
  have hrd : ∀ j v, (rwL (F.p a))[j]? = some v → (ptsL n F)[(a : Int).toNat * ti142.size + j]? = some v := fun j v h => by rw [Int.toNat_natCast]; exact pts_get ha h
  repeat'
   conv => whnf
   first
    | refine zA ?_ | refine zB ?_ | refine zC ?_ | refine zD ?_ | refine zE ?_ | refine zF ?_ | refine zG ?_ | refine zH ?_ | refine zI ?_ | refine splT ?_ | refine splF ?_ | refine splNot ?_
    | ((first | refine splIn (fun hc => ?_) (fun hc => ?_) | refine splD (fun hc => ?_) (fun hc => ?_) | refine splE (fun hc => ?_) (fun hc => ?_) | refine splNE (fun hc => ?_) (fun hc => ?_)) <;> first | (exfalso; omega) | (exfalso; dsimp only at hc; omega) | skip)
    | refine nilE rfl rfl ?_
    | refine Exists.intro (α := List Value) (rwL (F.p a)) ⟨⟨rfl, hrd⟩, ?_⟩
    | ((with_reducible show CallEv _ _ 94 _ _ _ _ _); refine callM (k := 94) [11] (fun β w' hbk hbw => sum_ok (F.p a) x _ 2 w' (Rd.of_cells (sz := 21) (f := rwL) (bs := [F.p a, x]) (fun _ => rfl) rfl (hbk 11 (by simp) _ rfl)) hf hx) ?_)
  have hst : (a : Int).toNat * ti142.size + (rwL fun i => F.p a i + x i).length ≤ (ptsL n F).length := by
    rw [pts_len, Int.toNat_natCast, rwL_len, show ti142.size = 21 from rfl]; omega
  have hse : (ptsL n F).take ((a : Int).toNat * ti142.size) ++ (rwL fun i => F.p a i + x i) ++ (ptsL n F).drop ((a : Int).toNat * ti142.size + (rwL fun i => F.p a i + x i).length) = ptsL n (putP F a x) := by
    rw [Int.toNat_natCast, rwL_len]; exact pts_set ha x
  refine valsK_mk (rwL fun i => F.p a i + x i) ?_
  refine And.intro hst ?_
  rw [hse]
  repeat'
   conv => whnf
   first
    | refine zA ?_ | refine zB ?_ | refine zC ?_ | refine zD ?_ | refine zE ?_ | refine zF ?_ | refine zG ?_ | refine zH ?_ | refine zI ?_ | refine splT ?_ | refine splF ?_ | refine splNot ?_
    | ((first | refine splIn (fun hc => ?_) (fun hc => ?_) | refine splD (fun hc => ?_) (fun hc => ?_) | refine splE (fun hc => ?_) (fun hc => ?_) | refine splNE (fun hc => ?_) (fun hc => ?_)) <;> first | (exfalso; omega) | (exfalso; dsimp only at hc; omega) | skip)
  exact ⟨fun β => rfl, ⟨rfl, rfl, rfl, trivial⟩, fun w' h => h, rfl⟩

set_option maxHeartbeats 4000000 in
set_option maxRecDepth 100000 in
theorem put_u (r : Rig) (n m : Nat) (F : Fr) (q a : Nat) (x : Row) (hn : 1 ≤ n ∧ n ≤ 12) (hm : m ≤ 12) (hb : q < m) (ha : a < 61) (hf : rwB (F.u q a)) (hx : rwB x) {β : Nat → Nat} {w : World}
    (hok : ∀ i b, lk (frM r n m F) i = some b → b.ok β w (β i)) (hinj : ∀ i j bi bj, lk (frM r n m F) i = some bi → lk (frM r n m F) j = some bj → i ≠ j → β i ≠ β j) :
    Calls Try.prog 91 (SV.cs β [.ptr 7 0, .v (.agg #[iv q, iv a]), .v (.agg (rwL x).toArray)]).toArray w fun e w' => e = .returned (.tuple #[]) ∧ Chg (fun b => ∃ i bk, lk (frM r n m F) i = some bk ∧ β i = b) w w' ∧
      ∀ i b, lk (frM r n m (putU F q a x)) i = some b → b.ok β w' (β i) := by
  refine calls_W env mixed Try.func91 has91 Try.ntmps91 [.ptr 7 0, .v (.agg #[iv q, iv a]), .v (.agg (rwL x).toArray)] (frM r n m F) (frM r n m (putU F q a x)) 9 (.tuple #[]) (by simp) rfl rfl rfl (fun i b hi => ?_) (fun h => ?_) hok hinj
  · have := lk_mem hi
    simp only [List.mem_cons, Prod.mk.injEq, List.not_mem_nil, or_false] at this
    rcases this with ⟨_, rfl⟩ | ⟨_, rfl⟩ | ⟨_, rfl⟩ <;> rfl
  obtain ⟨po, pn, pc, bo, bn, bc, f0, f1, f2, lo, ln, lc⟩ := r
  have hrd : ∀ j v, (rwL (F.u q a))[j]? = some v → (hngL m F)[(q : Int).toNat * ti162.size + (a : Int).toNat * ti142.size + j]? = some v := fun j v h => by rw [Int.toNat_natCast, Int.toNat_natCast]; exact hng_get hb ha h
  repeat'
   conv => whnf
   first
    | refine zA ?_ | refine zB ?_ | refine zC ?_ | refine zD ?_ | refine zE ?_ | refine zF ?_ | refine zG ?_ | refine zH ?_ | refine zI ?_ | refine splT ?_ | refine splF ?_ | refine splNot ?_
    | ((first | refine splIn (fun hc => ?_) (fun hc => ?_) | refine splD (fun hc => ?_) (fun hc => ?_) | refine splE (fun hc => ?_) (fun hc => ?_) | refine splNE (fun hc => ?_) (fun hc => ?_)) <;> first | (exfalso; omega) | (exfalso; dsimp only at hc; omega) | skip)
    | refine nilE rfl rfl ?_
    | refine Exists.intro (α := List Value) (rwL (F.u q a)) ⟨⟨rfl, hrd⟩, ?_⟩
    | ((with_reducible show CallEv _ _ 94 _ _ _ _ _); refine callM (k := 94) [11] (fun β w' hbk hbw => sum_ok (F.u q a) x _ 2 w' (Rd.of_cells (sz := 21) (f := rwL) (bs := [F.u q a, x]) (fun _ => rfl) rfl (hbk 11 (by simp) _ rfl)) hf hx) ?_)
  have hst : (q : Int).toNat * ti162.size + (a : Int).toNat * ti142.size + (rwL fun i => F.u q a i + x i).length ≤ (hngL m F).length := by
    rw [hng_len, Int.toNat_natCast, Int.toNat_natCast, rwL_len, show ti142.size = 21 from rfl, show ti162.size = 1281 from rfl]; omega
  have hse : (hngL m F).take ((q : Int).toNat * ti162.size + (a : Int).toNat * ti142.size) ++ (rwL fun i => F.u q a i + x i) ++ (hngL m F).drop ((q : Int).toNat * ti162.size + (a : Int).toNat * ti142.size + (rwL fun i => F.u q a i + x i).length) = hngL m (putU F q a x) := by
    rw [Int.toNat_natCast, Int.toNat_natCast, rwL_len]; exact hng_set hb ha x
  refine valsK_mk (rwL fun i => F.u q a i + x i) ?_
  refine And.intro hst ?_
  rw [hse]
  repeat'
   conv => whnf
   first
    | refine zA ?_ | refine zB ?_ | refine zC ?_ | refine zD ?_ | refine zE ?_ | refine zF ?_ | refine zG ?_ | refine zH ?_ | refine zI ?_ | refine splT ?_ | refine splF ?_ | refine splNot ?_
    | ((first | refine splIn (fun hc => ?_) (fun hc => ?_) | refine splD (fun hc => ?_) (fun hc => ?_) | refine splE (fun hc => ?_) (fun hc => ?_) | refine splNE (fun hc => ?_) (fun hc => ?_)) <;> first | (exfalso; omega) | (exfalso; dsimp only at hc; omega) | skip)
  exact ⟨fun β => rfl, ⟨rfl, rfl, rfl, trivial⟩, fun w' h => h, rfl⟩
end Go.Proofs.Ytaciigegbgnadaa

/- A frame: its call of put; the rows that it makes. -/
namespace Go.Proofs.Ytaciigegbgnadaa
open Go Tx Go.RowKit
set_option linter.unusedSimpArgs false
set_option linter.unusedVariables false

/-- What a place is given. -/
def tgt (F : Fr) (b a : Int) : Row := if b = -1 then F.p a.toNat else F.u b.toNat a.toNat
theorem put_ok (r : Rig) (n m : Nat) (F : Fr) (b a : Int) (x : Row) (hn : 1 ≤ n ∧ n ≤ 12) (hm : m ≤ 12) (hh : hasB n b a m = true) (hf : rwB (tgt F b a)) (hx : rwB x) {β : Nat → Nat} {w : World}
    (hok : ∀ i b, lk (frM r n m F) i = some b → b.ok β w (β i)) (hinj : ∀ i j bi bj, lk (frM r n m F) i = some bi → lk (frM r n m F) j = some bj → i ≠ j → β i ≠ β j) :
    Calls Try.prog 91 (SV.cs β [.ptr 7 0, .v (.agg #[iv b, iv a]), .v (.agg (rwL x).toArray)]).toArray w fun e w' => e = .returned (.tuple #[]) ∧ Chg (fun b => ∃ i bk, lk (frM r n m F) i = some bk ∧ β i = b) w w' ∧
      ∀ i bk, lk (frM r n m (putF F b a x)) i = some bk → bk.ok β w' (β i) := by
  unfold tgt at hf
  unfold putF
  rcases hasB_cases hh with ⟨rfl, h1, h2⟩ | ⟨hne, ⟨h1, h2⟩, h3, h4⟩
  · obtain ⟨k, rfl⟩ := Int.eq_ofNat_of_zero_le h1
    rw [if_pos rfl] at hf ⊢
    rw [Int.toNat_natCast] at hf ⊢
    exact put_p r n m F k x hn.2 (by omega) hf hx hok hinj
  · obtain ⟨k, rfl⟩ := Int.eq_ofNat_of_zero_le h3
    obtain ⟨q, rfl⟩ := Int.eq_ofNat_of_zero_le h1
    rw [if_neg hne] at hf ⊢
    rw [Int.toNat_natCast, Int.toNat_natCast] at hf ⊢
    exact put_u r n m F q k x hn hm (by omega) (by omega) hf hx hok hinj
theorem frM_lk {r : Rig} {n m : Nat} {F : Fr} {i : Nat} {b : Blk} (h : lk (frM r n m F) i = some b) : i = 7 ∧ b = .cells (frC r n m) 140 ∨ i = 1 ∧ b = .own 2 n 21 (ptsL n F) 142 ∨ i = 5 ∧ b = .own 6 m 1281 (hngL m F) 162 := by
  have := lk_mem h
  simp only [List.mem_cons, Prod.mk.injEq, List.not_mem_nil, or_false] at this
  exact this

/-- The call of put. -/
theorem callPut {σ : Sg} {args : List SV} {rs : List Nat} {K : Ef → Prop} {KF : Option KT} (r : Rig) (n m : Nat) (F : Fr) (b a : Int) (x : Row) (hn : 1 ≤ n ∧ n ≤ 12) (hm : m ≤ 12) (hh : hasB n b a m = true) (hf : rwB (tgt F b a)) (hx : rwB x)
    (e7 : lk σ.m 7 = some (.cells (frC r n m) 140)) (e1 : lk σ.m 1 = some (.own 2 n 21 (ptsL n F) 142)) (e5 : lk σ.m 5 = some (.own 6 m 1281 (hngL m F) 162))
    (ha : ∀ β, SV.cs β args = SV.cs β [.ptr 7 0, .v (.agg #[iv b, iv a]), .v (.agg (rwL x).toArray)])
    (hB : efB σ ⟨.v (.tuple #[]), [], frM r n m (putF F b a x), [], [7, 1, 5]⟩ = true) (hK : K ⟨.v (.tuple #[]), [], frM r n m (putF F b a x), rs, [7, 1, 5]⟩) : CallEv Try.prog σ 91 args (efB σ) rs K KF := by
  have he : ∀ {i : Nat} {bk : Blk}, lk (frM r n m F) i = some bk → lk σ.m i = some bk := fun h => by
    rcases frM_lk h with ⟨rfl, rfl⟩ | ⟨rfl, rfl⟩ | ⟨rfl, rfl⟩ <;> assumption
  have hmem : ∀ {i : Nat} {bk : Blk}, lk (frM r n m F) i = some bk → i ∈ [7, 1, 5] ∧ bk.live = true := fun h => by
    rcases frM_lk h with ⟨rfl, rfl⟩ | ⟨rfl, rfl⟩ | ⟨rfl, rfl⟩ <;> exact ⟨by simp, rfl⟩
  refine callW [7, 1, 5] (frM r n m (putF F b a x)) (.tuple #[]) hB (fun i hi => ?_) (fun β w h1 h2 _ => ?_) hK
  · simp only [List.mem_cons, List.not_mem_nil, or_false] at hi
    rcases hi with rfl | rfl | rfl
    · exact ⟨_, List.mem_cons_self⟩
    · exact ⟨_, List.mem_cons_of_mem _ List.mem_cons_self⟩
    · exact ⟨_, List.mem_cons_of_mem _ (List.mem_cons_of_mem _ List.mem_cons_self)⟩
  · rw [ha β]
    refine (put_ok r n m F b a x hn hm hh hf hx (β := β) (w := w) (fun i bk hi => h1 i (hmem hi).1 bk (he hi)) (fun i j bi bj hi hj hne => h2 i (hmem hi).1 j (hmem hj).1 bi bj (he hi) (he hj) (hmem hi).2 (hmem hj).2 hne)).mono fun e w' ⟨q1, q2, q3⟩ => ⟨q1, ?_, fun i bk hi => ?_⟩
    · exact ⟨q2.os, q2.tape, q2.output, q2.size, fun b hb hX => q2.same b hb fun ⟨i, bk, hi, hib⟩ => hX ⟨i, (hmem hi).1, hib⟩⟩
    · refine q3 i bk ?_
      simp only [List.mem_cons, Prod.mk.injEq, List.not_mem_nil, or_false] at hi
      rcases hi with ⟨rfl, rfl⟩ | ⟨rfl, rfl⟩ | ⟨rfl, rfl⟩ <;> rfl

/-- `idxS` where the element is known. -/
theorem idxL {P : Program} (T : Env P) {dst : Option Tmp} {ty : TypeId} {pos : String} {after : Array Edge} {gd : Option (Nat × Bool)} {gs : List Nat} {σ : Sg} {K : Ef → Prop} {KF : Option KT} {t e n : Nat} {x ix : Operand} {s0 : SV} {k : IntKind} {z : Int} (l : List SV)
    {sz : Nat} {zr : List Value} {by_ : Nat} {ti : TI} (hx : gv σ x = some s0) (hix : gv σ ix = some (.v (.int k z))) (ht : T.ty t = some ⟨sz, zr, by_, .arr n e⟩) (he : T.ty e = some ti) (h01 : 0 ≤ z ∧ z < n)
    (hag : s0.isAgg = true) (hl : (s0.cells.drop (z.toNat * ti.size)).take ti.size = l) (hlen : l.length = ti.size) (hagg : ti.kind.agg = true)
    (hB : efB σ ⟨.agg l, [], [], gs ++ (os x ++ os ix), []⟩ = true) (hK : K ⟨.agg l, [], [], gs ++ (os x ++ os ix), []⟩) : OpEvS P ⟨dst, .index t x ix, ty, pos, after, gd⟩ gs σ K KF := by
  subst hl
  exact idxS T hx hix ht he h01 hag hlen (.inl ⟨hagg, rfl⟩) hB hK
theorem callPutE {σ : Sg} {args : List SV} {rs : List Nat} {K : Ef → Prop} {KF : Option KT} (r : Rig) (n m : Nat) (F F' : Fr) (b a : Int) (x : Row) (hF : putF F b a x = F') (hn : 1 ≤ n ∧ n ≤ 12) (hm : m ≤ 12) (hh : hasB n b a m = true) (hf : rwB (tgt F b a)) (hx : rwB x)
    (e7 : lk σ.m 7 = some (.cells (frC r n m) 140)) (e1 : lk σ.m 1 = some (.own 2 n 21 (ptsL n F) 142)) (e5 : lk σ.m 5 = some (.own 6 m 1281 (hngL m F) 162))
    (ha : ∀ β, SV.cs β args = SV.cs β [.ptr 7 0, .v (.agg #[iv b, iv a]), .v (.agg (rwL x).toArray)])
    (hB : efB σ ⟨.v (.tuple #[]), [], frM r n m F', [], [7, 1, 5]⟩ = true) (hK : K ⟨.v (.tuple #[]), [], frM r n m F', rs, [7, 1, 5]⟩) : CallEv Try.prog σ 91 args (efB σ) rs K KF := by
  subst hF
  exact callPut r n m F b a x hn hm hh hf hx e7 e1 e5 ha hB hK
theorem putF_nat (F : Fr) (i : Nat) (x : Row) : putF F i 30 x = putU F i 30 x := by
  unfold putF
  rw [if_neg (by omega), Int.toNat_natCast]
  rfl

/-- The rows of a frame: those of loads, then of beams. -/
def setH (F : Fr) (b a : Nat) (x : Row) : Fr := { F with h := fun j c => if j = b then (if c = a then x else F.h j c) else F.h j c }
def F0 : Fr := ⟨fun _ => zr, fun _ _ => zr, fun _ _ => zr⟩
def unitR (k : Nat) : Row := fun i => bif Nat.beq i k then 216000 else 0
def wtR (b : Bm) : Row := fun i => bif Nat.beq i 20 then b.wt * 216000 else 0
def ldsF (LL : List Ld) : Nat → Fr
  | 0 => F0
  | k + 1 => match LL[k]? with
    | some l => putF (ldsF LL k) l.beam l.at' (unitR k)
    | none => ldsF LL k
def hStep (b : Bm) (i a : Nat) (F : Fr) : Fr := setH (setH F i 0 (addR (F.h i 0) (lft b.lo b.hi a (F.u i a)))) i 1 (addR (F.h i 1) (rgt b.lo b.hi a (F.u i a)))
def hgF (b : Bm) (i : Nat) (F : Fr) : Nat → Fr
  | 0 => F
  | a + 1 => hStep b i a (hgF b i F a)
def bmG (b : Bm) (i : Nat) (F : Fr) : Fr := hgF b i (putU F i 30 (wtR b)) 61
def bmF (b : Bm) (i : Nat) (F : Fr) : Fr := putF (putF (bmG b i F) b.ab b.aa ((bmG b i F).h i 0)) b.bb b.ba ((bmG b i F).h i 1)
def bmsF (BB : List Bm) (F : Fr) : Nat → Fr
  | 0 => F
  | k + 1 => match BB[BB.length - 1 - k]? with
    | some b => bmF b (BB.length - 1 - k) (bmsF BB F k)
    | none => bmsF BB F k
def frF (BB : List Bm) (LL : List Ld) : Fr := bmsF BB (ldsF LL LL.length) BB.length
theorem hgs_set {F : Fr} {m k a : Nat} (hk : k < m) (ha : a < 2) (x : Row) : (hgsL m F).take (k * 42 + a * 21) ++ rwL x ++ (hgsL m F).drop (k * 42 + a * 21 + 21) = hgsL m (setH F k a x) := by
  have := fm_set (sz := 42) (f := fun j => (List.range 2).flatMap fun a => rwL (F.h j a)) (hg_len F) (o := a * 21) (v := rwL x) hk (by rw [rwL_len]; omega)
  refine (Eq.trans this ?_)
  unfold hgsL
  refine fm_congr fun j _ => ?_
  by_cases h : j = k
  · subst h
    rw [if_pos rfl]
    have h2 := fm_set (sz := 21) (f := fun a => rwL (F.h j a)) (fun _ => rfl) (o := 0) (v := rwL x) ha (Nat.le_refl _)
    refine (Eq.trans h2 ?_)
    refine fm_congr fun c _ => ?_
    by_cases h : c = a
    · subst h
      rw [if_pos rfl]
      simp only [setH, if_true]
      rw [List.drop_of_length_le (by rw [rwL_len]; exact Nat.le_refl _)]
      simp
    · rw [if_neg h]; simp only [setH, if_true, if_neg h]
  · rw [if_neg h]; simp only [setH, if_neg h]
theorem fm_const (c : List Value) : ∀ n, (List.replicate n c).flatten = (List.range n).flatMap fun _ => c := by
  intro n
  rw [show (List.range n).flatMap (fun _ => c) = ((List.range n).map fun _ => c).flatten from by rw [List.flatMap_def]]
  congr 1
  rw [List.map_const', List.length_range]
theorem pts0 (n : Nat) : ptsL n F0 = (List.replicate n ti142.zero).flatten := by rw [fm_const]; rfl
theorem hgs0 (n : Nat) : hgsL n F0 = (List.replicate n ti144.zero).flatten := by rw [fm_const]; rfl
theorem hng0 (n : Nat) : hngL n F0 = (List.replicate n ti162.zero).flatten := by
  rw [fm_const]
  unfold hngL
  refine fm_congr fun j _ => ?_
  show (List.range 61).flatMap (fun _ => rwL zr) = _
  rw [← fm_const]
  show _ = List.replicate 1281 _
  rw [show rwL zr = List.replicate 21 (iv 0) from rfl, List.flatten_replicate_replicate]
end Go.Proofs.Ytaciigegbgnadaa

/- A frame: what frame returns. -/
namespace Go.Proofs.Ytaciigegbgnadaa
open Go Tx Go.RowKit
set_option linter.unusedSimpArgs false
set_option linter.unusedVariables false

def rowsB (F : Fr) : Prop := (∀ j, rwB (F.p j)) ∧ (∀ j k, rwB (F.h j k)) ∧ (∀ j a, rwB (F.u j a))
/-- No row that comes up is great. -/
structure FrB (BB : List Bm) (LL : List Ld) : Prop where
  ld : ∀ k, k ≤ LL.length → rowsB (ldsF LL k)
  b0 : ∀ k, k ≤ BB.length → rowsB (bmsF BB (ldsF LL LL.length) k)
  b1 : ∀ k i b, BB[i]? = some b → i + k + 1 = BB.length → rwB (wtR b) ∧ ∀ a, a ≤ 61 → rowsB (hgF b i (putU (bmsF BB (ldsF LL LL.length) k) i 30 (wtR b)) a)
  b2 : ∀ k i b, BB[i]? = some b → i + k + 1 = BB.length → ∀ a : Nat, a < 61 → rwB (lft b.lo b.hi a ((hgF b i (putU (bmsF BB (ldsF LL LL.length) k) i 30 (wtR b)) a).u i a)) ∧ rwB (rgt b.lo b.hi a ((hgF b i (putU (bmsF BB (ldsF LL LL.length) k) i 30 (wtR b)) a).u i a))
  b3 : ∀ k i b, BB[i]? = some b → i + k + 1 = BB.length → rowsB (putF (bmG b i (bmsF BB (ldsF LL LL.length) k)) b.ab b.aa ((bmG b i (bmsF BB (ldsF LL LL.length) k)).h i 0))
theorem rowsB.tgt {F : Fr} (h : rowsB F) (b a : Int) : rwB (tgt F b a) := by
  unfold Go.Proofs.Ytaciigegbgnadaa.tgt
  split
  · exact h.1 _
  · exact h.2.2 _ _
/-- Where a frame and its rows lie. -/
structure FrA where
  fb : Nat
  pb : Nat
  pc : Nat
  hb : Nat
  hc : Nat
  ub : Nat
  uc : Nat
abbrev hgV (z : Row × Row) : List Value := rwL z.1 ++ rwL z.2
/-- A frame lies there. -/
structure FrIn (r : Rig) (n m : Nat) (F : Fr) (y : FrA) (w : World) : Prop where
  c : ∀ j v, [Value.slice r.po r.pn r.pc, .slice r.bo r.bn r.bc, iv r.f0, iv r.f1, iv r.f2, .slice r.lo r.ln r.lc, .slice (some ⟨y.pb, 0, none⟩) n y.pc, .slice (some ⟨y.hb, 0, none⟩) m y.hc, .slice (some ⟨y.ub, 0, none⟩) m y.uc][j]? = some v → w.cell? ((⟨y.fb, 0, none⟩ : Addr).add j) = some v
  p : Rd 21 rwL (.slice (some ⟨y.pb, 0, none⟩) n y.pc) ((List.range n).map F.p) w
  h : Rd 42 hgV (.slice (some ⟨y.hb, 0, none⟩) m y.hc) ((List.range m).map fun j => (F.h j 0, F.h j 1)) w

theorem replK_mk : ∀ (l ys : List SV) {K : List SV → Prop}, ys.length ≤ l.length → K (ys ++ l.drop ys.length) → replK l ys K
  | l, [], K, _, h => by cases l <;> exact (by simpa using h : K _)
  | [], y :: ys, K, hl, _ => by simp at hl
  | x :: l, y :: ys, K, hl, h => by
    show replK l ys fun l => K (y :: l)
    exact replK_mk l ys (by simpa using hl) (by simpa using h)
theorem splK_mk : ∀ (n : Nat) (l ys : List SV) {K : List SV → Prop}, n + ys.length ≤ l.length → K (l.take n ++ ys ++ l.drop (n + ys.length)) → splK n l ys K
  | 0, l, ys, K, hl, h => replK_mk l ys (by omega) (by simpa using h)
  | n + 1, [], ys, K, hl, _ => by simp at hl
  | n + 1, x :: l, ys, K, hl, h => splK_mk n l ys (by simp at hl; omega) (by
    rw [Nat.succ_add] at h
    simpa using h)
theorem splK_to {n : Nat} {l ys l' : List SV} {K : List SV → Prop} (hl : n + ys.length ≤ l.length) (he : l.take n ++ ys ++ l.drop (n + ys.length) = l') (h : K l') : splK n l ys K := splK_mk n l ys hl (he ▸ h)
theorem unit_cells {k : Nat} (hk : k < 21) : (rwS zr).take k ++ [.v (iv 216000)] ++ (rwS zr).drop (k + 1) = rwS (unitR k) := by
  rcases m22 (show k ≤ 21 by omega) with rfl | rfl | rfl | rfl | rfl | rfl | rfl | rfl | rfl | rfl | rfl | rfl | rfl | rfl | rfl | rfl | rfl | rfl | rfl | rfl | rfl | rfl
  all_goals first | rfl | (exfalso; omega)
theorem unit_bd (k : Nat) : rwB (unitR k) := fun i => by
  unfold unitR
  cases Nat.beq i k <;> simp
theorem normK_mk : ∀ (l : List SV) {K : List SV → Prop}, K l → normK l K
  | [], _, h => h
  | x :: r, K, h => by
    show normK r fun l => K (x :: l)
    exact normK_mk r h
/-- A row out of an array of rows whose cells are known. -/
theorem sub_row {C : List Value} {x : Row} {o : Nat} (h : ∀ j v, (rwL x)[j]? = some v → C[o + j]? = some v) : ((C.map SV.v).drop o).take 21 = rwS x := by
  have h1 : (C.drop o).take 21 = rwL x := by
    refine List.ext_getElem? fun j => ?_
    rw [List.getElem?_take]
    split
    · rename_i hj
      have hj2 : j < (rwL x).length := hj
      rw [List.getElem?_drop, h j _ (List.getElem?_eq_getElem hj2), List.getElem?_eq_getElem hj2]
    · rename_i hj
      exact (List.getElem?_eq_none (by show 21 ≤ j; omega)).symm
  rw [← List.map_drop, ← List.map_take, h1]
  rfl
theorem hgF_u (b : Bm) (i : Nat) (F : Fr) : ∀ a, (hgF b i F a).u = F.u
  | 0 => rfl
  | a + 1 => hgF_u b i F a
theorem hasB_mono {pn : Nat} {b a n n' : Int} (h : hasB pn b a n = true) (hn : n ≤ n') : hasB pn b a n' = true := by
  unfold hasB at *
  split
  · rename_i hb; rw [if_pos hb] at h; exact h
  · rename_i hb
    rw [if_neg hb, Bool.and_eq_true, inB_iff, inB_iff] at h
    rw [Bool.and_eq_true, inB_iff, inB_iff]
    omega
theorem put_h (F : Fr) (b a : Int) (x : Row) : (putF F b a x).h = F.h := by unfold putF; split <;> rfl
theorem hgs_put (m : Nat) (F : Fr) (b a : Int) (x : Row) : hgsL m (putF F b a x) = hgsL m F := by unfold hgsL; rw [put_h]

theorem bmsOk_all {pn : Nat} : ∀ {BB : List Bm} {ds : List Int}, bmsOk pn ds BB = true → ∀ (i : Nat) b, BB[i]? = some b → bmOk pn ((ds.length : Int) + i) b = true
  | [], _, _, i, b, h => by simp at h
  | c :: r, ds, h, 0, b, hb => by
    rw [bmsOk, Bool.and_eq_true, Bool.and_eq_true] at h
    simp only [List.getElem?_cons_zero, Option.some.injEq] at hb
    subst hb
    simpa using h.1.1
  | c :: r, ds, h, i + 1, b, hb => by
    rw [bmsOk, Bool.and_eq_true, Bool.and_eq_true] at h
    have := bmsOk_all h.2 i b (by simpa using hb)
    rw [List.length_append] at this
    rw [show (ds.length : Int) + ((i + 1 : Nat) : Int) = ((ds.length + [dB c ds].length : Nat) : Int) + (i : Int) from by simp; omega]
    exact this
theorem spanB_bd {b : Bm} (h : spanB b = true) : 1 ≤ b.hi - b.lo ∧ b.hi - b.lo ≤ 60 := by
  unfold spanB spL at h
  rw [List.contains_iff_mem] at h
  simp only [List.mem_cons, List.not_mem_nil, or_false] at h
  omega
theorem hasB_own {pn i m : Nat} (h : i < m) : hasB pn i 30 m = true := by
  unfold hasB
  rw [if_neg (by omega), Bool.and_eq_true, inB_iff, inB_iff]
  omega
theorem frIn_of {β : Nat → Nat} {r : Rig} {n m : Nat} {F : Fr} {w2 : World} (h7 : (Blk.cells (frC r n m) 140).ok β w2 (β 7)) (h1 : (Blk.own 2 n 21 (ptsL n F) 142).ok β w2 (β 1)) (h3 : (Blk.own 4 m 42 (hgsL m F) 144).ok β w2 (β 3)) :
    FrIn r n m F ⟨β 7, β 1, β 2, β 3, β 4, β 5, β 6⟩ w2 := by
  refine ⟨fun j v hj => ?_, Rd.of_owns (sz := 21) (f := rwL) (fun _ => rfl) ?_ (by simp) h1, Rd.of_owns (sz := 42) (f := hgV) (fun _ => rfl) ?_ (by simp) h3⟩
  · rw [own_add, Nat.zero_add, cell_of_row w2 (β 7) j _ 140 (0, 0) h7, List.getElem?_toArray]
    exact hj
  · rw [List.flatMap_map]; rfl
  · rw [List.flatMap_map]
    refine fm_congr fun j _ => ?_
    show rwL (F.h j 0) ++ (rwL (F.h j 1) ++ []) = _
    rw [List.append_nil]

set_option maxHeartbeats 16000000 in
set_option maxRecDepth 100000 in
theorem frame_ok (r : Rig) (PP : List Int) (BB : List Bm) (LL : List Ld) (w : World) (h : RigIn r PP BB LL w) (hr : rigOk r.f0 r.f1 r.f2 PP BB LL = true) (hG : FrB BB LL) :
    Calls Try.prog 69 #[r.v] w fun e w' => ∃ y : FrA, e = .returned (.pointer (some ⟨y.fb, 0, none⟩)) ∧ Below w.heap.size w w' ∧ St w.heap.size (FrIn r PP.length BB.length (frF BB LL) y) w' := by
  obtain ⟨po, pn, pc, bo, bn, bc, f0, f1, f2, lo, ln, lc⟩ := r
  obtain ⟨hP, hB, hL, rfl, rfl, rfl, l1, l2, l3⟩ := h
  dsimp only at hP hB hL l1 l2 l3 hr ⊢
  rw [rigOk_iff] at hr
  obtain ⟨q1, q2, q3, q4, q5, q6, q7⟩ := hr
  refine calls_fam env mixed Try.func69 has69 Try.ntmps69 [.agg #[.slice po PP.length pc, .slice bo BB.length bc, iv f0, iv f1, iv f2, .slice lo LL.length lc]] (by simp) ?_
  repeat'
   conv => whnf
   first
    | refine zA ?_ | refine zB ?_ | refine zC ?_ | refine zD ?_ | refine zE ?_ | refine zF ?_ | refine zG ?_ | refine zH ?_ | refine zI ?_ | refine splT ?_ | refine splF ?_ | refine splNot ?_
    | ((first | refine splIn (fun hc => ?_) (fun hc => ?_) | refine splD (fun hc => ?_) (fun hc => ?_) | refine splE (fun hc => ?_) (fun hc => ?_) | refine splNE (fun hc => ?_) (fun hc => ?_)) <;> first | (exfalso; omega) | (exfalso; dsimp only at hc; omega) | skip)
    | refine mkO env 1 PP.length (ptsL PP.length F0) rfl rfl rfl (by decide) rfl (by omega) (by decide) (pts0 _) rfl ?_
    | refine mkO env 3 BB.length (hgsL BB.length F0) rfl rfl rfl (by decide) rfl (by omega) (by decide) (hgs0 _) rfl ?_
    | refine mkO env 5 BB.length (hngL BB.length F0) rfl rfl rfl (by decide) rfl (by omega) (by decide) (hng0 _) rfl ?_
  refine loopN 9 (fun k : Nat => [(3, .ptr 8 0), (30, .v (.slice lo LL.length lc)), (31, .v (iv LL.length)), (32, .v (iv k))])
    (fun k => [(7, .cells [.v (.slice po PP.length pc), .v (.slice bo BB.length bc), .v (iv f0), .v (iv f1), .v (iv f2), .v (.slice lo LL.length lc), .os 1 2 PP.length, .os 3 4 BB.length, .os 5 6 BB.length] 140), (1, .own 2 PP.length 21 (ptsL PP.length (ldsF LL k)) 142), (3, .own 4 BB.length 42 (hgsL BB.length (ldsF LL k)) 144), (5, .own 6 BB.length 1281 (hngL BB.length (ldsF LL k)) 162), (8, .cells [.ptr 7 0] 134)])
    (fun k => k ≤ LL.length) (fun k => LL.length - k) 0 (Nat.zero_le _) ⟨rfl, rfl, rfl, rfl, trivial⟩ ⟨rfl, rfl, rfl, rfl, rfl, trivial⟩ (fun _ _ => ⟨rfl, rfl⟩) ?_
  intro k hk
  rcases Nat.lt_or_ge k LL.length with hkl | hkl
  · obtain ⟨l, hb⟩ : ∃ b, LL[k]? = some b := ⟨_, List.getElem?_eq_getElem hkl⟩
    obtain ⟨_, ad, rfl, _⟩ := hL.ptr (by omega)
    have e0 := fun (w' : World) hw' => rd_ati (hL.below (w' := w') hw') hb
    have hlo := List.all_eq_true.1 q7 l (List.mem_of_getElem? hb)
    rw [ldOk_iff] at hlo
    have hst : ldsF LL (k + 1) = putF (ldsF LL k) l.beam l.at' (unitR k) := by rw [ldsF, hb]
    have hg := hG.ld k hk
    generalize ldsF LL k = F at *
    obtain ⟨lb, la, lk', ll, lh⟩ := l
    dsimp only at hlo hst
    repeat'
     conv => whnf
     first
      | refine zA ?_ | refine zB ?_ | refine zC ?_ | refine zD ?_ | refine zE ?_ | refine zF ?_ | refine zG ?_ | refine zH ?_ | refine zI ?_ | refine splT ?_ | refine splF ?_ | refine splNot ?_
      | ((first | refine splIn (fun hc => ?_) (fun hc => ?_) | refine splD (fun hc => ?_) (fun hc => ?_) | refine splE (fun hc => ?_) (fun hc => ?_) | refine splNE (fun hc => ?_) (fun hc => ?_)) <;> first | (exfalso; omega) | (exfalso; dsimp only at hc; omega) | skip)
      | refine Exists.intro (α := List Value) [iv lb, iv la, .int .u8 lk', iv ll, iv lh] ⟨⟨rfl, fun w' hw' => e0 w' hw'⟩, ?_⟩
    refine splK_to (l' := rwS (unitR k)) ?_ ?_ ?_
    · rw [Int.toNat_natCast]
      show 0 + k * 1 + 1 ≤ 21
      omega
    · rw [Int.toNat_natCast]
      show (rwS zr).take (0 + k * 1) ++ [.v (iv 216000)] ++ (rwS zr).drop (0 + k * 1 + 1) = _
      rw [Nat.zero_add, Nat.mul_one]
      exact unit_cells (by omega)
    repeat'
     conv => whnf
     first
      | refine zA ?_ | refine zB ?_ | refine zC ?_ | refine zD ?_ | refine zE ?_ | refine zF ?_ | refine zG ?_ | refine zH ?_ | refine zI ?_ | refine splT ?_ | refine splF ?_ | refine splNot ?_
      | ((first | refine splIn (fun hc => ?_) (fun hc => ?_) | refine splD (fun hc => ?_) (fun hc => ?_) | refine splE (fun hc => ?_) (fun hc => ?_) | refine splNE (fun hc => ?_) (fun hc => ?_)) <;> first | (exfalso; omega) | (exfalso; dsimp only at hc; omega) | skip)
      | ((with_reducible show CallEv _ _ 91 _ _ _ _ _); refine callPut ⟨po, PP.length, pc, bo, BB.length, bc, f0, f1, f2, some ad, LL.length, lc⟩ PP.length BB.length F lb la (unitR k) (by omega) (by omega) hlo.1 (hg.tgt _ _) (unit_bd k) rfl rfl rfl (fun β => rfl) rfl ?_)
    exact ⟨k + 1, by omega, by omega, Ent.weak rfl ⟨rfl, rfl, rfl, rfl, trivial⟩ ⟨rfl, by rw [hst]; rfl, by rw [hst, hgs_put]; rfl, by rw [hst]; rfl, rfl, trivial⟩ fun _ h => h⟩
  · obtain rfl : k = LL.length := by omega
    repeat'
     conv => whnf
     first
      | refine zA ?_ | refine zB ?_ | refine zC ?_ | refine zD ?_ | refine zE ?_ | refine zF ?_ | refine zG ?_ | refine zH ?_ | refine zI ?_ | refine splT ?_ | refine splF ?_ | refine splNot ?_
      | ((first | refine splIn (fun hc => ?_) (fun hc => ?_) | refine splD (fun hc => ?_) (fun hc => ?_) | refine splE (fun hc => ?_) (fun hc => ?_) | refine splNE (fun hc => ?_) (fun hc => ?_)) <;> first | (exfalso; omega) | (exfalso; dsimp only at hc; omega) | skip)
      | ((with_reducible show CallEv _ _ 92 _ _ _ _ _); refine callI env mixed 1000 [3] Try.func92 has92 Try.ntmps92 (Nat.le_of_ble_eq_true rfl) rfl rfl rfl ?_)
    conv => whnf
    refine rf_inline env mixed 1000 [3] Try.func108 has108 Try.ntmps108 rfl rfl (by decide) rfl rfl ?_
    intro lp asg bdy hasg hbdy
    repeat'
     conv => whnf
     first
      | refine zA ?_ | refine zB ?_ | refine zC ?_ | refine zD ?_ | refine zE ?_ | refine zF ?_ | refine zG ?_ | refine zH ?_ | refine zI ?_ | refine splT ?_ | refine splF ?_ | refine splNot ?_
      | ((first | refine splIn (fun hc => ?_) (fun hc => ?_) | refine splD (fun hc => ?_) (fun hc => ?_) | refine splE (fun hc => ?_) (fun hc => ?_) | refine splNE (fun hc => ?_) (fun hc => ?_)) <;> first | (exfalso; omega) | (exfalso; dsimp only at hc; omega) | skip)
      | refine nilE rfl rfl ?_
    conv => whnf
    refine loopN 10 (fun k : Nat => [(0, .v (.func (.yield lp) #[] #[])), (1, .ptr 9 0), (3, .v (iv ((BB.length : Int) - 1 - k)))])
      (fun k => [(7, .cells [.v (.slice po PP.length pc), .v (.slice bo BB.length bc), .v (iv f0), .v (iv f1), .v (iv f2), .v (.slice lo LL.length lc), .os 1 2 PP.length, .os 3 4 BB.length, .os 5 6 BB.length] 140), (1, .own 2 PP.length 21 (ptsL PP.length (bmsF BB (ldsF LL LL.length) k)) 142), (3, .own 4 BB.length 42 (hgsL BB.length (bmsF BB (ldsF LL LL.length) k)) 144), (5, .own 6 BB.length 1281 (hngL BB.length (bmsF BB (ldsF LL LL.length) k)) 162), (8, .cells [.ptr 7 0] 134), (9, .cells [.ptr 7 0] 134)])
      (fun k => k ≤ BB.length) (fun k => BB.length - k) 0 (Nat.zero_le _) ⟨rfl, rfl, by rw [Int.natCast_zero, Int.sub_zero]; rfl, trivial⟩ ⟨rfl, rfl, rfl, rfl, rfl, rfl, trivial⟩ (fun _ _ => ⟨rfl, rfl⟩) ?_
    intro k hk2
    rcases Nat.lt_or_ge k BB.length with hkl2 | hkl2
    · obtain ⟨i, hi⟩ : ∃ i, i + k + 1 = BB.length := ⟨BB.length - 1 - k, by omega⟩
      have hik : (BB.length : Int) - 1 - (k : Int) = (i : Int) := by omega
      have hik2 : (BB.length : Int) - 1 - ((k + 1 : Nat) : Int) = (i : Int) - 1 := by omega
      rw [hik]
      obtain ⟨b, hb⟩ : ∃ b, BB[i]? = some b := ⟨_, List.getElem?_eq_getElem (by omega)⟩
      obtain ⟨_, ad, rfl, _⟩ := hB.ptr (by omega)
      have e0 := fun (w' : World) hw' => rd_ati (hB.below (w' := w') hw') hb
      have hst : bmsF BB (ldsF LL LL.length) (k + 1) = bmF b i (bmsF BB (ldsF LL LL.length) k) := by
        rw [bmsF, show BB.length - 1 - k = i from by omega, hb]
      have g0 := hG.b0 k hk2
      have g1 := hG.b1 k i b hb hi
      have g2 := hG.b2 k i b hb hi
      have g3 := hG.b3 k i b hb hi
      have hbm : bmOk PP.length i b = true := by have := bmsOk_all q4 i b hb; simpa using this
      rw [bmOk_iff] at hbm
      generalize bmsF BB (ldsF LL LL.length) k = F at *
      obtain ⟨b1, b2, b3, b4, b5, b6, b7, b8⟩ := b
      dsimp only at hbm
      obtain ⟨c1, c2, c3, c4, c5, c6, c7⟩ := hbm
      have c3' : 1 ≤ b2 - b1 ∧ b2 - b1 ≤ 60 := spanB_bd c3
      unfold bmF at hst
      unfold bmG at hst g3
      generalize hF1 : putU F i 30 (wtR ⟨b1, b2, b3, b4, b5, b6, b7, b8⟩) = F1 at *
      have hu0 : ∀ a, (hgF ⟨b1, b2, b3, b4, b5, b6, b7, b8⟩ i F1 a).u = F1.u := hgF_u _ _ _
      have hload : ∀ j v, ((List.range 61).flatMap fun a => rwL (F1.u i a))[j]? = some v → (hngL BB.length F1)[(i : Int).toNat * ti162.size + j]? = some v := fun j v h => by
        rw [Int.toNat_natCast]
        exact fm_get (sz := 1281) (f := fun j => (List.range 61).flatMap fun a => rwL (F1.u j a)) (hn_len F1) (by omega) h
      obtain ⟨C, hC1, hC2, hC3⟩ : ∃ C : List Value, C.length = ti162.size ∧ (∀ j v, C[j]? = some v → (hngL BB.length F1)[(i : Int).toNat * ti162.size + j]? = some v) ∧ ∀ a : Nat, a < 61 → ∀ j v, (rwL (F1.u i a))[j]? = some v → C[a * 21 + j]? = some v :=
        ⟨_, hn_len F1 i, hload, fun a ha j v h => fm_get (sz := 21) (f := fun a => rwL (F1.u i a)) (fun _ => rfl) ha h⟩
      clear hload
      repeat'
       conv => whnf
       first
        | refine zA ?_ | refine zB ?_ | refine zC ?_ | refine zD ?_ | refine zE ?_ | refine zF ?_ | refine zG ?_ | refine zH ?_ | refine zI ?_ | refine splT ?_ | refine splF ?_ | refine splNot ?_
        | ((first | refine splIn (fun hc => ?_) (fun hc => ?_) | refine splD (fun hc => ?_) (fun hc => ?_) | refine splE (fun hc => ?_) (fun hc => ?_) | refine splNE (fun hc => ?_) (fun hc => ?_)) <;> first | (exfalso; omega) | (exfalso; dsimp only at hc; omega) | skip)
        | refine nilE rfl rfl ?_
        | refine Exists.intro (α := List Value) [iv b1, iv b2, iv b3, iv b4, iv b5, iv b6, iv b7, iv b8] ⟨⟨rfl, fun w' hw' => e0 w' hw'⟩, ?_⟩
        | refine And.intro (a := (_ : List _) = [] ∧ (_ : List _) = []) ⟨rfl, rfl⟩ ?_
        | refine yield_inline env mixed 0 2000 [3] [0, 1, 3] rfl rfl rfl rfl rfl rfl rfl ?_
        | refine vc_eq env hasg ?_
        | refine vc_eq env hbdy ?_
        | ((with_reducible show CallEv _ _ 91 _ _ _ _ _); refine callPutE ⟨po, PP.length, pc, some ad, BB.length, bc, f0, f1, f2, lo, LL.length, lc⟩ PP.length BB.length F F1 i 30 (wtR ⟨b1, b2, b3, b4, b5, b6, b7, b8⟩) ((putF_nat _ _ _).trans hF1) (by omega) (by omega) (hasB_own (by omega)) (g0.tgt _ _) g1.1 rfl rfl rfl (fun β => rfl) rfl ?_)
        | refine Exists.intro (α := List Value) C ⟨⟨hC1, hC2⟩, normK_mk _ ?_⟩
      conv => whnf
      refine loopN 12 (fun a : Nat => [(3, .ptr 8 0), (7, .v (iv i)), (8, .ptr 10 0), (64, .agg (C.map .v)), (65, .v (iv a))])
        (fun a => [(7, .cells [.v (.slice po PP.length pc), .v (.slice (some ad) BB.length bc), .v (iv f0), .v (iv f1), .v (iv f2), .v (.slice lo LL.length lc), .os 1 2 PP.length, .os 3 4 BB.length, .os 5 6 BB.length] 140), (1, .own 2 PP.length 21 (ptsL PP.length (hgF ⟨b1, b2, b3, b4, b5, b6, b7, b8⟩ i F1 a)) 142), (3, .own 4 BB.length 42 (hgsL BB.length (hgF ⟨b1, b2, b3, b4, b5, b6, b7, b8⟩ i F1 a)) 144), (5, .own 6 BB.length 1281 (hngL BB.length (hgF ⟨b1, b2, b3, b4, b5, b6, b7, b8⟩ i F1 a)) 162), (8, .cells [.ptr 7 0] 134), (9, .cells [.ptr 7 0] 134), (10, .cells [.v (iv b1), .v (iv b2), .v (iv b3), .v (iv b4), .v (iv b5), .v (iv b6), .v (iv b7), .v (iv b8)] 107)])
        (fun a => a ≤ 61) (fun a => 61 - a) 0 (Nat.zero_le _) ⟨rfl, rfl, rfl, rfl, rfl, trivial⟩ ⟨rfl, rfl, by rw [← hF1]; rfl, rfl, rfl, rfl, rfl, trivial⟩ (fun a _ => ⟨by show (SV.lts 12 (C.map SV.v) && _) = true; rw [lts_v]; rfl, rfl⟩) ?_
      intro a ha
      have g4 := g1.2 a ha
      rcases Nat.lt_or_ge a 61 with hal | hal
      · have g5 := g2 a hal
        have hrow : rwB (F1.u i a) := by rw [← hu0 a]; exact g4.2.2 i a
        rw [hu0 a] at g5
        have hsub := sub_row (hC3 a hal)
        have hstA : hgF ⟨b1, b2, b3, b4, b5, b6, b7, b8⟩ i F1 (a + 1) = setH (setH (hgF ⟨b1, b2, b3, b4, b5, b6, b7, b8⟩ i F1 a) i 0 (addR ((hgF ⟨b1, b2, b3, b4, b5, b6, b7, b8⟩ i F1 a).h i 0) (lft b1 b2 a (F1.u i a)))) i 1 (addR ((hgF ⟨b1, b2, b3, b4, b5, b6, b7, b8⟩ i F1 a).h i 1) (rgt b1 b2 a (F1.u i a))) := by
          show hStep _ _ _ _ = _
          unfold hStep
          rw [hu0 a]
        generalize hgF ⟨b1, b2, b3, b4, b5, b6, b7, b8⟩ i F1 a = H at *
        generalize F1.u i a = X at *
        have hh0 := g4.2.1 i 0
        have hh1 := g4.2.1 i 1
        have hl0 : ∀ j v, (rwL (H.h i 0))[j]? = some v → (hgsL BB.length H)[(i : Int).toNat * ti144.size + (0 : Int).toNat * ti142.size + j]? = some v := fun j v h => by
          rw [Int.toNat_natCast]; exact hgs_get (k := i) (a := 0) (by omega) (by omega) h
        have hl1 : ∀ j v, (rwL (H.h i 1))[j]? = some v → (hgsL BB.length H)[(i : Int).toNat * ti144.size + (1 : Int).toNat * ti142.size + j]? = some v := fun j v h => by
          rw [Int.toNat_natCast]; exact hgs_get (k := i) (a := 1) (by omega) (by omega) h
        have hpt := fun w' => part_ok ⟨b1, b2, b3, b4, b5, b6, b7, b8⟩ X a w' hrow c3' c1 (by omega)
        dsimp only at hpt
        generalize lft b1 b2 a X = L at *
        generalize rgt b1 b2 a X = R at *
        have hs0 : (i : Int).toNat * ti144.size + (0 : Int).toNat * ti142.size + (rwL (addR (H.h i 0) L)).length ≤ (hgsL BB.length H).length := by
          rw [hgs_len, Int.toNat_natCast, rwL_len, show ti142.size = 21 from rfl, show ti144.size = 42 from rfl]; show i * 42 + 0 * 21 + 21 ≤ _; omega
        have he0 : (hgsL BB.length H).take ((i : Int).toNat * ti144.size + (0 : Int).toNat * ti142.size) ++ rwL (addR (H.h i 0) L) ++ (hgsL BB.length H).drop ((i : Int).toNat * ti144.size + (0 : Int).toNat * ti142.size + (rwL (addR (H.h i 0) L)).length) = hgsL BB.length (setH H i 0 (addR (H.h i 0) L)) := by
          rw [Int.toNat_natCast, rwL_len]; exact hgs_set (k := i) (a := 0) (by omega) (by omega) _
        have hs1 : (i : Int).toNat * ti144.size + (1 : Int).toNat * ti142.size + (rwL (addR (H.h i 1) R)).length ≤ (hgsL BB.length (setH H i 0 (addR (H.h i 0) L))).length := by
          rw [hgs_len, Int.toNat_natCast, rwL_len, show ti142.size = 21 from rfl, show ti144.size = 42 from rfl]; show i * 42 + 1 * 21 + 21 ≤ _; omega
        have he1 : (hgsL BB.length (setH H i 0 (addR (H.h i 0) L))).take ((i : Int).toNat * ti144.size + (1 : Int).toNat * ti142.size) ++ rwL (addR (H.h i 1) R) ++ (hgsL BB.length (setH H i 0 (addR (H.h i 0) L))).drop ((i : Int).toNat * ti144.size + (1 : Int).toNat * ti142.size + (rwL (addR (H.h i 1) R)).length) = hgsL BB.length (setH (setH H i 0 (addR (H.h i 0) L)) i 1 (addR (H.h i 1) R)) := by
          rw [Int.toNat_natCast, rwL_len]; exact hgs_set (k := i) (a := 1) (by omega) (by omega) _
        repeat'
         conv => whnf
         first
          | refine zA ?_ | refine zB ?_ | refine zC ?_ | refine zD ?_ | refine zE ?_ | refine zF ?_ | refine zG ?_ | refine zH ?_ | refine zI ?_ | refine splT ?_ | refine splF ?_ | refine splNot ?_
          | ((first | refine splIn (fun hc => ?_) (fun hc => ?_) | refine splD (fun hc => ?_) (fun hc => ?_) | refine splE (fun hc => ?_) (fun hc => ?_) | refine splNE (fun hc => ?_) (fun hc => ?_)) <;> first | (exfalso; omega) | (exfalso; dsimp only at hc; omega) | skip)
          | refine nilE rfl rfl ?_
          | refine idxL env (rwS X) rfl rfl rfl rfl (And.intro (by omega) (by omega)) rfl hsub rfl rfl rfl ?_
          | ((with_reducible show CallEv _ _ 93 _ _ _ _ _); refine callE (k := 93) (fun β w' hbw => hpt _) ?_)
          | refine Exists.intro (α := List Value) (rwL (H.h i 0)) ⟨⟨rfl, hl0⟩, ?_⟩
          | refine Exists.intro (α := List Value) (rwL (H.h i 1)) ⟨⟨rfl, hl1⟩, ?_⟩
          | ((with_reducible show CallEv _ _ 94 [.sl 15 0 2 2] _ _ _ _); refine callM (k := 94) [15] (fun β w' hbk hbw => sum_ok (H.h i 0) L _ 2 w' (Rd.of_cells (sz := 21) (f := rwL) (bs := [H.h i 0, L]) (fun _ => rfl) rfl (hbk 15 (by simp) _ rfl)) hh0 g5.1) ?_)
          | ((with_reducible show CallEv _ _ 94 [.sl 16 0 2 2] _ _ _ _); refine callM (k := 94) [16] (fun β w' hbk hbw => sum_ok (H.h i 1) R _ 2 w' (Rd.of_cells (sz := 21) (f := rwL) (bs := [H.h i 1, R]) (fun _ => rfl) rfl (hbk 16 (by simp) _ rfl)) hh1 g5.2) ?_)
        refine valsK_mk (rwL (addR (H.h i 0) L)) ?_
        refine And.intro hs0 ?_
        rw [he0]
        repeat'
         conv => whnf
         first
          | refine zA ?_ | refine zB ?_ | refine zC ?_ | refine zD ?_ | refine zE ?_ | refine zF ?_ | refine zG ?_ | refine zH ?_ | refine zI ?_ | refine splT ?_ | refine splF ?_ | refine splNot ?_
          | ((first | refine splIn (fun hc => ?_) (fun hc => ?_) | refine splD (fun hc => ?_) (fun hc => ?_) | refine splE (fun hc => ?_) (fun hc => ?_) | refine splNE (fun hc => ?_) (fun hc => ?_)) <;> first | (exfalso; omega) | (exfalso; dsimp only at hc; omega) | skip)
        refine valsK_mk (rwL (addR (H.h i 1) R)) ?_
        refine And.intro hs1 ?_
        rw [he1]
        repeat'
         conv => whnf
         first
          | refine zA ?_ | refine zB ?_ | refine zC ?_ | refine zD ?_ | refine zE ?_ | refine zF ?_ | refine zG ?_ | refine zH ?_ | refine zI ?_ | refine splT ?_ | refine splF ?_ | refine splNot ?_
          | ((first | refine splIn (fun hc => ?_) (fun hc => ?_) | refine splD (fun hc => ?_) (fun hc => ?_) | refine splE (fun hc => ?_) (fun hc => ?_) | refine splNE (fun hc => ?_) (fun hc => ?_)) <;> first | (exfalso; omega) | (exfalso; dsimp only at hc; omega) | skip)
        exact ⟨a + 1, by omega, by omega, Ent.weak rfl ⟨rfl, rfl, rfl, rfl, rfl, trivial⟩ ⟨rfl, by rw [hstA]; rfl, by rw [hstA]; rfl, by rw [hstA]; rfl, rfl, rfl, rfl, trivial⟩ fun _ h => h⟩
      · obtain rfl : a = 61 := by omega
        clear g1 g2
        generalize hgF ⟨b1, b2, b3, b4, b5, b6, b7, b8⟩ i F1 61 = G at *
        have hl0 : ∀ j v, (rwL (G.h i 0))[j]? = some v → (hgsL BB.length G)[(i : Int).toNat * ti144.size + (0 : Int).toNat * ti142.size + j]? = some v := fun j v h => by
          rw [Int.toNat_natCast]; exact hgs_get (k := i) (a := 0) (by omega) (by omega) h
        have hl1 : ∀ j v, (rwL (G.h i 1))[j]? = some v → (hgsL BB.length G)[(i : Int).toNat * ti144.size + (1 : Int).toNat * ti142.size + j]? = some v := fun j v h => by
          rw [Int.toNat_natCast]; exact hgs_get (k := i) (a := 1) (by omega) (by omega) h
        have c4' := hasB_mono c4 (show (i : Int) ≤ BB.length by omega)
        have c5' := hasB_mono c5 (show (i : Int) ≤ BB.length by omega)
        repeat'
         conv => whnf
         first
          | refine zA ?_ | refine zB ?_ | refine zC ?_ | refine zD ?_ | refine zE ?_ | refine zF ?_ | refine zG ?_ | refine zH ?_ | refine zI ?_ | refine splT ?_ | refine splF ?_ | refine splNot ?_
          | ((first | refine splIn (fun hc => ?_) (fun hc => ?_) | refine splD (fun hc => ?_) (fun hc => ?_) | refine splE (fun hc => ?_) (fun hc => ?_) | refine splNE (fun hc => ?_) (fun hc => ?_)) <;> first | (exfalso; omega) | (exfalso; dsimp only at hc; omega) | skip)
          | refine nilE rfl rfl ?_
          | refine Exists.intro (α := List Value) (rwL (G.h i 0)) ⟨⟨rfl, hl0⟩, ?_⟩
          | refine Exists.intro (α := List Value) (rwL (G.h i 1)) ⟨⟨rfl, hl1⟩, ?_⟩
          | ((with_reducible show CallEv _ _ 91 [_, .agg [.v (iv b3), .v (iv b4)], _] _ _ _ _); refine callPut ⟨po, PP.length, pc, some ad, BB.length, bc, f0, f1, f2, lo, LL.length, lc⟩ PP.length BB.length G b3 b4 (G.h i 0) (by omega) (by omega) c4' (g4.tgt _ _) (g4.2.1 i 0) rfl rfl rfl (fun β => rfl) rfl ?_)
          | ((with_reducible show CallEv _ _ 91 [_, .agg [.v (iv b5), .v (iv b6)], _] _ _ _ _); refine callPut ⟨po, PP.length, pc, some ad, BB.length, bc, f0, f1, f2, lo, LL.length, lc⟩ PP.length BB.length (putF G b3 b4 (G.h i 0)) b5 b6 (G.h i 1) (by omega) (by omega) c5' (g3.tgt _ _) (g4.2.1 i 1) rfl rfl rfl (fun β => rfl) rfl ?_)
        exact ⟨k + 1, by omega, by omega, Ent.weak rfl ⟨rfl, rfl, by rw [hik2]; rfl, trivial⟩ ⟨rfl, by rw [hst]; rfl, by rw [hst, hgs_put, hgs_put]; rfl, by rw [hst]; rfl, rfl, rfl, trivial⟩ (fun _ h => h) (.inr ⟨rfl, ⟨rfl, trivial⟩, ⟨rfl, trivial⟩⟩)⟩
    · obtain rfl : k = BB.length := by omega
      repeat'
       conv => whnf
       first
        | refine zA ?_ | refine zB ?_ | refine zC ?_ | refine zD ?_ | refine zE ?_ | refine zF ?_ | refine zG ?_ | refine zH ?_ | refine zI ?_ | refine splT ?_ | refine splF ?_ | refine splNot ?_
        | ((first | refine splIn (fun hc => ?_) (fun hc => ?_) | refine splD (fun hc => ?_) (fun hc => ?_) | refine splE (fun hc => ?_) (fun hc => ?_) | refine splNE (fun hc => ?_) (fun hc => ?_)) <;> first | (exfalso; omega) | (exfalso; dsimp only at hc; omega) | skip)
        | refine nilE rfl rfl ?_
      exact ⟨fun w' h => h, fun β w' hB' hblk => ⟨⟨β 7, β 1, β 2, β 3, β 4, β 5, β 6⟩, rfl, (((hblk 7 _ rfl rfl).and (hblk 1 _ rfl rfl)).and (hblk 3 _ rfl rfl)).imp fun w2 q => frIn_of (r := ⟨po, PP.length, pc, bo, BB.length, bc, f0, f1, f2, lo, LL.length, lc⟩) q.1.1 q.1.2 q.2⟩⟩
end Go.Proofs.Ytaciigegbgnadaa

/- A frame's rows are not great: a weighted sum of what all parts are given does not grow. -/
namespace Go.Proofs.Ytaciigegbgnadaa
open Go Tx Go.RowKit
set_option linter.unusedSimpArgs false
set_option linter.unusedVariables false

def sumN : Nat → (Nat → Nat) → Nat
  | 0, _ => 0
  | n + 1, f => sumN n f + f n
theorem sumN_le {f g : Nat → Nat} {k d : Nat} (h1 : ∀ j, j ≠ k → g j ≤ f j) (h2 : g k ≤ f k + d) : ∀ n, sumN n g ≤ sumN n f + (if k < n then d else 0)
  | 0 => by simp [sumN]
  | n + 1 => by
    have ih := sumN_le h1 h2 n
    simp only [sumN]
    by_cases hn : n = k
    · subst hn
      rw [if_neg (by omega)] at ih
      rw [if_pos (by omega)]
      omega
    · have := h1 n hn
      split at ih
      · rw [if_pos (by omega)]; omega
      · rw [if_neg (by omega)]; omega
theorem sumN_le' {f g : Nat → Nat} {k d : Nat} (h1 : ∀ j, j ≠ k → g j ≤ f j) (h2 : g k ≤ f k + d) (n : Nat) : sumN n g ≤ sumN n f + d := by
  have := sumN_le h1 h2 n
  split at this <;> omega
theorem sumN_mem {f : Nat → Nat} {k : Nat} : ∀ {n}, k < n → f k ≤ sumN n f
  | n + 1, h => by
    simp only [sumN]
    by_cases hk : k = n
    · subst hk; omega
    · have := sumN_mem (f := f) (show k < n by omega); omega
theorem sumN_mono {f : Nat → Nat} {n m : Nat} (h : n ≤ m) : sumN n f ≤ sumN m f := by
  induction m with
  | zero => rw [Nat.le_zero.1 h]; exact Nat.le_refl _
  | succ m ih =>
    by_cases hn : n = m + 1
    · subst hn; exact Nat.le_refl _
    · have := ih (by omega)
      simp only [sumN]; omega
theorem sumN_zero {f : Nat → Nat} (h : ∀ j, f j = 0) : ∀ n, sumN n f = 0
  | 0 => rfl
  | n + 1 => by rw [sumN, sumN_zero h n, h]

/-- The weighted sum. -/
def phi (wt : Nat → Nat) (F : Fr) (N I c : Nat) : Nat := sumN N (fun j => (F.p j c).natAbs) + sumN I (fun b => wt b * sumN 61 (fun a => (F.u b a c).natAbs))
def pw (wt : Nat → Nat) (b : Int) : Nat := if b = -1 then 1 else wt b.toNat
theorem phi_putU (wt : Nat → Nat) (F : Fr) (b a : Nat) (x : Row) (N I c : Nat) : phi wt (putU F b a x) N I c ≤ phi wt F N I c + wt b * (x c).natAbs := by
  have h := sumN_le' (f := fun b => wt b * sumN 61 (fun a => (F.u b a c).natAbs)) (g := fun b' => wt b' * sumN 61 (fun a' => ((putU F b a x).u b' a' c).natAbs)) (k := b) (d := wt b * (x c).natAbs) (fun j hj => ?_) ?_ I
  · unfold phi
    have hp : (putU F b a x).p = F.p := rfl
    rw [hp]
    omega
  · simp only [putU, if_neg hj]; exact Nat.le_refl _
  · have h2 := sumN_le' (f := fun a => (F.u b a c).natAbs) (g := fun a' => ((putU F b a x).u b a' c).natAbs) (k := a) (d := (x c).natAbs) (fun j hj => by simp only [putU, if_true, if_neg hj]; exact Nat.le_refl _) (by simp only [putU, if_true, addR]; omega) 61
    have := Nat.mul_le_mul_left (wt b) h2
    rw [Nat.mul_add] at this
    exact this
theorem phi_putP (wt : Nat → Nat) (F : Fr) (a : Nat) (x : Row) (N I c : Nat) : phi wt (putP F a x) N I c ≤ phi wt F N I c + (x c).natAbs := by
  have h := sumN_le' (f := fun j => (F.p j c).natAbs) (g := fun j => ((putP F a x).p j c).natAbs) (k := a) (d := (x c).natAbs) (fun j hj => by simp only [putP, if_neg hj]; exact Nat.le_refl _) (by simp only [putP, if_true, addR]; omega) N
  unfold phi
  have hu : (putP F a x).u = F.u := rfl
  rw [hu]
  omega
theorem phi_put (wt : Nat → Nat) (F : Fr) (b a : Int) (x : Row) (N I c : Nat) : phi wt (putF F b a x) N I c ≤ phi wt F N I c + pw wt b * (x c).natAbs := by
  unfold putF pw
  split
  · have := phi_putP wt F a.toNat x N I c; omega
  · exact phi_putU wt F b.toNat a.toNat x N I c

/-- All of a column is at most B, of beams from I on and beyond all notches as well. -/
structure Inv (wt : Nat → Nat) (F : Fr) (I c B : Nat) : Prop where
  f1 : ∀ N, phi wt F N I c ≤ B
  f2 : ∀ j k, (F.h j k c).natAbs ≤ B
  f3 : ∀ j a, (I ≤ j ∨ 61 ≤ a) → (F.u j a c).natAbs ≤ B
def Bnd (F : Fr) (c B : Nat) : Prop := (∀ j, (F.p j c).natAbs ≤ B) ∧ (∀ j k, (F.h j k c).natAbs ≤ B) ∧ (∀ j a, (F.u j a c).natAbs ≤ B)
theorem Inv.bnd {wt : Nat → Nat} {F : Fr} {I c B : Nat} (h : Inv wt F I c B) (hw : ∀ j, j < I → 1 ≤ wt j) : Bnd F c B := by
  refine ⟨fun j => ?_, h.f2, fun j a => ?_⟩
  · have := h.f1 (j + 1)
    have h2 := sumN_mem (f := fun j => (F.p j c).natAbs) (show j < j + 1 by omega)
    unfold phi at this
    omega
  · by_cases hj : I ≤ j ∨ 61 ≤ a
    · exact h.f3 j a hj
    · have := h.f1 0
      have h2 := sumN_mem (f := fun a => (F.u j a c).natAbs) (show a < 61 by omega)
      have h3 := sumN_mem (f := fun b => wt b * sumN 61 (fun a => (F.u b a c).natAbs)) (show j < I by omega)
      have h4 := Nat.le_mul_of_pos_left (sumN 61 (fun a => (F.u j a c).natAbs)) (hw j (by omega))
      unfold phi at this
      omega
theorem Inv.mono {wt : Nat → Nat} {F : Fr} {I c B B' : Nat} (h : Inv wt F I c B) (hB : B ≤ B') : Inv wt F I c B' :=
  ⟨fun N => Nat.le_trans (h.f1 N) hB, fun j k => Nat.le_trans (h.f2 j k) hB, fun j a hj => Nat.le_trans (h.f3 j a hj) hB⟩
theorem Inv.put {wt : Nat → Nat} {F : Fr} {I c B n : Nat} (h : Inv wt F I c B) {b a : Int} {x : Row} (hh : hasB n b a I = true) : Inv wt (putF F b a x) I c (B + pw wt b * (x c).natAbs) := by
  refine ⟨fun N => ?_, fun j k => ?_, fun j k hj => ?_⟩
  · have := phi_put wt F b a x N I c
    have := h.f1 N
    omega
  · rw [put_h]
    have := h.f2 j k
    omega
  · have := h.f3 j k hj
    rcases hasB_cases hh with ⟨rfl, _, _⟩ | ⟨hne, ⟨h1, h2⟩, h3, h4⟩
    · have hu : (putF F (-1) a x).u = F.u := rfl
      rw [hu]; omega
    · have hu : (putF F b a x).u j k = F.u j k := by
        unfold putF
        rw [if_neg hne]
        simp only [putU]
        split
        · rw [if_neg (by omega)]
        · rfl
      rw [hu]; omega
/-- What goes left and right of a force is at most 13 times as much. -/
theorem part_abs {lo hi a : Int} (f : Row) (c : Nat) (hs : 10 ≤ hi - lo) (hl : 0 ≤ lo ∧ lo ≤ 60) (ha : 0 ≤ a ∧ a ≤ 60) : (lft lo hi a f c).natAbs + (rgt lo hi a f c).natAbs ≤ 13 * (f c).natAbs := by
  unfold lft rgt
  have h1 : ((f c).tdiv (hi - lo)).natAbs = (f c).natAbs / (hi - lo).natAbs := Int.natAbs_tdiv _ _
  have h2 : (f c).natAbs / (hi - lo).natAbs ≤ (f c).natAbs / 10 := Nat.div_le_div_left (by omega) (by omega)
  have h3 := Int.natAbs_mul ((f c).tdiv (hi - lo)) (a - lo)
  have h4 : ((f c).tdiv (hi - lo)).natAbs * (a - lo).natAbs ≤ ((f c).natAbs / 10) * 60 := Nat.mul_le_mul (by omega) (by omega)
  generalize (f c).tdiv (hi - lo) * (a - lo) = z at *
  omega
theorem hgF_p (b : Bm) (i : Nat) (F : Fr) : ∀ a, (hgF b i F a).p = F.p
  | 0 => rfl
  | a + 1 => hgF_p b i F a
theorem hgF_h (b : Bm) (i : Nat) (F : Fr) {j : Nat} (hj : j ≠ i) : ∀ a, (hgF b i F a).h j = F.h j
  | 0 => rfl
  | a + 1 => by
    have := hgF_h b i F hj a
    rw [← this]
    funext k
    simp only [hgF, hStep, setH, if_neg hj]
theorem hgF_hi (b : Bm) (i : Nat) (F : Fr) (a : Nat) : (hgF b i F (a + 1)).h i 0 = addR ((hgF b i F a).h i 0) (lft b.lo b.hi a (F.u i a)) ∧ (hgF b i F (a + 1)).h i 1 = addR ((hgF b i F a).h i 1) (rgt b.lo b.hi a (F.u i a)) ∧ ∀ k, 2 ≤ k → (hgF b i F (a + 1)).h i k = (hgF b i F a).h i k := by
  have hu : (hgF b i F a).u = F.u := hgF_u b i F a
  refine ⟨?_, ?_, fun k hk => ?_⟩
  · show (hStep b i a (hgF b i F a)).h i 0 = _
    unfold hStep
    rw [hu]
    simp [setH]
  · show (hStep b i a (hgF b i F a)).h i 1 = _
    unfold hStep
    rw [hu]
    simp [setH]
  · show (hStep b i a (hgF b i F a)).h i k = _
    unfold hStep
    simp only [setH, if_true]
    rw [if_neg (by omega), if_neg (by omega)]
/-- What a beam's hangers are given. -/
theorem hgF_abs {b : Bm} {i : Nat} {F : Fr} {c : Nat} (h0 : ∀ k, F.h i k c = 0) (hs : 10 ≤ b.hi - b.lo) (hl : 0 ≤ b.lo ∧ b.lo ≤ 60) : ∀ a : Nat, a ≤ 61 → ((hgF b i F a).h i 0 c).natAbs + ((hgF b i F a).h i 1 c).natAbs ≤ 13 * sumN a (fun a => (F.u i a c).natAbs) ∧ ∀ k, 2 ≤ k → (hgF b i F a).h i k c = 0
  | 0, _ => ⟨by show (F.h i 0 c).natAbs + (F.h i 1 c).natAbs ≤ _; rw [h0, h0]; simp, fun k _ => h0 k⟩
  | a + 1, ha => by
    obtain ⟨ih, ih2⟩ := hgF_abs h0 hs hl a (by omega)
    obtain ⟨e1, e2, e3⟩ := hgF_hi b i F a
    have hp := part_abs (a := (a : Int)) (F.u i a) c hs hl (by omega)
    refine ⟨?_, fun k hk => by rw [e3 k hk]; exact ih2 k hk⟩
    rw [e1, e2]
    simp only [sumN, addR]
    omega
theorem phi_succ (wt : Nat → Nat) (F : Fr) (N i c : Nat) : phi wt F N (i + 1) c = phi wt F N i c + wt i * sumN 61 (fun a => (F.u i a c).natAbs) := by
  unfold phi
  rw [Nat.add_assoc]
  rfl
/-- One beam. -/
theorem Inv.beam {wt : Nat → Nat} {F : Fr} {i c B n : Nat} {b : Bm} (h : Inv wt F (i + 1) c B) (hz : ∀ k, F.h i k c = 0) (hok : bmOk n i b = true) (hs : 10 ≤ b.hi - b.lo)
    (hw0 : ∀ j, j < i + 1 → 1 ≤ wt j) (hw1 : 13 * pw wt b.ab ≤ wt i) (hw2 : 13 * pw wt b.bb ≤ wt i) :
    (∀ a, a ≤ 61 → Bnd (hgF b i (putU F i 30 (wtR b)) a) c (B + wt i * (wtR b c).natAbs)) ∧
    (∀ a : Nat, a < 61 → (lft b.lo b.hi a ((putU F i 30 (wtR b)).u i a) c).natAbs ≤ B + wt i * (wtR b c).natAbs ∧ (rgt b.lo b.hi a ((putU F i 30 (wtR b)).u i a) c).natAbs ≤ B + wt i * (wtR b c).natAbs) ∧
    Bnd (putF (bmG b i F) b.ab b.aa ((bmG b i F).h i 0)) c (B + wt i * (wtR b c).natAbs) ∧ Inv wt (bmF b i F) i c (B + wt i * (wtR b c).natAbs) := by
  rw [bmOk_iff] at hok
  obtain ⟨c1, c2, c3, c4, c5, c6, c7⟩ := hok
  generalize hB1 : B + wt i * (wtR b c).natAbs = B1
  have hA : Inv wt (putU F i 30 (wtR b)) (i + 1) c B1 := by
    refine ⟨fun N => ?_, fun j k => ?_, fun j a hj => ?_⟩
    · have := phi_putU wt F i 30 (wtR b) N (i + 1) c
      have := h.f1 N
      omega
    · have := h.f2 j k
      show (F.h j k c).natAbs ≤ _
      omega
    · have h3 := h.f3 j a hj
      have hu : (putU F i 30 (wtR b)).u j a = F.u j a := by
        simp only [putU]
        split
        · rw [if_neg (by omega)]
        · rfl
      rw [hu]; omega
  have hz1 : ∀ k, (putU F i 30 (wtR b)).h i k c = 0 := hz
  unfold bmF bmG
  generalize putU F i 30 (wtR b) = F1 at *
  have hAb := hA.bnd hw0
  have hS : ∀ N, phi wt F1 N i c + wt i * sumN 61 (fun a => (F1.u i a c).natAbs) ≤ B1 := fun N => by
    have := hA.f1 N
    rw [phi_succ] at this
    exact this
  have h13 : 13 ≤ wt i := by
    have : 1 ≤ pw wt b.ab := by
      unfold pw
      split
      · exact Nat.le_refl _
      · rcases hasB_cases c4 with h | h
        · exact absurd h.1 (by assumption)
        · exact hw0 _ (by omega)
    omega
  have hS2 : 13 * sumN 61 (fun a => (F1.u i a c).natAbs) ≤ B1 := by
    have := hS 0
    have := Nat.mul_le_mul_right (sumN 61 (fun a => (F1.u i a c).natAbs)) h13
    omega
  have hh := hgF_abs hz1 hs c1
  have hbn : ∀ a, a ≤ 61 → Bnd (hgF b i F1 a) c B1 := fun a ha => by
    refine ⟨fun j => by rw [hgF_p]; exact hAb.1 j, fun j k => ?_, fun j k => by rw [hgF_u]; exact hAb.2.2 j k⟩
    by_cases hj : j = i
    · subst hj
      obtain ⟨q1, q2⟩ := hh a ha
      have q3 := sumN_mono (f := fun a => (F1.u j a c).natAbs) ha
      match k with
      | 0 => omega
      | 1 => omega
      | k + 2 => rw [q2 (k + 2) (by omega)]; simp
    · rw [hgF_h b i F1 hj]; exact hAb.2.1 j k
  obtain ⟨q1, _⟩ := hh 61 (Nat.le_refl _)
  have hGi : Inv wt (hgF b i F1 61) i c (B1 - wt i * sumN 61 (fun a => (F1.u i a c).natAbs)) ∨ True := .inr trivial
  have hG := hbn 61 (Nat.le_refl _)
  have e1 : ∀ N, phi wt (hgF b i F1 61) N i c = phi wt F1 N i c := fun N => by unfold phi; rw [hgF_p, hgF_u]
  generalize hL : (hgF b i F1 61).h i 0 = L at *
  generalize hR : (hgF b i F1 61).h i 1 = R at *
  generalize hGG : hgF b i F1 61 = G at *
  generalize hSS : sumN 61 (fun a => (F1.u i a c).natAbs) = S at *
  have hM : pw wt b.ab * (L c).natAbs + pw wt b.bb * (R c).natAbs ≤ wt i * S := by
    have m1 : ∀ M, pw wt b.ab ≤ M → pw wt b.bb ≤ M → 13 * M ≤ wt i → pw wt b.ab * (L c).natAbs + pw wt b.bb * (R c).natAbs ≤ wt i * S := fun M ha hb hc => by
      have k1 := Nat.mul_le_mul_right (L c).natAbs ha
      have k2 := Nat.mul_le_mul_right (R c).natAbs hb
      have k3 := Nat.mul_le_mul_left M q1
      rw [Nat.mul_add] at k3
      have k4 := Nat.mul_le_mul_right S hc
      rw [Nat.mul_comm 13 M, Nat.mul_assoc] at k4
      omega
    rcases Nat.le_total (pw wt b.ab) (pw wt b.bb) with h | h
    · exact m1 _ h (Nat.le_refl _) hw2
    · exact m1 _ (Nat.le_refl _) h hw1
  have hI1 : Inv wt (putF G b.ab b.aa L) i c B1 := by
    refine ⟨fun N => ?_, fun j k => by rw [put_h]; exact hG.2.1 j k, fun j k hj => ?_⟩
    · have := phi_put wt G b.ab b.aa L N i c
      have := hS N
      rw [e1 N] at *
      omega
    · have hu : (putF G b.ab b.aa L).u j k = G.u j k := by
        unfold putF
        split
        · rfl
        · rcases hasB_cases c4 with h | h
          · exact absurd h.1 (by assumption)
          · simp only [putU]
            split
            · rw [if_neg (by omega)]
            · rfl
      rw [hu]; exact hG.2.2 j k
  refine ⟨hbn, fun a ha => ?_, hI1.bnd fun j hj => hw0 j (by omega), fun N => ?_, fun j k => by rw [put_h]; exact hI1.f2 j k, fun j k hj => ?_⟩
  · have hp := part_abs (a := (a : Int)) (F1.u i a) c hs c1 (by omega)
    have := sumN_mem (f := fun a => (F1.u i a c).natAbs) ha
    omega
  · have := phi_put wt G b.ab b.aa L N i c
    have := phi_put wt (putF G b.ab b.aa L) b.bb b.ba R N i c
    have := hS N
    rw [e1 N] at *
    omega
  · have hu : (putF (putF G b.ab b.aa L) b.bb b.ba R).u j k = (putF G b.ab b.aa L).u j k := by
      generalize putF G b.ab b.aa L = G'
      unfold putF
      split
      · rfl
      · rcases hasB_cases c5 with h | h
        · exact absurd h.1 (by assumption)
        · simp only [putU]
          split
          · rw [if_neg (by omega)]
          · rfl
    rw [hu]; exact hI1.f3 j k hj
end Go.Proofs.Ytaciigegbgnadaa

/- The rows of a right rig's frame are not great. -/
namespace Go.Proofs.Ytaciigegbgnadaa
open Go Tx Go.RowKit
set_option linter.unusedSimpArgs false
set_option linter.unusedVariables false

theorem dps_pre : ∀ (l : List Bm) (ds : List Int), ∃ t, dps ds l = ds ++ t
  | [], ds => ⟨[], by simp [dps]⟩
  | b :: l, ds => by
    obtain ⟨t, h⟩ := dps_pre l (ds ++ [dB b ds])
    exact ⟨dB b ds :: t, by rw [dps, h]; simp⟩
theorem bms_dep {pn : Nat} : ∀ {BB : List Bm} {ds : List Int}, dsB ds → bmsOk pn ds BB = true → ∀ (i : Nat) b, BB[i]? = some b → dsB (dps ds (BB.take i)) ∧ dB b (dps ds (BB.take i)) ≤ 3
  | [], _, _, _, i, b, h => by simp at h
  | c :: r, ds, hd, h, 0, b, hb => by
    rw [bmsOk, Bool.and_eq_true, Bool.and_eq_true] at h
    simp only [List.getElem?_cons_zero, Option.some.injEq] at hb
    subst hb
    exact ⟨hd, of_decide_eq_true h.1.2⟩
  | c :: r, ds, hd, h, i + 1, b, hb => by
    rw [bmsOk, Bool.and_eq_true, Bool.and_eq_true] at h
    have h3 : dB c ds ≤ 3 := by simpa using h.1.2
    exact bms_dep (dsB_snoc hd ⟨(dB_bd hd).1, h3⟩) h.2 i b (by simpa using hb)
/-- The weight of a beam: 13 to the power of its depth. -/
def wtD (BB : List Bm) (j : Nat) : Nat := 13 ^ ((dps [] BB).getD j 0).toNat
theorem dsB_nil : dsB [] := fun j n h => by simp at h
theorem wtD_at {pn : Nat} {BB : List Bm} (h : bmsOk pn [] BB = true) {i : Nat} {b : Bm} (hb : BB[i]? = some b) : ∃ e : List Int, dsB e ∧ dB b e ≤ 3 ∧ wtD BB i = 13 ^ (dB b e).toNat ∧ ∀ j, j < i → wtD BB j = 13 ^ (e.getD j 0).toNat := by
  obtain ⟨h1, h2⟩ := bms_dep dsB_nil h i b hb
  have hl : (dps [] (BB.take i)).length = i := by
    rw [dps_len]; have := (List.getElem?_eq_some_iff.1 hb).1; simp; omega
  have ht : ∃ t, dps [] BB = dps [] (BB.take i) ++ [dB b (dps [] (BB.take i))] ++ t := by
    obtain ⟨t, ht⟩ := dps_pre (BB.drop (i + 1)) (dps [] (BB.take (i + 1)))
    refine ⟨t, ?_⟩
    rw [← dps_take hb [], ← ht, ← dps_append, List.take_append_drop]
  obtain ⟨t, ht⟩ := ht
  refine ⟨_, h1, h2, ?_, fun j hj => ?_⟩
  · unfold wtD
    rw [ht, List.getD_eq_getElem?_getD, List.append_assoc, List.getElem?_append_right (by omega), hl]
    simp
  · unfold wtD
    rw [ht, List.getD_eq_getElem?_getD, List.append_assoc, List.getElem?_append_left (by omega), List.getD_eq_getElem?_getD]
theorem wtD_bd {pn : Nat} {BB : List Bm} (h : bmsOk pn [] BB = true) {i : Nat} (hi : i < BB.length) : 13 ≤ wtD BB i ∧ wtD BB i ≤ 2197 := by
  obtain ⟨e, h1, h2, h3, _⟩ := wtD_at h (List.getElem?_eq_getElem hi)
  rw [h3]
  have h4 := (dB_bd (b := BB[i]) h1).1
  exact ⟨by have := Nat.pow_le_pow_right (n := 13) (by omega) (show 1 ≤ (dB BB[i] e).toNat by omega); simpa using this, by have := Nat.pow_le_pow_right (n := 13) (by omega) (show (dB BB[i] e).toNat ≤ 3 by omega); simpa using this⟩
theorem wtD_on {pn : Nat} {BB : List Bm} (h : bmsOk pn [] BB = true) {i : Nat} {b : Bm} (hb : BB[i]? = some b) : 13 * pw (wtD BB) b.ab ≤ wtD BB i ∧ 13 * pw (wtD BB) b.bb ≤ wtD BB i := by
  obtain ⟨e, h1, h2, h3, h4⟩ := wtD_at h hb
  have hok := bmsOk_all h i b hb
  simp only [List.length_nil, Int.natCast_zero, Int.zero_add] at hok
  rw [bmOk_iff] at hok
  obtain ⟨c1, c2, c3, c4, c5, c6, c7⟩ := hok
  have hA : b.ab ≠ -1 → e.getD b.ab.toNat 0 + 1 ≤ dB b e := fun hn => by
    have : e.getD b.ab.toNat 0 + 1 ≤ dA b e := by unfold dA; rw [if_neg hn, imax_eq]; omega
    unfold dB
    split
    · exact this
    · rw [imax_eq]; omega
  have hB : b.bb ≠ -1 → e.getD b.bb.toNat 0 + 1 ≤ dB b e := fun hn => by
    unfold dB; rw [if_neg hn, imax_eq]; omega
  have key : ∀ x : Int, x + 1 ≤ dB b e → 13 * 13 ^ x.toNat ≤ wtD BB i := fun x hx => by
    rw [h3]
    have := Nat.pow_le_pow_right (n := 13) (by omega) (show x.toNat + 1 ≤ (dB b e).toNat by have := (dB_bd (b := b) h1).1; omega)
    rw [Nat.pow_succ] at this
    omega
  have h13 := (wtD_bd h (List.getElem?_eq_some_iff.1 hb).1).1
  constructor
  · unfold pw
    split
    · omega
    · rename_i hn
      rcases hasB_cases c4 with h | h
      · exact absurd h.1 hn
      · rw [h4 _ (by omega)]
        exact key _ (hA hn)
  · unfold pw
    split
    · omega
    · rename_i hn
      rcases hasB_cases c5 with h | h
      · exact absurd h.1 hn
      · rw [h4 _ (by omega)]
        exact key _ (hB hn)
theorem sumN_congr {f g : Nat → Nat} : ∀ n, (∀ j, j < n → f j = g j) → sumN n f = sumN n g
  | 0, _ => rfl
  | n + 1, h => by rw [sumN, sumN, sumN_congr n fun j hj => h j (by omega), h n (by omega)]
def Bl (c k : Nat) : Nat := if c < k then 474552000 else 0
def Bb (c k : Nat) : Nat := if c = 20 then k * 474552000000000 else 474552000
theorem inv_lds {f0 f1 f2 : Int} {PP : List Int} {BB : List Bm} {LL : List Ld} (hr : rigOk f0 f1 f2 PP BB LL = true) (c : Nat) : ∀ k, k ≤ LL.length → Inv (wtD BB) (ldsF LL k) BB.length c (Bl c k)
  | 0, _ => by
    refine ⟨fun N => ?_, fun j k => by show (0 : Int).natAbs ≤ _; omega, fun j a _ => by show (0 : Int).natAbs ≤ _; omega⟩
    unfold phi
    have e1 : sumN N (fun j => ((ldsF LL 0).p j c).natAbs) = 0 := sumN_zero (fun j => rfl) N
    have e2 : sumN BB.length (fun b => wtD BB b * sumN 61 (fun a => ((ldsF LL 0).u b a c).natAbs)) = 0 := sumN_zero (fun j => by
      have : sumN 61 (fun a => ((ldsF LL 0).u j a c).natAbs) = 0 := sumN_zero (fun j => rfl) 61
      rw [this, Nat.mul_zero]) _
    omega
  | k + 1, hk => by
    have ih := inv_lds hr c k (by omega)
    rw [rigOk_iff] at hr
    obtain ⟨q1, q2, q3, q4, q5, q6, q7⟩ := hr
    obtain ⟨l, hl⟩ : ∃ l, LL[k]? = some l := ⟨_, List.getElem?_eq_getElem (by omega)⟩
    have hok := List.all_eq_true.1 q7 l (List.mem_of_getElem? hl)
    rw [ldOk_iff] at hok
    rw [ldsF, hl]
    refine (ih.put hok.1).mono ?_
    have hpw : pw (wtD BB) l.beam ≤ 2197 := by
      unfold pw
      split
      · omega
      · rcases hasB_cases hok.1 with h | h
        · exact absurd h.1 (by assumption)
        · exact (wtD_bd q4 (by omega)).2
    unfold Bl unitR
    by_cases hck : c = k
    · subst hck
      rw [if_neg (by omega), if_pos (by omega), Nat.beq_refl]
      have := Nat.mul_le_mul_right 216000 hpw
      show 0 + _ * 216000 ≤ _
      omega
    · have hb : Nat.beq c k = false := by
        cases h : Nat.beq c k with
        | false => rfl
        | true => exact absurd (Nat.eq_of_beq_eq_true h) hck
      rw [hb]
      show _ + _ * 0 ≤ _
      rw [Nat.mul_zero, Nat.add_zero]
      split
      · rw [if_pos (by omega)]; omega
      · omega
theorem lds_h (LL : List Ld) : ∀ k, (ldsF LL k).h = fun _ _ => zr
  | 0 => rfl
  | k + 1 => by
    have ih := lds_h LL k
    rw [ldsF]
    split
    · rw [put_h]; exact ih
    · exact ih
theorem bms_h (BB : List Bm) (F : Fr) : ∀ k j, j + k < BB.length → (bmsF BB F k).h j = F.h j
  | 0, _, _ => rfl
  | k + 1, j, hj => by
    have ih := bms_h BB F k j (by omega)
    rw [bmsF]
    split
    · unfold bmF bmG
      rw [put_h, put_h, hgF_h _ _ _ (by omega)]
      exact ih
    · exact ih
theorem wtR_abs {b : Bm} (h : 0 ≤ b.wt ∧ b.wt ≤ 1000000) (c : Nat) : (wtR b c).natAbs ≤ if c = 20 then 216000000000 else 0 := by
  unfold wtR
  by_cases hc : c = 20
  · subst hc
    rw [if_pos rfl]
    show (b.wt * 216000).natAbs ≤ _
    omega
  · have hb : Nat.beq c 20 = false := by
      cases h : Nat.beq c 20 with
      | false => rfl
      | true => exact absurd (Nat.eq_of_beq_eq_true h) hc
    rw [hb, if_neg hc]
    show (0 : Int).natAbs ≤ 0
    omega
theorem span10 {b : Bm} (h : spanB b = true) : 10 ≤ b.hi - b.lo := by
  unfold spanB spL at h
  rw [List.contains_iff_mem] at h
  simp only [List.mem_cons, List.not_mem_nil, or_false] at h
  omega
section
variable {f0 f1 f2 : Int} {PP : List Int} {BB : List Bm} {LL : List Ld} (hr : rigOk f0 f1 f2 PP BB LL = true)
include hr
theorem bm_at {i : Nat} {b : Bm} (hb : BB[i]? = some b) : bmOk PP.length i b = true := by
  rw [rigOk_iff] at hr
  have := bmsOk_all hr.2.2.2.1 i b hb
  simpa using this
theorem wt_add {i : Nat} {b : Bm} (hb : BB[i]? = some b) (c k : Nat) : Bb c k + wtD BB i * (wtR b c).natAbs ≤ Bb c (k + 1) := by
  have hok := bm_at hr hb
  rw [bmOk_iff] at hok
  have h1 := wtR_abs hok.2.2.2.2.2.1 c
  rw [rigOk_iff] at hr
  have h2 := (wtD_bd hr.2.2.2.1 (List.getElem?_eq_some_iff.1 hb).1).2
  have h3 := Nat.mul_le_mul h2 h1
  unfold Bb
  split
  · rename_i hc
    rw [if_pos hc] at h3
    rw [Nat.succ_mul]
    omega
  · rename_i hc
    rw [if_neg hc] at h3
    omega
theorem inv_bms (c : Nat) : ∀ k, k ≤ BB.length → Inv (wtD BB) (bmsF BB (ldsF LL LL.length) k) (BB.length - k) c (Bb c k)
  | 0, _ => by
    refine (inv_lds hr c LL.length (Nat.le_refl _)).mono ?_
    have hl := hr
    rw [rigOk_iff] at hl
    unfold Bl Bb
    by_cases hc : c = 20
    · rw [if_neg (by omega)]; omega
    · rw [if_neg hc]; split <;> omega
  | k + 1, hk => by
    have ih := inv_bms c k (by omega)
    obtain ⟨i, hi⟩ : ∃ i, i + k + 1 = BB.length := ⟨BB.length - 1 - k, by omega⟩
    obtain ⟨b, hb⟩ : ∃ b, BB[i]? = some b := ⟨_, List.getElem?_eq_getElem (by omega)⟩
    have hok := bm_at hr hb
    have hadd := wt_add hr hb c k
    have hw0 : ∀ j, j < i + 1 → 1 ≤ wtD BB j := fun j hj => Nat.pow_pos (by omega)
    rw [rigOk_iff] at hr
    rw [show BB.length - k = i + 1 from by omega] at ih
    have hon := wtD_on hr.2.2.2.1 hb
    have hst := (ih.beam (fun c' => by rw [bms_h _ _ _ _ (by omega), lds_h]; rfl) hok (span10 (bmOk_iff.1 hok).2.2.1) hw0 hon.1 hon.2).2.2.2
    rw [bmsF, show BB.length - 1 - k = i from by omega, hb, show BB.length - (k + 1) = i from by omega]
    exact hst.mono hadd
theorem beam_bd {k i : Nat} {b : Bm} (hb : BB[i]? = some b) (hi : i + k + 1 = BB.length) (c : Nat) :
    (∀ a, a ≤ 61 → Bnd (hgF b i (putU (bmsF BB (ldsF LL LL.length) k) i 30 (wtR b)) a) c (Bb c k + wtD BB i * (wtR b c).natAbs)) ∧
    (∀ a : Nat, a < 61 → (lft b.lo b.hi a ((putU (bmsF BB (ldsF LL LL.length) k) i 30 (wtR b)).u i a) c).natAbs ≤ Bb c k + wtD BB i * (wtR b c).natAbs ∧ (rgt b.lo b.hi a ((putU (bmsF BB (ldsF LL LL.length) k) i 30 (wtR b)).u i a) c).natAbs ≤ Bb c k + wtD BB i * (wtR b c).natAbs) ∧
    Bnd (putF (bmG b i (bmsF BB (ldsF LL LL.length) k)) b.ab b.aa ((bmG b i (bmsF BB (ldsF LL LL.length) k)).h i 0)) c (Bb c k + wtD BB i * (wtR b c).natAbs) ∧ Inv (wtD BB) (bmF b i (bmsF BB (ldsF LL LL.length) k)) i c (Bb c k + wtD BB i * (wtR b c).natAbs) :=
  Inv.beam (wt := wtD BB) (F := bmsF BB (ldsF LL LL.length) k) (i := i) (c := c) (B := Bb c k) (by have := inv_bms hr c k (by omega); rwa [show BB.length - k = i + 1 from by omega] at this)
    (fun c' => by rw [bms_h _ _ _ _ (by omega), lds_h]; rfl) (bm_at hr hb) (span10 (bmOk_iff.1 (bm_at hr hb)).2.2.1) (fun j hj => Nat.pow_pos (by omega)) (wtD_on (rigOk_iff.1 hr).2.2.2.1 hb).1 (wtD_on (rigOk_iff.1 hr).2.2.2.1 hb).2
theorem Bb_le {k : Nat} (c : Nat) (hk : k ≤ BB.length) : Bb c k ≤ 5694624000000000 := by
  rw [rigOk_iff] at hr
  unfold Bb
  split
  · have := Nat.mul_le_mul_right 474552000000000 (show k ≤ 12 by omega); omega
  · omega
omit hr in
theorem rows_of {F : Fr} (h : ∀ c, ∃ B, Bnd F c B ∧ B ≤ 5694624000000000) : rowsB F :=
  ⟨fun j c => by obtain ⟨B, h1, h2⟩ := h c; have := h1.1 j; omega, fun j k c => by obtain ⟨B, h1, h2⟩ := h c; have := h1.2.1 j k; omega, fun j a c => by obtain ⟨B, h1, h2⟩ := h c; have := h1.2.2 j a; omega⟩
theorem frB_of : FrB BB LL := by
  have hw0 : ∀ I j, j < I → 1 ≤ wtD BB j := fun I j _ => Nat.pow_pos (by omega)
  refine ⟨fun k hk => rows_of fun c => ⟨_, (inv_lds hr c k hk).bnd (hw0 _), ?_⟩, fun k hk => rows_of fun c => ⟨_, (inv_bms hr c k hk).bnd (hw0 _), Bb_le hr c hk⟩, fun k i b hb hi => ⟨fun c => ?_, fun a ha => rows_of fun c => ⟨_, (beam_bd hr hb hi c).1 a ha, ?_⟩⟩,
    fun k i b hb hi a ha => ⟨fun c => ?_, fun c => ?_⟩, fun k i b hb hi => rows_of fun c => ⟨_, (beam_bd hr hb hi c).2.2.1, ?_⟩⟩
  · unfold Bl; split <;> omega
  · have hok := bm_at hr hb
    rw [bmOk_iff] at hok
    have := wtR_abs hok.2.2.2.2.2.1 c
    split at this <;> omega
  · exact Nat.le_trans (wt_add hr hb c k) (Bb_le hr c (by omega))
  · have := (beam_bd hr hb hi c).2.1 a ha
    have := Nat.le_trans (wt_add hr hb c k) (Bb_le hr c (by omega))
    rw [hgF_u]
    omega
  · have := (beam_bd hr hb hi c).2.1 a ha
    have := Nat.le_trans (wt_add hr hb c k) (Bb_le hr c (by omega))
    rw [hgF_u]
    omega
  · exact Nat.le_trans (wt_add hr hb c k) (Bb_le hr c (by omega))
/-- The rows in the end. -/
theorem frF_bnd (c : Nat) : Bnd (frF BB LL) c (Bb c BB.length) := (inv_bms hr c BB.length (Nat.le_refl _)).bnd fun j _ => Nat.pow_pos (by omega)
end
end Go.Proofs.Ytaciigegbgnadaa
