/- Part 2 of the proof: texts merged. -/
import Derived.Test.YtfbokllafdnglaaRGa
namespace Go.Proofs.Ytfbokllafdnglaa
open Go Tx Go.RowKit
set_option linter.unusedSimpArgs false
set_option linter.unusedVariables false
def dA (b : Bm) (ds : List Int) : Int := if b.ab = -1 then 1 else imax 1 (ds.getD b.ab.toNat 0 + 1)
def dB (b : Bm) (ds : List Int) : Int := if b.bb = -1 then dA b ds else imax (dA b ds) (ds.getD b.bb.toNat 0 + 1)
def dv (b : Bm) (ds : List Int) : Nat → Int
 | 0 => 1
 | 1 => dA b ds
 | _ => dB b ds
def bmOk (pn : Nat) (i : Int) (b : Bm) : Bool := inB b.lo 0 60 && (inB b.hi 0 60 && (spanB b && (hasB pn b.ab b.aa i && (hasB pn b.bb b.ba i && (inB b.wt 0 1000000 && inB b.cap 0 1000000)))))
def bmsOk (pn : Nat) : List Int → List Bm → Bool
 | _, [] => true
 | ds, b :: r => (bmOk pn ds.length b && decide (dB b ds ≤ 3)) && bmsOk pn (ds ++ [dB b ds]) r
def dps : List Int → List Bm → List Int
 | ds, [] => ds
 | ds, b :: r => dps (ds ++ [dB b ds]) r
theorem dps_append : ∀ (l r : List Bm) (ds : List Int), dps ds (l ++ r) = dps (dps ds l) r
 | [], _, _ => rfl
 | b :: l, r, ds => dps_append l r _
theorem dps_len : ∀ (l : List Bm) (ds : List Int), (dps ds l).length = ds.length + l.length
 | [], _ => rfl
 | b :: l, ds => by rw [dps, dps_len l]; simp; omega
theorem dps_take {BB : List Bm} {k : Nat} {b : Bm} (h : BB[k]? = some b) (ds : List Int) : dps ds (BB.take (k + 1)) = dps ds (BB.take k) ++ [dB b (dps ds (BB.take k))] := by
 rw [List.take_add_one, h, Option.toList_some, dps_append]; rfl
theorem bmsOk_drop {pn : Nat} {BB : List Bm} {k : Nat} {b : Bm} {ds : List Int} (h : BB[k]? = some b) : bmsOk pn ds (BB.drop k) = ((bmOk pn ds.length b && decide (dB b ds ≤ 3)) && bmsOk pn (ds ++ [dB b ds]) (BB.drop (k + 1))) := by
 obtain ⟨h1, h2⟩ := List.getElem?_eq_some_iff.1 h
 rw [List.drop_eq_getElem_cons h1, h2, bmsOk]
theorem hasB_cases {pn : Nat} {b a n : Int} (h : hasB pn b a n = true) : (b = -1 ∧ 0 ≤ a ∧ a ≤ (pn : Int) - 1) ∨ (b ≠ -1 ∧ (0 ≤ b ∧ b ≤ n - 1) ∧ 0 ≤ a ∧ a ≤ 60) := by
 unfold hasB at h
 split at h
 · exact .inl ⟨by assumption, inB_iff.1 h⟩
 · rw [Bool.and_eq_true, inB_iff, inB_iff] at h
   exact .inr ⟨by assumption, h⟩
theorem bmOk_iff {pn : Nat} {i : Int} {b : Bm} : bmOk pn i b = true ↔ (0 ≤ b.lo ∧ b.lo ≤ 60) ∧ (0 ≤ b.hi ∧ b.hi ≤ 60) ∧ spanB b = true ∧ hasB pn b.ab b.aa i = true ∧ hasB pn b.bb b.ba i = true ∧ (0 ≤ b.wt ∧ b.wt ≤ 1000000) ∧ (0 ≤ b.cap ∧ b.cap ≤ 1000000) := by
 unfold bmOk
 simp only [Bool.and_eq_true, inB_iff]
theorem set_take {L : List Int} {k : Nat} {v : Int} (hk : k < L.length) : (L.set k v).take (k + 1) = L.take k ++ [v] := by
 rw [List.take_add_one, List.getElem?_set_self hk, List.take_set_of_le (Nat.le_refl _)]; rfl
theorem imax_bd {x y : Int} (h1 : 1 ≤ x ∧ x ≤ 4) (h2 : 1 ≤ y ∧ y ≤ 4) : 1 ≤ imax x y ∧ imax x y ≤ 4 := by rw [imax_eq]; omega
def dsB (ds : List Int) : Prop := ∀ (j : Nat) (n : Int), ds[j]? = some n → 1 ≤ n ∧ n ≤ 3
theorem dA_bd {b : Bm} {ds : List Int} (hd : dsB ds) : 1 ≤ dA b ds ∧ dA b ds ≤ 4 := by
 unfold dA
 split
 · omega
 · refine imax_bd (by omega) ?_
   rw [List.getD_eq_getElem?_getD]
   cases h : ds[b.ab.toNat]? with
   | none => simp
   | some n => have := hd _ _ h; simp; omega
theorem dB_bd {b : Bm} {ds : List Int} (hd : dsB ds) : 1 ≤ dB b ds ∧ dB b ds ≤ 4 := by
 unfold dB
 split
 · exact dA_bd hd
 · refine imax_bd (dA_bd hd) ?_
   rw [List.getD_eq_getElem?_getD]
   cases h : ds[b.bb.toNat]? with
   | none => simp
   | some n => have := hd _ _ h; simp; omega
theorem dsB_snoc {ds : List Int} {n : Int} (hd : dsB ds) (hn : 1 ≤ n ∧ n ≤ 3) : dsB (ds ++ [n]) := fun j m h => by
 rw [List.getElem?_append] at h
 split at h
 · exact hd j m h
 · have : j - ds.length = 0 := by
    have := (List.getElem?_eq_some_iff.1 h).1
    simp at this; omega
   rw [this] at h
   simp at h; omega
theorem atS {L : List Int} {k : Nat} {n : Int} (h : L[k]? = some n) : ∀ j v, [iv n][j]? = some v → (L.flatMap iF)[(k : Int).toNat * 1 + j]? = some v := fun j v hj => by
 match j, hj with
 | 0, hj => cases hj; rw [Int.toNat_natCast, Nat.mul_one, Nat.add_zero]; exact atF h
theorem atZ {L : List Int} {z : Int} {n : Int} (h : L[z.toNat]? = some n) : ∀ j v, [iv n][j]? = some v → (L.flatMap iF)[z.toNat * 1 + j]? = some v := fun j v hj => by
 match j, hj with
 | 0, hj => cases hj; rw [Nat.mul_one, Nat.add_zero]; exact atF h
theorem stS' {L : List Int} {k : Nat} (hk : k < L.length) (n : Int) : (k : Int).toNat * 1 + [iv n].length ≤ (L.flatMap iF).length := by
 rw [lenF, Int.toNat_natCast, Nat.mul_one]; exact hk
theorem stE {L : List Int} {k : Nat} (hk : k < L.length) (n : Int) : (L.flatMap iF).take ((k : Int).toNat * ti3.size) ++ [iv n] ++ (L.flatMap iF).drop ((k : Int).toNat * ti3.size + [iv n].length) = (L.set k n).flatMap iF := by
 rw [show ti3.size = 1 from rfl, Int.toNat_natCast, Nat.mul_one, ← setF hk, List.append_assoc]; rfl
theorem atS2 {L : List Int} {k : Nat} (hk : k < L.length) (n : Int) : ∀ j v, [iv n][j]? = some v → ((L.set k n).flatMap iF)[(k : Int).toNat * 1 + j]? = some v := atS (List.getElem?_set_self hk)
theorem atZ2 {L : List Int} {z : Int} {n a : Int} {k : Nat} (h : L[z.toNat]? = some n) (hz : z.toNat ≠ k) : ∀ j v, [iv n][j]? = some v → ((L.set k a).flatMap iF)[z.toNat * 1 + j]? = some v := atZ (by rw [List.getElem?_set_ne (Ne.symm hz)]; exact h)
theorem stS2 {L : List Int} {k : Nat} (hk : k < L.length) (a n : Int) : (k : Int).toNat * 1 + [iv n].length ≤ ((L.set k a).flatMap iF).length := stS' (by rw [List.length_set]; exact hk) n
theorem stE2 {L : List Int} {k : Nat} (hk : k < L.length) (a n : Int) : ((L.set k a).flatMap iF).take ((k : Int).toNat * ti3.size) ++ [iv n] ++ ((L.set k a).flatMap iF).drop ((k : Int).toNat * ti3.size + [iv n].length) = (L.set k n).flatMap iF := by
 rw [stE (by rw [List.length_set]; exact hk), List.set_set]
set_option maxHeartbeats 4000000 in
set_option maxRecDepth 100000 in
theorem beams_ok (r : Rig) (BB : List Bm) (w : World) (hrd : Rd 8 Bm.cs (.slice r.bo BB.length r.bc) BB w) (hn : r.bn = BB.length) (hl : BB.length ≤ 12) (hp : r.pn ≤ 1000000) :
 Calls Try.prog 61 #[r.v] w fun e w' => e = .returned (.bool (bmsOk r.pn [] BB)) ∧ Below w.heap.size w w' := by
 obtain ⟨po, pn, pc, bo, bn, bc, f0, f1, f2, lo, ln, lc⟩ := r
 dsimp only at hrd hn hp ⊢
 subst hn
 refine calls_val env mixed Try.func61 has61 Try.ntmps61 [.agg #[.slice po pn pc, .slice bo BB.length bc, iv f0, iv f1, iv f2, .slice lo ln lc]] (by simp) ?_
 repeat'
  conv => whnf
  first
   | refine zA ?_ | refine zB ?_ | refine zC ?_ | refine zD ?_ | refine zE ?_ | refine zF ?_ | refine zG ?_ | refine zH ?_ | refine zI ?_ | refine splT ?_ | refine splF ?_ | refine splNot ?_
   | ((first | refine splIn ?_ ?_ | refine splD ?_ ?_ | refine splE ?_ ?_ | refine splNE ?_ ?_) <;> intro hc <;> first | (exfalso; omega) | (exfalso; dsimp only at hc; omega) | skip)
   | refine mkO env 1 BB.length ((List.replicate BB.length (0 : Int)).flatMap iF) rfl rfl rfl (by decide) rfl (by omega) (by decide) (by rw [List.flatMap_replicate]; rfl) rfl ?_
 refine loopN2 3 (fun (k : Nat) (D : List Int) => [(1, .ptr 0 0), (3, .os 1 2 BB.length), (13, .v (.slice bo BB.length bc)), (14, .v (iv BB.length)), (15, .v (iv k))])
  (fun k D => [(0, .cells [.v (.slice po pn pc), .v (.slice bo BB.length bc), .v (iv f0), .v (iv f1), .v (iv f2), .v (.slice lo ln lc)] 41), (1, .own 2 BB.length 1 (D.flatMap iF) 3)])
  (fun k D => k ≤ BB.length ∧ D.length = BB.length ∧ D.take k = dps [] (BB.take k) ∧ bmsOk pn [] BB = bmsOk pn (dps [] (BB.take k)) (BB.drop k) ∧ dsB (dps [] (BB.take k))) (fun k _ => BB.length - k) 0 (List.replicate BB.length 0)
  ⟨Nat.zero_le _, by simp, rfl, rfl, fun j n (h : ([] : List Int)[j]? = some n) => by simp at h⟩ ⟨rfl, rfl, rfl, rfl, rfl, trivial⟩ ⟨rfl, rfl, trivial⟩ (fun _ _ _ => ⟨rfl, rfl⟩) ?_
 intro k D ⟨hk, hD, hDk, hen, hds⟩
 rcases Nat.lt_or_ge k BB.length with hkl | hkl
 · obtain ⟨b, hb⟩ : ∃ b, BB[k]? = some b := ⟨_, List.getElem?_eq_getElem hkl⟩
   obtain ⟨_, ad, rfl, _⟩ := hrd.ptr (by omega)
   have e0 := fun (w' : World) hw' => rd_ati (hrd.below (w' := w') hw') hb
   have hdl : (dps [] (BB.take k)).length = k := by rw [dps_len]; simp; omega
   rw [bmsOk_drop hb, hdl] at hen
   have hnx := dps_take hb []
   have hF : bmOk pn k b = false → false = bmsOk pn [] BB := fun h => by rw [hen, h]; rfl
   have hS := span_ok b
   have hsB : spanB b = spanB b := rfl
   obtain ⟨b1, b2, b3, b4, b5, b6, b7, b8⟩ := b
   dsimp only at hS
   repeat'
    conv => whnf
    first
     | refine zA ?_ | refine zB ?_ | refine zC ?_ | refine zD ?_ | refine zE ?_ | refine zF ?_ | refine zG ?_ | refine zH ?_ | refine zI ?_ | refine splT ?_ | refine splF ?_ | refine splNot ?_
     | ((first | refine splIn ?_ ?_ | refine splD ?_ ?_ | refine splE ?_ ?_ | refine splNE ?_ ?_) <;> intro hc <;> first | (exfalso; omega) | (exfalso; dsimp only at hc; omega) | skip)
     | refine Exists.intro (α := List Value) [iv b1, iv b2, iv b3, iv b4, iv b5, iv b6, iv b7, iv b8] ⟨⟨rfl, fun w' hw' => e0 w' hw'⟩, ?_⟩
     | ((with_reducible show CallEv _ _ 58 _ _ _ _ _); refine callE (k := 58) (fun β w' hbw => within_ok _ _ _ _) ?_)
     | ((with_reducible show CallEv _ _ 93 _ _ _ _ _); refine callE (k := 93) (fun β w' hbw => hS _ (by omega) (by omega)) ?_)
     | ((with_reducible show CallEv _ _ 39 _ _ _ _ _); refine callE (k := 39) (fun β w' hbw => has78_ok ⟨po, pn, pc, some ad, BB.length, bc, f0, f1, f2, lo, ln, lc⟩ _ _ _ _ hp (by omega)) ?_)
     | ((with_reducible show CallEv _ _ 60 _ _ _ _ _); refine callE (k := 60) (fun β w' hbw => force_ok _ _) ?_)
     | refine splB (fun hb => ?_) (fun hb => ?_)
   all_goals first | exact ⟨fun β => congrArg Value.bool (hF (by rw [Bool.eq_false_iff]; intro hc; rw [bmOk_iff] at hc; first | omega | simp_all)), fun w' h => h⟩ | skip
   have hok : bmOk pn k ⟨b1, b2, b3, b4, b5, b6, b7, b8⟩ = true := by rw [bmOk_iff]; exact ⟨by assumption, by assumption, by assumption, by assumption, by assumption, by assumption, by assumption⟩
   rw [hok, Bool.true_and] at hen
   clear hF hS
   have g1 := hasB_cases (show hasB pn b3 b4 k = true by assumption)
   have g2 := hasB_cases (show hasB pn b5 b6 k = true by assumption)
   generalize hT : dps [] (BB.take k) = T at *
   have hat : ∀ z : Int, 0 ≤ z → z ≤ (k : Int) - 1 → ∃ n, T[z.toNat]? = some n ∧ D[z.toNat]? = some n ∧ 1 ≤ n ∧ n ≤ 3 := fun z h1 h2 => by
    obtain ⟨n, hn⟩ : ∃ n, T[z.toNat]? = some n := ⟨_, List.getElem?_eq_getElem (by omega)⟩
    refine ⟨n, hn, ?_, hds _ _ hn⟩
    rw [← hDk, List.getElem?_take] at hn
    split at hn
    · exact hn
    · cases hn
   have hkD : k < D.length := by omega
   repeat'
    conv => whnf
    first
     | refine zA ?_ | refine zB ?_ | refine zC ?_ | refine zD ?_ | refine zE ?_ | refine zF ?_ | refine zG ?_ | refine zH ?_ | refine zI ?_ | refine splT ?_ | refine splF ?_ | refine splNot ?_
     | ((first | refine splIn ?_ ?_ | refine splD ?_ ?_ | refine splE ?_ ?_ | refine splNE ?_ ?_) <;> intro hc <;> first | (exfalso; omega) | (exfalso; dsimp only at hc; omega) | skip)
     | (refine And.intro (a := _ + _ ≤ List.length _) (stS' hkD 1) ?_; rw [stE hkD 1])
   have hT3 : dsB T := hds
   conv => whnf
   refine loopN 4 (fun m : Nat => [(1, .ptr 0 0), (3, .os 1 2 BB.length), (4, .v (iv k)), (13, .v (.slice (some ad) BB.length bc)), (14, .v (iv BB.length)), (15, .v (iv k)), (70, .agg [.v (iv b3), .v (iv b4), .v (iv b5), .v (iv b6)]), (71, .v (iv m))])
    (fun m => [(0, .cells [.v (.slice po pn pc), .v (.slice (some ad) BB.length bc), .v (iv f0), .v (iv f1), .v (iv f2), .v (.slice lo ln lc)] 41), (1, .own 2 BB.length 1 ((D.set k (dv ⟨b1, b2, b3, b4, b5, b6, b7, b8⟩ T m)).flatMap iF) 3)])
    (fun m => m ≤ 2) (fun m => 2 - m) 0 (by omega) ⟨rfl, rfl, rfl, rfl, rfl, rfl, rfl, rfl, trivial⟩ ⟨rfl, rfl, trivial⟩ (fun _ _ => ⟨rfl, rfl⟩) ?_
   intro m hm
   obtain rfl | rfl | rfl : m = 0 ∨ m = 1 ∨ m = 2 := by omega
   · by_cases hg : b3 = -1
     · have hA : dv ⟨b1, b2, b3, b4, b5, b6, b7, b8⟩ T 1 = 1 := if_pos hg
       repeat'
        conv => whnf
        first
         | refine zA ?_ | refine zB ?_ | refine zC ?_ | refine zD ?_ | refine zE ?_ | refine zF ?_ | refine zG ?_ | refine zH ?_ | refine zI ?_ | refine splT ?_ | refine splF ?_ | refine splNot ?_
         | ((first | refine splIn ?_ ?_ | refine splD ?_ ?_ | refine splE ?_ ?_ | refine splNE ?_ ?_) <;> intro hc <;> first | (exfalso; omega) | (exfalso; dsimp only at hc; omega) | skip)
         | refine idxS env rfl rfl rfl rfl (And.intro (by omega) (by omega)) rfl rfl (.inl ⟨rfl, rfl⟩) rfl ?_
       all_goals first | (exfalso; omega) | exact ⟨1, by omega, by omega, Ent.weak rfl ⟨rfl, rfl, rfl, rfl, rfl, rfl, rfl, rfl, trivial⟩ ⟨rfl, by rw [hA]; rfl, trivial⟩ fun _ h => h⟩
     · obtain ⟨n, hn1, hn2, hn3⟩ := hat b3 (by omega) (by omega)
       have hA : dv ⟨b1, b2, b3, b4, b5, b6, b7, b8⟩ T 1 = imax 1 (n + 1) := by
        show dA _ _ = _
        rw [dA, if_neg hg, List.getD_eq_getElem?_getD, hn1]; rfl
       have hne : b3.toNat ≠ k := by omega
       repeat'
        conv => whnf
        first
         | refine zA ?_ | refine zB ?_ | refine zC ?_ | refine zD ?_ | refine zE ?_ | refine zF ?_ | refine zG ?_ | refine zH ?_ | refine zI ?_ | refine splT ?_ | refine splF ?_ | refine splNot ?_
         | ((first | refine splIn ?_ ?_ | refine splD ?_ ?_ | refine splE ?_ ?_ | refine splNE ?_ ?_) <;> intro hc <;> first | (exfalso; omega) | (exfalso; dsimp only at hc; omega) | skip)
         | refine idxS env rfl rfl rfl rfl (And.intro (by omega) (by omega)) rfl rfl (.inl ⟨rfl, rfl⟩) rfl ?_
         | refine Exists.intro (α := List Value) [iv 1] ⟨⟨rfl, atS2 hkD 1⟩, ?_⟩
         | refine Exists.intro (α := List Value) [iv n] ⟨⟨rfl, atZ2 hn2 hne⟩, ?_⟩
         | (refine And.intro (a := _ + _ ≤ List.length _) (stS2 hkD _ _) ?_; rw [stE2 hkD])
       all_goals first | (exfalso; omega) | exact ⟨1, by omega, by omega, Ent.weak rfl ⟨rfl, rfl, rfl, rfl, rfl, rfl, rfl, rfl, trivial⟩ ⟨rfl, by rw [hA]; rfl, trivial⟩ fun _ h => h⟩
   · have hab := dA_bd (b := ⟨b1, b2, b3, b4, b5, b6, b7, b8⟩) hT3
     generalize hz : dA ⟨b1, b2, b3, b4, b5, b6, b7, b8⟩ T = z at *
     have hz1 : dv ⟨b1, b2, b3, b4, b5, b6, b7, b8⟩ T 1 = z := hz
     rw [hz1]
     by_cases hg : b5 = -1
     · have hA : dv ⟨b1, b2, b3, b4, b5, b6, b7, b8⟩ T 2 = z := (if_pos hg).trans hz
       repeat'
        conv => whnf
        first
         | refine zA ?_ | refine zB ?_ | refine zC ?_ | refine zD ?_ | refine zE ?_ | refine zF ?_ | refine zG ?_ | refine zH ?_ | refine zI ?_ | refine splT ?_ | refine splF ?_ | refine splNot ?_
         | ((first | refine splIn ?_ ?_ | refine splD ?_ ?_ | refine splE ?_ ?_ | refine splNE ?_ ?_) <;> intro hc <;> first | (exfalso; omega) | (exfalso; dsimp only at hc; omega) | skip)
         | refine idxS env rfl rfl rfl rfl (And.intro (by omega) (by omega)) rfl rfl (.inl ⟨rfl, rfl⟩) rfl ?_
       all_goals first | (exfalso; omega) | exact ⟨2, by omega, by omega, Ent.weak rfl ⟨rfl, rfl, rfl, rfl, rfl, rfl, rfl, rfl, trivial⟩ ⟨rfl, by rw [hA]; rfl, trivial⟩ fun _ h => h⟩
     · obtain ⟨n, hn1, hn2, hn3⟩ := hat b5 (by omega) (by omega)
       have hA : dv ⟨b1, b2, b3, b4, b5, b6, b7, b8⟩ T 2 = imax z (n + 1) := by
        show dB _ _ = _
        rw [dB, if_neg hg, hz, List.getD_eq_getElem?_getD, hn1]; rfl
       have hne : b5.toNat ≠ k := by omega
       repeat'
        conv => whnf
        first
         | refine zA ?_ | refine zB ?_ | refine zC ?_ | refine zD ?_ | refine zE ?_ | refine zF ?_ | refine zG ?_ | refine zH ?_ | refine zI ?_ | refine splT ?_ | refine splF ?_ | refine splNot ?_
         | ((first | refine splIn ?_ ?_ | refine splD ?_ ?_ | refine splE ?_ ?_ | refine splNE ?_ ?_) <;> intro hc <;> first | (exfalso; omega) | (exfalso; dsimp only at hc; omega) | skip)
         | refine idxS env rfl rfl rfl rfl (And.intro (by omega) (by omega)) rfl rfl (.inl ⟨rfl, rfl⟩) rfl ?_
         | refine Exists.intro (α := List Value) [iv z] ⟨⟨rfl, atS2 hkD z⟩, ?_⟩
         | refine Exists.intro (α := List Value) [iv n] ⟨⟨rfl, atZ2 hn2 hne⟩, ?_⟩
         | (refine And.intro (a := _ + _ ≤ List.length _) (stS2 hkD _ _) ?_; rw [stE2 hkD])
       all_goals first | (exfalso; omega) | exact ⟨2, by omega, by omega, Ent.weak rfl ⟨rfl, rfl, rfl, rfl, rfl, rfl, rfl, rfl, trivial⟩ ⟨rfl, by rw [hA]; rfl, trivial⟩ fun _ h => h⟩
   · have hab := dB_bd (b := ⟨b1, b2, b3, b4, b5, b6, b7, b8⟩) hT3
     rw [show dv ⟨b1, b2, b3, b4, b5, b6, b7, b8⟩ T 2 = dB ⟨b1, b2, b3, b4, b5, b6, b7, b8⟩ T from rfl]
     generalize dB ⟨b1, b2, b3, b4, b5, b6, b7, b8⟩ T = z at *
     by_cases hz3 : z ≤ 3
     · rw [decide_eq_true hz3, Bool.true_and] at hen
       repeat'
        conv => whnf
        first
         | refine zA ?_ | refine zB ?_ | refine zC ?_ | refine zD ?_ | refine zE ?_ | refine zF ?_ | refine zG ?_ | refine zH ?_ | refine zI ?_ | refine splT ?_ | refine splF ?_ | refine splNot ?_
         | ((first | refine splIn ?_ ?_ | refine splD ?_ ?_ | refine splE ?_ ?_ | refine splNE ?_ ?_) <;> intro hc <;> first | (exfalso; omega) | (exfalso; dsimp only at hc; omega) | skip)
         | refine Exists.intro (α := List Value) [iv z] ⟨⟨rfl, atS2 hkD z⟩, ?_⟩
       all_goals first | (exfalso; omega) | exact ⟨k + 1, D.set k z, ⟨by omega, by rw [List.length_set]; exact hD, by rw [hnx, set_take hkD, hDk], by rw [hnx]; exact hen, by rw [hnx]; exact dsB_snoc hT3 (by omega)⟩, by omega, Ent.weak rfl ⟨rfl, rfl, rfl, rfl, rfl, trivial⟩ ⟨rfl, rfl, trivial⟩ fun _ h => h⟩
     · rw [decide_eq_false hz3, Bool.false_and] at hen
       rw [hen]
       repeat'
        conv => whnf
        first
         | refine zA ?_ | refine zB ?_ | refine zC ?_ | refine zD ?_ | refine zE ?_ | refine zF ?_ | refine zG ?_ | refine zH ?_ | refine zI ?_ | refine splT ?_ | refine splF ?_ | refine splNot ?_
         | ((first | refine splIn ?_ ?_ | refine splD ?_ ?_ | refine splE ?_ ?_ | refine splNE ?_ ?_) <;> intro hc <;> first | (exfalso; omega) | (exfalso; dsimp only at hc; omega) | skip)
         | refine Exists.intro (α := List Value) [iv z] ⟨⟨rfl, atS2 hkD z⟩, ?_⟩
       all_goals first | (exfalso; omega) | exact ⟨fun β => rfl, fun w' h => h⟩
 · rw [List.drop_eq_nil_of_le hkl] at hen
   rw [hen]
   repeat'
    conv => whnf
    first
     | refine zA ?_ | refine zB ?_ | refine zC ?_ | refine zD ?_ | refine zE ?_ | refine zF ?_ | refine zG ?_ | refine zH ?_ | refine zI ?_ | refine splT ?_ | refine splF ?_ | refine splNot ?_
     | ((first | refine splIn ?_ ?_ | refine splD ?_ ?_ | refine splE ?_ ?_ | refine splNE ?_ ?_) <;> intro hc <;> first | (exfalso; omega) | (exfalso; dsimp only at hc; omega) | skip)
   all_goals first | exact ⟨fun β => congrArg Value.bool (decide_eq_true (show (BB.length : Int) ≤ 12 by omega)), fun w' h => h⟩ | (exfalso; omega)
end Go.Proofs.Ytfbokllafdnglaa
namespace Go.Proofs.Ytfbokllafdnglaa
open Go Tx Go.RowKit
set_option linter.unusedSimpArgs false
set_option linter.unusedVariables false
structure RigIn (r : Rig) (PP : List Int) (BB : List Bm) (LL : List Ld) (w : World) : Prop where
 p : Rd 1 iF (.slice r.po PP.length r.pc) PP w
 b : Rd 8 Bm.cs (.slice r.bo BB.length r.bc) BB w
 l : Rd 5 Ld.cs (.slice r.lo LL.length r.lc) LL w
 pn : r.pn = PP.length
 bn : r.bn = BB.length
 ln : r.ln = LL.length
 pl : PP.length ≤ 1000000
 bl : BB.length ≤ 1000000
 ll : LL.length ≤ 1000000
theorem RigIn.below {r : Rig} {PP : List Int} {BB : List Bm} {LL : List Ld} {w w' : World} (h : RigIn r PP BB LL w) (hb : Below w.heap.size w w') : RigIn r PP BB LL w' :=
 ⟨h.p.below hb, h.b.below hb, h.l.below hb, h.pn, h.bn, h.ln, h.pl, h.bl, h.ll⟩
def ldOk (pn : Nat) (bn : Int) (l : Ld) : Bool := hasB pn l.beam l.at' bn && (decide ((l.kind : Int) ≤ 2) && (inB l.lo 0 1000000 && (inB l.hi 0 1000000 && decide (l.lo ≤ l.hi))))
theorem ldOk_iff {pn : Nat} {bn : Int} {l : Ld} : ldOk pn bn l = true ↔ hasB pn l.beam l.at' bn = true ∧ (l.kind : Int) ≤ 2 ∧ (0 ≤ l.lo ∧ l.lo ≤ 1000000) ∧ (0 ≤ l.hi ∧ l.hi ≤ 1000000) ∧ l.lo ≤ l.hi := by
 unfold ldOk
 simp only [Bool.and_eq_true, inB_iff, decide_eq_true_eq]
def rigOk (f0 f1 f2 : Int) (PP : List Int) (BB : List Bm) (LL : List Ld) : Bool :=
 inB PP.length 1 12 && (PP.all (fun n => inB n 0 1000000) && (decide (BB.length ≤ 12) && (bmsOk PP.length [] BB && (decide (LL.length ≤ 20) && ([f0, f1, f2].all (fun n => inB n 1000 20000) && LL.all (ldOk PP.length BB.length))))))
theorem rigOk_iff {f0 f1 f2 : Int} {PP : List Int} {BB : List Bm} {LL : List Ld} : rigOk f0 f1 f2 PP BB LL = true ↔ (1 ≤ (PP.length : Int) ∧ (PP.length : Int) ≤ 12) ∧ PP.all (fun n => inB n 0 1000000) = true ∧ BB.length ≤ 12 ∧ bmsOk PP.length [] BB = true ∧ LL.length ≤ 20 ∧ [f0, f1, f2].all (fun n => inB n 1000 20000) = true ∧ LL.all (ldOk PP.length BB.length) = true := by
 unfold rigOk
 simp only [Bool.and_eq_true, inB_iff, decide_eq_true_eq]
theorem rd_fac {w : World} {b : Nat} {x y z : Value} {f0 f1 f2 : Int} {ty : TypeId} (h : w.heap[b]? = some (.cells #[x, y, iv f0, iv f1, iv f2, z] ty (0, 0))) : Rd 1 iF (.slice (some ⟨b, 2, none⟩) 3 3) [f0, f1, f2] w := by
 refine .inr ⟨_, _, rfl, fun k g hk j v hv => ?_⟩
 have hk3 : k < 3 := (List.getElem?_eq_some_iff.1 hk).1
 have hj : j = 0 := by have := (List.getElem?_eq_some_iff.1 hv).1; simp at this; omega
 subst hj
 simp only [List.getElem?_cons_zero, Option.some.injEq] at hv
 subst hv
 rw [own_add, own_add, cell_of_row w b _ _ ty (0, 0) h]
 obtain rfl | rfl | rfl : k = 0 ∨ k = 1 ∨ k = 2 := by omega
 all_goals (simp at hk; subst hk; rfl)
set_option maxHeartbeats 4000000 in
set_option maxRecDepth 100000 in
theorem valid_ok (r : Rig) (PP : List Int) (BB : List Bm) (LL : List Ld) (w : World) (h : RigIn r PP BB LL w) :
 Calls Try.prog 27 #[r.v] w fun e w' => e = .returned (.bool (rigOk r.f0 r.f1 r.f2 PP BB LL)) ∧ Below w.heap.size w w' := by
 obtain ⟨po, pn, pc, bo, bn, bc, f0, f1, f2, lo, ln, lc⟩ := r
 obtain ⟨hP, hB, hL, rfl, rfl, rfl, l1, l2, l3⟩ := h
 dsimp only at hP hB hL l1 l2 l3 ⊢
 refine calls_val env mixed Try.func27 has27 Try.ntmps27 [.agg #[.slice po PP.length pc, .slice bo BB.length bc, iv f0, iv f1, iv f2, .slice lo LL.length lc]] (by simp) ?_
 have hv1 := fun w' (hb : Below w.heap.size w w') => all86_ok PP po pc w' (hP.below hb) l1
 have hv2 := fun w' (hb : Below w.heap.size w w') (h12 : BB.length ≤ 12) => beams_ok ⟨po, PP.length, pc, bo, BB.length, bc, f0, f1, f2, lo, LL.length, lc⟩ BB w' (hB.below hb) rfl h12 l1
 have hv3 := fun (b : Nat) (ty : TypeId) (x y z : Value) (w' : World) (h : w'.heap[b]? = some (.cells #[x, y, iv f0, iv f1, iv f2, z] ty (0, 0))) => all89_ok [f0, f1, f2] _ 3 w' (rd_fac h) (by simp)
 have hF : rigOk f0 f1 f2 PP BB LL = false → false = rigOk f0 f1 f2 PP BB LL := fun h => h.symm
 cases q1 : PP.all (fun n => inB n 0 1000000) <;> cases q2 : bmsOk PP.length [] BB <;> cases q3 : [f0, f1, f2].all (fun n => inB n 1000 20000)
 all_goals rw [q1] at hv1
 all_goals rw [q3] at hv3
 all_goals dsimp only at hv2
 all_goals rw [q2] at hv2
 all_goals skip
 repeat'
  conv => whnf
  first
   | refine zA ?_ | refine zB ?_ | refine zC ?_ | refine zD ?_ | refine zE ?_ | refine zF ?_ | refine zG ?_ | refine zH ?_ | refine zI ?_ | refine splT ?_ | refine splF ?_ | refine splNot ?_
   | ((first | refine splIn ?_ ?_ | refine splD ?_ ?_ | refine splE ?_ ?_ | refine splNE ?_ ?_) <;> intro hc <;> first | (exfalso; omega) | (exfalso; dsimp only at hc; omega) | skip)
   | ((with_reducible show CallEv _ _ 58 _ _ _ _ _); refine callE (k := 58) (fun β w' hbw => within_ok _ _ _ _) ?_)
   | ((with_reducible show CallEv _ _ 59 [_, .v (.func (.func 60) _ _)] _ _ _ _); refine callE (k := 59) (fun β w' hbw => hv1 w' hbw) ?_)
   | ((with_reducible show CallEv _ _ 59 [_, .v (.func (.func 63) _ _)] _ _ _ _); refine callM (k := 59) [0] (fun β w' hbk hbw => hv3 _ _ _ _ _ w' (hbk 0 (by simp) _ rfl)) ?_)
   | ((with_reducible show CallEv _ _ 61 _ _ _ _ _); refine callE (k := 61) (fun β w' hbw => hv2 _ hbw (by omega)) ?_)
   | ((with_reducible show CallEv _ _ 64 _ _ _ _ _); refine callI env mixed 1000 [36] Try.func64 has64 Try.ntmps64 (Nat.le_of_ble_eq_true rfl) rfl rfl rfl ?_)
   | ((with_reducible show CallEv _ _ 94 _ _ _ _ _); refine callI env mixed 2000 [] Try.func94 has94 Try.ntmps94 (Nat.le_of_ble_eq_true rfl) rfl rfl rfl ?_)
   | ((with_reducible show CallEv _ _ 107 _ _ _ _ _); refine callI env mixed 3000 [] Try.func107 has107 Try.ntmps107 (Nat.le_of_ble_eq_true rfl) rfl rfl rfl ?_)
 all_goals first | exact ⟨fun β => congrArg Value.bool (hF (by rw [Bool.eq_false_iff]; intro hc; rw [rigOk_iff] at hc; first | omega | simp_all)), fun w' h => h⟩ | skip
 conv => whnf
 refine loopE (fun k : Nat => [(0, .v (.slice lo LL.length lc)), (1, .fn (.func 95) [.ptr 1 0]), (7, .v (iv LL.length)), (8, .v (iv k))])
  (fun k => [(0, .cells [.v (.slice po PP.length pc), .v (.slice bo BB.length bc), .v (iv f0), .v (iv f1), .v (iv f2), .v (.slice lo LL.length lc)] 41), (1, .cells [.fn (.func 62) [.ptr 0 0]] 153)])
  (fun k => k ≤ LL.length ∧ (LL.take k).all (ldOk PP.length BB.length) = true) (fun k => LL.length - k) 0 ⟨Nat.zero_le _, rfl⟩ ⟨rfl, rfl, rfl, rfl, trivial⟩ ⟨rfl, rfl, trivial⟩ (fun _ => ⟨rfl, rfl⟩) ?_
 intro k ⟨hk, hall⟩
 rcases Nat.lt_or_ge k LL.length with hkl | hkl
 · obtain ⟨l, hb⟩ : ∃ b, LL[k]? = some b := ⟨_, List.getElem?_eq_getElem hkl⟩
   obtain ⟨_, ad, rfl, _⟩ := hL.ptr (by omega)
   have ht : (LL.take (k + 1)).all (ldOk PP.length BB.length) = ldOk PP.length BB.length l := by rw [List.take_add_one, hb]; simp [hall]
   have e0 := fun (w' : World) hw' => rd_ati (hL.below (w' := w') hw') hb
   have hno : ldOk PP.length BB.length l = false → rigOk f0 f1 f2 PP BB LL = false := fun h => by
    rw [Bool.eq_false_iff]; intro hc; rw [rigOk_iff, List.all_eq_true (l := LL)] at hc
    rw [hc.2.2.2.2.2.2 l (List.mem_of_getElem? hb)] at h; cases h
   obtain ⟨l1, l2, l3, l4, l5⟩ := l
   repeat'
    conv => whnf
    first
     | refine zA ?_ | refine zB ?_ | refine zC ?_ | refine zD ?_ | refine zE ?_ | refine zF ?_ | refine zG ?_ | refine zH ?_ | refine zI ?_ | refine splT ?_ | refine splF ?_ | refine splNot ?_
     | ((first | refine splIn ?_ ?_ | refine splD ?_ ?_ | refine splE ?_ ?_ | refine splNE ?_ ?_) <;> intro hc <;> first | (exfalso; omega) | (exfalso; dsimp only at hc; omega) | skip)
     | refine Exists.intro (α := List Value) [iv l1, iv l2, .int .u8 l3, iv l4, iv l5] ⟨⟨rfl, fun w' hw' => e0 w' hw'⟩, ?_⟩
     | ((with_reducible show CallEv _ _ 95 _ _ _ _ _); refine callI env mixed 4000 [0,1,5,7,8] Try.func95 has95 Try.ntmps95 (Nat.le_of_ble_eq_true rfl) rfl rfl rfl ?_)
     | ((with_reducible show CallEv _ _ 62 _ _ _ _ _); refine callI env mixed 5000 [] Try.func62 has62 Try.ntmps62 (Nat.le_of_ble_eq_true rfl) rfl rfl rfl ?_)
     | ((with_reducible show CallEv _ _ 39 _ _ _ _ _); refine callE (k := 39) (fun β w' hbw => has78_ok ⟨po, PP.length, pc, bo, BB.length, bc, f0, f1, f2, some ad, LL.length, lc⟩ _ _ _ _ (by omega) (by omega)) ?_)
     | ((with_reducible show CallEv _ _ 60 _ _ _ _ _); refine callE (k := 60) (fun β w' hbw => force_ok _ _) ?_)
     | refine splB (fun hb => ?_) (fun hb => ?_)
   all_goals first
    | exact ⟨k + 1, ⟨by omega, by rw [ht, ldOk_iff]; refine ⟨by assumption, ?_⟩; dsimp only; omega⟩, by omega, Ent.weak rfl ⟨rfl, rfl, rfl, rfl, trivial⟩ ⟨rfl, rfl, trivial⟩ fun _ h => h⟩
    | exact ⟨fun β => congrArg Value.bool (hno (by rw [Bool.eq_false_iff]; intro hc; rw [ldOk_iff] at hc; dsimp only at hc; first | omega | simp_all)).symm, fun w' h => h⟩
    | skip
 · rw [List.take_of_length_le hkl] at hall
   have hy : rigOk f0 f1 f2 PP BB LL = true := by
    rw [rigOk_iff]; exact ⟨by omega, q1, by omega, q2, by omega, q3, hall⟩
   rw [hy]
   repeat'
    conv => whnf
    first
     | refine zA ?_ | refine zB ?_ | refine zC ?_ | refine zD ?_ | refine zE ?_ | refine zF ?_ | refine zG ?_ | refine zH ?_ | refine zI ?_ | refine splT ?_ | refine splF ?_ | refine splNot ?_
     | ((first | refine splIn ?_ ?_ | refine splD ?_ ?_ | refine splE ?_ ?_ | refine splNE ?_ ?_) <;> intro hc <;> first | (exfalso; omega) | (exfalso; dsimp only at hc; omega) | skip)
   all_goals first | exact ⟨fun β => rfl, fun w' h => h⟩ | (exfalso; omega) | skip
end Go.Proofs.Ytfbokllafdnglaa
namespace Go.Proofs.Ytfbokllafdnglaa
open Go Tx Go.RowKit
set_option linter.unusedSimpArgs false
set_option linter.unusedVariables false
structure Fr where
 p : Nat → Row
 h : Nat → Nat → Row
 u : Nat → Nat → Row
def addR (x y : Row) : Row := fun i => x i + y i
def putP (F : Fr) (a : Nat) (x : Row) : Fr := { F with p := fun j => if j = a then addR (F.p j) x else F.p j }
def putU (F : Fr) (b a : Nat) (x : Row) : Fr := { F with u := fun j c => if j = b then (if c = a then addR (F.u j c) x else F.u j c) else F.u j c }
def putF (F : Fr) (b a : Int) (x : Row) : Fr := if b = -1 then putP F a.toNat x else putU F b.toNat a.toNat x
def ptsL (n : Nat) (F : Fr) : List Value := (List.range n).flatMap fun j => rwL (F.p j)
def hgsL (m : Nat) (F : Fr) : List Value := (List.range m).flatMap fun j => (List.range 2).flatMap fun k => rwL (F.h j k)
def hngL (m : Nat) (F : Fr) : List Value := (List.range m).flatMap fun j => (List.range 61).flatMap fun a => rwL (F.u j a)
theorem rwL_len (x : Row) : (rwL x).length = 21 := rfl
theorem hg_len (F : Fr) (j : Nat) : ((List.range 2).flatMap fun k => rwL (F.h j k)).length = 42 := by rw [fm_len (sz := 21) (fun _ => rfl)]; rfl
theorem hn_len (F : Fr) (j : Nat) : ((List.range 61).flatMap fun k => rwL (F.u j k)).length = 1281 := by rw [fm_len (sz := 21) (fun _ => rfl)]; rfl
theorem pts_get {F : Fr} {n k j : Nat} {v : Value} (hk : k < n) (h : (rwL (F.p k))[j]? = some v) : (ptsL n F)[k * 21 + j]? = some v := fm_get (sz := 21) (f := fun j => rwL (F.p j)) (fun _ => rfl) hk h
theorem hng_get {F : Fr} {m k a j : Nat} {v : Value} (hk : k < m) (ha : a < 61) (h : (rwL (F.u k a))[j]? = some v) : (hngL m F)[k * 1281 + a * 21 + j]? = some v := by
 rw [Nat.add_assoc]
 exact fm_get (sz := 1281) (f := fun j => (List.range 61).flatMap fun a => rwL (F.u j a)) (hn_len F) hk (fm_get (sz := 21) (f := fun a => rwL (F.u k a)) (fun _ => rfl) ha h)
theorem hgs_get {F : Fr} {m k a j : Nat} {v : Value} (hk : k < m) (ha : a < 2) (h : (rwL (F.h k a))[j]? = some v) : (hgsL m F)[k * 42 + a * 21 + j]? = some v := by
 rw [Nat.add_assoc]
 exact fm_get (sz := 42) (f := fun j => (List.range 2).flatMap fun a => rwL (F.h j a)) (hg_len F) hk (fm_get (sz := 21) (f := fun a => rwL (F.h k a)) (fun _ => rfl) ha h)
theorem pts_len (n : Nat) (F : Fr) : (ptsL n F).length = n * 21 := by rw [ptsL, fm_len (sz := 21) (fun _ => rfl), List.length_range]
theorem hgs_len (n : Nat) (F : Fr) : (hgsL n F).length = n * 42 := by rw [hgsL, fm_len (hg_len F), List.length_range]
theorem hng_len (n : Nat) (F : Fr) : (hngL n F).length = n * 1281 := by rw [hngL, fm_len (hn_len F), List.length_range]
theorem pts_set {F : Fr} {n k : Nat} (hk : k < n) (x : Row) : (ptsL n F).take (k * 21) ++ rwL (fun i => F.p k i + x i) ++ (ptsL n F).drop (k * 21 + 21) = ptsL n (putP F k x) := by
 have := fm_set (sz := 21) (f := fun j => rwL (F.p j)) (fun _ => rfl) (o := 0) (v := rwL (fun i => F.p k i + x i)) hk (Nat.le_refl _)
 refine (Eq.trans this ?_)
 unfold ptsL
 refine fm_congr fun j _ => ?_
 by_cases h : j = k
 · subst h
   rw [if_pos rfl]
   simp only [putP, if_true]
   rw [List.drop_of_length_le (by rw [rwL_len]; exact Nat.le_refl _)]
   simp [addR]
 · rw [if_neg h]; simp only [putP, if_neg h]
theorem hng_set {F : Fr} {m k a : Nat} (hk : k < m) (ha : a < 61) (x : Row) : (hngL m F).take (k * 1281 + a * 21) ++ rwL (fun i => F.u k a i + x i) ++ (hngL m F).drop (k * 1281 + a * 21 + 21) = hngL m (putU F k a x) := by
 have := fm_set (sz := 1281) (f := fun j => (List.range 61).flatMap fun a => rwL (F.u j a)) (hn_len F) (o := a * 21) (v := rwL (fun i => F.u k a i + x i)) hk (by rw [rwL_len]; omega)
 refine (Eq.trans this ?_)
 unfold hngL
 refine fm_congr fun j _ => ?_
 by_cases h : j = k
 · subst h
   rw [if_pos rfl]
   have h2 := fm_set (sz := 21) (f := fun a => rwL (F.u j a)) (fun _ => rfl) (o := 0) (v := rwL (fun i => F.u j a i + x i)) ha (Nat.le_refl _)
   refine (Eq.trans h2 ?_)
   refine fm_congr fun c _ => ?_
   by_cases h : c = a
   · subst h
     rw [if_pos rfl]
     simp only [putU, if_true]
     rw [List.drop_of_length_le (by rw [rwL_len]; exact Nat.le_refl _)]
     simp [addR]
   · rw [if_neg h]; simp only [putU, if_true, if_neg h]
 · rw [if_neg h]; simp only [putU, if_neg h]
abbrev frC (r : Rig) (n m : Nat) : List SV := [.v (.slice r.po r.pn r.pc), .v (.slice r.bo r.bn r.bc), .v (iv r.f0), .v (iv r.f1), .v (iv r.f2), .v (.slice r.lo r.ln r.lc), .os 1 2 n, .os 3 4 m, .os 5 6 m]
abbrev frM (r : Rig) (n m : Nat) (F : Fr) : List (Nat × Blk) := [(7, .cells (frC r n m) 146), (1, .own 2 n 21 (ptsL n F) 118), (5, .own 6 m 1281 (hngL m F) 159)]
theorem valsK_mk : ∀ (vs : List Value) {K : List Value → Prop}, K vs → valsK (vs.map .v) K
 | [], _, h => h
 | x :: r, K, h => by
  show valsK (r.map .v) fun l => K (x :: l)
  exact valsK_mk r h
set_option maxHeartbeats 4000000 in
set_option maxRecDepth 100000 in
theorem put_p (r : Rig) (n m : Nat) (F : Fr) (a : Nat) (x : Row) (hn : n ≤ 12) (ha : a < n) (hf : rwB (F.p a)) (hx : rwB x) {β : Nat → Nat} {w : World}
 (hok : ∀ i b, lk (frM r n m F) i = some b → b.ok β w (β i)) (hinj : ∀ i j bi bj, lk (frM r n m F) i = some bi → lk (frM r n m F) j = some bj → i ≠ j → β i ≠ β j) :
 Calls Try.prog 65 (SV.cs β [.ptr 7 0, .v (.agg #[iv (-1), iv a]), .v (.agg (rwL x).toArray)]).toArray w fun e w' => e = .returned (.tuple #[]) ∧ Chg (fun b => ∃ i bk, lk (frM r n m F) i = some bk ∧ β i = b) w w' ∧
  ∀ i b, lk (frM r n m (putP F a x)) i = some b → b.ok β w' (β i) := by
 refine calls_W env mixed Try.func65 has65 Try.ntmps65 [.ptr 7 0, .v (.agg #[iv (-1), iv a]), .v (.agg (rwL x).toArray)] (frM r n m F) (frM r n m (putP F a x)) 9 (.tuple #[]) (by simp) rfl rfl rfl (fun i b hi => ?_) (fun h => ?_) hok hinj
 · have := lk_mem hi
   simp only [List.mem_cons, Prod.mk.injEq, List.not_mem_nil, or_false] at this
   rcases this with ⟨_, rfl⟩ | ⟨_, rfl⟩ | ⟨_, rfl⟩ <;> rfl
 obtain ⟨po, pn, pc, bo, bn, bc, f0, f1, f2, lo, ln, lc⟩ := r
 have hrd : ∀ j v, (rwL (F.p a))[j]? = some v → (ptsL n F)[(a : Int).toNat * ti118.size + j]? = some v := fun j v h => by rw [Int.toNat_natCast]; exact pts_get ha h
 repeat'
  conv => whnf
  first
   | refine zA ?_ | refine zB ?_ | refine zC ?_ | refine zD ?_ | refine zE ?_ | refine zF ?_ | refine zG ?_ | refine zH ?_ | refine zI ?_ | refine splT ?_ | refine splF ?_ | refine splNot ?_
   | ((first | refine splIn ?_ ?_ | refine splD ?_ ?_ | refine splE ?_ ?_ | refine splNE ?_ ?_) <;> intro hc <;> first | (exfalso; omega) | (exfalso; dsimp only at hc; omega) | skip)
   | refine nilE rfl rfl ?_
   | refine Exists.intro (α := List Value) (rwL (F.p a)) ⟨⟨rfl, hrd⟩, ?_⟩
   | ((with_reducible show CallEv _ _ 68 _ _ _ _ _); refine callM (k := 68) [11] (fun β w' hbk hbw => sum_ok (F.p a) x _ 2 w' (Rd.of_cells (sz := 21) (f := rwL) (bs := [F.p a, x]) (fun _ => rfl) rfl (hbk 11 (by simp) _ rfl)) hf hx) ?_)
 have hst : (a : Int).toNat * ti118.size + (rwL fun i => F.p a i + x i).length ≤ (ptsL n F).length := by
  rw [pts_len, Int.toNat_natCast, rwL_len, show ti118.size = 21 from rfl]; omega
 have hse : (ptsL n F).take ((a : Int).toNat * ti118.size) ++ (rwL fun i => F.p a i + x i) ++ (ptsL n F).drop ((a : Int).toNat * ti118.size + (rwL fun i => F.p a i + x i).length) = ptsL n (putP F a x) := by
  rw [Int.toNat_natCast, rwL_len]; exact pts_set ha x
 refine valsK_mk (rwL fun i => F.p a i + x i) ?_
 refine And.intro hst ?_
 rw [hse]
 repeat'
  conv => whnf
  first
   | refine zA ?_ | refine zB ?_ | refine zC ?_ | refine zD ?_ | refine zE ?_ | refine zF ?_ | refine zG ?_ | refine zH ?_ | refine zI ?_ | refine splT ?_ | refine splF ?_ | refine splNot ?_
   | ((first | refine splIn ?_ ?_ | refine splD ?_ ?_ | refine splE ?_ ?_ | refine splNE ?_ ?_) <;> intro hc <;> first | (exfalso; omega) | (exfalso; dsimp only at hc; omega) | skip)
 exact ⟨fun β => rfl, ⟨rfl, rfl, rfl, trivial⟩, fun w' h => h, rfl⟩
set_option maxHeartbeats 4000000 in
set_option maxRecDepth 100000 in
theorem put_u (r : Rig) (n m : Nat) (F : Fr) (q a : Nat) (x : Row) (hn : 1 ≤ n ∧ n ≤ 12) (hm : m ≤ 12) (hb : q < m) (ha : a < 61) (hf : rwB (F.u q a)) (hx : rwB x) {β : Nat → Nat} {w : World}
 (hok : ∀ i b, lk (frM r n m F) i = some b → b.ok β w (β i)) (hinj : ∀ i j bi bj, lk (frM r n m F) i = some bi → lk (frM r n m F) j = some bj → i ≠ j → β i ≠ β j) :
 Calls Try.prog 65 (SV.cs β [.ptr 7 0, .v (.agg #[iv q, iv a]), .v (.agg (rwL x).toArray)]).toArray w fun e w' => e = .returned (.tuple #[]) ∧ Chg (fun b => ∃ i bk, lk (frM r n m F) i = some bk ∧ β i = b) w w' ∧
  ∀ i b, lk (frM r n m (putU F q a x)) i = some b → b.ok β w' (β i) := by
 refine calls_W env mixed Try.func65 has65 Try.ntmps65 [.ptr 7 0, .v (.agg #[iv q, iv a]), .v (.agg (rwL x).toArray)] (frM r n m F) (frM r n m (putU F q a x)) 9 (.tuple #[]) (by simp) rfl rfl rfl (fun i b hi => ?_) (fun h => ?_) hok hinj
 · have := lk_mem hi
   simp only [List.mem_cons, Prod.mk.injEq, List.not_mem_nil, or_false] at this
   rcases this with ⟨_, rfl⟩ | ⟨_, rfl⟩ | ⟨_, rfl⟩ <;> rfl
 obtain ⟨po, pn, pc, bo, bn, bc, f0, f1, f2, lo, ln, lc⟩ := r
 have hrd : ∀ j v, (rwL (F.u q a))[j]? = some v → (hngL m F)[(q : Int).toNat * ti159.size + (a : Int).toNat * ti118.size + j]? = some v := fun j v h => by rw [Int.toNat_natCast, Int.toNat_natCast]; exact hng_get hb ha h
 repeat'
  conv => whnf
  first
   | refine zA ?_ | refine zB ?_ | refine zC ?_ | refine zD ?_ | refine zE ?_ | refine zF ?_ | refine zG ?_ | refine zH ?_ | refine zI ?_ | refine splT ?_ | refine splF ?_ | refine splNot ?_
   | ((first | refine splIn ?_ ?_ | refine splD ?_ ?_ | refine splE ?_ ?_ | refine splNE ?_ ?_) <;> intro hc <;> first | (exfalso; omega) | (exfalso; dsimp only at hc; omega) | skip)
   | refine nilE rfl rfl ?_
   | refine Exists.intro (α := List Value) (rwL (F.u q a)) ⟨⟨rfl, hrd⟩, ?_⟩
   | ((with_reducible show CallEv _ _ 68 _ _ _ _ _); refine callM (k := 68) [11] (fun β w' hbk hbw => sum_ok (F.u q a) x _ 2 w' (Rd.of_cells (sz := 21) (f := rwL) (bs := [F.u q a, x]) (fun _ => rfl) rfl (hbk 11 (by simp) _ rfl)) hf hx) ?_)
 have hst : (q : Int).toNat * ti159.size + (a : Int).toNat * ti118.size + (rwL fun i => F.u q a i + x i).length ≤ (hngL m F).length := by
  rw [hng_len, Int.toNat_natCast, Int.toNat_natCast, rwL_len, show ti118.size = 21 from rfl, show ti159.size = 1281 from rfl]; omega
 have hse : (hngL m F).take ((q : Int).toNat * ti159.size + (a : Int).toNat * ti118.size) ++ (rwL fun i => F.u q a i + x i) ++ (hngL m F).drop ((q : Int).toNat * ti159.size + (a : Int).toNat * ti118.size + (rwL fun i => F.u q a i + x i).length) = hngL m (putU F q a x) := by
  rw [Int.toNat_natCast, Int.toNat_natCast, rwL_len]; exact hng_set hb ha x
 refine valsK_mk (rwL fun i => F.u q a i + x i) ?_
 refine And.intro hst ?_
 rw [hse]
 repeat'
  conv => whnf
  first
   | refine zA ?_ | refine zB ?_ | refine zC ?_ | refine zD ?_ | refine zE ?_ | refine zF ?_ | refine zG ?_ | refine zH ?_ | refine zI ?_ | refine splT ?_ | refine splF ?_ | refine splNot ?_
   | ((first | refine splIn ?_ ?_ | refine splD ?_ ?_ | refine splE ?_ ?_ | refine splNE ?_ ?_) <;> intro hc <;> first | (exfalso; omega) | (exfalso; dsimp only at hc; omega) | skip)
 exact ⟨fun β => rfl, ⟨rfl, rfl, rfl, trivial⟩, fun w' h => h, rfl⟩
end Go.Proofs.Ytfbokllafdnglaa
namespace Go.Proofs.Ytfbokllafdnglaa
open Go Tx Go.RowKit
set_option linter.unusedSimpArgs false
set_option linter.unusedVariables false
def tgt (F : Fr) (b a : Int) : Row := if b = -1 then F.p a.toNat else F.u b.toNat a.toNat
theorem put_ok (r : Rig) (n m : Nat) (F : Fr) (b a : Int) (x : Row) (hn : 1 ≤ n ∧ n ≤ 12) (hm : m ≤ 12) (hh : hasB n b a m = true) (hf : rwB (tgt F b a)) (hx : rwB x) {β : Nat → Nat} {w : World}
 (hok : ∀ i b, lk (frM r n m F) i = some b → b.ok β w (β i)) (hinj : ∀ i j bi bj, lk (frM r n m F) i = some bi → lk (frM r n m F) j = some bj → i ≠ j → β i ≠ β j) :
 Calls Try.prog 65 (SV.cs β [.ptr 7 0, .v (.agg #[iv b, iv a]), .v (.agg (rwL x).toArray)]).toArray w fun e w' => e = .returned (.tuple #[]) ∧ Chg (fun b => ∃ i bk, lk (frM r n m F) i = some bk ∧ β i = b) w w' ∧
  ∀ i bk, lk (frM r n m (putF F b a x)) i = some bk → bk.ok β w' (β i) := by
 unfold tgt at hf
 unfold putF
 rcases hasB_cases hh with ⟨rfl, h1, h2⟩ | ⟨hne, ⟨h1, h2⟩, h3, h4⟩
 · obtain ⟨k, rfl⟩ := Int.eq_ofNat_of_zero_le h1
   rw [if_pos rfl] at hf ⊢
   rw [Int.toNat_natCast] at hf ⊢
   exact put_p r n m F k x hn.2 (by omega) hf hx hok hinj
 · obtain ⟨k, rfl⟩ := Int.eq_ofNat_of_zero_le h3
   obtain ⟨q, rfl⟩ := Int.eq_ofNat_of_zero_le h1
   rw [if_neg hne] at hf ⊢
   rw [Int.toNat_natCast, Int.toNat_natCast] at hf ⊢
   exact put_u r n m F q k x hn hm (by omega) (by omega) hf hx hok hinj
theorem frM_lk {r : Rig} {n m : Nat} {F : Fr} {i : Nat} {b : Blk} (h : lk (frM r n m F) i = some b) : i = 7 ∧ b = .cells (frC r n m) 146 ∨ i = 1 ∧ b = .own 2 n 21 (ptsL n F) 118 ∨ i = 5 ∧ b = .own 6 m 1281 (hngL m F) 159 := by
 have := lk_mem h
 simp only [List.mem_cons, Prod.mk.injEq, List.not_mem_nil, or_false] at this
 exact this
theorem callPut {σ : Sg} {args : List SV} {rs : List Nat} {K : Ef → Prop} {KF : Option KT} (r : Rig) (n m : Nat) (F : Fr) (b a : Int) (x : Row) (hn : 1 ≤ n ∧ n ≤ 12) (hm : m ≤ 12) (hh : hasB n b a m = true) (hf : rwB (tgt F b a)) (hx : rwB x)
 (e7 : lk σ.m 7 = some (.cells (frC r n m) 146)) (e1 : lk σ.m 1 = some (.own 2 n 21 (ptsL n F) 118)) (e5 : lk σ.m 5 = some (.own 6 m 1281 (hngL m F) 159))
 (ha : ∀ β, SV.cs β args = SV.cs β [.ptr 7 0, .v (.agg #[iv b, iv a]), .v (.agg (rwL x).toArray)])
 (hB : efB σ ⟨.v (.tuple #[]), [], frM r n m (putF F b a x), [], [7, 1, 5]⟩ = true) (hK : K ⟨.v (.tuple #[]), [], frM r n m (putF F b a x), rs, [7, 1, 5]⟩) : CallEv Try.prog σ 65 args (efB σ) rs K KF := by
 have he : ∀ {i : Nat} {bk : Blk}, lk (frM r n m F) i = some bk → lk σ.m i = some bk := fun h => by
  rcases frM_lk h with ⟨rfl, rfl⟩ | ⟨rfl, rfl⟩ | ⟨rfl, rfl⟩ <;> assumption
 have hmem : ∀ {i : Nat} {bk : Blk}, lk (frM r n m F) i = some bk → i ∈ [7, 1, 5] ∧ bk.live = true := fun h => by
  rcases frM_lk h with ⟨rfl, rfl⟩ | ⟨rfl, rfl⟩ | ⟨rfl, rfl⟩ <;> exact ⟨by simp, rfl⟩
 refine callW [7, 1, 5] (frM r n m (putF F b a x)) (.tuple #[]) hB (fun i hi => ?_) (fun β w h1 h2 _ => ?_) hK
 · simp only [List.mem_cons, List.not_mem_nil, or_false] at hi
   rcases hi with rfl | rfl | rfl
   · exact ⟨_, List.mem_cons_self⟩
   · exact ⟨_, List.mem_cons_of_mem _ List.mem_cons_self⟩
   · exact ⟨_, List.mem_cons_of_mem _ (List.mem_cons_of_mem _ List.mem_cons_self)⟩
 · rw [ha β]
   refine (put_ok r n m F b a x hn hm hh hf hx (β := β) (w := w) (fun i bk hi => h1 i (hmem hi).1 bk (he hi)) (fun i j bi bj hi hj hne => h2 i (hmem hi).1 j (hmem hj).1 bi bj (he hi) (he hj) (hmem hi).2 (hmem hj).2 hne)).mono fun e w' ⟨q1, q2, q3⟩ => ⟨q1, ?_, fun i bk hi => ?_⟩
   · exact ⟨q2.os, q2.tape, q2.output, q2.size, fun b hb hX => q2.same b hb fun ⟨i, bk, hi, hib⟩ => hX ⟨i, (hmem hi).1, hib⟩⟩
   · refine q3 i bk ?_
     simp only [List.mem_cons, Prod.mk.injEq, List.not_mem_nil, or_false] at hi
     rcases hi with ⟨rfl, rfl⟩ | ⟨rfl, rfl⟩ | ⟨rfl, rfl⟩ <;> rfl
theorem idxL {P : Program} (T : Env P) {dst : Option Tmp} {ty : TypeId} {pos : String} {after : Array Edge} {gd : Option (Nat × Bool)} {gs : List Nat} {σ : Sg} {K : Ef → Prop} {KF : Option KT} {t e n : Nat} {x ix : Operand} {s0 : SV} {k : IntKind} {z : Int} (l : List SV)
 {sz : Nat} {zr : List Value} {by_ : Nat} {ti : TI} (hx : gv σ x = some s0) (hix : gv σ ix = some (.v (.int k z))) (ht : T.ty t = some ⟨sz, zr, by_, .arr n e⟩) (he : T.ty e = some ti) (h01 : 0 ≤ z ∧ z < n)
 (hag : s0.isAgg = true) (hl : (s0.cells.drop (z.toNat * ti.size)).take ti.size = l) (hlen : l.length = ti.size) (hagg : ti.kind.agg = true)
 (hB : efB σ ⟨.agg l, [], [], gs ++ (os x ++ os ix), []⟩ = true) (hK : K ⟨.agg l, [], [], gs ++ (os x ++ os ix), []⟩) : OpEvS P ⟨dst, .index t x ix, ty, pos, after, gd⟩ gs σ K KF := by
 subst hl
 exact idxS T hx hix ht he h01 hag hlen (.inl ⟨hagg, rfl⟩) hB hK
theorem callPutE {σ : Sg} {args : List SV} {rs : List Nat} {K : Ef → Prop} {KF : Option KT} (r : Rig) (n m : Nat) (F F' : Fr) (b a : Int) (x : Row) (hF : putF F b a x = F') (hn : 1 ≤ n ∧ n ≤ 12) (hm : m ≤ 12) (hh : hasB n b a m = true) (hf : rwB (tgt F b a)) (hx : rwB x)
 (e7 : lk σ.m 7 = some (.cells (frC r n m) 146)) (e1 : lk σ.m 1 = some (.own 2 n 21 (ptsL n F) 118)) (e5 : lk σ.m 5 = some (.own 6 m 1281 (hngL m F) 159))
 (ha : ∀ β, SV.cs β args = SV.cs β [.ptr 7 0, .v (.agg #[iv b, iv a]), .v (.agg (rwL x).toArray)])
 (hB : efB σ ⟨.v (.tuple #[]), [], frM r n m F', [], [7, 1, 5]⟩ = true) (hK : K ⟨.v (.tuple #[]), [], frM r n m F', rs, [7, 1, 5]⟩) : CallEv Try.prog σ 65 args (efB σ) rs K KF := by
 subst hF
 exact callPut r n m F b a x hn hm hh hf hx e7 e1 e5 ha hB hK
theorem putF_nat (F : Fr) (i : Nat) (x : Row) : putF F i 30 x = putU F i 30 x := by
 unfold putF
 rw [if_neg (by omega), Int.toNat_natCast]
 rfl
def setH (F : Fr) (b a : Nat) (x : Row) : Fr := { F with h := fun j c => if j = b then (if c = a then x else F.h j c) else F.h j c }
def F0 : Fr := ⟨fun _ => zr, fun _ _ => zr, fun _ _ => zr⟩
def unitR (k : Nat) : Row := fun i => bif Nat.beq i k then 216000 else 0
def wtR (b : Bm) : Row := fun i => bif Nat.beq i 20 then b.wt * 216000 else 0
def ldsF (LL : List Ld) : Nat → Fr
 | 0 => F0
 | k + 1 => match LL[k]? with
  | some l => putF (ldsF LL k) l.beam l.at' (unitR k)
  | none => ldsF LL k
def hStep (b : Bm) (i a : Nat) (F : Fr) : Fr := setH (setH F i 0 (addR (F.h i 0) (lft b.lo b.hi a (F.u i a)))) i 1 (addR (F.h i 1) (rgt b.lo b.hi a (F.u i a)))
def hgF (b : Bm) (i : Nat) (F : Fr) : Nat → Fr
 | 0 => F
 | a + 1 => hStep b i a (hgF b i F a)
def bmG (b : Bm) (i : Nat) (F : Fr) : Fr := hgF b i (putU F i 30 (wtR b)) 61
def bmF (b : Bm) (i : Nat) (F : Fr) : Fr := putF (putF (bmG b i F) b.ab b.aa ((bmG b i F).h i 0)) b.bb b.ba ((bmG b i F).h i 1)
def bmsF (BB : List Bm) (F : Fr) : Nat → Fr
 | 0 => F
 | k + 1 => match BB[BB.length - 1 - k]? with
  | some b => bmF b (BB.length - 1 - k) (bmsF BB F k)
  | none => bmsF BB F k
def frF (BB : List Bm) (LL : List Ld) : Fr := bmsF BB (ldsF LL LL.length) BB.length
theorem hgs_set {F : Fr} {m k a : Nat} (hk : k < m) (ha : a < 2) (x : Row) : (hgsL m F).take (k * 42 + a * 21) ++ rwL x ++ (hgsL m F).drop (k * 42 + a * 21 + 21) = hgsL m (setH F k a x) := by
 have := fm_set (sz := 42) (f := fun j => (List.range 2).flatMap fun a => rwL (F.h j a)) (hg_len F) (o := a * 21) (v := rwL x) hk (by rw [rwL_len]; omega)
 refine (Eq.trans this ?_)
 unfold hgsL
 refine fm_congr fun j _ => ?_
 by_cases h : j = k
 · subst h
   rw [if_pos rfl]
   have h2 := fm_set (sz := 21) (f := fun a => rwL (F.h j a)) (fun _ => rfl) (o := 0) (v := rwL x) ha (Nat.le_refl _)
   refine (Eq.trans h2 ?_)
   refine fm_congr fun c _ => ?_
   by_cases h : c = a
   · subst h
     rw [if_pos rfl]
     simp only [setH, if_true]
     rw [List.drop_of_length_le (by rw [rwL_len]; exact Nat.le_refl _)]
     simp
   · rw [if_neg h]; simp only [setH, if_true, if_neg h]
 · rw [if_neg h]; simp only [setH, if_neg h]
theorem fm_const (c : List Value) : ∀ n, (List.replicate n c).flatten = (List.range n).flatMap fun _ => c := by
 intro n
 rw [show (List.range n).flatMap (fun _ => c) = ((List.range n).map fun _ => c).flatten from by rw [List.flatMap_def]]
 congr 1
 rw [List.map_const', List.length_range]
theorem pts0 (n : Nat) : ptsL n F0 = (List.replicate n ti118.zero).flatten := by rw [fm_const]; rfl
theorem hgs0 (n : Nat) : hgsL n F0 = (List.replicate n ti148.zero).flatten := by rw [fm_const]; rfl
theorem hng0 (n : Nat) : hngL n F0 = (List.replicate n ti159.zero).flatten := by
 rw [fm_const]
 unfold hngL
 refine fm_congr fun j _ => ?_
 show (List.range 61).flatMap (fun _ => rwL zr) = _
 rw [← fm_const]
 show _ = List.replicate 1281 _
 rw [show rwL zr = List.replicate 21 (iv 0) from rfl, List.flatten_replicate_replicate]
end Go.Proofs.Ytfbokllafdnglaa
