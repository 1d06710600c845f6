/- The beams of a rig: whether they are right. -/
import Derived.Test.YtaciigegbgnadaaGP
namespace Go.Proofs.Ytaciigegbgnadaa
open Go Tx Go.RowKit
set_option linter.unusedSimpArgs false
set_option linter.unusedVariables false

/-- The depth of a beam behind its first hanger, of beams ahead of it being known; behind both. -/
def dA (b : Bm) (ds : List Int) : Int := if b.ab = -1 then 1 else imax 1 (ds.getD b.ab.toNat 0 + 1)
def dB (b : Bm) (ds : List Int) : Int := if b.bb = -1 then dA b ds else imax (dA b ds) (ds.getD b.bb.toNat 0 + 1)
def dv (b : Bm) (ds : List Int) : Nat → Int
  | 0 => 1
  | 1 => dA b ds
  | _ => dB b ds
def bmOk (pn : Nat) (i : Int) (b : Bm) : Bool := inB b.lo 0 60 && (inB b.hi 0 60 && (spanB b && (hasB pn b.ab b.aa i && (hasB pn b.bb b.ba i && (inB b.wt 0 1000000 && inB b.cap 0 1000000)))))
def bmsOk (pn : Nat) : List Int → List Bm → Bool
  | _, [] => true
  | ds, b :: r => (bmOk pn ds.length b && decide (dB b ds ≤ 3)) && bmsOk pn (ds ++ [dB b ds]) r
/-- The depths of beams, of some ahead of them being known. -/
def dps : List Int → List Bm → List Int
  | ds, [] => ds
  | ds, b :: r => dps (ds ++ [dB b ds]) r
theorem dps_append : ∀ (l r : List Bm) (ds : List Int), dps ds (l ++ r) = dps (dps ds l) r
  | [], _, _ => rfl
  | b :: l, r, ds => dps_append l r _
theorem dps_len : ∀ (l : List Bm) (ds : List Int), (dps ds l).length = ds.length + l.length
  | [], _ => rfl
  | b :: l, ds => by rw [dps, dps_len l]; simp; omega
theorem dps_take {BB : List Bm} {k : Nat} {b : Bm} (h : BB[k]? = some b) (ds : List Int) : dps ds (BB.take (k + 1)) = dps ds (BB.take k) ++ [dB b (dps ds (BB.take k))] := by
  rw [List.take_add_one, h, Option.toList_some, dps_append]; rfl
theorem bmsOk_drop {pn : Nat} {BB : List Bm} {k : Nat} {b : Bm} {ds : List Int} (h : BB[k]? = some b) : bmsOk pn ds (BB.drop k) = ((bmOk pn ds.length b && decide (dB b ds ≤ 3)) && bmsOk pn (ds ++ [dB b ds]) (BB.drop (k + 1))) := by
  obtain ⟨h1, h2⟩ := List.getElem?_eq_some_iff.1 h
  rw [List.drop_eq_getElem_cons h1, h2, bmsOk]
theorem hasB_cases {pn : Nat} {b a n : Int} (h : hasB pn b a n = true) : (b = -1 ∧ 0 ≤ a ∧ a ≤ (pn : Int) - 1) ∨ (b ≠ -1 ∧ (0 ≤ b ∧ b ≤ n - 1) ∧ 0 ≤ a ∧ a ≤ 60) := by
  unfold hasB at h
  split at h
  · exact .inl ⟨by assumption, inB_iff.1 h⟩
  · rw [Bool.and_eq_true, inB_iff, inB_iff] at h
    exact .inr ⟨by assumption, h⟩
theorem bmOk_iff {pn : Nat} {i : Int} {b : Bm} : bmOk pn i b = true ↔ (0 ≤ b.lo ∧ b.lo ≤ 60) ∧ (0 ≤ b.hi ∧ b.hi ≤ 60) ∧ spanB b = true ∧ hasB pn b.ab b.aa i = true ∧ hasB pn b.bb b.ba i = true ∧ (0 ≤ b.wt ∧ b.wt ≤ 1000000) ∧ (0 ≤ b.cap ∧ b.cap ≤ 1000000) := by
  unfold bmOk
  simp only [Bool.and_eq_true, inB_iff]
theorem set_take {L : List Int} {k : Nat} {v : Int} (hk : k < L.length) : (L.set k v).take (k + 1) = L.take k ++ [v] := by
  rw [List.take_add_one, List.getElem?_set_self hk, List.take_set_of_le (Nat.le_refl _)]; rfl
theorem imax_bd {x y : Int} (h1 : 1 ≤ x ∧ x ≤ 4) (h2 : 1 ≤ y ∧ y ≤ 4) : 1 ≤ imax x y ∧ imax x y ≤ 4 := by rw [imax_eq]; omega
/-- Depths that are right. -/
def dsB (ds : List Int) : Prop := ∀ (j : Nat) (n : Int), ds[j]? = some n → 1 ≤ n ∧ n ≤ 3
theorem dA_bd {b : Bm} {ds : List Int} (hd : dsB ds) : 1 ≤ dA b ds ∧ dA b ds ≤ 4 := by
  unfold dA
  split
  · omega
  · refine imax_bd (by omega) ?_
    rw [List.getD_eq_getElem?_getD]
    cases h : ds[b.ab.toNat]? with
    | none => simp
    | some n => have := hd _ _ h; simp; omega
theorem dB_bd {b : Bm} {ds : List Int} (hd : dsB ds) : 1 ≤ dB b ds ∧ dB b ds ≤ 4 := by
  unfold dB
  split
  · exact dA_bd hd
  · refine imax_bd (dA_bd hd) ?_
    rw [List.getD_eq_getElem?_getD]
    cases h : ds[b.bb.toNat]? with
    | none => simp
    | some n => have := hd _ _ h; simp; omega
theorem dsB_snoc {ds : List Int} {n : Int} (hd : dsB ds) (hn : 1 ≤ n ∧ n ≤ 3) : dsB (ds ++ [n]) := fun j m h => by
  rw [List.getElem?_append] at h
  split at h
  · exact hd j m h
  · have : j - ds.length = 0 := by
      have := (List.getElem?_eq_some_iff.1 h).1
      simp at this; omega
    rw [this] at h
    simp at h; omega
theorem atS {L : List Int} {k : Nat} {n : Int} (h : L[k]? = some n) : ∀ j v, [iv n][j]? = some v → (L.flatMap iF)[(k : Int).toNat * 1 + j]? = some v := fun j v hj => by
  match j, hj with
  | 0, hj => cases hj; rw [Int.toNat_natCast, Nat.mul_one, Nat.add_zero]; exact atF h
theorem atZ {L : List Int} {z : Int} {n : Int} (h : L[z.toNat]? = some n) : ∀ j v, [iv n][j]? = some v → (L.flatMap iF)[z.toNat * 1 + j]? = some v := fun j v hj => by
  match j, hj with
  | 0, hj => cases hj; rw [Nat.mul_one, Nat.add_zero]; exact atF h
theorem stS' {L : List Int} {k : Nat} (hk : k < L.length) (n : Int) : (k : Int).toNat * 1 + [iv n].length ≤ (L.flatMap iF).length := by
  rw [lenF, Int.toNat_natCast, Nat.mul_one]; exact hk
theorem stE {L : List Int} {k : Nat} (hk : k < L.length) (n : Int) : (L.flatMap iF).take ((k : Int).toNat * ti3.size) ++ [iv n] ++ (L.flatMap iF).drop ((k : Int).toNat * ti3.size + [iv n].length) = (L.set k n).flatMap iF := by
  rw [show ti3.size = 1 from rfl, Int.toNat_natCast, Nat.mul_one, ← setF hk, List.append_assoc]; rfl

theorem atS2 {L : List Int} {k : Nat} (hk : k < L.length) (n : Int) : ∀ j v, [iv n][j]? = some v → ((L.set k n).flatMap iF)[(k : Int).toNat * 1 + j]? = some v := atS (List.getElem?_set_self hk)
theorem atZ2 {L : List Int} {z : Int} {n a : Int} {k : Nat} (h : L[z.toNat]? = some n) (hz : z.toNat ≠ k) : ∀ j v, [iv n][j]? = some v → ((L.set k a).flatMap iF)[z.toNat * 1 + j]? = some v := atZ (by rw [List.getElem?_set_ne (Ne.symm hz)]; exact h)
theorem stS2 {L : List Int} {k : Nat} (hk : k < L.length) (a n : Int) : (k : Int).toNat * 1 + [iv n].length ≤ ((L.set k a).flatMap iF).length := stS' (by rw [List.length_set]; exact hk) n
theorem stE2 {L : List Int} {k : Nat} (hk : k < L.length) (a n : Int) : ((L.set k a).flatMap iF).take ((k : Int).toNat * ti3.size) ++ [iv n] ++ ((L.set k a).flatMap iF).drop ((k : Int).toNat * ti3.size + [iv n].length) = (L.set k n).flatMap iF := by
  rw [stE (by rw [List.length_set]; exact hk), List.set_set]

set_option maxHeartbeats 4000000 in
set_option maxRecDepth 100000 in
theorem beams_ok (r : Rig) (BB : List Bm) (w : World) (hrd : Rd 8 Bm.cs (.slice r.bo BB.length r.bc) BB w) (hn : r.bn = BB.length) (hl : BB.length ≤ 12) (hp : r.pn ≤ 1000000) :
    Calls Try.prog 87 #[r.v] w fun e w' => e = .returned (.bool (bmsOk r.pn [] BB)) ∧ Below w.heap.size w w' := by
  obtain ⟨po, pn, pc, bo, bn, bc, f0, f1, f2, lo, ln, lc⟩ := r
  dsimp only at hrd hn hp ⊢
  subst hn
  refine calls_val env mixed Try.func87 has87 Try.ntmps87 [.agg #[.slice po pn pc, .slice bo BB.length bc, iv f0, iv f1, iv f2, .slice lo ln lc]] (by simp) ?_
  repeat'
    conv => whnf
    first
      | refine And.intro (a := drawB _ = true) (by kernel_rfl) ?_
      | refine And.intro (a := (_ : Bool) = true) rfl ?_
      | refine And.intro (a := (_ : Bool) = true ∧ (_ : Bool) = true) ⟨rfl, rfl⟩ ?_
      | refine And.intro (a := (_ : Bool) = true ∧ (_ : List _) = []) ⟨rfl, rfl⟩ ?_
      | refine And.intro (a := IR _ _) (And.intro (by omega) (by omega)) ?_
      | refine wrapE (And.intro (by omega) (by omega)) ?_
      | refine And.intro (a := (0 : Int) ≤ _ ∧ _ < _) (And.intro (by omega) (by omega)) ?_
      | refine And.intro (a := (_ : Bool) = true) (by simp only [Nat.beq_refl]; rfl) ?_
      | refine And.intro (a := ((_ : Bool) = true → 1 ≤ _) ∧ _ ≤ 9223372036854775807 ∧ _ ≤ 140737488355328) ⟨fun h => (by first | omega | cases h), by omega, by omega⟩ ?_
      | refine splT ?_
      | refine splF ?_
      | refine splNot ?_
      | (refine splIn (fun hc => ?_) (fun hc => ?_) <;> first | (exfalso; omega) | (exfalso; dsimp only at hc; omega) | skip)
      | (refine splD (fun hc => ?_) (fun hc => ?_) <;> first | (exfalso; omega) | (exfalso; dsimp only at hc; omega) | skip)
      | (refine splE (fun hc => ?_) (fun hc => ?_) <;> first | (exfalso; omega) | (exfalso; dsimp only at hc; omega) | skip)
      | (refine splNE (fun hc => ?_) (fun hc => ?_) <;> first | (exfalso; omega) | (exfalso; dsimp only at hc; omega) | skip)
      | refine mkO env 1 BB.length ((List.replicate BB.length (0 : Int)).flatMap iF) rfl rfl rfl (by decide) rfl (by omega) (by decide) (by rw [List.flatMap_replicate]; rfl) rfl ?_
  refine loopN2 3 (fun (k : Nat) (D : List Int) => [(1, .ptr 0 0), (3, .os 1 2 BB.length), (13, .v (.slice bo BB.length bc)), (14, .v (iv BB.length)), (15, .v (iv k))])
    (fun k D => [(0, .cells [.v (.slice po pn pc), .v (.slice bo BB.length bc), .v (iv f0), .v (iv f1), .v (iv f2), .v (.slice lo ln lc)] 58), (1, .own 2 BB.length 1 (D.flatMap iF) 3)])
    (fun k D => k ≤ BB.length ∧ D.length = BB.length ∧ D.take k = dps [] (BB.take k) ∧ bmsOk pn [] BB = bmsOk pn (dps [] (BB.take k)) (BB.drop k) ∧ dsB (dps [] (BB.take k))) (fun k _ => BB.length - k) 0 (List.replicate BB.length 0)
    ⟨Nat.zero_le _, by simp, rfl, rfl, fun j n (h : ([] : List Int)[j]? = some n) => by simp at h⟩ ⟨rfl, rfl, rfl, rfl, rfl, trivial⟩ ⟨rfl, rfl, trivial⟩ (fun _ _ _ => ⟨rfl, rfl⟩) ?_
  intro k D ⟨hk, hD, hDk, hen, hds⟩
  rcases Nat.lt_or_ge k BB.length with hkl | hkl
  · obtain ⟨b, hb⟩ : ∃ b, BB[k]? = some b := ⟨_, List.getElem?_eq_getElem hkl⟩
    obtain ⟨_, ad, rfl, _⟩ := hrd.ptr (by omega)
    have e0 := fun (w' : World) hw' => rd_ati (hrd.below (w' := w') hw') hb
    have hdl : (dps [] (BB.take k)).length = k := by rw [dps_len]; simp; omega
    rw [bmsOk_drop hb, hdl] at hen
    have hnx := dps_take hb []
    have hF : bmOk pn k b = false → false = bmsOk pn [] BB := fun h => by rw [hen, h]; rfl
    have hS := span_ok b
    have hsB : spanB b = spanB b := rfl
    obtain ⟨b1, b2, b3, b4, b5, b6, b7, b8⟩ := b
    dsimp only at hS
    repeat'
      conv => whnf
      first
        | refine And.intro (a := drawB _ = true) (by kernel_rfl) ?_
        | refine And.intro (a := (_ : Bool) = true) rfl ?_
        | refine And.intro (a := (_ : Bool) = true ∧ (_ : Bool) = true) ⟨rfl, rfl⟩ ?_
        | refine And.intro (a := (_ : Bool) = true ∧ (_ : List _) = []) ⟨rfl, rfl⟩ ?_
        | refine And.intro (a := IR _ _) (And.intro (by omega) (by omega)) ?_
        | refine wrapE (And.intro (by omega) (by omega)) ?_
        | refine And.intro (a := (0 : Int) ≤ _ ∧ _ < _) (And.intro (by omega) (by omega)) ?_
        | refine And.intro (a := (_ : Bool) = true) (by simp only [Nat.beq_refl]; rfl) ?_
        | refine And.intro (a := ((_ : Bool) = true → 1 ≤ _) ∧ _ ≤ 9223372036854775807 ∧ _ ≤ 140737488355328) ⟨fun h => (by first | omega | cases h), by omega, by omega⟩ ?_
        | refine splT ?_
        | refine splF ?_
        | refine splNot ?_
        | (refine splIn (fun hc => ?_) (fun hc => ?_) <;> first | (exfalso; omega) | (exfalso; dsimp only at hc; omega) | skip)
        | (refine splD (fun hc => ?_) (fun hc => ?_) <;> first | (exfalso; omega) | (exfalso; dsimp only at hc; omega) | skip)
        | (refine splE (fun hc => ?_) (fun hc => ?_) <;> first | (exfalso; omega) | (exfalso; dsimp only at hc; omega) | skip)
        | (refine splNE (fun hc => ?_) (fun hc => ?_) <;> first | (exfalso; omega) | (exfalso; dsimp only at hc; omega) | skip)
        | refine Exists.intro (α := List Value) [iv b1, iv b2, iv b3, iv b4, iv b5, iv b6, iv b7, iv b8] ⟨⟨rfl, fun w' hw' => e0 w' hw'⟩, ?_⟩
        | ((with_reducible show CallEv _ _ 56 _ _ _ _ _); refine callE (k := 56) (fun β w' hbw => within_ok _ _ _ _) ?_)
        | ((with_reducible show CallEv _ _ 105 _ _ _ _ _); refine callE (k := 105) (fun β w' hbw => hS _ (by omega) (by omega)) ?_)
        | ((with_reducible show CallEv _ _ 78 _ _ _ _ _); refine callE (k := 78) (fun β w' hbw => has78_ok ⟨po, pn, pc, some ad, BB.length, bc, f0, f1, f2, lo, ln, lc⟩ _ _ _ _ hp (by omega)) ?_)
        | ((with_reducible show CallEv _ _ 86 _ _ _ _ _); refine callE (k := 86) (fun β w' hbw => force_ok _ _) ?_)
        | refine splB (fun hb => ?_) (fun hb => ?_)
    all_goals first | exact ⟨fun β => congrArg Value.bool (hF (by rw [Bool.eq_false_iff]; intro hc; rw [bmOk_iff] at hc; first | omega | simp_all)), fun w' h => h⟩ | skip
    have hok : bmOk pn k ⟨b1, b2, b3, b4, b5, b6, b7, b8⟩ = true := by rw [bmOk_iff]; exact ⟨by assumption, by assumption, by assumption, by assumption, by assumption, by assumption, by assumption⟩
    rw [hok, Bool.true_and] at hen
    clear hF hS
    have g1 := hasB_cases (show hasB pn b3 b4 k = true by assumption)
    have g2 := hasB_cases (show hasB pn b5 b6 k = true by assumption)
    generalize hT : dps [] (BB.take k) = T at *
    have hat : ∀ z : Int, 0 ≤ z → z ≤ (k : Int) - 1 → ∃ n, T[z.toNat]? = some n ∧ D[z.toNat]? = some n ∧ 1 ≤ n ∧ n ≤ 3 := fun z h1 h2 => by
      obtain ⟨n, hn⟩ : ∃ n, T[z.toNat]? = some n := ⟨_, List.getElem?_eq_getElem (by omega)⟩
      refine ⟨n, hn, ?_, hds _ _ hn⟩
      rw [← hDk, List.getElem?_take] at hn
      split at hn
      · exact hn
      · cases hn
    have hkD : k < D.length := by omega
    repeat'
      conv => whnf
      first
        | refine And.intro (a := drawB _ = true) (by kernel_rfl) ?_
        | refine And.intro (a := (_ : Bool) = true) rfl ?_
        | refine And.intro (a := (_ : Bool) = true ∧ (_ : Bool) = true) ⟨rfl, rfl⟩ ?_
        | refine And.intro (a := (_ : Bool) = true ∧ (_ : List _) = []) ⟨rfl, rfl⟩ ?_
        | refine And.intro (a := IR _ _) (And.intro (by omega) (by omega)) ?_
        | refine wrapE (And.intro (by omega) (by omega)) ?_
        | refine And.intro (a := (0 : Int) ≤ _ ∧ _ < _) (And.intro (by omega) (by omega)) ?_
        | refine And.intro (a := (_ : Bool) = true) (by simp only [Nat.beq_refl]; rfl) ?_
        | refine And.intro (a := ((_ : Bool) = true → 1 ≤ _) ∧ _ ≤ 9223372036854775807 ∧ _ ≤ 140737488355328) ⟨fun h => (by first | omega | cases h), by omega, by omega⟩ ?_
        | refine splT ?_
        | refine splF ?_
        | refine splNot ?_
        | (refine splIn (fun hc => ?_) (fun hc => ?_) <;> first | (exfalso; omega) | (exfalso; dsimp only at hc; omega) | skip)
        | (refine splD (fun hc => ?_) (fun hc => ?_) <;> first | (exfalso; omega) | (exfalso; dsimp only at hc; omega) | skip)
        | (refine splE (fun hc => ?_) (fun hc => ?_) <;> first | (exfalso; omega) | (exfalso; dsimp only at hc; omega) | skip)
        | (refine splNE (fun hc => ?_) (fun hc => ?_) <;> first | (exfalso; omega) | (exfalso; dsimp only at hc; omega) | skip)
        | (refine And.intro (a := _ + _ ≤ List.length _) (stS' hkD 1) ?_; rw [stE hkD 1])
    have hT3 : dsB T := hds
    conv => whnf
    refine loopN 4 (fun m : Nat => [(1, .ptr 0 0), (3, .os 1 2 BB.length), (4, .v (iv k)), (13, .v (.slice (some ad) BB.length bc)), (14, .v (iv BB.length)), (15, .v (iv k)), (70, .agg [.v (iv b3), .v (iv b4), .v (iv b5), .v (iv b6)]), (71, .v (iv m))])
      (fun m => [(0, .cells [.v (.slice po pn pc), .v (.slice (some ad) BB.length bc), .v (iv f0), .v (iv f1), .v (iv f2), .v (.slice lo ln lc)] 58), (1, .own 2 BB.length 1 ((D.set k (dv ⟨b1, b2, b3, b4, b5, b6, b7, b8⟩ T m)).flatMap iF) 3)])
      (fun m => m ≤ 2) (fun m => 2 - m) 0 (by omega) ⟨rfl, rfl, rfl, rfl, rfl, rfl, rfl, rfl, trivial⟩ ⟨rfl, rfl, trivial⟩ (fun _ _ => ⟨rfl, rfl⟩) ?_
    intro m hm
    obtain rfl | rfl | rfl : m = 0 ∨ m = 1 ∨ m = 2 := by omega
    · by_cases hg : b3 = -1
      · have hA : dv ⟨b1, b2, b3, b4, b5, b6, b7, b8⟩ T 1 = 1 := if_pos hg
        repeat'
          conv => whnf
          first
            | refine And.intro (a := drawB _ = true) (by kernel_rfl) ?_
            | refine And.intro (a := (_ : Bool) = true) rfl ?_
            | refine And.intro (a := (_ : Bool) = true ∧ (_ : Bool) = true) ⟨rfl, rfl⟩ ?_
            | refine And.intro (a := (_ : Bool) = true ∧ (_ : List _) = []) ⟨rfl, rfl⟩ ?_
            | refine And.intro (a := IR _ _) (And.intro (by omega) (by omega)) ?_
            | refine wrapE (And.intro (by omega) (by omega)) ?_
            | refine And.intro (a := (0 : Int) ≤ _ ∧ _ < _) (And.intro (by omega) (by omega)) ?_
            | refine And.intro (a := (_ : Bool) = true) (by simp only [Nat.beq_refl]; rfl) ?_
            | refine And.intro (a := ((_ : Bool) = true → 1 ≤ _) ∧ _ ≤ 9223372036854775807 ∧ _ ≤ 140737488355328) ⟨fun h => (by first | omega | cases h), by omega, by omega⟩ ?_
            | refine splT ?_
            | refine splF ?_
            | refine splNot ?_
            | (refine splIn (fun hc => ?_) (fun hc => ?_) <;> first | (exfalso; omega) | (exfalso; dsimp only at hc; omega) | skip)
            | (refine splD (fun hc => ?_) (fun hc => ?_) <;> first | (exfalso; omega) | (exfalso; dsimp only at hc; omega) | skip)
            | (refine splE (fun hc => ?_) (fun hc => ?_) <;> first | (exfalso; omega) | (exfalso; dsimp only at hc; omega) | skip)
            | (refine splNE (fun hc => ?_) (fun hc => ?_) <;> first | (exfalso; omega) | (exfalso; dsimp only at hc; omega) | skip)
            | refine idxS env rfl rfl rfl rfl (And.intro (by omega) (by omega)) rfl rfl (.inl ⟨rfl, rfl⟩) rfl ?_
        all_goals first | (exfalso; omega) | exact ⟨1, by omega, by omega, Ent.weak rfl ⟨rfl, rfl, rfl, rfl, rfl, rfl, rfl, rfl, trivial⟩ ⟨rfl, by rw [hA]; rfl, trivial⟩ fun _ h => h⟩
      · obtain ⟨n, hn1, hn2, hn3⟩ := hat b3 (by omega) (by omega)
        have hA : dv ⟨b1, b2, b3, b4, b5, b6, b7, b8⟩ T 1 = imax 1 (n + 1) := by
          show dA _ _ = _
          rw [dA, if_neg hg, List.getD_eq_getElem?_getD, hn1]; rfl
        have hne : b3.toNat ≠ k := by omega
        repeat'
          conv => whnf
          first
            | refine And.intro (a := drawB _ = true) (by kernel_rfl) ?_
            | refine And.intro (a := (_ : Bool) = true) rfl ?_
            | refine And.intro (a := (_ : Bool) = true ∧ (_ : Bool) = true) ⟨rfl, rfl⟩ ?_
            | refine And.intro (a := (_ : Bool) = true ∧ (_ : List _) = []) ⟨rfl, rfl⟩ ?_
            | refine And.intro (a := IR _ _) (And.intro (by omega) (by omega)) ?_
            | refine wrapE (And.intro (by omega) (by omega)) ?_
            | refine And.intro (a := (0 : Int) ≤ _ ∧ _ < _) (And.intro (by omega) (by omega)) ?_
            | refine And.intro (a := (_ : Bool) = true) (by simp only [Nat.beq_refl]; rfl) ?_
            | refine And.intro (a := ((_ : Bool) = true → 1 ≤ _) ∧ _ ≤ 9223372036854775807 ∧ _ ≤ 140737488355328) ⟨fun h => (by first | omega | cases h), by omega, by omega⟩ ?_
            | refine splT ?_
            | refine splF ?_
            | refine splNot ?_
            | (refine splIn (fun hc => ?_) (fun hc => ?_) <;> first | (exfalso; omega) | (exfalso; dsimp only at hc; omega) | skip)
            | (refine splD (fun hc => ?_) (fun hc => ?_) <;> first | (exfalso; omega) | (exfalso; dsimp only at hc; omega) | skip)
            | (refine splE (fun hc => ?_) (fun hc => ?_) <;> first | (exfalso; omega) | (exfalso; dsimp only at hc; omega) | skip)
            | (refine splNE (fun hc => ?_) (fun hc => ?_) <;> first | (exfalso; omega) | (exfalso; dsimp only at hc; omega) | skip)
            | refine idxS env rfl rfl rfl rfl (And.intro (by omega) (by omega)) rfl rfl (.inl ⟨rfl, rfl⟩) rfl ?_
            | refine Exists.intro (α := List Value) [iv 1] ⟨⟨rfl, atS2 hkD 1⟩, ?_⟩
            | refine Exists.intro (α := List Value) [iv n] ⟨⟨rfl, atZ2 hn2 hne⟩, ?_⟩
            | (refine And.intro (a := _ + _ ≤ List.length _) (stS2 hkD _ _) ?_; rw [stE2 hkD])
        all_goals first | (exfalso; omega) | exact ⟨1, by omega, by omega, Ent.weak rfl ⟨rfl, rfl, rfl, rfl, rfl, rfl, rfl, rfl, trivial⟩ ⟨rfl, by rw [hA]; rfl, trivial⟩ fun _ h => h⟩ | (trace_state; sorry)
    · have hab := dA_bd (b := ⟨b1, b2, b3, b4, b5, b6, b7, b8⟩) hT3
      generalize hz : dA ⟨b1, b2, b3, b4, b5, b6, b7, b8⟩ T = z at *
      have hz1 : dv ⟨b1, b2, b3, b4, b5, b6, b7, b8⟩ T 1 = z := hz
      rw [hz1]
      by_cases hg : b5 = -1
      · have hA : dv ⟨b1, b2, b3, b4, b5, b6, b7, b8⟩ T 2 = z := (if_pos hg).trans hz
        repeat'
          conv => whnf
          first
            | refine And.intro (a := drawB _ = true) (by kernel_rfl) ?_
            | refine And.intro (a := (_ : Bool) = true) rfl ?_
            | refine And.intro (a := (_ : Bool) = true ∧ (_ : Bool) = true) ⟨rfl, rfl⟩ ?_
            | refine And.intro (a := (_ : Bool) = true ∧ (_ : List _) = []) ⟨rfl, rfl⟩ ?_
            | refine And.intro (a := IR _ _) (And.intro (by omega) (by omega)) ?_
            | refine wrapE (And.intro (by omega) (by omega)) ?_
            | refine And.intro (a := (0 : Int) ≤ _ ∧ _ < _) (And.intro (by omega) (by omega)) ?_
            | refine And.intro (a := (_ : Bool) = true) (by simp only [Nat.beq_refl]; rfl) ?_
            | refine And.intro (a := ((_ : Bool) = true → 1 ≤ _) ∧ _ ≤ 9223372036854775807 ∧ _ ≤ 140737488355328) ⟨fun h => (by first | omega | cases h), by omega, by omega⟩ ?_
            | refine splT ?_
            | refine splF ?_
            | refine splNot ?_
            | (refine splIn (fun hc => ?_) (fun hc => ?_) <;> first | (exfalso; omega) | (exfalso; dsimp only at hc; omega) | skip)
            | (refine splD (fun hc => ?_) (fun hc => ?_) <;> first | (exfalso; omega) | (exfalso; dsimp only at hc; omega) | skip)
            | (refine splE (fun hc => ?_) (fun hc => ?_) <;> first | (exfalso; omega) | (exfalso; dsimp only at hc; omega) | skip)
            | (refine splNE (fun hc => ?_) (fun hc => ?_) <;> first | (exfalso; omega) | (exfalso; dsimp only at hc; omega) | skip)
            | refine idxS env rfl rfl rfl rfl (And.intro (by omega) (by omega)) rfl rfl (.inl ⟨rfl, rfl⟩) rfl ?_
        all_goals first | (exfalso; omega) | exact ⟨2, by omega, by omega, Ent.weak rfl ⟨rfl, rfl, rfl, rfl, rfl, rfl, rfl, rfl, trivial⟩ ⟨rfl, by rw [hA]; rfl, trivial⟩ fun _ h => h⟩
      · obtain ⟨n, hn1, hn2, hn3⟩ := hat b5 (by omega) (by omega)
        have hA : dv ⟨b1, b2, b3, b4, b5, b6, b7, b8⟩ T 2 = imax z (n + 1) := by
          show dB _ _ = _
          rw [dB, if_neg hg, hz, List.getD_eq_getElem?_getD, hn1]; rfl
        have hne : b5.toNat ≠ k := by omega
        repeat'
          conv => whnf
          first
            | refine And.intro (a := drawB _ = true) (by kernel_rfl) ?_
            | refine And.intro (a := (_ : Bool) = true) rfl ?_
            | refine And.intro (a := (_ : Bool) = true ∧ (_ : Bool) = true) ⟨rfl, rfl⟩ ?_
            | refine And.intro (a := (_ : Bool) = true ∧ (_ : List _) = []) ⟨rfl, rfl⟩ ?_
            | refine And.intro (a := IR _ _) (And.intro (by omega) (by omega)) ?_
            | refine wrapE (And.intro (by omega) (by omega)) ?_
            | refine And.intro (a := (0 : Int) ≤ _ ∧ _ < _) (And.intro (by omega) (by omega)) ?_
            | refine And.intro (a := (_ : Bool) = true) (by simp only [Nat.beq_refl]; rfl) ?_
            | refine And.intro (a := ((_ : Bool) = true → 1 ≤ _) ∧ _ ≤ 9223372036854775807 ∧ _ ≤ 140737488355328) ⟨fun h => (by first | omega | cases h), by omega, by omega⟩ ?_
            | refine splT ?_
            | refine splF ?_
            | refine splNot ?_
            | (refine splIn (fun hc => ?_) (fun hc => ?_) <;> first | (exfalso; omega) | (exfalso; dsimp only at hc; omega) | skip)
            | (refine splD (fun hc => ?_) (fun hc => ?_) <;> first | (exfalso; omega) | (exfalso; dsimp only at hc; omega) | skip)
            | (refine splE (fun hc => ?_) (fun hc => ?_) <;> first | (exfalso; omega) | (exfalso; dsimp only at hc; omega) | skip)
            | (refine splNE (fun hc => ?_) (fun hc => ?_) <;> first | (exfalso; omega) | (exfalso; dsimp only at hc; omega) | skip)
            | refine idxS env rfl rfl rfl rfl (And.intro (by omega) (by omega)) rfl rfl (.inl ⟨rfl, rfl⟩) rfl ?_
            | refine Exists.intro (α := List Value) [iv z] ⟨⟨rfl, atS2 hkD z⟩, ?_⟩
            | refine Exists.intro (α := List Value) [iv n] ⟨⟨rfl, atZ2 hn2 hne⟩, ?_⟩
            | (refine And.intro (a := _ + _ ≤ List.length _) (stS2 hkD _ _) ?_; rw [stE2 hkD])
        all_goals first | (exfalso; omega) | exact ⟨2, by omega, by omega, Ent.weak rfl ⟨rfl, rfl, rfl, rfl, rfl, rfl, rfl, rfl, trivial⟩ ⟨rfl, by rw [hA]; rfl, trivial⟩ fun _ h => h⟩ | (trace_state; sorry)
    · have hab := dB_bd (b := ⟨b1, b2, b3, b4, b5, b6, b7, b8⟩) hT3
      rw [show dv ⟨b1, b2, b3, b4, b5, b6, b7, b8⟩ T 2 = dB ⟨b1, b2, b3, b4, b5, b6, b7, b8⟩ T from rfl]
      generalize dB ⟨b1, b2, b3, b4, b5, b6, b7, b8⟩ T = z at *
      by_cases hz3 : z ≤ 3
      · rw [decide_eq_true hz3, Bool.true_and] at hen
        repeat'
          conv => whnf
          first
            | refine And.intro (a := drawB _ = true) (by kernel_rfl) ?_
            | refine And.intro (a := (_ : Bool) = true) rfl ?_
            | refine And.intro (a := (_ : Bool) = true ∧ (_ : Bool) = true) ⟨rfl, rfl⟩ ?_
            | refine And.intro (a := (_ : Bool) = true ∧ (_ : List _) = []) ⟨rfl, rfl⟩ ?_
            | refine And.intro (a := IR _ _) (And.intro (by omega) (by omega)) ?_
            | refine wrapE (And.intro (by omega) (by omega)) ?_
            | refine And.intro (a := (0 : Int) ≤ _ ∧ _ < _) (And.intro (by omega) (by omega)) ?_
            | refine And.intro (a := (_ : Bool) = true) (by simp only [Nat.beq_refl]; rfl) ?_
            | refine And.intro (a := ((_ : Bool) = true → 1 ≤ _) ∧ _ ≤ 9223372036854775807 ∧ _ ≤ 140737488355328) ⟨fun h => (by first | omega | cases h), by omega, by omega⟩ ?_
            | refine splT ?_
            | refine splF ?_
            | refine splNot ?_
            | (refine splIn (fun hc => ?_) (fun hc => ?_) <;> first | (exfalso; omega) | (exfalso; dsimp only at hc; omega) | skip)
            | (refine splD (fun hc => ?_) (fun hc => ?_) <;> first | (exfalso; omega) | (exfalso; dsimp only at hc; omega) | skip)
            | (refine splE (fun hc => ?_) (fun hc => ?_) <;> first | (exfalso; omega) | (exfalso; dsimp only at hc; omega) | skip)
            | (refine splNE (fun hc => ?_) (fun hc => ?_) <;> first | (exfalso; omega) | (exfalso; dsimp only at hc; omega) | skip)
            | refine Exists.intro (α := List Value) [iv z] ⟨⟨rfl, atS2 hkD z⟩, ?_⟩
        all_goals first | (exfalso; omega) | exact ⟨k + 1, D.set k z, ⟨by omega, by rw [List.length_set]; exact hD, by rw [hnx, set_take hkD, hDk], by rw [hnx]; exact hen, by rw [hnx]; exact dsB_snoc hT3 (by omega)⟩, by omega, Ent.weak rfl ⟨rfl, rfl, rfl, rfl, rfl, trivial⟩ ⟨rfl, rfl, trivial⟩ fun _ h => h⟩ | (trace_state; sorry)
      · rw [decide_eq_false hz3, Bool.false_and] at hen
        rw [hen]
        repeat'
          conv => whnf
          first
            | refine And.intro (a := drawB _ = true) (by kernel_rfl) ?_
            | refine And.intro (a := (_ : Bool) = true) rfl ?_
            | refine And.intro (a := (_ : Bool) = true ∧ (_ : Bool) = true) ⟨rfl, rfl⟩ ?_
            | refine And.intro (a := (_ : Bool) = true ∧ (_ : List _) = []) ⟨rfl, rfl⟩ ?_
            | refine And.intro (a := IR _ _) (And.intro (by omega) (by omega)) ?_
            | refine wrapE (And.intro (by omega) (by omega)) ?_
            | refine And.intro (a := (0 : Int) ≤ _ ∧ _ < _) (And.intro (by omega) (by omega)) ?_
            | refine And.intro (a := (_ : Bool) = true) (by simp only [Nat.beq_refl]; rfl) ?_
            | refine And.intro (a := ((_ : Bool) = true → 1 ≤ _) ∧ _ ≤ 9223372036854775807 ∧ _ ≤ 140737488355328) ⟨fun h => (by first | omega | cases h), by omega, by omega⟩ ?_
            | refine splT ?_
            | refine splF ?_
            | refine splNot ?_
            | (refine splIn (fun hc => ?_) (fun hc => ?_) <;> first | (exfalso; omega) | (exfalso; dsimp only at hc; omega) | skip)
            | (refine splD (fun hc => ?_) (fun hc => ?_) <;> first | (exfalso; omega) | (exfalso; dsimp only at hc; omega) | skip)
            | (refine splE (fun hc => ?_) (fun hc => ?_) <;> first | (exfalso; omega) | (exfalso; dsimp only at hc; omega) | skip)
            | (refine splNE (fun hc => ?_) (fun hc => ?_) <;> first | (exfalso; omega) | (exfalso; dsimp only at hc; omega) | skip)
            | refine Exists.intro (α := List Value) [iv z] ⟨⟨rfl, atS2 hkD z⟩, ?_⟩
        all_goals first | (exfalso; omega) | exact ⟨fun β => rfl, fun w' h => h⟩ | (trace_state; sorry)
  · rw [List.drop_eq_nil_of_le hkl] at hen
    rw [hen]
    repeat'
      conv => whnf
      first
        | refine And.intro (a := drawB _ = true) (by kernel_rfl) ?_
        | refine And.intro (a := (_ : Bool) = true) rfl ?_
        | refine And.intro (a := (_ : Bool) = true ∧ (_ : Bool) = true) ⟨rfl, rfl⟩ ?_
        | refine And.intro (a := (_ : Bool) = true ∧ (_ : List _) = []) ⟨rfl, rfl⟩ ?_
        | refine And.intro (a := IR _ _) (And.intro (by omega) (by omega)) ?_
        | refine wrapE (And.intro (by omega) (by omega)) ?_
        | refine And.intro (a := (0 : Int) ≤ _ ∧ _ < _) (And.intro (by omega) (by omega)) ?_
        | refine And.intro (a := (_ : Bool) = true) (by simp only [Nat.beq_refl]; rfl) ?_
        | refine And.intro (a := ((_ : Bool) = true → 1 ≤ _) ∧ _ ≤ 9223372036854775807 ∧ _ ≤ 140737488355328) ⟨fun h => (by first | omega | cases h), by omega, by omega⟩ ?_
        | refine splT ?_
        | refine splF ?_
        | refine splNot ?_
        | (refine splIn (fun hc => ?_) (fun hc => ?_) <;> first | (exfalso; omega) | (exfalso; dsimp only at hc; omega) | skip)
        | (refine splD (fun hc => ?_) (fun hc => ?_) <;> first | (exfalso; omega) | (exfalso; dsimp only at hc; omega) | skip)
        | (refine splE (fun hc => ?_) (fun hc => ?_) <;> first | (exfalso; omega) | (exfalso; dsimp only at hc; omega) | skip)
        | (refine splNE (fun hc => ?_) (fun hc => ?_) <;> first | (exfalso; omega) | (exfalso; dsimp only at hc; omega) | skip)
    all_goals first | exact ⟨fun β => congrArg Value.bool (decide_eq_true (show (BB.length : Int) ≤ 12 by omega)), fun w' h => h⟩ | (exfalso; omega) | (trace_state; sorry)
end Go.Proofs.Ytaciigegbgnadaa
