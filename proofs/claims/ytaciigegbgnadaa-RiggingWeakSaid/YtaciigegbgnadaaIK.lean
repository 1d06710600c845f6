import Derived.Test.YtaciigegbgnadaaIC
import Derived.Test.YtaciigegbgnadaaHD
import Derived.Test.YtaciigegbgnadaaPo
/- The reference: a force goes on from place to place: what put leaves. -/
namespace Go.Proofs.Ytaciigegbgnadaa
open Go Tx Go.RowKit
set_option linter.unusedSimpArgs false
set_option linter.unusedVariables false

/-- How many times as great a gift may be, at a depth. -/
def KK : Nat → Nat
  | 0 => 1
  | d + 1 => 13 * (1 + KK d)
theorem KK_mono {d e : Nat} (h : d ≤ e) : KK d ≤ KK e := by
  induction e with
  | zero => rw [Nat.le_zero.1 h]; exact Nat.le_refl _
  | succ e ih =>
    by_cases hd : d = e + 1
    · subst hd; exact Nat.le_refl _
    · have := ih (by omega)
      rw [KK]; omega
theorem gvR_abs {m : Bm} {a : Int} (f : Int) (hs : 10 ≤ m.hi - m.lo) (hl : 0 ≤ m.lo ∧ m.lo ≤ 60) (ha : 0 ≤ a ∧ a ≤ 60) : (f - gvR m a f).natAbs + (gvR m a f).natAbs ≤ 13 * f.natAbs := by
  have := part_abs (lo := m.lo) (hi := m.hi) (a := a) (fun _ => f) 0 hs hl ha
  exact this
/-- The cells of the reference's two rows. -/
def stP (n : Nat) (S : Int × Int → Int) : List Int := (List.range n).map fun j : Nat => S (-1, (j : Int))
def stH (m : Nat) (S : Int × Int → Int) : List (Int × Int) := (List.range m).map fun i : Nat => (S ((i : Int), 0), S ((i : Int), 1))
abbrev rpM (n m : Nat) (S : Int × Int → Int) : List (Nat × Blk) := [(1, .own 2 n 1 ((stP n S).flatMap iF) 3), (3, .own 4 m 2 ((stH m S).flatMap gF) 71)]
theorem rpM_lk {n m : Nat} {S : Int × Int → Int} {i : Nat} {b : Blk} (h : lk (rpM n m S) i = some b) : i = 1 ∧ b = .own 2 n 1 ((stP n S).flatMap iF) 3 ∨ i = 3 ∧ b = .own 4 m 2 ((stH m S).flatMap gF) 71 := by
  have := lk_mem h
  simp only [List.mem_cons, Prod.mk.injEq, List.not_mem_nil, or_false] at this
  exact this
theorem stP_set {n k : Nat} {S S' : Int × Int → Int} (hk : k < n) (h1 : ∀ j : Nat, j ≠ k → S' (-1, (j : Int)) = S (-1, (j : Int))) : (stP n S).set k (S' (-1, (k : Int))) = stP n S' := by
  refine List.ext_getElem? fun i => ?_
  rw [List.getElem?_set]
  by_cases hi : i < n
  · have e1 : (stP n S')[i]? = some (S' (-1, (i : Int))) := rng_at (fun j : Nat => _) hi
    have e2 : (stP n S)[i]? = some (S (-1, (i : Int))) := rng_at (fun j : Nat => _) hi
    rw [e1]
    split
    · rename_i hki; subst hki
      rw [if_pos (by simp [stP]; exact hk)]
    · rename_i hki
      rw [e2, h1 i (fun h => hki h.symm)]
  · rw [List.getElem?_eq_none (show (stP n S').length ≤ i by simp [stP]; omega), List.getElem?_eq_none (show (stP n S).length ≤ i by simp [stP]; omega), if_neg (by omega)]
/-- A pair's first or second number written anew. -/
theorem gF_len (L : List (Int × Int)) : (L.flatMap gF).length = L.length * 2 := by
  induction L with
  | nil => rfl
  | cons a L ih => rw [List.flatMap_cons, List.length_append, ih, List.length_cons]; simp; omega
theorem gF_at {L : List (Int × Int)} {k : Nat} {x : Int × Int} (h : L[k]? = some x) : (L.flatMap gF)[k * 2]? = some (iv x.1) ∧ (L.flatMap gF)[k * 2 + 1]? = some (iv x.2) :=
  ⟨flat_get (sz := 2) (f := gF) (fun _ => rfl) L k 0 x _ h rfl, flat_get (sz := 2) (f := gF) (fun _ => rfl) L k 1 x _ h rfl⟩
theorem gF_set0 : ∀ {L : List (Int × Int)} {k : Nat} {x : Int × Int} (v : Int), L[k]? = some x → (L.flatMap gF).take (k * 2) ++ [iv v] ++ (L.flatMap gF).drop (k * 2 + 1) = (L.set k (v, x.2)).flatMap gF
  | [], k, x, v, h => by simp at h
  | y :: L, 0, x, v, h => by
    simp only [List.getElem?_cons_zero, Option.some.injEq] at h
    subst h
    simp [List.flatMap_cons]
  | y :: L, k + 1, x, v, h => by
    have ih := gF_set0 (L := L) (k := k) v (by simpa using h)
    rw [List.set_cons_succ, List.flatMap_cons, List.flatMap_cons, ← ih, show (k + 1) * 2 = k * 2 + 1 + 1 from by omega]
    simp
theorem gF_set1 : ∀ {L : List (Int × Int)} {k : Nat} {x : Int × Int} (v : Int), L[k]? = some x → (L.flatMap gF).take (k * 2 + 1) ++ [iv v] ++ (L.flatMap gF).drop (k * 2 + 1 + 1) = (L.set k (x.1, v)).flatMap gF
  | [], k, x, v, h => by simp at h
  | y :: L, 0, x, v, h => by
    simp only [List.getElem?_cons_zero, Option.some.injEq] at h
    subst h
    simp [List.flatMap_cons]
  | y :: L, k + 1, x, v, h => by
    have ih := gF_set1 (L := L) (k := k) v (by simpa using h)
    rw [List.set_cons_succ, List.flatMap_cons, List.flatMap_cons, ← ih, show (k + 1) * 2 = k * 2 + 1 + 1 from by omega]
    simp
theorem stH_set {m k : Nat} {S S' : Int × Int → Int} (hk : k < m) (h1 : ∀ j : Nat, j ≠ k → S' ((j : Int), 0) = S ((j : Int), 0) ∧ S' ((j : Int), 1) = S ((j : Int), 1)) : (stH m S).set k (S' ((k : Int), 0), S' ((k : Int), 1)) = stH m S' := by
  refine List.ext_getElem? fun i => ?_
  rw [List.getElem?_set]
  by_cases hi : i < m
  · have e1 : (stH m S')[i]? = some (S' ((i : Int), 0), S' ((i : Int), 1)) := rng_at (fun i : Nat => (S' ((i : Int), 0), S' ((i : Int), 1))) hi
    have e2 : (stH m S)[i]? = some (S ((i : Int), 0), S ((i : Int), 1)) := rng_at (fun i : Nat => (S ((i : Int), 0), S ((i : Int), 1))) hi
    rw [e1]
    split
    · rename_i hki; subst hki
      rw [if_pos (by simp [stH]; exact hk)]
    · rename_i hki
      rw [e2, (h1 i (fun h => hki h.symm)).1, (h1 i (fun h => hki h.symm)).2]
  · rw [List.getElem?_eq_none (show (stH m S').length ≤ i by simp [stH]; omega), List.getElem?_eq_none (show (stH m S).length ≤ i by simp [stH]; omega), if_neg (by omega)]
/-- A state of the reference behind a force. -/
def stG (BB : List Bm) (S : Int × Int → Int) (b a f : Int) : Int × Int → Int := fun q => S q + gq BB b a f q
/-- The call of put: as the program's. -/
theorem callRp {P : Program} {k : Nat} {σ : Sg} {args : List SV} {rs : List Nat} {K : Ef → Prop} {KF : Option KT} (n m : Nat) (S S' : Int × Int → Int)
    (h : ∀ β w, (∀ i b, lk (rpM n m S) i = some b → b.ok β w (β i)) → (∀ i j bi bj, lk (rpM n m S) i = some bi → lk (rpM n m S) j = some bj → i ≠ j → β i ≠ β j) → (∀ w', Chg (fun b => ∃ i bk, lk (rpM n m S) i = some bk ∧ β i = b) w w' → σ.h w') →
      Calls P k (SV.cs β args).toArray w fun e w' => e = .returned (.tuple #[]) ∧ Chg (fun b => ∃ i bk, lk (rpM n m S) i = some bk ∧ β i = b) w w' ∧ ∀ i bk, lk (rpM n m S') i = some bk → bk.ok β w' (β i))
    (e1 : lk σ.m 1 = some (.own 2 n 1 ((stP n S).flatMap iF) 3)) (e3 : lk σ.m 3 = some (.own 4 m 2 ((stH m S).flatMap gF) 71))
    (hB : efB σ ⟨.v (.tuple #[]), [], rpM n m S', [], [1, 3]⟩ = true) (hK : K ⟨.v (.tuple #[]), [], rpM n m S', rs, [1, 3]⟩) : CallEv P σ k args (efB σ) rs K KF := by
  have he : ∀ {i : Nat} {bk : Blk}, lk (rpM n m S) i = some bk → lk σ.m i = some bk := fun h => by
    rcases rpM_lk h with ⟨rfl, rfl⟩ | ⟨rfl, rfl⟩ <;> assumption
  have hmem : ∀ {i : Nat} {bk : Blk}, lk (rpM n m S) i = some bk → i ∈ [1, 3] ∧ bk.live = true := fun h => by
    rcases rpM_lk h with ⟨rfl, rfl⟩ | ⟨rfl, rfl⟩ <;> exact ⟨by simp, rfl⟩
  refine callWS [1, 3] (rpM n m S') (.tuple #[]) hB (fun i hi => ?_) (fun β w h1 h2 hst => ?_) hK
  · simp only [List.mem_cons, List.not_mem_nil, or_false] at hi
    rcases hi with rfl | rfl
    · exact ⟨_, List.mem_cons_self⟩
    · exact ⟨_, List.mem_cons_of_mem _ List.mem_cons_self⟩
  · refine (h β w (fun i bk hi => h1 i (hmem hi).1 bk (he hi)) (fun i j bi bj hi hj hne => h2 i (hmem hi).1 j (hmem hj).1 bi bj (he hi) (he hj) (hmem hi).2 (hmem hj).2 hne) fun w' hc => hst w' ⟨hc.os, hc.tape, hc.output, hc.size, fun b hb hX => hc.same b hb fun ⟨i, bk, hi, hib⟩ => hX ⟨i, (hmem hi).1, ⟨bk, he hi, (hmem hi).2⟩, hib⟩⟩).mono fun e w' ⟨q1, q2, q3⟩ => ⟨q1, ?_, fun i bk hi => ?_⟩
    · exact ⟨q2.os, q2.tape, q2.output, q2.size, fun b hb hX => q2.same b hb fun ⟨i, bk, hi, hib⟩ => hX ⟨i, (hmem hi).1, hib⟩⟩
    · refine q3 i bk ?_
      simp only [List.mem_cons, Prod.mk.injEq, List.not_mem_nil, or_false] at hi
      rcases hi with ⟨rfl, rfl⟩ | ⟨rfl, rfl⟩ <;> rfl
section
variable {f0 f1 f2 : Int} {PP : List Int} {BB : List Bm} {LL : List Ld} (hr : rigOk f0 f1 f2 PP BB LL = true)
include hr
theorem gq_abs : ∀ (N : Nat) (b a f : Int) (q : Int × Int) (i : Int), b < N → i ≤ BB.length → hasB PP.length b a i = true → (gq BB b a f q).natAbs ≤ KK (dpn BB b) * f.natAbs := by
  have hG := rig_G hr
  have pt : ∀ (a f : Int) (q : Int × Int), (gq BB (-1) a f q).natAbs ≤ KK (dpn BB (-1)) * f.natAbs := fun a f q => by
    rw [gq_pt, show dpn BB (-1) = 0 from by unfold dpn; rw [if_pos rfl], show KK 0 = 1 from rfl]
    split <;> simp
  intro N
  induction N with
  | zero =>
    intro b a f q i hb hi hh
    rcases hasB_cases hh with ⟨rfl, _⟩ | ⟨_, ⟨h, _⟩, _⟩
    · exact pt a f q
    · omega
  | succ N ih =>
    intro b a f q i hb hi hh
    rcases hasB_cases hh with ⟨rfl, _⟩ | ⟨_, ⟨h1, h2⟩, h3⟩
    · exact pt a f q
    · obtain ⟨k, rfl⟩ := Int.eq_ofNat_of_zero_le h1
      obtain ⟨m, hm⟩ : ∃ m, BB[k]? = some m := ⟨_, List.getElem?_eq_getElem (by omega)⟩
      have hok := bmOk_iff.1 (bm_at hr hm)
      have ho := hG.on k m hm
      have hd := hG.dep k m hm
      obtain ⟨d, hdd⟩ : ∃ d, dpn BB k = d + 1 := ⟨dpn BB k - 1, by omega⟩
      have hp := gvR_abs (m := m) (a := a) f (span10 hok.2.2.1) hok.1 h3
      have i1 := ih m.ab m.aa (f - gvR m a f) q k (by omega) (by omega) hok.2.2.2.1
      have i2 := ih m.bb m.ba (gvR m a f) q k (by omega) (by omega) hok.2.2.2.2.1
      have k1 := Nat.mul_le_mul_right (f - gvR m a f).natAbs (KK_mono (show dpn BB m.ab ≤ d by omega))
      have k2 := Nat.mul_le_mul_right (gvR m a f).natAbs (KK_mono (show dpn BB m.bb ≤ d by omega))
      have k3 := Nat.mul_le_mul_left (KK d) hp
      rw [Nat.mul_add] at k3
      rw [gq_bm hG hm, hdd, KK, Nat.mul_assoc, Nat.add_mul, Nat.one_mul, Nat.mul_add, Nat.mul_left_comm 13 (KK d)]
      generalize gq BB m.ab m.aa (f - gvR m a f) q = x at *
      generalize gq BB m.bb m.ba (gvR m a f) q = y at *
      generalize f - gvR m a f = L at *
      generalize gvR m a f = R at *
      generalize KK d * L.natAbs = kl at *
      generalize KK d * R.natAbs = kr at *
      generalize KK d * (13 * f.natAbs) = kf at *
      split <;> split <;> omega
end
end Go.Proofs.Ytaciigegbgnadaa

/- The reference: put. -/
namespace Go.Proofs.Ytaciigegbgnadaa
open Go Tx Go.RowKit
set_option linter.unusedSimpArgs false
set_option linter.unusedVariables false

theorem stP_at {n k : Nat} {S : Int × Int → Int} (hk : k < n) : (stP n S)[k]? = some (S (-1, (k : Int))) := rng_at (fun j : Nat => S (-1, (j : Int))) hk
theorem stH_at {n k : Nat} {S : Int × Int → Int} (hk : k < n) : (stH n S)[k]? = some (S ((k : Int), 0), S ((k : Int), 1)) := rng_at (fun j : Nat => (S ((j : Int), 0), S ((j : Int), 1))) hk
theorem stP_len (n : Nat) (S : Int × Int → Int) : (stP n S).length = n := by simp [stP]
theorem stH_len (n : Nat) (S : Int × Int → Int) : (stH n S).length = n := by simp [stH]
/-- One place's number grows. -/
def stA (S : Int × Int → Int) (q : Int × Int) (x : Int) : Int × Int → Int := fun p => if p = q then S p + x else S p
theorem stP_A {n k : Nat} {S : Int × Int → Int} {x : Int} (hk : k < n) : (stP n S).set k (S (-1, (k : Int)) + x) = stP n (stA S (-1, (k : Int)) x) := by
  have := stP_set (S := S) (S' := stA S (-1, (k : Int)) x) hk fun j hj => if_neg (by simp only [Prod.mk.injEq]; omega)
  rw [← this]
  simp [stA]
theorem stH_A0 {n k : Nat} {S : Int × Int → Int} {x : Int} (hk : k < n) : (stH n S).set k (S ((k : Int), 0) + x, S ((k : Int), 1)) = stH n (stA S ((k : Int), 0) x) := by
  have := stH_set (S := S) (S' := stA S ((k : Int), 0) x) hk fun j hj => ⟨if_neg (by simp only [Prod.mk.injEq]; omega), if_neg (by simp only [Prod.mk.injEq]; omega)⟩
  rw [← this]
  simp [stA]
theorem stH_A1 {n k : Nat} {S : Int × Int → Int} {x : Int} (hk : k < n) : (stH n S).set k (S ((k : Int), 0), S ((k : Int), 1) + x) = stH n (stA S ((k : Int), 1) x) := by
  have := stH_set (S := S) (S' := stA S ((k : Int), 1) x) hk fun j hj => ⟨if_neg (by simp only [Prod.mk.injEq]; omega), if_neg (by simp only [Prod.mk.injEq]; omega)⟩
  rw [← this]
  simp [stA]
theorem stP_A1 {n k : Nat} {S : Int × Int → Int} {x c : Int} : stP n (stA S ((k : Int), c) x) = stP n S := by
  unfold stP
  exact List.map_congr_left fun j _ => if_neg (by simp only [Prod.mk.injEq]; omega)
theorem stH_Ap {n : Nat} {S : Int × Int → Int} {x c : Int} : stH n (stA S (-1, c) x) = stH n S := by
  unfold stH
  refine List.map_congr_left fun j _ => ?_
  simp only [stA]
  rw [if_neg (by simp only [Prod.mk.injEq]; omega), if_neg (by simp only [Prod.mk.injEq]; omega)]

set_option maxHeartbeats 8000000 in
set_option maxRecDepth 100000 in
theorem putR_ok (r : Rig) (PP : List Int) (BB : List Bm) (LL : List Ld) (hr : rigOk r.f0 r.f1 r.f2 PP BB LL = true) : ∀ (N : Nat) (b a f : Int) (S : Int × Int → Int) (i : Int), b < N → i ≤ BB.length → hasB PP.length b a i = true →
    (∀ q, (S q).natAbs + KK (dpn BB b) * f.natAbs ≤ 4000000000000000000) → ∀ {β : Nat → Nat} {w : World},
    (∀ i b, lk (rpM PP.length BB.length S) i = some b → b.ok β w (β i)) → (∀ i j bi bj, lk (rpM PP.length BB.length S) i = some bi → lk (rpM PP.length BB.length S) j = some bj → i ≠ j → β i ≠ β j) →
    (∀ w', Chg (fun b => ∃ i bk, lk (rpM PP.length BB.length S) i = some bk ∧ β i = b) w w' → RigX r PP BB LL w') →
    Calls Try.prog 71 (SV.cs β [.v r.v, .os 1 2 PP.length, .os 3 4 BB.length, .v (.agg #[iv b, iv a]), .v (iv f)]).toArray w fun e w' => e = .returned (.tuple #[]) ∧ Chg (fun b => ∃ i bk, lk (rpM PP.length BB.length S) i = some bk ∧ β i = b) w w' ∧
      ∀ i bk, lk (rpM PP.length BB.length (stG BB S b a f)) i = some bk → bk.ok β w' (β i) := by
  have hri := rigOk_iff.1 hr
  have hG := rig_G hr
  have live : ∀ {S : Int × Int → Int} i b, lk (rpM PP.length BB.length S) i = some b → b.live = true := fun i b h => by rcases rpM_lk h with ⟨_, rfl⟩ | ⟨_, rfl⟩ <;> rfl
  have hpn1 : 1 ≤ PP.length ∧ PP.length ≤ 12 := by omega
  have hbn1 : BB.length ≤ 12 := hri.2.2.1
  have pt : ∀ (a f : Int) (S : Int × Int → Int) (i : Int), hasB PP.length (-1) a i = true → (∀ q, (S q).natAbs + KK (dpn BB (-1)) * f.natAbs ≤ 4000000000000000000) → ∀ {β : Nat → Nat} {w : World},
    (∀ i b, lk (rpM PP.length BB.length S) i = some b → b.ok β w (β i)) → (∀ i j bi bj, lk (rpM PP.length BB.length S) i = some bi → lk (rpM PP.length BB.length S) j = some bj → i ≠ j → β i ≠ β j) →
    Calls Try.prog 71 (SV.cs β [.v r.v, .os 1 2 PP.length, .os 3 4 BB.length, .v (.agg #[iv (-1), iv a]), .v (iv f)]).toArray w fun e w' => e = .returned (.tuple #[]) ∧ Chg (fun b => ∃ i bk, lk (rpM PP.length BB.length S) i = some bk ∧ β i = b) w w' ∧
      ∀ i bk, lk (rpM PP.length BB.length (stG BB S (-1) a f)) i = some bk → bk.ok β w' (β i) := by
    intro a f S i hh hS β w hok hinj
    rcases hasB_cases hh with ⟨_, h1, h2⟩ | ⟨h, _⟩
    · obtain ⟨k, rfl⟩ := Int.eq_ofNat_of_zero_le h1
      have hSk := hS (-1, (k : Int))
      rw [show dpn BB (-1) = 0 from by unfold dpn; rw [if_pos rfl], show KK 0 = 1 from rfl, Nat.one_mul] at hSk
      have e0 : stG BB S (-1) k f = stA S (-1, (k : Int)) f := by
        funext q
        simp only [stG, stA, gq_pt]
        split <;> simp
      rw [e0]
      have hk : k < PP.length := by omega
      have hat := stP_at (S := S) hk
      have hA := stP_A (S := S) (x := f) hk
      have hl := stP_len PP.length S
      obtain ⟨po, pn, pc, bo, bn, bc, f0, f1, f2, lo, ln, lc⟩ := r
      refine calls_W env mixed Try.func71 has71 Try.ntmps71 [.v (.agg #[.slice po pn pc, .slice bo bn bc, iv f0, iv f1, iv f2, .slice lo ln lc]), .os 1 2 PP.length, .os 3 4 BB.length, .v (.agg #[iv (-1), iv k]), .v (iv f)] (rpM PP.length BB.length S) (rpM PP.length BB.length (stA S (-1, (k : Int)) f)) 5 (.tuple #[]) (by simp) rfl rfl rfl live (fun h => ?_) hok hinj
      unfold rpM
      have hkl : k < (stP PP.length S).length := by omega
      rw [stH_Ap]
      generalize stH BB.length S = H at *
      generalize S (-1, (k : Int)) = x at *
      generalize stP PP.length S = L at *
      generalize stP PP.length (stA S (-1, (k : Int)) f) = L' at *
      repeat'
       conv => whnf
       first
        | refine zA ?_ | refine zB ?_ | refine zC ?_ | refine zD ?_ | refine zE ?_ | refine zF ?_ | refine zG ?_ | refine zH ?_ | refine zI ?_ | refine splT ?_ | refine splF ?_ | refine splNot ?_
        | ((first | refine splIn (fun hc => ?_) (fun hc => ?_) | refine splD (fun hc => ?_) (fun hc => ?_) | refine splE (fun hc => ?_) (fun hc => ?_) | refine splNE (fun hc => ?_) (fun hc => ?_)) <;> first | (exfalso; omega) | (exfalso; dsimp only at hc; omega) | skip)
        | refine Exists.intro (α := List Value) [iv x] ⟨⟨rfl, fun j v h => flat_get (sz := 1) (f := iF) (fun _ => rfl) L k j x v hat h⟩, ?_⟩
        | (refine And.intro (a := _ + _ ≤ List.length _) (stS' hkl _) ?_; rw [stE hkl, hA])
      all_goals first | (exfalso; omega) | skip
      exact ⟨fun β => rfl, ⟨rfl, rfl, trivial⟩, fun w' h => h, rfl⟩
    · exact absurd rfl h
  intro N
  induction N with
  | zero =>
    intro b a f S i hb hi hh hS β w hok hinj hst
    rcases hasB_cases hh with ⟨rfl, _⟩ | ⟨_, ⟨h, _⟩, _⟩
    · exact pt a f S i hh hS hok hinj
    · omega
  | succ N ih =>
    intro b a f S i hb hi hh hS β w hok hinj hst
    rcases hasB_cases hh with ⟨rfl, _⟩ | ⟨_, ⟨h1, h2⟩, h3, h4⟩
    · exact pt a f S i hh hS hok hinj
    · obtain ⟨k, rfl⟩ := Int.eq_ofNat_of_zero_le h1
      have hkm : k < BB.length := by omega
      obtain ⟨m, hm⟩ : ∃ m, BB[k]? = some m := ⟨_, List.getElem?_eq_getElem hkm⟩
      have hok' := bmOk_iff.1 (bm_at hr hm)
      have ho := hG.on k m hm
      have hd := hG.dep k m hm
      obtain ⟨d, hdd⟩ : ∃ d, dpn BB k = d + 1 := ⟨dpn BB k - 1, by omega⟩
      have hp := gvR_abs (m := m) (a := a) f (span10 hok'.2.2.1) hok'.1 ⟨h3, h4⟩
      have hsp := span10 hok'.2.2.1
      have gA := gq_abs hr (N + 1) m.ab m.aa (f - gvR m a f)
      have hbm := fun a f q => gq_bm hG hm a f q
      have k1 := Nat.mul_le_mul_right (f - gvR m a f).natAbs (KK_mono (show dpn BB m.ab ≤ d by omega))
      have k2 := Nat.mul_le_mul_right (gvR m a f).natAbs (KK_mono (show dpn BB m.bb ≤ d by omega))
      have k3 := Nat.mul_le_mul_left (KK d) hp
      rw [hdd, KK, Nat.mul_assoc, Nat.add_mul, Nat.one_mul] at hS
      rw [Nat.mul_add] at k3
      rw [Nat.mul_left_comm] at k3
      have hgR : f.tdiv (m.hi - m.lo) * (a - m.lo) = gvR m a f := rfl
      have htd := tdiv_bd (a := f) (b := m.hi - m.lo) (B := f.natAbs) (by omega) (by omega)
      have hi1 := fun S => ih m.ab m.aa (f - gvR m a f) S k (by omega) (by omega) hok'.2.2.2.1
      have hi2 := fun S => ih m.bb m.ba (gvR m a f) S k (by omega) (by omega) hok'.2.2.2.2.1
      have gA1 := fun q => gA q k (by omega) (by omega) hok'.2.2.2.1
      have hbq := hbm a f
      clear hbm gA ih
      generalize gvR m a f = R at *
      generalize hL : f - R = L at *
      have hst2 : ∀ S : Int × Int → Int, (∀ q, (S q).natAbs + 13 * (f.natAbs + KK d * f.natAbs) ≤ 4000000000000000000) → ∀ q, (stA (stA S ((k : Int), 0) L) ((k : Int), 1) R q).natAbs ≤ (S q).natAbs + L.natAbs + R.natAbs := fun S hS q => by
        simp only [stA]
        split <;> split <;> omega
      have hS2 := hst2 S hS
      have e4 : stG BB S k a f = stG BB (stG BB (stA (stA S ((k : Int), 0) L) ((k : Int), 1) R) m.ab m.aa L) m.bb m.ba R := by
        funext q
        simp only [stG, stA, hbq]
        by_cases q0 : q = ((k : Int), 0) <;> by_cases q1 : q = ((k : Int), 1) <;> simp only [q0, q1, if_true, if_false] <;> first | omega | (simp; omega)
      rw [e4]
      generalize hE2 : stA (stA S ((k : Int), 0) L) ((k : Int), 1) R = S2 at *
      have hS3 : ∀ q, (stG BB S2 m.ab m.aa L q).natAbs ≤ (S2 q).natAbs + KK (dpn BB m.ab) * L.natAbs := fun q => by
        have := gA1 q
        unfold stG
        omega
      generalize hE3 : stG BB S2 m.ab m.aa L = S3 at *
      have hkS0 := hS ((k : Int), 0)
      have hkS1 := hS ((k : Int), 1)
      have at0 := stH_at (S := S) hkm
      have at1 := stH_at (S := stA S ((k : Int), 0) L) hkm
      have hA0 := stH_A0 (S := S) (x := L) hkm
      have hA1 := stH_A1 (S := stA S ((k : Int), 0) L) (x := R) hkm
      have hPP : stP PP.length S2 = stP PP.length S := by rw [← hE2, stP_A1, stP_A1]
      rw [hE2] at hA1
      have hx1 : stA S ((k : Int), 0) L ((k : Int), 1) = S ((k : Int), 1) := by unfold stA; rw [if_neg (by simp)]
      have hlH := stH_len BB.length S
      have hlH1 := stH_len BB.length (stA S ((k : Int), 0) L)
      have hX := hst w (Chg.refl _ _)
      obtain ⟨_, ad, hbo, _⟩ := hX.b.ptr (by omega)
      have hbn := hX.bn
      obtain ⟨po, pn, pc, bo, bn, bc, f0, f1, f2, lo, ln, lc⟩ := r
      dsimp only at hbo hbn
      subst hbo
      subst hbn
      refine calls_WS env mixed Try.func71 has71 Try.ntmps71 [.v (.agg #[.slice po pn pc, .slice (some ad) BB.length bc, iv f0, iv f1, iv f2, .slice lo ln lc]), .os 1 2 PP.length, .os 3 4 BB.length, .v (.agg #[iv k, iv a]), .v (iv f)] (rpM PP.length BB.length S) (rpM PP.length BB.length (stG BB S3 m.bb m.ba R)) 5 (.tuple #[]) (by simp) rfl rfl rfl live (Hp := RigX ⟨po, pn, pc, some ad, BB.length, bc, f0, f1, f2, lo, ln, lc⟩ PP BB LL) (fun h hH => ?_) hok hinj hst
      have e1 : ∀ w', h w' → ∀ j v, (Bm.cs m)[j]? = some v → w'.cell? ((ad.add ((k : Int).toNat * 8)).add j) = some v := fun w' hw' => rd_ati (hH w' hw').b hm
      unfold rpM
      obtain ⟨b1, b2, b3, b4, b5, b6, b7, b8⟩ := m
      dsimp only at hok' hsp hgR htd hi1 hi2 e1 k1 k2 hE3 hS3 ⊢
      have hl0 : ∀ j v, [iv (S ((k : Int), 0))][j]? = some v → ((stH BB.length S).flatMap gF)[(k : Int).toNat * ti71.size + (0 : Int).toNat * ti3.size + j]? = some v := fun j v h => by
        match j, h with
        | 0, h => cases h; rw [Int.toNat_natCast, show ti71.size = 2 from rfl]; exact (gF_at at0).1
      have hl1 : ∀ j v, [iv (S ((k : Int), 1))][j]? = some v → ((stH BB.length (stA S ((k : Int), 0) L)).flatMap gF)[(k : Int).toNat * ti71.size + (1 : Int).toNat * ti3.size + j]? = some v := fun j v h => by
        match j, h with
        | 0, h => cases h; rw [Int.toNat_natCast, show ti71.size = 2 from rfl, ← hx1]; exact (gF_at at1).2
      have hs0 : (k : Int).toNat * ti71.size + (0 : Int).toNat * ti3.size + [iv (S ((k : Int), 0) + L)].length ≤ ((stH BB.length S).flatMap gF).length := by
        rw [gF_len, hlH, Int.toNat_natCast, show ti71.size = 2 from rfl]; simp; omega
      have hs1 : (k : Int).toNat * ti71.size + (1 : Int).toNat * ti3.size + [iv (S ((k : Int), 1) + R)].length ≤ ((stH BB.length (stA S ((k : Int), 0) L)).flatMap gF).length := by
        rw [gF_len, hlH1, Int.toNat_natCast, show ti71.size = 2 from rfl, show ti3.size = 1 from rfl]; simp; omega
      have hse0 : ((stH BB.length S).flatMap gF).take ((k : Int).toNat * ti71.size + (0 : Int).toNat * ti3.size) ++ [iv (S ((k : Int), 0) + L)] ++ ((stH BB.length S).flatMap gF).drop ((k : Int).toNat * ti71.size + (0 : Int).toNat * ti3.size + [iv (S ((k : Int), 0) + L)].length) = (stH BB.length (stA S ((k : Int), 0) L)).flatMap gF := by
        rw [← hA0, ← gF_set0 _ at0, Int.toNat_natCast]; rfl
      have hse1 : ((stH BB.length (stA S ((k : Int), 0) L)).flatMap gF).take ((k : Int).toNat * ti71.size + (1 : Int).toNat * ti3.size) ++ [iv (S ((k : Int), 1) + R)] ++ ((stH BB.length (stA S ((k : Int), 0) L)).flatMap gF).drop ((k : Int).toNat * ti71.size + (1 : Int).toNat * ti3.size + [iv (S ((k : Int), 1) + R)].length) = (stH BB.length S2).flatMap gF := by
        rw [← hA1, hx1.symm, ← gF_set1 _ at1, Int.toNat_natCast]; rfl
      clear hA0 hA1 at0 at1
      have hc1 := @hi1 S2 (fun q => by have := hS2 q; have := hS q; omega)
      rw [hE3] at hc1
      have hc2 := @hi2 S3 (fun q => by have := hS2 q; have := hS q; have := hS3 q; omega)
      clear hi1 hi2
      repeat'
       conv => whnf
       first
        | refine zA ?_ | refine zB ?_ | refine zC ?_ | refine zD ?_ | refine zE ?_ | refine zF ?_ | refine zG ?_ | refine zH ?_ | refine zI ?_ | refine splT ?_ | refine splF ?_ | refine splNot ?_
        | ((first | refine splIn (fun hc => ?_) (fun hc => ?_) | refine splD (fun hc => ?_) (fun hc => ?_) | refine splE (fun hc => ?_) (fun hc => ?_) | refine splNE (fun hc => ?_) (fun hc => ?_)) <;> first | (exfalso; omega) | (exfalso; dsimp only at hc; omega) | skip)
        | refine Exists.intro (α := List Value) [iv b1, iv b2, iv b3, iv b4, iv b5, iv b6, iv b7, iv b8] ⟨⟨rfl, fun w' hw' => e1 w' hw'⟩, ?_⟩
        | refine quoT (by omega) (And.intro (by omega) (by omega)) ?_
      all_goals first | (exfalso; omega) | skip
      rw [hgR, hL]
      generalize f.tdiv (b2 - b1) = fq
      repeat'
       conv => whnf
       first
        | refine zA ?_ | refine zB ?_ | refine zC ?_ | refine zD ?_ | refine zE ?_ | refine zF ?_ | refine zG ?_ | refine zH ?_ | refine zI ?_ | refine splT ?_ | refine splF ?_ | refine splNot ?_
        | ((first | refine splIn (fun hc => ?_) (fun hc => ?_) | refine splD (fun hc => ?_) (fun hc => ?_) | refine splE (fun hc => ?_) (fun hc => ?_) | refine splNE (fun hc => ?_) (fun hc => ?_)) <;> first | (exfalso; omega) | (exfalso; dsimp only at hc; omega) | skip)
        | refine Exists.intro (α := List Value) [iv (S ((k : Int), 0))] ⟨⟨rfl, hl0⟩, ?_⟩
        | refine Exists.intro (α := List Value) [iv (S ((k : Int), 1))] ⟨⟨rfl, hl1⟩, ?_⟩
        | (refine And.intro hs0 ?_; rw [hse0])
        | (refine And.intro hs1 ?_; rw [hse1])
        | ((with_reducible show CallEv _ _ 71 [_, _, _, _, .v (.int .i64 L)] _ _ _ _); refine callRp PP.length BB.length S2 S3 (fun β w' h1 h2 h3 => hc1 h1 h2 fun w2 hc => hH w2 (h3 w2 hc)) (by rw [hPP]; rfl) rfl rfl ?_)
        | ((with_reducible show CallEv _ _ 71 [_, _, _, _, .v (.int .i64 R)] _ _ _ _); refine callRp PP.length BB.length S3 (stG BB S3 b5 b6 R) (fun β w' h1 h2 h3 => hc2 h1 h2 fun w2 hc => hH w2 (h3 w2 hc)) rfl rfl rfl ?_)
      all_goals first | (exfalso; omega) | skip
      exact ⟨fun β => rfl, ⟨rfl, rfl, trivial⟩, fun w' h => h, rfl⟩
end Go.Proofs.Ytaciigegbgnadaa
