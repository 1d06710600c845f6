/- The reference: a force goes on from place to place: what put leaves. -/
import Derived.Test.YtaciigegbgnadaaIC
import Derived.Test.YtaciigegbgnadaaHA
import Derived.Test.YtaciigegbgnadaaPo
namespace Go.Proofs.Ytaciigegbgnadaa
open Go Tx Go.RowKit
set_option linter.unusedSimpArgs false
set_option linter.unusedVariables false

/-- How many times as great a gift may be, at a depth. -/
def KK : Nat → Nat
  | 0 => 1
  | d + 1 => 13 * (1 + KK d)
theorem KK_mono {d e : Nat} (h : d ≤ e) : KK d ≤ KK e := by
  induction e with
  | zero => rw [Nat.le_zero.1 h]; exact Nat.le_refl _
  | succ e ih =>
    by_cases hd : d = e + 1
    · subst hd; exact Nat.le_refl _
    · have := ih (by omega)
      rw [KK]; omega
theorem gvR_abs {m : Bm} {a : Int} (f : Int) (hs : 10 ≤ m.hi - m.lo) (hl : 0 ≤ m.lo ∧ m.lo ≤ 60) (ha : 0 ≤ a ∧ a ≤ 60) : (f - gvR m a f).natAbs + (gvR m a f).natAbs ≤ 13 * f.natAbs := by
  have := part_abs (lo := m.lo) (hi := m.hi) (a := a) (fun _ => f) 0 hs hl ha
  exact this
/-- The cells of the reference's two rows. -/
def stP (n : Nat) (S : Int × Int → Int) : List Int := (List.range n).map fun j : Nat => S (-1, (j : Int))
def stH (m : Nat) (S : Int × Int → Int) : List (Int × Int) := (List.range m).map fun i : Nat => (S ((i : Int), 0), S ((i : Int), 1))
abbrev rpM (n m : Nat) (S : Int × Int → Int) : List (Nat × Blk) := [(1, .own 2 n 1 ((stP n S).flatMap iF) 3), (3, .own 4 m 2 ((stH m S).flatMap gF) 71)]
theorem rpM_lk {n m : Nat} {S : Int × Int → Int} {i : Nat} {b : Blk} (h : lk (rpM n m S) i = some b) : i = 1 ∧ b = .own 2 n 1 ((stP n S).flatMap iF) 3 ∨ i = 3 ∧ b = .own 4 m 2 ((stH m S).flatMap gF) 71 := by
  have := lk_mem h
  simp only [List.mem_cons, Prod.mk.injEq, List.not_mem_nil, or_false] at this
  exact this
theorem stP_set {n k : Nat} {S S' : Int × Int → Int} (hk : k < n) (h1 : ∀ j : Nat, j ≠ k → S' (-1, (j : Int)) = S (-1, (j : Int))) : (stP n S).set k (S' (-1, (k : Int))) = stP n S' := by
  refine List.ext_getElem? fun i => ?_
  rw [List.getElem?_set]
  by_cases hi : i < n
  · have e1 : (stP n S')[i]? = some (S' (-1, (i : Int))) := rng_at (fun j : Nat => _) hi
    have e2 : (stP n S)[i]? = some (S (-1, (i : Int))) := rng_at (fun j : Nat => _) hi
    rw [e1]
    split
    · rename_i hki; subst hki
      rw [if_pos (by simp [stP]; exact hk)]
    · rename_i hki
      rw [e2, h1 i (fun h => hki h.symm)]
  · rw [List.getElem?_eq_none (show (stP n S').length ≤ i by simp [stP]; omega), List.getElem?_eq_none (show (stP n S).length ≤ i by simp [stP]; omega), if_neg (by omega)]
/-- A pair's first or second number written anew. -/
theorem gF_len (L : List (Int × Int)) : (L.flatMap gF).length = L.length * 2 := by
  induction L with
  | nil => rfl
  | cons a L ih => rw [List.flatMap_cons, List.length_append, ih, List.length_cons]; simp; omega
theorem gF_at {L : List (Int × Int)} {k : Nat} {x : Int × Int} (h : L[k]? = some x) : (L.flatMap gF)[k * 2]? = some (iv x.1) ∧ (L.flatMap gF)[k * 2 + 1]? = some (iv x.2) :=
  ⟨flat_get (sz := 2) (f := gF) (fun _ => rfl) L k 0 x _ h rfl, flat_get (sz := 2) (f := gF) (fun _ => rfl) L k 1 x _ h rfl⟩
theorem gF_set0 : ∀ {L : List (Int × Int)} {k : Nat} {x : Int × Int} (v : Int), L[k]? = some x → (L.flatMap gF).take (k * 2) ++ [iv v] ++ (L.flatMap gF).drop (k * 2 + 1) = (L.set k (v, x.2)).flatMap gF
  | [], k, x, v, h => by simp at h
  | y :: L, 0, x, v, h => by
    simp only [List.getElem?_cons_zero, Option.some.injEq] at h
    subst h
    simp [List.flatMap_cons]
  | y :: L, k + 1, x, v, h => by
    have ih := gF_set0 (L := L) (k := k) v (by simpa using h)
    rw [List.set_cons_succ, List.flatMap_cons, List.flatMap_cons, ← ih, show (k + 1) * 2 = k * 2 + 1 + 1 from by omega]
    simp
theorem gF_set1 : ∀ {L : List (Int × Int)} {k : Nat} {x : Int × Int} (v : Int), L[k]? = some x → (L.flatMap gF).take (k * 2 + 1) ++ [iv v] ++ (L.flatMap gF).drop (k * 2 + 1 + 1) = (L.set k (x.1, v)).flatMap gF
  | [], k, x, v, h => by simp at h
  | y :: L, 0, x, v, h => by
    simp only [List.getElem?_cons_zero, Option.some.injEq] at h
    subst h
    simp [List.flatMap_cons]
  | y :: L, k + 1, x, v, h => by
    have ih := gF_set1 (L := L) (k := k) v (by simpa using h)
    rw [List.set_cons_succ, List.flatMap_cons, List.flatMap_cons, ← ih, show (k + 1) * 2 = k * 2 + 1 + 1 from by omega]
    simp
theorem stH_set {m k : Nat} {S S' : Int × Int → Int} (hk : k < m) (h1 : ∀ j : Nat, j ≠ k → S' ((j : Int), 0) = S ((j : Int), 0) ∧ S' ((j : Int), 1) = S ((j : Int), 1)) : (stH m S).set k (S' ((k : Int), 0), S' ((k : Int), 1)) = stH m S' := by
  refine List.ext_getElem? fun i => ?_
  rw [List.getElem?_set]
  by_cases hi : i < m
  · have e1 : (stH m S')[i]? = some (S' ((i : Int), 0), S' ((i : Int), 1)) := rng_at (fun i : Nat => (S' ((i : Int), 0), S' ((i : Int), 1))) hi
    have e2 : (stH m S)[i]? = some (S ((i : Int), 0), S ((i : Int), 1)) := rng_at (fun i : Nat => (S ((i : Int), 0), S ((i : Int), 1))) hi
    rw [e1]
    split
    · rename_i hki; subst hki
      rw [if_pos (by simp [stH]; exact hk)]
    · rename_i hki
      rw [e2, (h1 i (fun h => hki h.symm)).1, (h1 i (fun h => hki h.symm)).2]
  · rw [List.getElem?_eq_none (show (stH m S').length ≤ i by simp [stH]; omega), List.getElem?_eq_none (show (stH m S).length ≤ i by simp [stH]; omega), if_neg (by omega)]
/-- A state of the reference behind a force. -/
def stG (BB : List Bm) (S : Int × Int → Int) (b a f : Int) : Int × Int → Int := fun q => S q + gq BB b a f q
/-- The call of put: as the program's. -/
theorem callRp {P : Program} {k : Nat} {σ : Sg} {args : List SV} {rs : List Nat} {K : Ef → Prop} {KF : Option KT} (n m : Nat) (S S' : Int × Int → Int)
    (h : ∀ β w, (∀ i b, lk (rpM n m S) i = some b → b.ok β w (β i)) → (∀ i j bi bj, lk (rpM n m S) i = some bi → lk (rpM n m S) j = some bj → i ≠ j → β i ≠ β j) → (∀ w', Chg (fun b => ∃ i bk, lk (rpM n m S) i = some bk ∧ β i = b) w w' → σ.h w') →
      Calls P k (SV.cs β args).toArray w fun e w' => e = .returned (.tuple #[]) ∧ Chg (fun b => ∃ i bk, lk (rpM n m S) i = some bk ∧ β i = b) w w' ∧ ∀ i bk, lk (rpM n m S') i = some bk → bk.ok β w' (β i))
    (e1 : lk σ.m 1 = some (.own 2 n 1 ((stP n S).flatMap iF) 3)) (e3 : lk σ.m 3 = some (.own 4 m 2 ((stH m S).flatMap gF) 71))
    (hB : efB σ ⟨.v (.tuple #[]), [], rpM n m S', [], [1, 3]⟩ = true) (hK : K ⟨.v (.tuple #[]), [], rpM n m S', rs, [1, 3]⟩) : CallEv P σ k args (efB σ) rs K KF := by
  have he : ∀ {i : Nat} {bk : Blk}, lk (rpM n m S) i = some bk → lk σ.m i = some bk := fun h => by
    rcases rpM_lk h with ⟨rfl, rfl⟩ | ⟨rfl, rfl⟩ <;> assumption
  have hmem : ∀ {i : Nat} {bk : Blk}, lk (rpM n m S) i = some bk → i ∈ [1, 3] ∧ bk.live = true := fun h => by
    rcases rpM_lk h with ⟨rfl, rfl⟩ | ⟨rfl, rfl⟩ <;> exact ⟨by simp, rfl⟩
  refine callWS [1, 3] (rpM n m S') (.tuple #[]) hB (fun i hi => ?_) (fun β w h1 h2 hst => ?_) hK
  · simp only [List.mem_cons, List.not_mem_nil, or_false] at hi
    rcases hi with rfl | rfl
    · exact ⟨_, List.mem_cons_self⟩
    · exact ⟨_, List.mem_cons_of_mem _ List.mem_cons_self⟩
  · refine (h β w (fun i bk hi => h1 i (hmem hi).1 bk (he hi)) (fun i j bi bj hi hj hne => h2 i (hmem hi).1 j (hmem hj).1 bi bj (he hi) (he hj) (hmem hi).2 (hmem hj).2 hne) fun w' hc => hst w' ⟨hc.os, hc.tape, hc.output, hc.size, fun b hb hX => hc.same b hb fun ⟨i, bk, hi, hib⟩ => hX ⟨i, (hmem hi).1, ⟨bk, he hi, (hmem hi).2⟩, hib⟩⟩).mono fun e w' ⟨q1, q2, q3⟩ => ⟨q1, ?_, fun i bk hi => ?_⟩
    · exact ⟨q2.os, q2.tape, q2.output, q2.size, fun b hb hX => q2.same b hb fun ⟨i, bk, hi, hib⟩ => hX ⟨i, (hmem hi).1, hib⟩⟩
    · refine q3 i bk ?_
      simp only [List.mem_cons, Prod.mk.injEq, List.not_mem_nil, or_false] at hi
      rcases hi with ⟨rfl, rfl⟩ | ⟨rfl, rfl⟩ <;> rfl
section
variable {f0 f1 f2 : Int} {PP : List Int} {BB : List Bm} {LL : List Ld} (hr : rigOk f0 f1 f2 PP BB LL = true)
include hr
theorem gq_abs : ∀ (N : Nat) (b a f : Int) (q : Int × Int) (i : Int), b < N → i ≤ BB.length → hasB PP.length b a i = true → (gq BB b a f q).natAbs ≤ KK (dpn BB b) * f.natAbs := by
  have hG := rig_G hr
  have pt : ∀ (a f : Int) (q : Int × Int), (gq BB (-1) a f q).natAbs ≤ KK (dpn BB (-1)) * f.natAbs := fun a f q => by
    rw [gq_pt, show dpn BB (-1) = 0 from by unfold dpn; rw [if_pos rfl], show KK 0 = 1 from rfl]
    split <;> simp
  intro N
  induction N with
  | zero =>
    intro b a f q i hb hi hh
    rcases hasB_cases hh with ⟨rfl, _⟩ | ⟨_, ⟨h, _⟩, _⟩
    · exact pt a f q
    · omega
  | succ N ih =>
    intro b a f q i hb hi hh
    rcases hasB_cases hh with ⟨rfl, _⟩ | ⟨_, ⟨h1, h2⟩, h3⟩
    · exact pt a f q
    · obtain ⟨k, rfl⟩ := Int.eq_ofNat_of_zero_le h1
      obtain ⟨m, hm⟩ : ∃ m, BB[k]? = some m := ⟨_, List.getElem?_eq_getElem (by omega)⟩
      have hok := bmOk_iff.1 (bm_at hr hm)
      have ho := hG.on k m hm
      have hd := hG.dep k m hm
      obtain ⟨d, hdd⟩ : ∃ d, dpn BB k = d + 1 := ⟨dpn BB k - 1, by omega⟩
      have hp := gvR_abs (m := m) (a := a) f (span10 hok.2.2.1) hok.1 h3
      have i1 := ih m.ab m.aa (f - gvR m a f) q k (by omega) (by omega) hok.2.2.2.1
      have i2 := ih m.bb m.ba (gvR m a f) q k (by omega) (by omega) hok.2.2.2.2.1
      have k1 := Nat.mul_le_mul_right (f - gvR m a f).natAbs (KK_mono (show dpn BB m.ab ≤ d by omega))
      have k2 := Nat.mul_le_mul_right (gvR m a f).natAbs (KK_mono (show dpn BB m.bb ≤ d by omega))
      have k3 := Nat.mul_le_mul_left (KK d) hp
      rw [Nat.mul_add] at k3
      rw [gq_bm hG hm, hdd, KK, Nat.mul_assoc, Nat.add_mul, Nat.one_mul, Nat.mul_add, Nat.mul_left_comm 13 (KK d)]
      generalize gq BB m.ab m.aa (f - gvR m a f) q = x at *
      generalize gq BB m.bb m.ba (gvR m a f) q = y at *
      generalize f - gvR m a f = L at *
      generalize gvR m a f = R at *
      generalize KK d * L.natAbs = kl at *
      generalize KK d * R.natAbs = kr at *
      generalize KK d * (13 * f.natAbs) = kf at *
      split <;> split <;> omega
end
end Go.Proofs.Ytaciigegbgnadaa
