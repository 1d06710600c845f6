/- SchoolAdds: the plain law: stays in another order, one stay less, counts of 1000. -/
import Derived.Test.YtpleibfohjbneaaGreatSJ
namespace Go.Proofs.YtpleibfohjbneaaGreat
open Go Tx Go.RowKit
set_option linter.unusedSimpArgs false
set_option linter.unusedVariables false

theorem hsS_app {CC : List (List Int)} {A B : List (Int × List Int)} {j : Nat} : hsS CC (A ++ B) j = hsS CC A j + hsS CC B j := by simp [hsS]
theorem hsV_turn {CC : List (List Int)} {SS : List (Int × List Int)} {j : Nat} (k : Nat) : hsV CC (SS.drop k ++ SS.take k) j = hsV CC SS j := by
  unfold hsV
  rw [hsS_app, Int.add_comm, ← hsS_app, List.take_append_drop]
/-- All hours count 1000. -/
def kCC (CC : List (List Int)) : List (List Int) := CC.map fun l => l.map fun _ => (1000 : Int)
theorem crOk_k {N : List Int} {wk : Int} {CC : List (List Int)} (h : crOk N wk CC = true) : crOk N wk (kCC CC) = true := by
  simp only [crOk, Bool.and_eq_true, kCC, List.length_map] at *
  refine ⟨h.1, ?_⟩
  rw [List.all_eq_true]
  intro l hl
  obtain ⟨l0, h0, rfl⟩ := List.mem_map.1 hl
  have := List.all_eq_true.1 h.2 l0 h0
  simp only [rowOk, Bool.and_eq_true, decide_eq_true_eq, List.length_map] at *
  refine ⟨this.1, ?_⟩
  rw [evB, List.all_eq_true]
  intro n hn
  obtain ⟨_, _, rfl⟩ := List.mem_map.1 hn
  decide
theorem ckE_cr {N : List Int} {wk : Int} {CC : List (List Int)} {SS : List (Int × List Int)} (h : ckE N wk CC SS = 0) : crOk N wk CC = true ∧ stE N.length CC.length wk SS = 0 := by
  unfold ckE at h
  split at h
  · exact ⟨by assumption, h⟩
  · cases h
theorem stE_all {n m : Nat} {wk : Int} {SS : List (Int × List Int)} (h : stE n m wk SS = 0) : (SS.length : Int) ≤ wk ∧ SS.all (stOk n m) = true := by
  unfold stE at h
  split at h
  · cases h
  split at h
  · exact ⟨by omega, by assumption⟩
  · cases h
theorem stE_of {n m : Nat} {wk : Int} {SS : List (Int × List Int)} (h : (SS.length : Int) ≤ wk) (h' : SS.all (stOk n m) = true) : stE n m wk SS = 0 := by
  unfold stE
  rw [if_neg (by omega), if_pos h']
theorem ckE_of {N : List Int} {wk : Int} {CC : List (List Int)} {SS : List (Int × List Int)} (h : crOk N wk CC = true) (h' : stE N.length CC.length wk SS = 0) : ckE N wk CC SS = 0 := by
  unfold ckE; rw [if_pos h]; exact h'
theorem ckE_turn {N : List Int} {wk : Int} {CC : List (List Int)} {SS : List (Int × List Int)} (h : ckE N wk CC SS = 0) (k : Nat) : ckE N wk CC (SS.drop k ++ SS.take k) = 0 := by
  obtain ⟨h1, h2⟩ := ckE_cr h
  obtain ⟨h3, h4⟩ := stE_all h2
  refine ckE_of h1 (stE_of (by simp; omega) ?_)
  rw [List.all_eq_true] at *
  intro s hs
  rcases List.mem_append.1 hs with hs | hs
  · exact h4 s (List.mem_of_mem_drop hs)
  · exact h4 s (List.mem_of_mem_take hs)
theorem ckE_less {N : List Int} {wk : Int} {CC : List (List Int)} {SS : List (Int × List Int)} (h : ckE N wk CC SS = 0) (k : Nat) : ckE N wk CC (SS.take k) = 0 := by
  obtain ⟨h1, h2⟩ := ckE_cr h
  obtain ⟨h3, h4⟩ := stE_all h2
  refine ckE_of h1 (stE_of (by simp; omega) ?_)
  rw [List.all_eq_true] at *
  exact fun s hs => h4 s (List.mem_of_mem_take hs)
theorem ckE_k {N : List Int} {wk : Int} {CC : List (List Int)} {SS : List (Int × List Int)} (h : ckE N wk CC SS = 0) : ckE N wk (kCC CC) SS = 0 := by
  obtain ⟨h1, h2⟩ := ckE_cr h
  refine ckE_of (crOk_k h1) ?_
  rw [kCC, List.length_map]
  exact h2
/-- The hours of stays in a subject. -/
def suH (SS : List (Int × List Int)) (j : Nat) : Int := (SS.map fun s => gt s.2 j).sum
theorem suH_take {SS : List (Int × List Int)} {j k : Nat} {s : Int × List Int} (h : SS[k]? = some s) : suH (SS.take (k + 1)) j = suH (SS.take k) j + gt s.2 j := by
  rw [suH, List.take_add_one, h]; simp [suH]
theorem YrOk.g40 {N : List Int} {wk : Int} {CC : List (List Int)} {SS : List (Int × List Int)} (h : YrOk N wk CC SS) (j : Nat) {s : Int × List Int} (hs : s ∈ SS) : 0 ≤ gt s.2 j ∧ gt s.2 j ≤ 40 := by
  unfold gt
  cases hj : s.2[j]? with
  | none => simp
  | some n => exact (h.s s hs).2.2 n (List.mem_of_getElem? hj)
theorem YrOk.su {N : List Int} {wk : Int} {CC : List (List Int)} {SS : List (Int × List Int)} (h : YrOk N wk CC SS) (j : Nat) : ∀ k, 0 ≤ suH (SS.take k) j ∧ suH (SS.take k) j ≤ 40 * k
  | 0 => by simp [suH]
  | k + 1 => by
    have ih := h.su j k
    cases hx : SS[k]? with
    | none =>
      rw [List.getElem?_eq_none_iff] at hx
      rw [List.take_of_length_le (show SS.length ≤ k + 1 by omega)]
      rw [List.take_of_length_le hx] at ih
      omega
    | some s =>
      have := h.g40 j (List.mem_of_getElem? hx)
      rw [suH_take hx]
      omega
theorem hsS_k {N : List Int} {wk : Int} {CC : List (List Int)} {j : Nat} (hj : j < N.length) : ∀ {SS : List (Int × List Int)}, (∀ s ∈ SS, (0 ≤ s.1 ∧ s.1 < CC.length) ∧ s.2.length = N.length) → (∀ l ∈ CC, l.length = N.length) → hsS (kCC CC) SS j = 1000 * suH SS j
  | [], _, _ => by simp [hsS, suH]
  | s :: r, h, h' => by
    have ih := hsS_k (N := N) (wk := wk) (CC := CC) hj (SS := r) (fun s hs => h s (List.mem_cons_of_mem _ hs)) h'
    have hs := h s (List.mem_cons_self ..)
    have hc : s.1.toNat < CC.length := by omega
    have hl := h' _ (List.getElem_mem hc)
    have e : gt (rwA (kCC CC) s.1) j = 1000 := by
      simp only [gt, rwA, kCC, List.getElem?_map, List.getElem?_eq_getElem hc, Option.map_some, Option.getD_some]
      rw [List.getElem?_eq_getElem (by omega)]; rfl
    have h1 : hsS (kCC CC) (s :: r) j = tmS (kCC CC) j s + hsS (kCC CC) r j := by simp [hsS]
    have h2 : suH (s :: r) j = gt s.2 j + suH r j := by simp [suH]
    rw [h1, h2, ih, tmS, e]
    omega
theorem hsV_k {N : List Int} {wk : Int} {CC : List (List Int)} {SS : List (Int × List Int)} (hy : YrOk N wk CC SS) {j : Nat} (hj : j < N.length) : hsV (kCC CC) SS j = suH SS j := by
  unfold hsV
  rw [hsS_k (N := N) (wk := wk) hj (fun s hs => ⟨(hy.s s hs).1, (hy.s s hs).2.1⟩) (fun l hl => (hy.r l hl).1), Int.mul_tdiv_cancel_left _ (by decide)]
theorem hsS_less {N : List Int} {wk : Int} {CC : List (List Int)} {SS : List (Int × List Int)} (hy : YrOk N wk CC SS) {j n : Nat} : hsS CC (SS.take n) j ≤ hsS CC SS j := by
  have h1 : hsS CC SS j = hsS CC (SS.take n) j + hsS CC (SS.drop n) j := by rw [← hsS_app, List.take_append_drop]
  have h2 : ∀ (L : List (Int × List Int)), (∀ s ∈ L, s ∈ SS) → 0 ≤ hsS CC L j := fun L => by
    induction L with
    | nil => intro _; simp [hsS]
    | cons s r ih =>
      intro h
      have a := ih fun s hs => h s (List.mem_cons_of_mem _ hs)
      have b := hy.tm j (h s (List.mem_cons_self ..))
      have c : hsS CC (s :: r) j = tmS CC j s + hsS CC r j := by simp [hsS]
      omega
  have := h2 (SS.drop n) fun s hs => List.mem_of_mem_drop hs
  omega
theorem hsV_less {N : List Int} {wk : Int} {CC : List (List Int)} {SS : List (Int × List Int)} (hy : YrOk N wk CC SS) {j n : Nat} : hsV CC (SS.take n) j ≤ hsV CC SS j := by
  have h1 := hsS_less hy (j := j) (n := n)
  have h2 := hy.bd j n
  unfold hsV
  rw [Int.tdiv_eq_ediv_of_nonneg h2.1, Int.tdiv_eq_ediv_of_nonneg (by omega)]
  omega
theorem lfV_less {N : List Int} {wk : Int} {CC : List (List Int)} {SS : List (Int × List Int)} (hy : YrOk N wk CC SS) {j n : Nat} : lfV N CC SS j ≤ lfV N CC (SS.take n) j := by
  have := hsV_less hy (j := j) (n := n)
  unfold lfV
  simp only [imax_eq]
  omega
end Go.Proofs.YtpleibfohjbneaaGreat
