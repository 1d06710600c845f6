/- SchoolGroups: the plain law, and what bounds the lists that are made. -/
import Derived.Test.YtpleibfohjbneaaGreatSM
import Derived.Test.YtpleibfohjbneaaGreatSJ
import Derived.Test.YtpleibfohjbneaaGreatS1
namespace Go.Proofs.YtpleibfohjbneaaGreat
open Go Tx Go.RowKit
set_option linter.unusedSimpArgs false
set_option linter.unusedVariables false

theorem thB_of {N : List Int} {wk : Int} {CC : List (List Int)} (h : crOk N wk CC = true) : thB N CC = true := by
  simp only [crOk, inB, rowOk, Bool.and_eq_true, decide_eq_true_eq, List.all_eq_true] at h
  simp only [thB, Bool.and_eq_true, decide_eq_true_eq, List.all_eq_true]
  refine ⟨fun l hl => ?_, by omega, by omega⟩
  have := h.2 l hl
  omega
theorem jfE_init {n m : Nat} {wk : Int} {KK : List (List (Int × List Int))} {xs : List Int} {v : Int} (h : jfE n m wk KK (xs ++ [v]) = 0) : jfE n m wk KK xs = 0 := by
  unfold jfE at h ⊢
  split at h
  · cases h
  rename_i h1
  split at h
  case isFalse h2 => exact absurd h h2
  rename_i h2
  split at h
  · cases h
  rename_i h3
  split at h
  case isFalse => cases h
  rename_i h4
  rw [if_neg h1, if_pos h2, if_neg h3, if_pos (gOk_init h4)]
theorem jfE_ck {N : List Int} {wk : Int} {CC : List (List Int)} {KK : List (List (Int × List Int))} {xs : List Int} (hc : crOk N wk CC = true) (h : jfE N.length CC.length wk KK xs = 0) {k : Nat} {s : List (Int × List Int)} (hk : KK[k]? = some s) : nxE N wk CC s = 0 := by
  have hy := (JnOk.of hc h).y k s hk
  unfold jfE at h
  split at h
  · cases h
  split at h
  case isFalse h2 => exact absurd h h2
  rename_i h2
  have hs := fsE_at h2 k s hk
  unfold nxE
  have hck : ckE N wk CC s = 0 := by unfold ckE; rw [hc, if_pos rfl]; exact hs
  rw [if_pos hck, if_neg (by omega)]
theorem imax_l (a b : Int) : a ≤ imax a b := by unfold imax; split <;> omega
theorem imax_r (a b : Int) : b ≤ imax a b := by unfold imax; split <;> omega
theorem imin_l (a b : Int) : imin a b ≤ a := by unfold imin; split <;> omega
theorem jnV_mono {N : List Int} {wk : Int} {CC : List (List Int)} {KK : List (List (Int × List Int))} {xs : List Int} {n : Int} {j : Nat} : jnV N wk CC KK xs j ≤ jnV N wk CC KK (xs ++ [n]) j := by
  rw [jnV_snoc]; exact imax_l _ _
theorem fold_le (f : Int → Int) : ∀ (xs : List Int) (a : Int), a ≤ xs.foldl (fun a n => imax a (f n)) a ∧ ∀ n ∈ xs, f n ≤ xs.foldl (fun a n => imax a (f n)) a
  | [], a => ⟨Int.le_refl _, fun n h => by cases h⟩
  | x :: xs, a => by
    have ih := fold_le f xs (imax a (f x))
    rw [List.foldl_cons]
    refine ⟨Int.le_trans (imax_l _ _) ih.1, fun n hn => ?_⟩
    rcases List.mem_cons.1 hn with rfl | hn
    · exact Int.le_trans (imax_r _ _) ih.1
    · exact ih.2 n hn
theorem fold_ub (f : Int → Int) (c : Int) (h : ∀ n, f n ≤ c) : ∀ (xs : List Int) (a : Int), a ≤ c → xs.foldl (fun a n => imax a (f n)) a ≤ c
  | [], a, ha => ha
  | x :: xs, a, ha => by
    rw [List.foldl_cons]
    refine fold_ub f c h xs _ ?_
    have := h x
    unfold imax; split <;> omega
theorem jnV_pos {N : List Int} {wk : Int} {CC : List (List Int)} {KK : List (List (Int × List Int))} {xs : List Int} {j : Nat} : 0 ≤ jnV N wk CC KK xs j := (fold_le _ xs 0).1
theorem jnV_up {N : List Int} {wk : Int} {CC : List (List Int)} {KK : List (List (Int × List Int))} {xs : List Int} {j : Nat} : jnV N wk CC KK xs j ≤ 20 := fold_ub _ 20 (fun n => imin_l _ _) xs 0 (by decide)
theorem jnV_ge {N : List Int} {wk : Int} {CC : List (List Int)} {KK : List (List (Int × List Int))} {xs : List Int} {j : Nat} {n : Int} (h : n ∈ xs) : nxV N wk CC (kid KK n) j ≤ jnV N wk CC KK xs j := (fold_le _ xs 0).2 n h
theorem jnR_at {N : List Int} {wk : Int} {CC : List (List Int)} {KK : List (List (Int × List Int))} {xs : List Int} {j : Nat} (h : j < N.length) : (jnR N wk CC KK xs)[j]? = some (jnV N wk CC KK xs j) := by
  simp [jnR, h]
/-- What bounds children. -/
structure KzOk (N : List Int) (CC : List (List Int)) (KK : List (List (Int × List Int))) : Prop where
  k : KK.length ≤ 1000000
  s : ∀ s ∈ KK, SzOk N CC s
theorem KzOk.of {x : Cr} {o : Option Addr} {c : Nat} {K : List Kd} {w : World} (h : CrIn x w) (hK : KdIn o c K w) : KzOk x.N x.CC (K.map Kd.d) :=
  ⟨by rw [List.length_map]; exact hK.kl, fun s hs => by obtain ⟨k, hk, rfl⟩ := List.mem_map.1 hs; exact SzOk.of h (hK.s k hk)⟩
theorem kdIn_of {N : List Int} {CC : List (List Int)} {KK : List (List (Int × List Int))} (hz : KzOk N CC KK) {o : Option Addr} {c : Nat} {K : List Kd} (hK : K.map Kd.d = KK) {w : World} (h : (⟨o, c, K, hK⟩ : KdF KK).In w) : KdIn o c K w := by
  subst hK
  refine ⟨h.1, fun k hk => ?_, by have := hz.k; rwa [List.length_map] at this⟩
  have hs := hz.s _ (List.mem_map_of_mem hk)
  exact ⟨(h.2 k hk).1, (h.2 k hk).2, by have := hs.s; rwa [List.length_map] at this, fun r hr => hs.t _ (List.mem_map_of_mem hr)⟩
theorem crIn_of' {N : List Int} {wk : Int} {CC : List (List Int)} (hn : N.length ≤ 1000000) (hc : CC.length ≤ 1000000) (hr : ∀ l ∈ CC, l.length ≤ 1000000) {n1 : Option Addr} {n2 : Nat} {c1 : Option Addr} {c2 : Nat} {C1 : List Rw} (hC : C1.map Rw.xs = CC) {w : World} (h : crH N ((n1, n2), (⟨c1, c2, C1, hC⟩ : Rws CC)) w) :
    CrIn ⟨n1, n2, N, wk, c1, c2, C1⟩ w := by
  subst hC
  exact ⟨h.1, h.2.1, h.2.2, hn, by rwa [List.length_map] at hc, fun r hr' => hr _ (List.mem_map_of_mem hr')⟩
/-- One row of a group, and the row of hours in it. -/
abbrev jyH (R : List Int) (y : (Addr × Nat) × (Addr × Nat)) (w : World) : Prop := Rd 1 Rw.cs (.slice (some y.1.1) 1 y.1.2) [(⟨some y.2.1, y.2.2, R⟩ : Rw)] w ∧ Rd 1 iF (.slice (some y.2.1) R.length y.2.2) R w
abbrev jyV (y : (Addr × Nat) × (Addr × Nat)) : Value := .tuple #[.slice (some y.1.1) 1 y.1.2, iv 0]
/-- Join, on a course and on children that say the same. -/
theorem Join_nr {N : List Int} {wk : Int} {CC : List (List Int)} {KK : List (List (Int × List Int))} {xs : List Int} (hn : N.length ≤ 1000000) (hcl : CC.length ≤ 1000000) (hr : ∀ l ∈ CC, l.length ≤ 1000000) (hz : KzOk N CC KK) (hxl : xs.length ≤ 1000000) (hc : crOk N wk CC = true) (hj : jfE N.length CC.length wk KK xs = 0)
    (n1 : Option Addr) (n2 : Nat) (c1 : Option Addr) (c2 : Nat) (C1 : List Rw) (hC : C1.map Rw.xs = CC) (k1 : Option Addr) (k2 : Nat) (K1 : List Kd) (hK : K1.map Kd.d = KK) (go : Option Addr) (gc : Nat) (ro : Option Addr) (rc : Nat) (w : World)
    (h : crH N ((n1, n2), (⟨c1, c2, C1, hC⟩ : Rws CC)) w) (h' : (⟨k1, k2, K1, hK⟩ : KdF KK).In w) (hG : Rd 1 Rw.cs (.slice go 1 gc) [(⟨ro, rc, xs⟩ : Rw)] w) (hg : Rd 1 iF (.slice ro xs.length rc) xs w) :
    Calls Tryz.prog 48 #[.agg #[.slice n1 N.length n2, iv wk, .slice c1 C1.length c2], .slice k1 K1.length k2, .slice go 1 gc] w fun e w' => ∃ y, e = .returned (jyV y) ∧ Below w.heap.size w w' ∧ St w.heap.size (jyH (jnR N wk CC KK xs) y) w' := by
  have hk := kdIn_of hz hK h'
  have hx := crIn_of' (wk := wk) hn hcl hr hC h
  subst hC hK
  have h1 : 1 ≤ N.length := by
    simp only [crOk, inB, Bool.and_eq_true, decide_eq_true_eq] at hc
    omega
  have hl := jnR_len N wk (C1.map Rw.xs) (K1.map Kd.d) xs
  refine (Join_ok ⟨n1, n2, N, wk, c1, c2, C1⟩ k1 k2 K1 go gc ⟨ro, rc, xs⟩ w hx hk hG hg hxl hc hj).mono fun e w' ⟨⟨⟨y1, y2⟩, y3, y4⟩, e1, e2, e3⟩ => ?_
  have h2 := e3 w' (Keep.refl _ _)
  obtain ⟨_, a1, rfl, _⟩ := h2.1.ptr (Nat.le_refl _)
  obtain ⟨_, a2, rfl, _⟩ := h2.2.ptr (by show 1 ≤ (jnR N wk (C1.map Rw.xs) (K1.map Kd.d) xs).length; omega)
  exact ⟨((a1, y2), a2, y4), e1, e2, e3⟩
end Go.Proofs.YtpleibfohjbneaaGreat
