/- Gear: the plain law of logs up to a day, and of entries behind them. -/
import Derived.Test.YtaciigegbgnadaaHF
namespace Go.Proofs.Ytaciigegbgnadaa
open Go Tx Go.RowKit
set_option linter.unusedSimpArgs false
set_option linter.unusedVariables false

/-- A log up to a day. -/
def lbf (L : List En) (d : Int) : List En := L.filter fun x => decide (x.day ≤ d)
theorem stL_flt {num d day : Int} (h : d ≤ day) : ∀ (L : List En) (s : Bool × Int × Int), (lbf L d).foldl (stS num day) s = L.foldl (stS num d) s
  | [], s => rfl
  | x :: L, s => by
    unfold lbf
    by_cases hx : x.day ≤ d
    · rw [List.filter_cons_of_pos (by simpa using hx), List.foldl_cons, List.foldl_cons]
      have : stS num day s x = stS num d s x := by
        unfold stS
        by_cases hn : x.num ≠ num
        · rw [if_pos (.inl hn), if_pos (.inl hn)]
        · rw [if_neg (show ¬ (x.num ≠ num ∨ x.day > day) by omega), if_neg (show ¬ (x.num ≠ num ∨ x.day > d) by omega)]
      rw [this]
      exact stL_flt h L _
    · rw [List.filter_cons_of_neg (by simpa using hx), List.foldl_cons]
      have : stS num d s x = s := by unfold stS; rw [if_pos (.inr (by omega))]
      rw [this]
      exact stL_flt h L _
theorem stL_lbf {num d day : Int} (h : d ≤ day) (L : List En) : stL num day (lbf L d) = stL num d L := stL_flt h L _
theorem stL_app (num day : Int) (A : List En) (x : En) : stL num day (A ++ [x]) = stS num day (stL num day A) x := by unfold stL; rw [List.foldl_append]; rfl
theorem lgE_of {G : List (Int × Int)} {L : List En} (h1 : G.length ≤ 20) (h2 : L.length ≤ 200) (h3 : G.all gOk = true) (h4 : ensOk G.length 0 L = true) : lgE G L = 0 := by
  unfold lgE
  rw [if_neg (by omega), if_pos h3, if_pos h4]
theorem ens_lbf {n d : Int} : ∀ {L : List En} {last last' : Int}, last' ≤ last → ensOk n last L = true → ensOk n last' (lbf L d) = true
  | [], _, _, _, _ => rfl
  | x :: L, last, last', hl, h => by
    rw [ensOk, Bool.and_eq_true, enOk, Bool.and_eq_true, Bool.and_eq_true, inB_iff, inB_iff, inB_iff] at h
    unfold lbf
    by_cases hx : x.day ≤ d
    · rw [List.filter_cons_of_pos (by simpa using hx), ensOk, Bool.and_eq_true, enOk, Bool.and_eq_true, Bool.and_eq_true, inB_iff, inB_iff, inB_iff]
      exact ⟨⟨⟨⟨by omega, by omega⟩, h.1.1.2⟩, h.1.2⟩, ens_lbf (Int.le_refl _) h.2⟩
    · rw [List.filter_cons_of_neg (by simpa using hx)]
      exact ens_lbf (by omega) h.2
theorem ens_app {n : Int} {x : En} (h1 : x.day ≤ 10000) (h2 : 0 ≤ x.num ∧ x.num ≤ n - 1) (h3 : 0 ≤ x.hrs ∧ x.hrs ≤ 24) : ∀ {A : List En} {last : Int}, last ≤ x.day → (∀ y ∈ A, y.day ≤ x.day) → ensOk n last A = true → ensOk n last (A ++ [x]) = true
  | [], last, hl, _, _ => by
    show ensOk n last [x] = true
    rw [ensOk, Bool.and_eq_true, enOk, Bool.and_eq_true, Bool.and_eq_true, inB_iff, inB_iff, inB_iff]
    exact ⟨⟨⟨⟨hl, h1⟩, h2⟩, h3⟩, rfl⟩
  | y :: A, last, hl, hA, h => by
    rw [ensOk, Bool.and_eq_true] at h
    show ensOk n last (y :: (A ++ [x])) = true
    rw [ensOk, Bool.and_eq_true]
    exact ⟨h.1, ens_app h1 h2 h3 (hA y List.mem_cons_self) (fun z hz => hA z (List.mem_cons_of_mem _ hz)) h.2⟩
theorem lbf_day {L : List En} {d : Int} : ∀ y ∈ lbf L d, y.day ≤ d := fun y hy => by
  unfold lbf at hy
  rw [List.mem_filter] at hy
  simpa using hy.2
theorem lbf_len (L : List En) (d : Int) : (lbf L d).length ≤ L.length := List.length_filter_le _ _
section
variable {G : List (Int × Int)} {L : List En} (he : lgE G L = 0)
include he
theorem lg_lbf (d : Int) : lgE G (lbf L d) = 0 := by
  obtain ⟨h1, h2, h3, h4, _⟩ := lgE_ok he
  exact lgE_of h1 (by have := lbf_len L d; omega) h3 (ens_lbf (Int.le_refl _) h4)
theorem lg_app {x : En} (hl : L.length < 200) (h0 : 0 ≤ x.day) (h1 : x.day ≤ 10000) (h2 : 0 ≤ x.num ∧ x.num ≤ (G.length : Int) - 1) (h3 : 0 ≤ x.hrs ∧ x.hrs ≤ 24) (hA : ∀ y ∈ L, y.day ≤ x.day) : lgE G (L ++ [x]) = 0 := by
  obtain ⟨g1, g2, g3, g4, _⟩ := lgE_ok he
  exact lgE_of g1 (by simp; omega) g3 (ens_app h1 h2 h3 h0 hA g4)
theorem gear_ok {k : Nat} {g : Int × Int} (hg : G[k]? = some g) : (1 ≤ g.1 ∧ g.1 ≤ 2000) ∧ (1 ≤ g.2 ∧ g.2 ≤ 20000) := by
  obtain ⟨_, _, h3, _, _⟩ := lgE_ok he
  have := List.all_eq_true.1 h3 g (List.mem_of_getElem? hg)
  unfold gOk at this
  rw [Bool.and_eq_true, inB_iff, inB_iff] at this
  exact this
end
theorem staL_mem {G : List (Int × Int)} {L : List En} {day : Int} : ∀ {n : Nat} {z : Int}, z ∈ staL G L day n ↔ ∃ j : Nat, j < n ∧ z = j ∧ stI G L day j = true
  | 0, z => by simp [staL]
  | n + 1, z => by
    rw [staL, List.mem_append, staL_mem (n := n)]
    refine ⟨fun h => ?_, fun ⟨j, h1, h2, h3⟩ => ?_⟩
    · rcases h with ⟨j, h1, h2, h3⟩ | h
      · exact ⟨j, by omega, h2, h3⟩
      · by_cases hs : stI G L day n = true
        · rw [if_pos hs, List.mem_singleton] at h; exact ⟨n, by omega, h, hs⟩
        · rw [if_neg hs] at h; cases h
    · by_cases hj : j = n
      · subst hj; right; rw [if_pos h3, List.mem_singleton]; exact h2
      · exact .inl ⟨j, by omega, h2, h3⟩
theorem sta_has {G : List (Int × Int)} {L : List En} {day : Int} (he : lgE G L = 0) (hd : 0 ≤ day ∧ day ≤ 10000) {k : Nat} (hk : k < G.length) : (staR G L day).contains (k : Int) = stI G L day k := by
  unfold staR
  rw [if_pos ⟨he, hd⟩]
  cases hs : stI G L day k with
  | true => rw [List.contains_iff_mem, staL_mem]; exact ⟨k, hk, rfl, hs⟩
  | false =>
    rw [Bool.eq_false_iff]
    intro hc
    rw [List.contains_iff_mem, staL_mem] at hc
    obtain ⟨j, h1, h2, h3⟩ := hc
    obtain rfl : j = k := by omega
    rw [h3] at hs; cases hs
section
variable {G : List (Int × Int)} {L : List En} (he : lgE G L = 0) (hl : L.length ≤ 150) {k : Nat} {g : Int × Int} (hg : G[k]? = some g) {d h : Int} (hd : 0 ≤ d ∧ d ≤ 9000) (hh : 0 ≤ h ∧ h ≤ 24)
include he hl hg hd hh
/-- Checked on the day. -/
theorem gear_chk : lgE G (lbf L d ++ [⟨d, k, h, true⟩]) = 0 ∧ (staR G (lbf L d ++ [⟨d, k, h, true⟩]) d).contains (k : Int) = false := by
  have hk := (List.getElem?_eq_some_iff.1 hg).1
  have hgk := gear_ok he hg
  have h1 : lgE G (lbf L d ++ [⟨d, k, h, true⟩]) = 0 := lg_app (lg_lbf he d) (by have := lbf_len L d; omega) hd.1 (by show d ≤ 10000; omega) (by show 0 ≤ (k : Int) ∧ (k : Int) ≤ _; omega) hh lbf_day
  refine ⟨h1, ?_⟩
  rw [sta_has h1 (by omega) hk]
  unfold stI
  rw [hg]
  dsimp only
  rw [stL_app]
  unfold stS stB
  rw [if_neg (by dsimp only; omega), if_pos rfl]
  simp
  omega
omit hl hg hh in
/-- What is stale stays so. -/
theorem gear_stay {m : Int} (hm : 0 ≤ m ∧ m ≤ 1000) : ∀ z ∈ staR G (lbf L d) d, (staR G (lbf L d) (d + m)).contains z = true := by
  intro z hz
  have h1 := lg_lbf he d
  unfold staR at hz
  rw [if_pos ⟨h1, by omega⟩, staL_mem] at hz
  obtain ⟨j, hj, rfl, hs⟩ := hz
  rw [sta_has h1 (by omega) hj]
  unfold stI at hs ⊢
  cases hgj : G[j]? with
  | none => rw [hgj] at hs; cases hs
  | some q =>
    rw [hgj] at hs
    dsimp only at hs ⊢
    rw [stL_lbf (Int.le_refl d)] at hs
    rw [stL_lbf (by omega)]
    unfold stB at hs ⊢
    simp only [Bool.or_eq_true, Bool.not_eq_true', decide_eq_true_eq] at hs ⊢
    rcases hs with (hs | hs) | hs
    · exact .inl (.inl hs)
    · exact .inl (.inr (by omega))
    · exact .inr hs
/-- The log with some days' work behind it. -/
def thL (Lb : List En) (d : Int) (k : Nat) (h : Int) : Nat → List En
  | 0 => Lb
  | i + 1 => thL Lb d k h i ++ [⟨d + i, k, h, false⟩]
omit he hl hg hd hh in
theorem thL_len (Lb : List En) : ∀ i, (thL Lb d k h i).length = Lb.length + i
  | 0 => rfl
  | i + 1 => by rw [thL, List.length_append, thL_len Lb i]; rfl
omit he hl hg hd hh in
theorem thL_day : ∀ i, ∀ y ∈ thL (lbf L d) d k h i, y.day ≤ d + i
  | 0, y, hy => by have := lbf_day y hy; omega
  | i + 1, y, hy => by
    rw [thL, List.mem_append, List.mem_singleton] at hy
    rcases hy with hy | rfl
    · have := thL_day i y hy; omega
    · show d + i ≤ _; omega
theorem thL_ok : ∀ i : Nat, i ≤ 41 → lgE G (thL (lbf L d) d k h i) = 0
  | 0, _ => lg_lbf he d
  | i + 1, hi => by
    have hk := (List.getElem?_eq_some_iff.1 hg).1
    exact lg_app (thL_ok i (by omega)) (by have := lbf_len L d; rw [thL_len]; omega) (by show 0 ≤ d + i; omega) (by show d + i ≤ 10000; omega) (by show 0 ≤ (k : Int) ∧ (k : Int) ≤ _; omega) hh (thL_day i)
omit he hl hg hd hh in
theorem thL_st (day : Int) : ∀ i : Nat, d + i ≤ day + 1 → d ≤ day → stL k day (thL (lbf L d) d k h i) = ((stL k d L).1, (stL k d L).2.1, (stL k d L).2.2 + i * h)
  | 0, _, h1 => by rw [thL, stL_lbf h1]; simp
  | i + 1, hi, h1 => by
    rw [thL, stL_app, thL_st day i (by omega) h1]
    unfold stS
    rw [if_neg (by dsimp only; omega), if_neg (by simp)]
    dsimp only
    rw [Int.natCast_add, Int.add_mul]
    simp only [Prod.mk.injEq, true_and]
    omega
/-- On the day of Until the gear would be stale, on the days ahead it would not. -/
theorem gear_unt : untE G L k d h = 0 ∧ ∃ N : Nat, untR G L k d h = d + N ∧ ∀ i : Nat, i ≤ 40 → i ≤ N → lgE G (thL (lbf L d) d k h (i + 1)) = 0 ∧ (staR G (thL (lbf L d) d k h (i + 1)) (d + i)).contains (k : Int) = decide (i = N) := by
  have hk := (List.getElem?_eq_some_iff.1 hg).1
  have hgk := gear_ok he hg
  have hEB := (lgE_ok he).2.2.2.2
  have hb := stL_bdl (num := k) (day := d) hEB
  have hc : (0 ≤ (k : Int) ∧ (k : Int) ≤ (G.length : Int) - 1) ∧ (0 ≤ d ∧ d ≤ 10000) ∧ (0 ≤ h ∧ h ≤ 24) := by omega
  refine ⟨by unfold untE; rw [if_pos he, if_pos hc], untN g (stL k d L) d h, ?_, fun i hi hN => ?_⟩
  · unfold untR
    rw [Int.toNat_natCast, hg]
    dsimp only
    rw [if_pos ⟨he, hc⟩]
  · have h1 := thL_ok he hl hg hd hh (i + 1) (by omega)
    refine ⟨h1, ?_⟩
    rw [sta_has h1 (by omega) hk]
    unfold stI
    rw [hg]
    dsimp only
    rw [thL_st (d + i) (i + 1) (by omega) (by omega)]
    have e : stB g ((stL k d L).1, (stL k d L).2.1, (stL k d L).2.2 + ((i + 1 : Nat) : Int) * h) (d + i) 0 = stB g (stL k d L) (d + i) (((i : Int) + 1) * h) := by
      unfold stB
      dsimp only
      rw [Int.add_zero]
      rfl
    rw [e]
    by_cases hiN : i = untN g (stL k d L) d h
    · have := untN_st (g := g) (s := stL k d L) (day := d) (hours := h) (by omega) (by omega) (by omega)
      rw [hiN, this]; simp
    · rw [untN_no (by omega), decide_eq_false hiN]
end
end Go.Proofs.Ytaciigegbgnadaa
