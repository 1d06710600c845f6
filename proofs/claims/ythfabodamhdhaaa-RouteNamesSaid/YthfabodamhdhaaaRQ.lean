/- The stops of a town, as a function to range over: what stops returns. -/
import Derived.Test.YthfabodamhdhaaaRP
namespace Go.Proofs.Ythfabodamhdhaaa
open Go Tx Go.RowKit
set_option linter.unusedSimpArgs false
set_option linter.unusedVariables false
abbrev Tr.l (x : Tr) : List SV := [.v (iv x.days), .v (iv x.shift), .v (iv x.size), .v (.slice x.to x.T.length x.tc), .v (.slice x.lo x.L.length x.lc)]
abbrev stB (x : Tr) (k d : Int) (nb : Nat) : List (Nat × Blk) := [(nb, .cells x.l 35), (nb + 1, .cells [.v (iv k)] 3), (nb + 2, .cells [.v (iv d)] 3)]
theorem stops_ok (x : Tr) (k d : Int) (w : World) : Calls Try.prog 83 #[x.v, iv k, iv d] w fun e w' => ∃ β : Nat → Nat, e = .returned ((SV.fn (.func 114) [.ptr 0 0, .ptr 1 0, .ptr 2 0]).c β) ∧ Below w.heap.size w w' ∧
 (∀ i b, lk (stB x k d 0) i = some b → w.heap.size ≤ β i ∧ b.ok β w' (β i)) ∧ ∀ i j, i < 3 → j < 3 → i ≠ j → β i ≠ β j := by
 refine calls_fam3 env mixed Try.func83 has83 Try.ntmps83 [.agg #[iv x.days, iv x.shift, iv x.size, .slice x.to x.T.length x.tc, .slice x.lo x.L.length x.lc], iv k, iv d] (by simp) ?_
 obtain ⟨days, shift, size, to, tc, T, lo, lc, L⟩ := x
 repeat'
  conv => whnf
  first
   | refine zA ?_ | refine zB ?_ | refine zC ?_ | refine zD ?_ | refine zE ?_ | refine zF ?_ | refine zG ?_ | refine zH ?_ | refine zJ ?_ | refine zI ?_ | refine splT ?_ | refine splF ?_ | refine splNot ?_
   | ((first | refine splIn ?_ ?_ | refine splD ?_ ?_ | refine splE ?_ ?_ | refine splNE ?_ ?_) <;> intro hc <;> first | (exfalso; omega) | (exfalso; dsimp only at hc; omega) | skip)
 refine ⟨fun w' h => h, fun β w' hB hB2 hblk hinj => ⟨β, rfl, hB2, fun i b hi => ?_, fun i j hi hj hne => ?_⟩⟩
 · have hm := lk_mem hi
   simp only [stB, List.mem_cons, Prod.mk.injEq, List.not_mem_nil, or_false] at hm
   rcases hm with ⟨rfl, rfl⟩ | ⟨rfl, rfl⟩ | ⟨rfl, rfl⟩
   · exact hblk 0 _ rfl rfl
   · exact hblk 1 _ rfl rfl
   · exact hblk 2 _ rfl rfl
 · rcases (by omega : i = 0 ∨ i = 1 ∨ i = 2) with rfl | rfl | rfl <;> rcases (by omega : j = 0 ∨ j = 1 ∨ j = 2) with rfl | rfl | rfl <;> first | exact absurd rfl hne | exact hinj _ _ _ _ rfl rfl rfl rfl (by decide)
theorem stops_R (x : Tr) (k d : Int) (nb : Nat) (β : Nat → Nat) (w : World) : Calls Try.prog 83 #[x.v, iv k, iv d] w fun e w' => ∃ γ : Nat → Nat, e = .returned ((SV.fn (.func 114) [.ptr nb 0, .ptr (nb + 1) 0, .ptr (nb + 2) 0]).c γ) ∧ (∀ i, i ∉ [nb, nb + 1, nb + 2] → γ i = β i) ∧ Below w.heap.size w w' ∧
 (∀ i b, (i, b) ∈ stB x k d nb → w.heap.size ≤ γ i ∧ b.ok γ w' (γ i)) ∧ ∀ i b j b', (i, b) ∈ stB x k d nb → (j, b') ∈ stB x k d nb → i ≠ j → γ i ≠ γ j := by
 refine (stops_ok x k d w).mono fun e w' ⟨δ, h1, h2, h3, h4⟩ => ?_
 let γ : Nat → Nat := fun i => if i = nb then δ 0 else if i = nb + 1 then δ 1 else if i = nb + 2 then δ 2 else β i
 have g0 : γ nb = δ 0 := if_pos rfl
 have g1 : γ (nb + 1) = δ 1 := by show (if nb + 1 = nb then _ else if nb + 1 = nb + 1 then _ else _) = _; rw [if_neg (by omega), if_pos rfl]
 have g2 : γ (nb + 2) = δ 2 := by show (if nb + 2 = nb then _ else if nb + 2 = nb + 1 then _ else if nb + 2 = nb + 2 then _ else _) = _; rw [if_neg (by omega), if_neg (by omega), if_pos rfl]
 refine ⟨γ, ?_, fun i hi => ?_, h2, fun i b hm => ?_, fun i b j b' hm hm' hne => ?_⟩
 · rw [h1]
   simp only [SV.c, SV.cs, g0, g1, g2]
 · simp only [List.mem_cons, List.not_mem_nil, or_false, not_or] at hi
   show (if i = nb then _ else if i = nb + 1 then _ else if i = nb + 2 then _ else _) = _
   rw [if_neg hi.1, if_neg hi.2.1, if_neg hi.2.2]
 · simp only [stB, List.mem_cons, Prod.mk.injEq, List.not_mem_nil, or_false] at hm
   rcases hm with ⟨rfl, rfl⟩ | ⟨rfl, rfl⟩ | ⟨rfl, rfl⟩
   · rw [g0]; exact h3 0 _ rfl
   · rw [g1]; exact h3 1 _ rfl
   · rw [g2]; exact h3 2 _ rfl
 · simp only [stB, List.mem_cons, Prod.mk.injEq, List.not_mem_nil, or_false] at hm hm'
   rcases hm with ⟨rfl, rfl⟩ | ⟨rfl, rfl⟩ | ⟨rfl, rfl⟩ <;> rcases hm' with ⟨rfl, rfl⟩ | ⟨rfl, rfl⟩ | ⟨rfl, rfl⟩ <;> first | exact absurd rfl hne | (simp only [g0, g1, g2]; exact h4 _ _ (by decide) (by decide) (by decide))
def aloB (x : To) (a d l : Int) : Bool := decide (fltO x [(a, d, l)] 0 a d l 4 = 0)
def ALp (x : To) (a d : Nat) : Nat → List Nat
 | 0 => []
 | j + 1 => if aloB x a d ((d : Int) + ((twO x a).s1 + j) - 1) = true then ALp x a d j ++ [((d : Int) + ((twO x a).s1 + j) - 1).toNat] else ALp x a d j
def ALO (x : To) (a d : Nat) : List Nat := if a = 0 then [] else ALp x a d ((twO x a).s2 - (twO x a).s1 + 1).toNat
theorem ALp_len (x : To) (a d : Nat) : ∀ j, (ALp x a d j).length ≤ j
 | 0 => Nat.le_refl _
 | j + 1 => by
  have ih := ALp_len x a d j
  simp only [ALp]
  split
  · simp; omega
  · omega
theorem ALp_mem (x : To) (a d : Nat) : ∀ j, ∀ l ∈ ALp x a d j, ∃ i, i < j ∧ l = ((d : Int) + ((twO x a).s1 + i) - 1).toNat ∧ aloB x a d ((d : Int) + ((twO x a).s1 + i) - 1) = true
 | 0, _, h => by cases h
 | j + 1, l, h => by
  simp only [ALp] at h
  split at h
  · rename_i hb
    rcases List.mem_append.1 h with h | h
    · obtain ⟨i, h1, h2⟩ := ALp_mem x a d j l h
      exact ⟨i, by omega, h2⟩
    · rw [List.mem_singleton] at h
      exact ⟨j, by omega, h, hb⟩
  · obtain ⟨i, h1, h2⟩ := ALp_mem x a d j l h
    exact ⟨i, by omega, h2⟩
theorem fstT_zero : ∀ {L : List Bool} {n : Nat}, fstT L n = 0 → ∀ b ∈ L, b = false
 | b :: r, n, h, c, hc => by
  rw [fstT] at h
  split at h
  · omega
  · rename_i hb
    rcases List.mem_cons.1 hc with rfl | hc
    · simpa using hb
    · exact fstT_zero h c hc
theorem apB_le {days : Int} : ∀ {O : List (Int × Int)} {last : Int}, apB days last O = true → ∀ r ∈ O, r.2 ≤ days - 1
 | r :: O, last, h, q, hq => by
  simp only [apB, Bool.and_eq_true, decide_eq_true_eq] at h
  rcases List.mem_cons.1 hq with rfl | hq
  · exact h.1.2.2
  · exact apB_le h.2 q hq
theorem alo_last {x : To} (hn : ToN x) {a : Nat} (h1 : 1 ≤ a) (h2 : a < x.T.length) {d l : Int} (h : aloB x a d l = true) : l ≤ x.days - 1 := by
 unfold aloB fltO at h
 have h4 := fstT_zero (of_decide_eq_true h) (ts4 x a d l) (by simp [tsA])
 simp only [ts4, Bool.not_eq_false', licB, List.any_eq_true, inB, Bool.and_eq_true, decide_eq_true_eq] at h4
 obtain ⟨r, hr, h5⟩ := h4
 obtain ⟨t, ht⟩ : ∃ t, x.T[a]? = some t := ⟨_, List.getElem?_eq_getElem h2⟩
 have htw : twO x a = t := by simp [twO, ht]
 rw [htw] at hr
 have hb := hn.t a h1 t ht
 simp only [twB, Bool.and_eq_true] at hb
 have := apB_le hb.2.1 r hr
 omega
theorem twN_of {x : To} (hn : ToN x) {a : Nat} (h1 : 1 ≤ a) (h2 : a < x.T.length) : TwN (twO x a) := by
 obtain ⟨t, ht⟩ : ∃ t, x.T[a]? = some t := ⟨_, List.getElem?_eq_getElem h2⟩
 have htw : twO x a = t := by simp [twO, ht]
 rw [htw]
 exact TwN.of (hn.t a h1 t ht)
theorem ALO_ok {x : To} (hn : ToN x) : AlOk x (ALO x) := fun a d h1 h2 l hl => by
 have hs := (twN_of hn h1 h2).s
 unfold ALO at hl
 rw [if_neg (by omega)] at hl
 obtain ⟨i, h3, h4, h5⟩ := ALp_mem x a d _ l hl
 have h6 := alo_last hn h1 h2 h5
 omega
theorem ALO_len {x : To} (hn : ToN x) (a d : Nat) : (ALO x a d).length ≤ 10 := by
 unfold ALO
 split
 · simp
 · rename_i h1
   rcases Nat.lt_or_ge a x.T.length with h2 | h2
   · have hs := (twN_of hn (by omega) h2).s
     have := ALp_len x a d ((twO x a).s2 - (twO x a).s1 + 1).toNat
     omega
   · have htw : twO x a = ⟨[], 0, 0, 0, 0, 0, [], 0, 0⟩ := by
      have : x.T[a]? = none := List.getElem?_eq_none h2
      simp [twO, this]
     have := ALp_len x a d ((twO x a).s2 - (twO x a).s1 + 1).toNat
     rw [htw] at this ⊢
     simp only at this ⊢
     omega
end Go.Proofs.Ythfabodamhdhaaa
