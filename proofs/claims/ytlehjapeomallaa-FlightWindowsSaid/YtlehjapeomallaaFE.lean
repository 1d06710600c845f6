/- The iterator over the ticks at which a catch is sure hands on just these, in their order, and stops when its loop stops. -/
import Derived.Test.YtlehjapeomallaaFD
import Derived.RangeFuncNested
import Derived.RangeFuncBound
import Derived.RangeFuncCalls
import Derived.RangeFuncLeaves
import Derived.Shelf.Abstract
import Derived.Shelf.RegionOpen
import Derived.WalkKit
import Derived.OwnWalkIn
import Derived.TacticsInMore
import Derived.LoopNIn
import Derived.LoopIn
namespace Go.Proofs.Ytlehjapeomallaa
open Go Sx Go.RowKit Go.Shelf
attribute [local go_sem] Oper.semAt_some

def catL (g : Fg) (bs : List Bx) (r : Int) : Nat → List Int
  | 0 => []
  | k + 1 => catL g bs r k ++ (if sureB g bs r k = true then [r + g.le + k] else [])

theorem catL_len (g : Fg) (bs : List Bx) (r : Int) : ∀ k, (catL g bs r k).length ≤ k
  | 0 => Nat.le_refl _
  | k + 1 => by
    have := catL_len g bs r k
    rw [catL, List.length_append]
    split <;> simp <;> omega
theorem catL_le (g : Fg) (bs : List Bx) (r : Int) {k : Nat} : ∀ {m : Nat}, k ≤ m → catL g bs r k <+: catL g bs r m
  | 0, h => by rw [Nat.le_zero.1 h]; exact List.prefix_refl _
  | m + 1, h => by
    rcases Nat.lt_or_ge m k with hk | hk
    · rw [show k = m + 1 from by omega]; exact List.prefix_refl _
    · exact (catL_le g bs r (m := m) hk).trans (by rw [catL]; exact List.prefix_append _ _)
theorem catL_pre (g : Fg) (bs : List Bx) (r : Int) {k m : Nat} (hs : sureB g bs r k = true) (h : k + 1 ≤ m) : catL g bs r k ++ [r + g.le + k] <+: catL g bs r m := by
  have := catL_le g bs r h
  rw [catL, hs] at this
  exact this
theorem below_grown {w w' : World} (h : Below w.heap.size w w') : w.grownBy w' none := ⟨h.os, h.tape, h.output, h.size, fun k hk _ => h.block k hk⟩

set_option maxHeartbeats 1000000 in
theorem cat84_in (F : Fence) (n : Nat) (hF : F = Fence.wide) (l n₀ : Nat) (g : Fg) (bs : List Bx) (x : SeeX) (r : Int) (ca : Nat × Nat) (J Jx : List Int → World → Prop) (hJ : ∀ s W W', J s W → W.grownBy W' none → J s W') (hg : g.ok bs = true) (hr0 : 0 ≤ r ∧ r ≤ 6000)
    (hY : ∀ pre x W, J pre W → pre.length < g.k → YieldAt F (n - 1) Try.prog l #[iv x] W fun e W' =>
      (e = .returned (.bool true) ∧ J (pre ++ [x]) W' ∧ Below n₀ W W') ∨ (e = .returned (.bool false) ∧ Jx (pre ++ [x]) W'))
    (W : World) (hW : ∀ W', Below n₀ W W' → catHx g (x.bv g.k) (x.lv g.k) r ca W' ∧ x.hx g W' ∧ Rd 4 Bx.cs (.slice g.o g.n g.c) bs W') (h0 : J [] W) (hn : n₀ ≤ W.heap.size) :
    CallsIn F n Try.prog 84 #[.func (.yield l) #[] #[], .pointer (some ⟨ca.1, 0, none⟩), .pointer (some ⟨ca.2, 0, none⟩)] W fun e W' => (∃ v, e = .returned v) ∧
      ((∃ ys, ys = catL g bs r g.k ∧ J ys W') ∨ (∃ pre, pre <+: catL g bs r g.k ∧ Jx pre W')) := by
  subst hF
  refine callsIn_of_wp Try.func84 rfl trivial ?_ rfl
  simp only [Try.ntmps84, List.size_toArray, List.length_cons, List.length_nil, Nat.reduceAdd, Nat.reduceSub, Array.replicate_succ, Array.replicate_zero, List.push_toArray, List.append_toArray, List.nil_append, List.cons_append]
  have c15 : ∀ W', Below n₀ W W' → W'.cell? ⟨ca.1, 15, none⟩ = some (x.bv g.k) := fun W' h => cell_of_row W' ca.1 15 _ 123 (0, 0) (hW W' h).1.1
  have hc15 := c15 W (Below.refl _ _)
  gi_wp2
  gi_loopw [8] (fun p wr => ∃ k : Nat, p = iv k ∧ k ≤ g.k ∧ Below n₀ W wr ∧ J (catL g bs r k) wr) (fun p _ => g.k - (intOf p).toNat)
  case atStart => exact ⟨0, rfl, Nat.zero_le _, Below.refl _ _, h0⟩
  case round =>
    obtain ⟨k, rfl, hk, hB, hJk⟩ := hrel
    have hg' := Fg.ok_iff.1 hg
    have hk300 : g.k ≤ 301 := by unfold Fg.k; omega
    have hn0 : n₀ ≤ wr.heap.size := Nat.le_trans hn hB.size
    rcases Nat.lt_or_ge k g.k with hlt | hge
    · obtain ⟨⟨hc1, hc2⟩, hx, hrd⟩ := hW wr hB
      have d0 := cell_of_row wr ca.1 0 _ 123 (0, 0) hc1
      have d1 := cell_of_row wr ca.1 1 _ 123 (0, 0) hc1
      have d2 := cell_of_row wr ca.1 2 _ 123 (0, 0) hc1
      have d3 := cell_of_row wr ca.1 3 _ 123 (0, 0) hc1
      have d4 := cell_of_row wr ca.1 4 _ 123 (0, 0) hc1
      have d5 := cell_of_row wr ca.1 5 _ 123 (0, 0) hc1
      have d6 := cell_of_row wr ca.1 6 _ 123 (0, 0) hc1
      have d7 := cell_of_row wr ca.1 7 _ 123 (0, 0) hc1
      have d8 := cell_of_row wr ca.1 8 _ 123 (0, 0) hc1
      have d9 := cell_of_row wr ca.1 9 _ 123 (0, 0) hc1
      have d10 := cell_of_row wr ca.1 10 _ 123 (0, 0) hc1
      have d11 := cell_of_row wr ca.1 11 _ 123 (0, 0) hc1
      have d12 := cell_of_row wr ca.1 12 _ 123 (0, 0) hc1
      have d13 := cell_of_row wr ca.1 13 _ 123 (0, 0) hc1
      have d14 := cell_of_row wr ca.1 14 _ 123 (0, 0) hc1
      have d15 := cell_of_row wr ca.1 15 _ 123 (0, 0) hc1
      have d16 := cell_of_row wr ca.1 16 _ 123 (0, 0) hc1
      have d20 := cell_of_row wr ca.2 0 _ 3 (0, 0) hc2
      simp only [Fg.scs, List.getElem?_toArray, List.getElem?_cons_zero, List.getElem?_cons_succ] at d0 d1 d2 d3 d4 d5 d6 d7 d8 d9 d10 d11 d12 d13 d14 d15 d16 d20
      cases hs : sureB g bs r k with
      | false =>
        gi_wp2
        refine ⟨trivial, fun h => (by cases h), (callsIn_wide.2 (sure_ok g bs x r k wr hg hrd hx hr0 hlt)).mono ?_⟩
        rw [hs]
        rintro e w3 ⟨rfl, hb3⟩
        gi_wp2
        refine ⟨fun _ h => (by cases h), ?_⟩
        gi_wp2
        go_roundw
        case rel => exact ⟨k + 1, rfl, by omega, hB.trans (hb3.mono hn0), by rw [catL, hs]; simp only [Bool.false_eq_true, if_false, List.append_nil]; exact hJ _ _ _ hJk (below_grown hb3)⟩
        case measure => simp only [intOf]; omega
      | true =>
        gi_wp2
        refine ⟨trivial, fun h => (by cases h), (callsIn_wide.2 (sure_ok g bs x r k wr hg hrd hx hr0 hlt)).mono ?_⟩
        rw [hs]
        rintro e w3 ⟨rfl, hb3⟩
        have hB3 : Below n₀ W w3 := hB.trans (hb3.mono hn0)
        obtain ⟨⟨hc31, hc32⟩, _, _⟩ := hW w3 hB3
        have d313 := cell_of_row w3 ca.1 13 _ 123 (0, 0) hc31
        have d320 := cell_of_row w3 ca.2 0 _ 3 (0, 0) hc32
        simp only [Fg.scs, List.getElem?_toArray, List.getElem?_cons_zero, List.getElem?_cons_succ] at d313 d320
        have hJ3 : J (catL g bs r k) w3 := hJ _ _ _ hJk (below_grown hb3)
        obtain ⟨fn, tmps, assign, body, hy, hR⟩ := hY (catL g bs r k) (r + g.le + k) w3 hJ3 (Nat.lt_of_le_of_lt (catL_len g bs r k) hlt)
        gi_wp2
        refine ⟨fun h => (by cases h), hR.mono ?_⟩
        rintro e W4 (⟨rfl, hJ4, hk4⟩ | ⟨rfl, hJx4⟩)
        · gi_wp2
          go_roundw
          case rel => exact ⟨k + 1, rfl, by omega, hB3.trans hk4, by rw [catL, hs]; exact hJ4⟩
          case measure => simp only [intOf]; omega
        · gi_wp2
          refine bodyPost_ret (results_none rfl _ _ _) rfl ?_
          exact ⟨⟨_, rfl⟩, .inr ⟨_, catL_pre g bs r hs (by omega), hJx4⟩⟩
    · have hkg : k = g.k := by omega
      subst hkg
      gi_wp2
      go_end0
      exact ⟨⟨_, rfl⟩, .inl ⟨_, rfl, hJk⟩⟩
end Go.Proofs.Ytlehjapeomallaa
