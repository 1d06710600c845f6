/- Collecting the ticks at which a catch is sure: a slice of its own that holds them. -/
import Derived.Test.YtlehjapeomallaaFE
import Derived.RangeFuncBox
import Derived.Maps.AppendAt
namespace Go.Proofs.Ytlehjapeomallaa
open Go Sx Go.RowKit Go.Shelf
attribute [local go_sem] Oper.semAt_some

theorem info3 : (Try.prog.info? 3).map (fun i => (i.zero, i.size, i.bytes)) = some (some (.int .i64 0), 1, 8) := by kernel_rfl
theorem under43 : Try.prog.underlying 43 = some (.slice 3) := by kernel_rfl

/-- What the iterator's reads want: they lie below n₀. -/
def IterAt (n₀ : Nat) (g : Fg) (bs : List Bx) (x : SeeX) (r : Int) (ca : Nat × Nat) (w : World) : Prop :=
  ∀ W', Below n₀ w W' → catHx g (x.bv g.k) (x.lv g.k) r ca W' ∧ x.hx g W' ∧ Rd 4 Bx.cs (.slice g.o g.n g.c) bs W'
theorem IterAt.below {n₀ : Nat} {g : Fg} {bs : List Bx} {x : SeeX} {r : Int} {ca : Nat × Nat} {w w' : World} (h : IterAt n₀ g bs x r ca w) (hb : Below n₀ w w') : IterAt n₀ g bs x r ca w' :=
  fun W hW => h W (hb.trans hW)

theorem cat84_stops (n n₀ : Nat) (g : Fg) (bs : List Bx) (x : SeeX) (r : Int) (ca : Nat × Nat) (hg : g.ok bs = true) (hr0 : 0 ≤ r ∧ r ≤ 6000) (w : World) (hn : n₀ ≤ w.heap.size) (hi : IterAt n₀ g bs x r ca w) :
    SeqStopsK Fence.wide n Try.prog 84 #[.pointer (some ⟨ca.1, 0, none⟩), .pointer (some ⟨ca.2, 0, none⟩)] (fun t : Int => #[Value.int .i64 t]) (Below n₀) (fun ys => ys = catL g bs r g.k) (fun pre => pre <+: catL g bs r g.k) g.k w := fun l J Jx W hW hJ _ hY h0 =>
  cat84_in Fence.wide n rfl l n₀ g bs x r ca J Jx (fun s A B hs hgr => hJ s A B none hs hgr (fun r e => by cases e)) hg hr0 hY W (hi.below (hW.mono hn)) h0 (Nat.le_trans hn hW.size)

set_option maxRecDepth 100000 in
set_option maxHeartbeats 2000000 in
theorem append83_ok (g : Fg) (bs : List Bx) (x : SeeX) (r : Int) (ca : Nat × Nat) (hg : g.ok bs = true) (hr0 : 0 ≤ r ∧ r ≤ 6000) (w : World) (hit : IterAt w.heap.size g bs x r ca w) :
    Calls Try.prog 83 #[.slice none 0 0, catV ca] w fun e W' => ∃ v, e = .returned v ∧ W'.ownsRow w.heap.size 3 1 v (catL g bs r g.k).length ((catL g bs r g.k).map (Value.int .i64)) ∧ Below w.heap.size w W' := by
  refine callsIn_wide.1 (?_ : CallsIn Fence.wide 5 Try.prog 83 _ w _)
  obtain ⟨i0, hi, hz0, hz1, hz2⟩ := info_parts info3
  have hk300 : g.k ≤ 301 := by have := Fg.ok_iff.1 hg; unfold Fg.k; omega
  refine callsIn_of_wp_marks Try.func83 rfl trivial ?_ rfl
  simp only [Try.ntmps83, List.size_toArray, List.length_cons, List.length_nil, Nat.reduceAdd, Nat.reduceSub, Array.replicate_succ, Array.replicate_zero, List.push_toArray, List.append_toArray, List.nil_append, List.cons_append]
  gi_wp2
  have bO := Boxed.new w 43 (.slice none 0 0)
  have hB0 : Below w.heap.size w (w.alloc (.cells #[.slice none 0 0] 43)) := (Below.refl _ w).alloc (Nat.le_refl _) _
  refine wpIn_rangeFunc_ownG (n := 5) rfl (by decide) (gf := 84) (lb := #[.pointer (some ⟨ca.1, 0, none⟩), .pointer (some ⟨ca.2, 0, none⟩)]) rfl trivial (enters_of Try.func84 (by kernel_rfl) rfl)
    (cat84_stops 4 w.heap.size g bs x r ca hg hr0 _ (by simp) (hit.below hB0)) belowK_t (belowK_b (by simp)) (Below.refl _ _) (fun _ => rfl)
    (fun pre W => (∃ v, Boxed W w.heap.size 43 v ∧ W.ownsRow w.heap.size 3 1 v pre.length (pre.map (Value.int .i64)) ∧ True) ∧ Below w.heap.size w W)
    (fun _ _ _ => False)
    (OwnFrom.and (Own.from (holdsRow_own w.heap.size w.heap.size 43 3 1 (fun pre : List Int => pre.length) (fun pre => pre.map (Value.int .i64)) (fun _ _ => True)) _) (ownFrom_below (Nat.le_refl _) (by simp)))
    (fun _ _ _ _ _ hs _ _ => hs)
    ⟨⟨_, bO, World.ownsRow_nil _ _ _ _, trivial⟩, hB0⟩
    (fun y => { tmps := #[.slice none 0 0, catV ca, .pointer (some ⟨w.heap.size, 0, none⟩), undef, .slice none 0 0, .int .i64 y, catV ca, .int .i64 y, undef, undef, undef, undef, undef], defers := [] }) ?assign ?body ?done ?stop
  case assign =>
    intro l x W K hK
    gi_wp2
    exact hK
  case body =>
    rintro l pre y W ⟨⟨v, hv, hrow, -⟩, hB⟩ hlt
    have hc := hv.cell
    gi_wp2_with (gi_at_builtin; refine wpListIn_append_own _ rfl _ _ 43 rfl w.heap.size 3 i0 (.int .i64 0) 1 8 under43 hi hz0 hz1 hz2 rfl (by decide) _ _ _ rfl (hrow.alloc _) ⟨W.heap.size, 0, none⟩ 1 1 [.int .i64 y] rfl rfl (cell_one_new _ _ _) (by simp [Value.oneCell']) (by simp only [maxLen]; omega) (by omega) (by have := hB.size; simp; omega) ?_; intro v' w1 hown' hgrow _; obtain ⟨g', cap', rfl⟩ := ownsRow_succ hown'; obtain ⟨hv1, hv2, hr2, hk2, hb2⟩ := hv.appended (by decide) hrow hB.size (Nat.le_refl _) hown' hgrow; have hc1 := hv1.cell; have hf1 := hv1.frozen)
    exact ⟨hk2.from _, hb2, ⟨_, hv2, by simpa using hr2, trivial⟩, hB.trans hb2⟩
  case done =>
    rintro D ys W hD rfl ⟨⟨v, hv, hrow, -⟩, hB⟩ hK
    have hc := hv.cell
    gi_wp2
    refine ⟨by simp, .inl ⟨_, _, rfl, run_takeDeferred hK, ?_⟩⟩
    exact ⟨_, results_tmp rfl _ _ _, v, rfl, ownsRow_putObj hrow _ hK rfl, hB.trans (belowK_b (w := w) (Nat.le_refl _) W D _ _ (by simp at hD; omega) hK rfl rfl)⟩
  case stop =>
    rintro D c pre W _ _ h _
    exact h.elim
end Go.Proofs.Ytlehjapeomallaa
