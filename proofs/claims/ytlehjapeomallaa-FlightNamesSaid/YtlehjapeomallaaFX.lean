/- Whether a release is good: whether there is a tick at which a catch is sure. -/
import Derived.Test.YtlehjapeomallaaFG
import Derived.RangeFuncBox
import Derived.Maps.AppendAt
namespace Go.Proofs.Ytlehjapeomallaa
open Go Sx Go.RowKit Go.Shelf
attribute [local go_sem] Oper.semAt_some

theorem zip8 (v : Value) : (#[8].zip #[v] : Array (Nat × Value)) = #[(8, v)] := by
  apply Array.ext'
  simp
theorem results76_of {tmps : Array Value} {W : World} {B : Nat} {v : Value} (hp : tmps.getD 4 undef = .pointer (some ⟨B, 0, none⟩)) (hb : Boxed W B 4 v) : (results Try.f76 tmps).run Try.prog W = .ok v W := by
  have h0 : Try.f76.results = #[.cell 4 4] := by kernel_rfl
  have e3 := run_loadVar_cells (P := Try.prog) tok4 (β := fun _ => 0) (w := W) (ad := ⟨B, 0, none⟩) (l := [.v v]) (s := .v v) rfl (fun j u hu => by
    match j, hu with
    | 0, hu => cases hu; exact hb.cell) (.inr ⟨rfl, rfl⟩)
  simp only [results, h0]
  simp only [List.size_toArray, List.length_cons, List.length_nil, Array.mapM_eq_mapM_toList, List.mapM_cons, List.mapM_nil, Sem.run_bind, Sem.run_map, hp, asAddr, Sem.run_pure, Result.andThen_ok, e3]
  rfl

set_option maxRecDepth 100000 in
set_option maxHeartbeats 2000000 in
theorem good_ok (g : Fg) (bs : List Bx) (x : SeeX) (r : Int) (hg : g.ok bs = true) (hr0 : 0 ≤ r ∧ r ≤ 6000) (w : World) (hx : x.hx g w) (hrd : Rd 4 Bx.cs (.slice g.o g.n g.c) bs w) :
    Calls Try.prog 76 #[g.sv (x.bv g.k) (x.lv g.k), iv r] w fun e W' => e = .returned (.bool (decide (catL g bs r g.k ≠ []))) ∧ Below w.heap.size w W' := by
  refine callsIn_wide.1 (?_ : CallsIn Fence.wide 5 Try.prog 76 _ w _)
  refine callsIn_of_wp_marks Try.func76 rfl trivial ?_ rfl
  simp only [Try.ntmps76, List.size_toArray, List.length_cons, List.length_nil, Nat.reduceAdd, Nat.reduceSub, Array.replicate_succ, Array.replicate_zero, List.push_toArray, List.append_toArray, List.nil_append, List.cons_append]
  dsimp only [Fg.sv, SeeX.bv, SeeX.lv]
  gi_wp2
  refine ⟨trivial, (callsIn_wide.2 (catches_ok g x g.k r _)).mono ?_⟩
  rintro e w1 ⟨ca, rfl, hb1, hst1⟩
  have hB1 : Below w.heap.size w w1 := by
    refine Below.trans ?_ (hb1.mono (by simp; omega))
    exact ((Below.refl _ w).alloc (Nat.le_refl _) _).alloc (by simp) _
  have hbx : Boxed w1 (w.heap.size + 1) 4 (.bool false) := by
    refine (hb1.block _ (by simp)).trans ?_
    have := World.alloc_heap_new (w.alloc (.cells #[iv g.f.a.x.lo, iv g.f.a.x.hi, iv g.f.a.z.lo, iv g.f.a.z.hi, iv g.f.s.x.lo, iv g.f.s.x.hi, iv g.f.s.z.lo, iv g.f.s.z.hi, iv g.f.m, .slice g.o g.n g.c, iv g.re, iv g.so, iv g.be, iv g.le, iv g.mo, .slice (some ⟨x.b, 0, none⟩) g.k x.bc, .slice (some ⟨x.l, 0, none⟩) g.k x.lc] 123)) (.cells #[.bool false] 4)
    rw [World.size_alloc] at this
    exact this
  have hit : IterAt w1.heap.size g bs x r ca w1 := IterAt.of hst1.now ⟨hx.1.below hB1, hx.2.below hB1⟩ (hrd.below hB1)
  gi_wp2
  refine wpIn_rangeFunc_ownG (n := 5) rfl (by decide) (gf := 84) (lb := #[.pointer (some ⟨ca.1, 0, none⟩), .pointer (some ⟨ca.2, 0, none⟩)]) rfl trivial (enters_of Try.func84 (by kernel_rfl) rfl)
    (cat84_stops 4 w1.heap.size g bs x r ca hg hr0 _ (Nat.le_refl _) hit) belowK_t (belowK_b (Nat.le_refl _)) (Below.refl _ _) (fun _ => rfl)
    (fun pre W => pre = [] ∧ Boxed W (w.heap.size + 1) 4 (.bool false) ∧ Below w.heap.size w W)
    (fun c pre W => (c = .ret ∧ pre ≠ []) ∧ Boxed W (w.heap.size + 1) 4 (.bool true) ∧ Below w.heap.size w W)
    (OwnFrom.and (ownFrom_pure _ _) (OwnFrom.and (Own.from (boxed_own _ _ _) _) (ownFrom_below (Nat.le_refl _) hB1.size)))
    (fun c => OwnFrom.and (ownFrom_pure _ _) (OwnFrom.and (Own.from (boxed_own _ _ _) _) (ownFrom_below (Nat.le_refl _) hB1.size)))
    ⟨rfl, hbx, hB1⟩
    (fun y => { tmps := #[.agg #[iv g.f.a.x.lo, iv g.f.a.x.hi, iv g.f.a.z.lo, iv g.f.a.z.hi, iv g.f.s.x.lo, iv g.f.s.x.hi, iv g.f.s.z.lo, iv g.f.s.z.hi, iv g.f.m, .slice g.o g.n g.c, iv g.re, iv g.so, iv g.be, iv g.le, iv g.mo, .slice (some ⟨x.b, 0, none⟩) g.k x.bc, .slice (some ⟨x.l, 0, none⟩) g.k x.lc], iv r, .pointer (some ⟨w.heap.size, 0, none⟩), undef, .pointer (some ⟨w.heap.size + 1, 0, none⟩), .agg #[iv g.f.a.x.lo, iv g.f.a.x.hi, iv g.f.a.z.lo, iv g.f.a.z.hi, iv g.f.s.x.lo, iv g.f.s.x.hi, iv g.f.s.z.lo, iv g.f.s.z.hi, iv g.f.m, .slice g.o g.n g.c, iv g.re, iv g.so, iv g.be, iv g.le, iv g.mo, .slice (some ⟨x.b, 0, none⟩) g.k x.bc, .slice (some ⟨x.l, 0, none⟩) g.k x.lc], iv r, catV ca, iv y], defers := [] }) ?assign ?body ?done ?stop
  case assign =>
    intro l y W K hK
    gi_wp2
    rw [zip8]
    exact hK
  case body =>
    rintro l pre y W ⟨rfl, hv, hB⟩ hlt
    have hc := hv.cell
    have hf := hv.frozen
    gi_wp2
    exact ⟨(KeepsOthers.setCell _ _ _).from _, ⟨rfl, by simp⟩, hv.set _, hB.setCell (p := ⟨w.heap.size + 1, 0, none⟩) (by simp) _⟩
  case done =>
    rintro D ys W hD rfl ⟨hnil, hv, hB⟩ hK
    have hc := hv.cell
    have hf := hv.frozen
    gi_wp2
    refine ⟨by simp, .inl ⟨_, _, rfl, run_takeDeferred ((KeepsOthers.setCell _ _ _).same D _ hK rfl), ?_⟩⟩
    have hv2 : Boxed (W.setCell ⟨w.heap.size + 1, 0, none⟩ (.bool false)) (w.heap.size + 1) 4 (.bool false) := hv.set _
    have hB2 : Below w.heap.size w (W.setCell ⟨w.heap.size + 1, 0, none⟩ (.bool false)) := hB.setCell (p := ⟨w.heap.size + 1, 0, none⟩) (by simp) _
    have hK2 := (KeepsOthers.setCell W ⟨w.heap.size + 1, 0, none⟩ (.bool false)).same D _ hK rfl
    refine ⟨_, results76_of rfl ((Own.from (boxed_own (w.heap.size + 1) 4 (fun _ : Unit => .bool false)) w1.heap.size).putObj _ (s := ()) hv2 hD hK2 rfl), ?_, ?_⟩
    · rw [hnil]; rfl
    · exact hB2.trans (belowK_b (w := w) (Nat.le_refl _) _ D _ _ (by have := hB1.size; omega) hK2 rfl rfl)
  case stop =>
    rintro D c pre W hD hpre ⟨⟨rfl, hne⟩, hv, hB⟩ hK
    have hc := hv.cell
    gi_wp2
    refine ⟨by simp, .inl ⟨_, _, rfl, run_takeDeferred hK, ?_⟩⟩
    refine ⟨_, results76_of rfl ((Own.from (boxed_own (w.heap.size + 1) 4 (fun _ : Unit => .bool true)) w1.heap.size).putObj _ (s := ()) hv hD hK rfl), ?_, ?_⟩
    · have : catL g bs r g.k ≠ [] := fun h => by rw [h] at hpre; exact hne (List.prefix_nil.1 hpre)
      rw [decide_eq_true this]
    · exact hB.trans (belowK_b (w := w) (Nat.le_refl _) _ D _ _ (by have := hB1.size; omega) hK rfl rfl)
end Go.Proofs.Ytlehjapeomallaa
