/- What SchoolCatches shares with SchoolAdds: rows that are written; what a child has. -/
import Derived.Test.YtpleibfohjbneaaGreatSW
import Derived.Test.YtpleibfohjbneaaGreatT0
namespace Go.Proofs.YtpleibfohjbneaaGreat
open Go Tx Go.RowKit
set_option linter.unusedSimpArgs false
set_option linter.unusedVariables false

theorem hsS_app {CC : List (List Int)} {A B : List (Int × List Int)} {j : Nat} : hsS CC (A ++ B) j = hsS CC A j + hsS CC B j := by simp [hsS]
theorem ckE_cr {N : List Int} {wk : Int} {CC : List (List Int)} {SS : List (Int × List Int)} (h : ckE N wk CC SS = 0) : crOk N wk CC = true ∧ stE N.length CC.length wk SS = 0 := by
  unfold ckE at h
  split at h
  · exact ⟨by assumption, h⟩
  · cases h
theorem stE_all {n m : Nat} {wk : Int} {SS : List (Int × List Int)} (h : stE n m wk SS = 0) : (SS.length : Int) ≤ wk ∧ SS.all (stOk n m) = true := by
  unfold stE at h
  split at h
  · cases h
  split at h
  · exact ⟨by omega, by assumption⟩
  · cases h
theorem stE_of {n m : Nat} {wk : Int} {SS : List (Int × List Int)} (h : (SS.length : Int) ≤ wk) (h' : SS.all (stOk n m) = true) : stE n m wk SS = 0 := by
  unfold stE
  rw [if_neg (by omega), if_pos h']
theorem ckE_of {N : List Int} {wk : Int} {CC : List (List Int)} {SS : List (Int × List Int)} (h : crOk N wk CC = true) (h' : stE N.length CC.length wk SS = 0) : ckE N wk CC SS = 0 := by
  unfold ckE; rw [if_pos h]; exact h'
theorem lenSy (S : List Sy) : (S.flatMap Sy.cs).length = S.length * 2 := by
  induction S with
  | nil => rfl
  | cons a S ih => rw [List.flatMap_cons, List.length_append, ih, List.length_cons]; simp; omega
theorem oneSy (S : List Sy) : ∀ v ∈ S.flatMap Sy.cs, v.oneCell' = true := fun v hv => by
  obtain ⟨s, _, hv⟩ := List.mem_flatMap.1 hv
  simp only [Sy.cs, List.mem_cons, List.not_mem_nil, or_false] at hv
  rcases hv with rfl | rfl <;> rfl
theorem u8_under : Tryz.prog.underlying 5 = some (.int .u8) := by kernel_rfl
theorem under3' : Tryz.prog.underlying 3 = some (.int .i64) := by kernel_rfl
theorem cv8 (n : Int) (h : 0 ≤ n ∧ n ≤ 255) : RunIs Tryz.prog (convert 5 3 (.int .u8 n)) (iv n) := fun w => by
  have h3 : IntKind.i64.wrap n = n := IR.wrap (k := .i64) ⟨by omega, by omega⟩
  simp [convert, Conv.intToInt, Go.run_underlying u8_under w, Go.run_underlying under3' w, h3]
/-- A slice of numbers that lies somewhere. -/
abbrev Lq (n : Nat) (L : List Int) (q : Addr × Nat) (w : World) : Prop := Rd 1 iF (.slice (some q.1) n q.2) L w
abbrev hyH (N : List Int) (CC : List (List Int)) (SS : List (Int × List Int)) (u : (Addr × Nat) × (Addr × Nat)) (w : World) : Prop := Lq N.length (aK CC SS N.length) u.1 w ∧ Lq N.length (bK N CC SS N.length) u.2 w
abbrev hyV (n : Nat) (u : (Addr × Nat) × (Addr × Nat)) : Value := .tuple #[.slice (some u.1.1) n u.1.2, .slice (some u.2.1) n u.2.2, iv 0]
theorem Has_at {N : List Int} {wk : Int} {CC : List (List Int)} {SS : List (Int × List Int)} (hz : SzOk N CC SS) (h0 : ckE N wk CC SS = 0) (h1 : 1 ≤ N.length) (y : (Option Addr × Nat) × Rws CC) (z : SyF SS) (w : World) (h : crH N y w) (h' : z.In w) :
    Calls Tryz.prog 29 #[.agg #[.slice y.1.1 N.length y.1.2, iv wk, .slice y.2.o y.2.C.length y.2.c], .slice z.o z.S.length z.c] w fun e w' => ∃ u : (Addr × Nat) × (Addr × Nat), e = .returned (hyV N.length u) ∧ Below w.heap.size w w' ∧ St w.heap.size (hyH N CC SS u) w' := by
  obtain ⟨⟨n1, n2⟩, c1, c2, C1, hC⟩ := y
  obtain ⟨s1, s2, S1, hS⟩ := z
  have hn := Has_nr (wk := wk) hz n1 n2 c1 c2 C1 hC s1 s2 S1 hS w h h'
  have hl : (aK CC SS N.length).length = N.length := rmap_len ..
  have hl2 : (bK N CC SS N.length).length = N.length := rmap_len ..
  rw [h0, show hasL N wk CC SS = aK CC SS N.length from by unfold hasL; rw [if_pos h0]; rfl, show lefL N wk CC SS = bK N CC SS N.length from by unfold lefL; rw [if_pos h0]; rfl, hl, hl2] at hn
  refine hn.mono fun e w' ⟨⟨⟨u1, u2⟩, u3, u4⟩, e1, e2, e3⟩ => ?_
  have h2 := e3 w' (Keep.refl _ _)
  obtain ⟨_, a1, rfl, _⟩ := h2.1.ptr h1
  obtain ⟨_, a2, rfl, _⟩ := h2.2.ptr h1
  exact ⟨((a1, u2), a2, u4), e1, e2, e3⟩
def hdO : Code → Array Oper | .seq (.region _ o _) _ => o | _ => #[]
/-- Rows of their own that say CC, but for those that have been written. -/
def RwG.At {CC : List (List Int)} (av : Nat → Prop) (y : RwG CC) (C2 : List (List Int)) (w : World) : Prop := (Rd 1 Rw.cs (.slice (some y.o) y.D.length y.c) (y.D.map Ro.rw) w ∧ ∀ (p : Nat) (r : Ro) (xs : List Int), y.D[p]? = some r → C2[p]? = some xs → xs.length = r.xs.length ∧ (⟨r.b, r.c, xs⟩ : Ro).In w) ∧ ((y.D.map Ro.b).Nodup ∧ ∀ r ∈ y.D, ¬ av r.b) ∧ ∀ r ∈ y.D, r.b ≠ y.o.block
theorem RwG.In.at {CC : List (List Int)} {av : Nat → Prop} {y : RwG CC} {w : World} (h : y.In av w) : y.At av CC w := ⟨⟨h.1.1, fun p r xs hr hx => by
    have hh := y.h
    have : (y.D.map Ro.xs)[p]? = some r.xs := by rw [List.getElem?_map, hr]; rfl
    rw [hh, hx, Option.some.injEq] at this
    subst this
    exact ⟨rfl, h.1.2 r (List.mem_of_getElem? hr)⟩⟩, h.2⟩
theorem blk_add (a : Addr) (i : Nat) : (a.add i).block = a.block := by unfold Addr.add; split <;> rfl
theorem rd_set {α : Type} {sz : Nat} {f : α → List Value} {a : Addr} {n c : Nat} {bs : List α} {w : World} (h : Rd sz f (.slice (some a) n c) bs w) {ad : Addr} {v : Value} (hne : a.block ≠ ad.block) : Rd sz f (.slice (some a) n c) bs (w.setCell ad v) := by
  rcases h with ⟨h, _⟩ | ⟨a', c', h1, h2⟩
  · cases h
  · refine .inr ⟨a', c', h1, fun k b hk j u hu => ?_⟩
    simp only [Value.slice.injEq, Option.some.injEq] at h1
    obtain ⟨rfl, _⟩ := h1
    have := h2 k b hk j u hu
    unfold World.cell? at this ⊢
    rw [setCell_other (show ((a.add (k * sz)).add j).block ≠ ad.block from by rw [blk_add, blk_add]; exact hne)]
    exact this
theorem below_set {n : Nat} {w w2 : World} {ad : Addr} {v : Value} (h : Below n w w2) (hn : n ≤ ad.block) : Below n w (w2.setCell ad v) := by
  have h3 : (w2.setCell ad v).heap.size = w2.heap.size := setCell_size
  refine ⟨h.os, h.tape, h.output, by rw [h3]; exact h.size, fun b hb => ?_⟩
  rw [setCell_other (by omega)]
  exact h.block b hb
end Go.Proofs.YtpleibfohjbneaaGreat
