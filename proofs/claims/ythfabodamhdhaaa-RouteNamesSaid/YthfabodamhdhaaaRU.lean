/- Best: what it returns. -/
import Derived.Test.YthfabodamhdhaaaRT
namespace Go.Proofs.Ythfabodamhdhaaa
open Go Tx Go.RowKit
set_option linter.unusedSimpArgs false
set_option linter.unusedVariables false
section
variable (x : Tr) (AL : Nat → Nat → List Nat) (aa : Alp) (an ac b1 b2 : Nat)
abbrev MB1 : List (Nat × Blk) := [(5, .obj b1 (MpOk Try.prog 118 (stD (hmO x.d AL)))), (6, .obj b2 (MpOk Try.prog 118 (stD (bgO x.d AL)))), (1, .cells [.ptr 3 0] 114), (2, .cells [.v (.map (some b1))] 169),
 (3, .cells [.v (iv x.days), .v (iv x.shift), .v (iv x.size), .v (.slice x.to x.T.length x.tc), .v (.slice x.lo x.L.length x.lc), .v (.slice (some aa.aa) an ac), .fn (.func 97) [.ptr 2 0, .ptr 1 0], .fn (.func 100) [.ptr 1 0, .ptr 4 0]] 122), (4, .cells [.v (.map (some b2))] 169)]
end
section
variable {x : Tr} {AL : Nat → Nat → List Nat} {aa : Alp} {an ac b1 b2 : Nat}
theorem six1 {p : Nat → Prop} (h1 : p 1) (h2 : p 2) (h3 : p 3) (h4 : p 4) (h5 : p 5) (h6 : p 6) : ∀ i, i < 6 → p (i + 1) := fun i hi => by
 rcases (by omega : i = 0 ∨ i = 1 ∨ i = 2 ∨ i = 3 ∨ i = 4 ∨ i = 5) with rfl | rfl | rfl | rfl | rfl | rfl <;> assumption
theorem lk6 {m m' : List (Nat × Blk)} (h1 : lk m 1 = lk m' 1) (h2 : lk m 2 = lk m' 2) (h3 : lk m 3 = lk m' 3) (h4 : lk m 4 = lk m' 4) (h5 : lk m 5 = lk m' 5) (h6 : lk m 6 = lk m' 6) : ∀ i, i < 6 → lk m (i + 1) = lk m' (i + 1) := six1 (p := fun i => lk m i = lk m' i) h1 h2 h3 h4 h5 h6
theorem MB1_shift {β : Nat → Nat} {w : World} {b : Nat} : ∀ i bk, lk (MB x AL aa an ac b1 b2) i = some bk → ∃ bk1, lk (MB1 x AL aa an ac b1 b2) (i + 1) = some bk1 ∧ (bk1.ok β w b → bk.ok (fun i => β (i + 1)) w b) ∧ (bk.ok (fun i => β (i + 1)) w b → bk1.ok β w b) ∧ bk1.live = true := fun i bk hi => by
 have hm := lk_mem hi
 simp only [MB, List.mem_cons, Prod.mk.injEq, List.not_mem_nil, or_false] at hm
 rcases hm with ⟨rfl, rfl⟩ | ⟨rfl, rfl⟩ | ⟨rfl, rfl⟩ | ⟨rfl, rfl⟩ | ⟨rfl, rfl⟩ | ⟨rfl, rfl⟩ <;> exact ⟨_, rfl, id, id, rfl⟩
theorem PS.of1 {σ : Sg} {β : Nat → Nat} {w : World} (hm : ∀ i, i < 6 → lk σ.m (i + 1) = lk (MB1 x AL aa an ac b1 b2) (i + 1)) (h1 : ∀ i ∈ [1, 2, 3, 4, 5, 6], ∀ b, lk σ.m i = some b → b.ok β w (β i))
 (h2 : ∀ i ∈ [1, 2, 3, 4, 5, 6], ∀ j ∈ [1, 2, 3, 4, 5, 6], ∀ bi bj, lk σ.m i = some bi → lk σ.m j = some bj → bi.live = true → bj.live = true → i ≠ j → β i ≠ β j) : PS x AL aa an ac b1 b2 (fun i => β (i + 1)) w := by
 have hmem : ∀ i, i < 6 → i + 1 ∈ [1, 2, 3, 4, 5, 6] := fun i hi => by simp; omega
 refine ⟨fun i b hi => ?_, fun i j hi hj hne => ?_⟩
 · obtain ⟨b', e1, e2, _, _⟩ := MB1_shift (β := β) (w := w) (b := β (i + 1)) i b hi
   exact e2 (h1 (i + 1) (hmem i (lkMB hi).1) b' (by rw [hm i (lkMB hi).1]; exact e1))
 · obtain ⟨bi, ei⟩ := MB_some (x := x) (AL := AL) (aa := aa) (an := an) (ac := ac) (b1 := b1) (b2 := b2) hi
   obtain ⟨bj, ej⟩ := MB_some (x := x) (AL := AL) (aa := aa) (an := an) (ac := ac) (b1 := b1) (b2 := b2) hj
   obtain ⟨bi', e1, _, _, l1⟩ := MB1_shift (β := β) (w := w) (b := 0) i bi ei
   obtain ⟨bj', f1, _, _, l2⟩ := MB1_shift (β := β) (w := w) (b := 0) j bj ej
   exact h2 (i + 1) (hmem i hi) (j + 1) (hmem j hj) bi' bj' (by rw [hm i hi]; exact e1) (by rw [hm j hj]; exact f1) l1 l2 (by omega)
theorem PS.chg1 {β : Nat → Nat} {w w' : World} (h : PS x AL aa an ac b1 b2 (fun i => β (i + 1)) w) (hc : Chg (fun b => b = b1 ∨ b = b2) w w') : Chg (fun b => ∃ i bk, (i, bk) ∈ [(5, Blk.obj b1 (MpOk Try.prog 118 (stD (hmO x.d AL)))), (6, Blk.obj b2 (MpOk Try.prog 118 (stD (bgO x.d AL))))] ∧ β i = b) w w' :=
 ⟨hc.os, hc.tape, hc.output, hc.size, fun b hb hn => hc.same b hb fun h2 => hn (by
  rcases h2 with rfl | rfl
  · exact ⟨5, _, List.mem_cons_self .., (h.o 4 _ rfl).1⟩
  · exact ⟨6, _, List.mem_cons_of_mem _ (List.mem_cons_self ..), (h.o 5 _ rfl).1⟩)⟩
theorem PS.out1 {β : Nat → Nat} {w : World} (h : PS x AL aa an ac b1 b2 (fun i => β (i + 1)) w) : ∀ i b, (i, b) ∈ [(5, Blk.obj b1 (MpOk Try.prog 118 (stD (hmO x.d AL)))), (6, Blk.obj b2 (MpOk Try.prog 118 (stD (bgO x.d AL))))] → b.ok β w (β i) := fun i b hm => by
 simp only [List.mem_cons, Prod.mk.injEq, List.not_mem_nil, or_false] at hm
 rcases hm with ⟨rfl, rfl⟩ | ⟨rfl, rfl⟩
 · exact h.o 4 _ rfl
 · exact h.o 5 _ rfl
theorem chg_six1 {σ : Sg} {β : Nat → Nat} {w w' : World} (hm : ∀ i, i < 6 → lk σ.m (i + 1) = lk (MB1 x AL aa an ac b1 b2) (i + 1)) (hc : Chg (fun b => ∃ i, i < 6 ∧ β (i + 1) = b) w w') : Chg (fun b => ∃ i ∈ [1, 2, 3, 4, 5, 6], (∃ bk, lk σ.m i = some bk ∧ bk.live = true) ∧ β i = b) w w' :=
 ⟨hc.os, hc.tape, hc.output, hc.size, fun b hb hn => hc.same b hb fun ⟨i, hi, hib⟩ => hn (by
  obtain ⟨bi, ei⟩ := MB_some (x := x) (AL := AL) (aa := aa) (an := an) (ac := ac) (b1 := b1) (b2 := b2) hi
  obtain ⟨bi', e1, _, _, l1⟩ := MB1_shift (β := β) (w := w) (b := 0) i bi ei
  exact ⟨i + 1, by simp; omega, ⟨bi', by rw [hm i hi]; exact e1, l1⟩, hib⟩)⟩
end
theorem plan_F (x : Tr) (w : World) (h : TrIn x w) (hn : ToN x.d) (β : Nat → Nat) : Calls Try.prog 57 #[x.v] w fun e w' => ∃ (p : Alp × Nat × Nat × Nat × Nat) (γ : Nat → Nat), e = .returned ((SV.ptr 3 0).c γ) ∧ (∀ i, i < 1 → γ i = β i) ∧ Below w.heap.size w w' ∧
 (∀ i b, lk (MB1 x (ALO x.d) p.1 p.2.1 p.2.2.1 p.2.2.2.1 p.2.2.2.2) i = some b → w.heap.size ≤ γ i ∧ b.ok γ w' (γ i)) ∧
 (∀ i j bi bj, lk (MB1 x (ALO x.d) p.1 p.2.1 p.2.2.1 p.2.2.2.1 p.2.2.2.2) i = some bi → lk (MB1 x (ALO x.d) p.1 p.2.1 p.2.2.1 p.2.2.2.1 p.2.2.2.2) j = some bj → i ≠ j → γ i ≠ γ j) ∧
 ∀ w2, w'.heap.size ≤ w2.heap.size → (∀ c, w.heap.size ≤ c → c < w'.heap.size → (∀ i b, lk (MB1 x (ALO x.d) p.1 p.2.1 p.2.2.1 p.2.2.2.1 p.2.2.2.2) i = some b → γ i ≠ c) → w2.heap[c]? = w'.heap[c]?) → p.2.1 = x.T.length ∧ AlIn x.d (ALO x.d) p.1 w2 := by
 refine (plan_ok x w h hn).mono fun e w' ⟨aa, an, ac, b1, b2, δ, h1, h2, h3, h4, h5, h6⟩ => ?_
 let γ : Nat → Nat := fun i => match i with | 0 => β 0 | i + 1 => δ i
 have hlk : ∀ i b, lk (MB1 x (ALO x.d) aa an ac b1 b2) i = some b → 1 ≤ i ∧ i - 1 < 6 ∧ i - 1 + 1 = i := fun i b hi => by
  have hm := lk_mem hi
  simp only [MB1, List.mem_cons, Prod.mk.injEq, List.not_mem_nil, or_false] at hm
  omega
 have hγ : ∀ i, γ (i + 1) = δ i := fun _ => rfl
 refine ⟨(aa, an, ac, b1, b2), γ, h1, fun i hi => ?_, h3, fun i b hi => ?_, fun i j bi bj hi hj hne => ?_, fun w2 hs hk => ⟨h2, h6 w2 hs fun c c1 c2 c3 => hk c c1 c2 fun i b hi => ?_⟩⟩
 · obtain rfl : i = 0 := by omega
   rfl
 · obtain ⟨q1, q2, q3⟩ := hlk i b hi
   refine ⟨by rw [← q3, hγ]; exact h5 _ q2, ?_⟩
   have hm := lk_mem hi
   simp only [MB1, List.mem_cons, Prod.mk.injEq, List.not_mem_nil, or_false] at hm
   rcases hm with ⟨rfl, rfl⟩ | ⟨rfl, rfl⟩ | ⟨rfl, rfl⟩ | ⟨rfl, rfl⟩ | ⟨rfl, rfl⟩ | ⟨rfl, rfl⟩
   · exact h4.o 4 _ rfl
   · exact h4.o 5 _ rfl
   · exact h4.o 0 _ rfl
   · exact h4.o 1 _ rfl
   · exact h4.o 2 _ rfl
   · exact h4.o 3 _ rfl
 · obtain ⟨q1, q2, q3⟩ := hlk i bi hi
   obtain ⟨r1, r2, r3⟩ := hlk j bj hj
   rw [← q3, ← r3, hγ, hγ]
   exact h4.inj _ _ q2 r2 (by omega)
 · obtain ⟨q1, q2, q3⟩ := hlk i b hi
   rw [← q3, hγ]
   exact c3 _ q2
end Go.Proofs.Ythfabodamhdhaaa
