/- slices.Delete on a row of one's own: what it returns, and what the row holds behind it. -/
import Derived.Test.YthfabodamhdhaaaRR
import Derived.Test.YthfabodamhdhaaaEX
import Derived.Laws.AppendOwn
import Derived.Deep.RegionLaw
import Derived.Lib.SliceRun
import Derived.Shelf.RegionOpenPlain
import Derived.WalkKit
import Derived.Lib.Walk
namespace Go.Proofs.Ythfabodamhdhaaa
open Go Tx Go.RowKit Go.Lib
set_option linter.unusedSimpArgs false
set_option linter.unusedVariables false
def dlC (cur : List Value) (n k : Nat) : List Value :=
 ((cur.take (k * 3) ++ (cur.drop ((k + 1) * 3)).take ((n - (k + 1)) * 3) ++ cur.drop (k * 3 + (n - (k + 1)) * 3)).take ((n - 1) * 3) ++ [iv 0, iv 0, iv 0] ++ (cur.take (k * 3) ++ (cur.drop ((k + 1) * 3)).take ((n - (k + 1)) * 3) ++ cur.drop (k * 3 + (n - (k + 1)) * 3)).drop ((n - 1) * 3 + 3))
theorem dlC_len {cur : List Value} {n k : Nat} (hk : k < n) (hn : n * 3 ≤ cur.length) : (dlC cur n k).length = cur.length := by
 unfold dlC
 simp only [List.length_append, List.length_take, List.length_drop, List.length_cons, List.length_nil]
 omega
theorem dlC_take {cur : List Value} {n k : Nat} (hk : k < n) (hn : n * 3 ≤ cur.length) : (dlC cur n k).take ((n - 1) * 3) = (cur.take (n * 3)).take (k * 3) ++ (cur.take (n * 3)).drop ((k + 1) * 3) := by
 have h1 : (cur.take (k * 3) ++ (cur.drop ((k + 1) * 3)).take ((n - (k + 1)) * 3)).length = (n - 1) * 3 := by
  simp only [List.length_append, List.length_take, List.length_drop]
  omega
 unfold dlC
 rw [List.append_assoc, List.take_append_of_le_length (by rw [List.length_take, List.length_append, h1]; simp only [List.length_drop]; omega), List.take_take, Nat.min_self, List.take_append_of_le_length (by omega), List.take_of_length_le (by omega)]
 congr 1
 · rw [List.take_take, Nat.min_eq_left (by omega)]
 · rw [List.drop_take]
   congr 1
   omega
set_option maxHeartbeats 4000000 in
set_option maxRecDepth 1000000 in
theorem Delete_raw (blk n cap k : Nat) (cur : Array Value) (w : World) (hw : w.heap[blk]? = some (.cells cur 96 (0, 0))) (hk : k < n) (hn : n ≤ cap) (hc : cap * 3 = cur.size) (hone : ∀ v ∈ cur.toList.take (n * 3), v.oneCell' = true) :
 Calls Try.prog 81 #[.slice (some ⟨blk, 0, none⟩) n cap, .int .i64 k, .int .i64 ((k + 1 : Nat) : Int)] w fun e w' => e = .returned (.slice (some ⟨blk, 0, none⟩) (n - 1) cap) ∧ w'.os = w.os ∧ w'.tape = w.tape ∧ w'.output = w.output ∧ w'.heap.size = w.heap.size ∧ (∀ b, b ≠ blk → w'.heap[b]? = w.heap[b]?) ∧ w'.heap[blk]? = some (.cells (dlC cur.toList n k).toArray 96 (0, 0)) := by
 obtain ⟨news, hnews⟩ : ∃ news, news = (cur.toList.drop ((k + 1) * 3)).take ((n - (k + 1)) * 3) := ⟨_, rfl⟩
 have hlen : news.length = (n - (k + 1)) * 3 := by rw [hnews, List.length_take, List.length_drop, Array.length_toList]; omega
 have hw1 : w.drew.heap[blk]? = some (.cells cur 96 (0, 0)) := hw
 have s2 : ∀ u ∈ news, u.oneCell' = true := by
  intro u hu
  have hx : (cur.toList.drop ((k + 1) * 3)).take ((n - (k + 1)) * 3) = (cur.toList.take (n * 3)).drop ((k + 1) * 3) := by
   rw [List.drop_take]; congr 1; omega
  rw [hnews, hx] at hu
  exact hone u (List.mem_of_mem_drop hu)
 obtain ⟨A, hA, hsrc⟩ : ∃ A : Addr, (if cap = k + 1 then (some (⟨blk, 0, none⟩ : Addr)) else some ⟨blk, (k + 1) * 3, none⟩) = some A ∧ (loadCellsFrom A 0 ((n - (k + 1)) * 3) #[]).run Try.prog w.drew = .ok news.toArray w.drew := by
  have key : ∀ A : Addr, (∀ t u, news[t]? = some u → w.drew.cell? (A.add t) = some u) → (loadCellsFrom A 0 ((n - (k + 1)) * 3) #[]).run Try.prog w.drew = .ok news.toArray w.drew := fun A h => by
   rw [← hlen]
   exact run_loadCells_list w.drew A news h
  by_cases h : cap = k + 1
  · refine ⟨⟨blk, 0, none⟩, by rw [if_pos h], key _ fun t u hu => ?_⟩
    have h0 : news.length = 0 := by rw [hlen]; omega
    rw [List.length_eq_zero_iff.1 h0] at hu
    simp at hu
  · refine ⟨⟨blk, (k + 1) * 3, none⟩, by rw [if_neg h], key _ fun t u hu => ?_⟩
    have ht : t < (n - (k + 1)) * 3 := by
     have := (List.getElem?_eq_some_iff.1 hu).1
     rwa [hlen] at this
    rw [own_add, cell_of_row _ blk _ _ 96 (0, 0) hw1, ← Array.getElem?_toList, ← List.getElem?_drop, ← hu, hnews, List.getElem?_take, if_pos ht]
 obtain ⟨W1, hW1⟩ : ∃ W1, W1 = w.drew.setRow blk (cur.toList.take (k * 3) ++ news ++ cur.toList.drop (k * 3 + news.length)).toArray := ⟨_, rfl⟩
 have hst1 : (storeCells ⟨blk, k * 3, none⟩ news).run Try.prog w.drew = .ok () W1 := by
  have := run_storeCells_at Try.prog blk (k * 3) 96 news 0 cur w.drew hw1 (by rw [hlen]; omega) s2
  rw [Nat.add_zero] at this
  rw [hW1]; exact this
 have hroom : k + (n - (k + 1)) ≤ cap := by omega
 have mixed' := mixed
 have hlo : (0 ≤ (k : Int) + 1 ∧ (k : Int) + 1 ≤ n) := by omega
 have hic : k ≤ cap := by omega
 have hjc : k + 1 ≤ cap := by omega
 have hk1 : k + (n - (k + 1)) = n - 1 := by omega
 have hc1 : n - (n - 1) = 1 := by omega
 obtain ⟨cu2, hcu2⟩ : ∃ cu2 : List Value, cu2 = cur.toList.take (k * 3) ++ news ++ cur.toList.drop (k * 3 + news.length) := ⟨_, rfl⟩
 have hl2 : cu2.length = cur.size := by
  rw [hcu2]
  simp only [List.length_append, List.length_take, List.length_drop, hlen, Array.length_toList]
  omega
 rw [← hcu2] at hW1
 have hg1 : W1.heap[blk]? = some (.cells cu2.toArray 96 (0, 0)) := by rw [hW1]; exact setRow_heap w.drew blk cur _ 96 (0, 0) hw1
 obtain ⟨W2, hW2⟩ : ∃ W2, W2 = W1.setRow blk (cu2.take ((n - 1) * 3) ++ [iv 0, iv 0, iv 0] ++ cu2.drop ((n - 1) * 3 + 3)).toArray := ⟨_, rfl⟩
 have hcl : (Builtin.clear_ #[28] 0 #[.slice (some ⟨blk, (k + (n - (k + 1))) * 3, none⟩) (n - (k + (n - (k + 1)))) (cap - (k + (n - (k + 1))))]).run Try.prog W1 = .ok (.tuple #[]) W2 := by
  have hst := run_storeCells_at Try.prog blk ((n - 1) * 3) 96 [iv 0, iv 0, iv 0] 0 cu2.toArray W1 hg1 (by simp only [List.size_toArray, List.length_cons, List.length_nil, hl2]; omega) (by simp [Value.oneCell'])
  simp only [Nat.add_zero, List.length_cons, List.length_nil] at hst
  rw [hk1, hc1, hW2]
  have hu := under_slice tok28 rfl
  obtain ⟨i0, z, q1, q2, q3, q4, q5⟩ := tok96.row
  have hzv : (zeroValue 96).run Try.prog W1 = .ok z W1 := by simp [zeroValue, typeInfo, q1, q3]
  have hzc : (Builtin.zeroCells z.cells 1).toList = [iv 0, iv 0, iv 0] := by
   rw [show ([iv 0, iv 0, iv 0] : List Value) = ti96.zero from rfl, ← q4]
   unfold Builtin.zeroCells
   apply List.ext_getElem
   · simp
   · intro j g1 g2
     simp at g1 g2
     simp [Nat.mod_eq_of_lt g1, g1]
  simp [Builtin.clear_, run_underlying hu, hzv, hzc, hst]
 have hfin : W2.os = w.os ∧ W2.tape = w.tape ∧ W2.output = w.output ∧ W2.heap.size = w.heap.size ∧ (∀ b, b ≠ blk → W2.heap[b]? = w.heap[b]?) ∧ W2.heap[blk]? = some (.cells (dlC cur.toList n k).toArray 96 (0, 0)) := by
  have hd : dlC cur.toList n k = cu2.take ((n - 1) * 3) ++ [iv 0, iv 0, iv 0] ++ cu2.drop ((n - 1) * 3 + 3) := by
   unfold dlC
   rw [hcu2, hlen, hnews]
  rw [hd, hW2]
  refine ⟨by rw [hW1]; rfl, by rw [hW1]; rfl, by rw [hW1]; rfl, by rw [hW1]; simp [World.setRow], fun b hb => ?_, setRow_heap W1 blk _ _ 96 (0, 0) hg1⟩
  rw [setRow_other W1 blk b _ hb, hW1, setRow_other w.drew blk b _ hb]
  rfl
 have hfin' : Hid _ := hfin
 have hk1' : Hid (k + (n - (k + 1)) = n - 1) := hk1
 clear hk1 hW1 hnews hlen hw hw1 hone hc hfin hW2 hg1 hcu2 hl2 hc1
 go_enter Try.func81, Try.ntmps81
 go_wp2_with fail
 go_region_law_o fail
 go_wp2
 go_ret
 refine ⟨?_, hfin'.out⟩
 rw [hk1'.out]
 rfl
end Go.Proofs.Ythfabodamhdhaaa
