/- The parts of a rig, as the reference tells them. -/
import Derived.Test.YtaciigegbgnadaaIQ
namespace Go.Proofs.Ytaciigegbgnadaa
open Go Tx Go.RowKit
set_option linter.unusedSimpArgs false
set_option linter.unusedVariables false

/-- The parts of a rig: its points, its hangers. -/
def prP (k : Nat) : List (Int × Int) := (List.range k).map fun j : Nat => (-1, (j : Int))
def prH (k : Nat) : List (Int × Int) := (List.range k).flatMap fun i : Nat => [((i : Int), 0), ((i : Int), 1)]
def prL (n m : Nat) : List (Int × Int) := prP n ++ prH m
theorem prP_succ (k : Nat) : prP (k + 1) = prP k ++ [(-1, (k : Int))] := by simp [prP, List.range_succ]
theorem prH_succ (k : Nat) : prH (k + 1) = prH k ++ [((k : Int), 0), ((k : Int), 1)] := by simp [prH, List.range_succ, List.flatMap_append]
theorem prP_len (k : Nat) : (prP k).length = k := by simp [prP]
theorem prH_len : ∀ k : Nat, (prH k).length = k * 2
  | 0 => rfl
  | k + 1 => by rw [prH_succ, List.length_append, prH_len k]; simp; omega
theorem prL_len (n m : Nat) : (prL n m).length = n + m * 2 := by rw [prL, List.length_append, prP_len, prH_len]
theorem prL_ok {n m k : Nat} {q : Int × Int} (h : (prL n m)[k]? = some q) : partOk n m q.1 q.2 := by
  have := List.mem_of_getElem? h
  unfold prL prP prH at this
  rw [List.mem_append, List.mem_map, List.mem_flatMap] at this
  rcases this with ⟨j, hj, rfl⟩ | ⟨i, hi, hq⟩
  · rw [List.mem_range] at hj
    exact .inl ⟨rfl, by show (0 : Int) ≤ j; omega, by show (j : Int) < n; omega⟩
  · rw [List.mem_range] at hi
    simp only [List.mem_cons, List.not_mem_nil, or_false] at hq
    rcases hq with rfl | rfl
    · exact .inr ⟨by show (0 : Int) ≤ i; omega, by show (i : Int) < m; omega, by show (0 : Int) ≤ 0; omega, by show (0 : Int) ≤ 1; omega⟩
    · exact .inr ⟨by show (0 : Int) ≤ i; omega, by show (i : Int) < m; omega, by show (0 : Int) ≤ 1; omega, by show (1 : Int) ≤ 1; omega⟩

set_option maxHeartbeats 8000000 in
set_option maxRecDepth 100000 in
theorem Parts_ok (r : Rig) (w : World) (hn : 1 ≤ r.pn ∧ r.pn ≤ 1000) (hm : r.bn ≤ 1000) :
    Calls Try.prog 39 #[r.v] w fun e w' => ∃ y : YS (prL r.pn r.bn), e = .returned (sV (prL r.pn r.bn).length y.1) ∧ Below w.heap.size w w' ∧ St w.heap.size (Rd 2 gF (sV (prL r.pn r.bn).length y.1) (prL r.pn r.bn)) w' := by
  obtain ⟨po, pn, pc, bo, bn, bc, f0, f1, f2, lo, ln, lc⟩ := r
  dsimp only at hn hm ⊢
  refine calls_fam env mixed Try.func39 has39 Try.ntmps39 [.agg #[.slice po pn pc, .slice bo bn bc, iv f0, iv f1, iv f2, .slice lo ln lc]] (by simp) ?_
  repeat'
   conv => whnf
   first
    | refine zA ?_ | refine zB ?_ | refine zC ?_ | refine zD ?_ | refine zE ?_ | refine zF ?_ | refine zG ?_ | refine zH ?_ | refine zI ?_ | refine splT ?_ | refine splF ?_ | refine splNot ?_
    | ((first | refine splIn (fun hc => ?_) (fun hc => ?_) | refine splD (fun hc => ?_) (fun hc => ?_) | refine splE (fun hc => ?_) (fun hc => ?_) | refine splNE (fun hc => ?_) (fun hc => ?_)) <;> first | (exfalso; omega) | (exfalso; dsimp only at hc; omega) | skip)
  refine loopN 3 (fun k : Nat => [(1, .ptr 0 0), (3, oSV 1 2 (prP k)), (4, .v (iv k))]) (fun k => (0, .cells [.v (.slice po pn pc), .v (.slice bo bn bc), .v (iv f0), .v (iv f1), .v (iv f2), .v (.slice lo ln lc)] 48) :: oM 1 2 2 gF 91 (prP k)) (fun k => k ≤ pn) (fun k => pn - k) 0 (Nat.zero_le _) ⟨rfl, rfl, rfl, trivial⟩ ⟨rfl, trivial⟩ (fun k _ => by cases prP k <;> exact ⟨rfl, rfl⟩) ?_
  intro k hk
  have hl := prP_len k
  rcases Nat.lt_or_ge k pn with hkl | hkl
  · have ht := prP_succ k
    generalize prP k = T at *
    cases T with
    | nil =>
      repeat'
       conv => whnf
       first
        | refine zA ?_ | refine zB ?_ | refine zC ?_ | refine zD ?_ | refine zE ?_ | refine zF ?_ | refine zG ?_ | refine zH ?_ | refine zI ?_ | refine splT ?_ | refine splF ?_ | refine splNot ?_
        | ((first | refine splIn (fun hc => ?_) (fun hc => ?_) | refine splD (fun hc => ?_) (fun hc => ?_) | refine splE (fun hc => ?_) (fun hc => ?_) | refine splNE (fun hc => ?_) (fun hc => ?_)) <;> first | (exfalso; omega) | (exfalso; dsimp only at hc; omega) | skip)
      all_goals first | (exfalso; omega) | exact ⟨k + 1, by omega, by omega, Ent.ren (rho [(1, 4), (2, 5)]) rfl (by rw [ht]; rfl) ⟨rfl, by rw [ht]; rfl, rfl, trivial⟩ (by rw [ht]; exact ⟨rfl, rfl, trivial⟩) fun _ h => h⟩
    | cons a L =>
      simp only [List.length_cons] at hl
      repeat'
       conv => whnf
       first
        | refine zA ?_ | refine zB ?_ | refine zC ?_ | refine zD ?_ | refine zE ?_ | refine zF ?_ | refine zG ?_ | refine zH ?_ | refine zI ?_ | refine splT ?_ | refine splF ?_ | refine splNot ?_
        | ((first | refine splIn (fun hc => ?_) (fun hc => ?_) | refine splD (fun hc => ?_) (fun hc => ?_) | refine splE (fun hc => ?_) (fun hc => ?_) | refine splNE (fun hc => ?_) (fun hc => ?_)) <;> first | (exfalso; omega) | (exfalso; dsimp only at hc; omega) | skip)
      all_goals first | (exfalso; omega) | exact ⟨k + 1, by omega, by omega, Ent.ren (rho [(1, 4), (2, 5)]) rfl (by rw [ht]; rfl) ⟨rfl, by rw [ht]; simp [oSV]; rfl, rfl, trivial⟩ (by rw [ht]; exact ⟨rfl, by simp [oM]; rfl, trivial⟩) fun _ h => h⟩
  · obtain rfl : k = pn := by omega
    have hpl : ∀ m, prL k m = prP k ++ prH m := fun m => rfl
    have hpl2 : ∀ m, (prL k m).length = k + m * 2 := fun m => prL_len k m
    have hps : ∀ m, prL k (m + 1) = prL k m ++ [((m : Int), 0), ((m : Int), 1)] := fun m => by rw [hpl, hpl, prH_succ, List.append_assoc]
    have hp0 : prP k = prL k 0 := by rw [hpl]; simp [prH]
    rw [hp0] at hl ⊢
    cases hcL : prL k 0 with
    | nil => exfalso; rw [hcL] at hl; simp at hl; omega
    | cons a0 A0 =>
      repeat'
       conv => whnf
       first
        | refine zA ?_ | refine zB ?_ | refine zC ?_ | refine zD ?_ | refine zE ?_ | refine zF ?_ | refine zG ?_ | refine zH ?_ | refine zI ?_ | refine splT ?_ | refine splF ?_ | refine splNot ?_
        | ((first | refine splIn (fun hc => ?_) (fun hc => ?_) | refine splD (fun hc => ?_) (fun hc => ?_) | refine splE (fun hc => ?_) (fun hc => ?_) | refine splNE (fun hc => ?_) (fun hc => ?_)) <;> first | (exfalso; omega) | (exfalso; dsimp only at hc; omega) | skip)
      all_goals first | (exfalso; omega) | skip
      refine loopN2 3 (fun (m : Nat) (Q : (Int × Int) × List (Int × Int)) => [(1, .ptr 0 0), (3, .os 1 2 (Q.2.length + 1)), (5, .v (iv m))]) (fun m Q => [(0, .cells [.v (.slice po k pc), .v (.slice bo bn bc), .v (iv f0), .v (iv f1), .v (iv f2), .v (.slice lo ln lc)] 48), (1, .own 2 (Q.2.length + 1) 2 ((Q.1 :: Q.2).flatMap gF) 91)]) (fun m Q => m ≤ bn ∧ Q.1 :: Q.2 = prL k m) (fun m _ => bn - m) 0 (a0, A0) ⟨Nat.zero_le _, hcL.symm⟩ ⟨rfl, rfl, rfl, trivial⟩ ⟨rfl, rfl, trivial⟩ (fun m _ _ => ⟨rfl, rfl⟩) ?_
      clear hcL hk hkl hl
      intro m Q ⟨hm', hQ⟩
      obtain ⟨q0, Q⟩ := Q
      dsimp only at hQ ⊢
      have hQl := hpl2 m
      rw [← hQ] at hQl
      simp only [List.length_cons] at hQl
      rcases Nat.lt_or_ge m bn with hml | hml
      · have hs := hps m
        rw [← hQ] at hs
        repeat'
         conv => whnf
         first
          | refine zA ?_ | refine zB ?_ | refine zC ?_ | refine zD ?_ | refine zE ?_ | refine zF ?_ | refine zG ?_ | refine zH ?_ | refine zI ?_ | refine splT ?_ | refine splF ?_ | refine splNot ?_
          | ((first | refine splIn (fun hc => ?_) (fun hc => ?_) | refine splD (fun hc => ?_) (fun hc => ?_) | refine splE (fun hc => ?_) (fun hc => ?_) | refine splNE (fun hc => ?_) (fun hc => ?_)) <;> first | (exfalso; omega) | (exfalso; dsimp only at hc; omega) | skip)
        all_goals first | (exfalso; omega) | exact ⟨m + 1, (q0, Q ++ [((m : Int), 0), ((m : Int), 1)]), ⟨by omega, by rw [hs]; rfl⟩, by omega, Ent.ren (rho [(1, 4), (2, 5)]) rfl rfl ⟨rfl, by simp; rfl, rfl, trivial⟩ ⟨rfl, by simp; rfl, trivial⟩ fun _ h => h⟩
      · obtain rfl : m = bn := by omega
        rw [← hQ]
        repeat'
         conv => whnf
         first
          | refine zA ?_ | refine zB ?_ | refine zC ?_ | refine zD ?_ | refine zE ?_ | refine zF ?_ | refine zG ?_ | refine zH ?_ | refine zI ?_ | refine splT ?_ | refine splF ?_ | refine splNot ?_
          | ((first | refine splIn (fun hc => ?_) (fun hc => ?_) | refine splD (fun hc => ?_) (fun hc => ?_) | refine splE (fun hc => ?_) (fun hc => ?_) | refine splNE (fun hc => ?_) (fun hc => ?_)) <;> first | (exfalso; omega) | (exfalso; dsimp only at hc; omega) | skip)
        all_goals first | (exfalso; omega) | exact ⟨fun w' h => h, fun β w' hB hblk => ⟨⟨(some ⟨β 1, 0, none⟩, β 2), .inr ⟨_, rfl⟩⟩, rfl, (hblk 1 _ rfl rfl).imp fun _ q => Rd.of_owns (sz := 2) (f := gF) (fun _ => rfl) rfl rfl q⟩⟩
end Go.Proofs.Ytaciigegbgnadaa
