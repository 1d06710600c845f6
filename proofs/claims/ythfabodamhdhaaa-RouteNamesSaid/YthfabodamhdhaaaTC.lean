/- What the chapter shows: awake. -/
import Derived.Test.YthfabodamhdhaaaTB
import Derived.KernelRfl
namespace Go.Proofs.Ythfabodamhdhaaa
open Go Tx Go.RowKit
set_option linter.unusedSimpArgs false
set_option linter.unusedVariables false
set_option maxRecDepth 100000
theorem th_toB : toB thD = true := by kernel_rfl
theorem th_lost : lostV thD 0 1 = (1, 0) := by kernel_rfl
theorem th_day : dayV thD 2 4 = (90, 0) := by kernel_rfl
def thS : List (Int × Int × Int) := [(1, 0, 1), (2, 3, 4), (3, 5, 5), (1, 9, 9)]
theorem th_flt : flV thD thS = ([(0, 6), (2, 2), (3, 4)], 0) := by kernel_rfl
theorem th_best : hmO thD (ALO thD) 0 0 0 = 440 := by kernel_rfl
theorem th_bnd : bdO [0, 0, 0, 0] (tabO thD [0, 0, 0, 0]) = 440 := by kernel_rfl
theorem th_fee : feB 4 [0, 0, 0, 0] = true := by kernel_rfl
set_option maxHeartbeats 4000000 in
theorem awake_ok (w : World) : Calls Try.prog 19 #[] w fun e w' => e = .returned (.bool true) ∧ Below w.heap.size w w' := by
 have h35 : ∀ y w', TrIn y w' ∧ y.d = thD → Calls Try.prog 35 #[y.v, iv 0, iv 1] w' fun e w2 => e = .returned (.tuple #[iv 1, iv 0]) ∧ Below w'.heap.size w' w2 := fun y w' h => by
  have := Lost_ok y 0 1 w' h.1
  rw [h.2, th_lost] at this
  exact this
 have h34 : ∀ y w', TrIn y w' ∧ y.d = thD → Calls Try.prog 34 #[y.v, iv 2, iv 4] w' fun e w2 => e = .returned (.tuple #[iv 90, iv 0]) ∧ Below w'.heap.size w' w2 := fun y w' h => by
  have := Day_ok y 2 4 w' h.1
  rw [h.2, th_day] at this
  exact this
 have h40 : ∀ y w' b, TrIn y w' ∧ y.d = thD → w'.heap[b]? = some (.cells (thS.flatMap spF).toArray 96 (0, 0)) → Calls Try.prog 40 #[y.v, .slice (some ⟨b, 0, none⟩) 4 4] w' fun e w2 => ∃ z : Addr × Nat, e = .returned (.tuple #[.slice (some z.1) 3 z.2, iv 0]) ∧ Below w'.heap.size w' w2 ∧ St w'.heap.size (Rd 2 flF (.slice (some z.1) 3 z.2) [(0, 6), (2, 2), (3, 4)]) w2 := fun y w' b h hb => by
  have := Faults_ok y (some ⟨b, 0, none⟩) 4 thS w' h.1 ⟨Rd.of_cells (f := spF) (fun _ => rfl) rfl hb, by decide, by decide, by decide⟩
  rw [h.2, th_flt] at this
  refine this.mono fun e w2 ⟨z, h1, h2, h3⟩ => ?_
  obtain ⟨_, a, ha, _⟩ := (St.now h3).ptr (show 1 ≤ 3 by decide)
  obtain ⟨z1, z2⟩ := z
  change z1 = some a at ha
  subst ha
  exact ⟨(a, z2), h1, h2, h3⟩
 have h20 : ∀ y w', TrIn y w' ∧ y.d = thD → Calls Try.prog 20 #[y.v] w' fun e w2 => ∃ z : Option Addr × Nat, e = .returned (.tuple #[.slice z.1 (bsS thD).length z.2, iv 440, iv 0]) ∧ Below w'.heap.size w' w2 ∧ St w'.heap.size (fun _ => True) w2 := fun y w' h => by
  have := Best_ok y w' h.1
  have e : bsV thD = (bsS thD, 440, 0) := by unfold bsV; rw [th_toB, if_pos rfl, th_best]
  rw [h.2, e] at this
  exact this.mono fun e w2 ⟨z, h1, h2, h3⟩ => ⟨z, h1, h2, fun _ _ => trivial⟩
 have h28 : ∀ y w' b, TrIn y w' ∧ y.d = thD → w'.heap[b]? = some (.cells (([0, 0, 0, 0] : List Int).flatMap iF).toArray 3 (0, 0)) → Calls Try.prog 28 #[y.v, .slice (some ⟨b, 0, none⟩) 4 4] w' fun e w2 => ∃ z : TbG, e = .returned (.tuple #[iv 440, z.v, iv 0]) ∧ Below w'.heap.size w' w2 ∧ St w'.heap.size (fun _ => True) w2 := fun y w' b h hb => by
  have hl : y.T.length = 4 := by
   have := congrArg (fun x : To => x.T.length) h.2
   simpa [Tr.d, thD, thT] using this
  have := Bound_yes y (some ⟨b, 0, none⟩) 4 [0, 0, 0, 0] w' h.1 (Rd.of_cells (f := iF) (fun _ => rfl) rfl hb) (by rw [h.2]; exact th_toB) (by rw [hl]; exact th_fee)
  rw [h.2, th_bnd] at this
  exact this.mono fun e w2 ⟨z, h1, h2, h3⟩ => ⟨z, h1, h2, fun _ _ => trivial⟩
 refine calls_val env mixed Try.func19 has19 Try.ntmps19 [] (by simp) ?_
 repeat'
  conv => whnf
  first
   | refine zA ?_ | refine zB ?_ | refine zC ?_ | refine zD ?_ | refine zE ?_ | refine zF ?_ | refine zG ?_ | refine zH ?_ | refine zJ ?_ | refine zI ?_ | refine splT ?_ | refine splF ?_ | refine splNot ?_
   | ((first | refine splIn ?_ ?_ | refine splD ?_ ?_ | refine splE ?_ ?_ | refine splNE ?_ ?_) <;> intro hc <;> first | (exfalso; omega) | (exfalso; dsimp only at hc; omega) | skip)
   | ((with_reducible show CallEv _ _ 49 _ _ _ _ _); refine callF [] (fun y : Tr => y.v) (fun y w2 => TrIn y w2 ∧ y.d = thD) (fun β w' _ hbw => Three_ok w') ?_; intro y)
   | ((with_reducible show CallEv _ _ 35 _ _ _ _ _); refine callE (k := 35) (fun β w' hbw => h35 y w' hbw.2) ?_)
   | ((with_reducible show CallEv _ _ 34 _ _ _ _ _); refine callE (k := 34) (fun β w' hbw => h34 y w' hbw.2) ?_)
   | ((with_reducible show CallEv _ _ 40 _ _ _ _ _); refine callF [0] (fun z : Addr × Nat => .tuple #[.slice (some z.1) 3 z.2, iv 0]) (fun z w2 => Rd 2 flF (.slice (some z.1) 3 z.2) [(0, 6), (2, 2), (3, 4)] w2) (fun β w' hbk hbw => h40 y w' (β 0) hbw.2 (hbk 0 (by simp) _ rfl)) ?_; intro zf)
   | ((with_reducible show CallEv _ _ 20 _ _ _ _ _); refine callF [] (fun z : Option Addr × Nat => .tuple #[.slice z.1 (bsS thD).length z.2, iv 440, iv 0]) (fun _ _ => True) (fun β w' hbk hbw => h20 y w' hbw.2) ?_; intro zb)
   | ((with_reducible show CallEv _ _ 28 _ _ _ _ _); refine callF [1] (fun z : TbG => .tuple #[iv 440, z.v, iv 0]) (fun _ _ => True) (fun β w' hbk hbw => h28 y w' (β 1) hbw.2 (hbk 1 (by simp) _ rfl)) ?_; intro zt)
   | refine Exists.intro (α := List Value) [iv 0, .int .u8 6] ⟨⟨rfl, fun w' hw' => rd_atz hw'.1.1.1.1.2 (k := 0) rfl (0 : Int) rfl⟩, ?_⟩
   | refine Exists.intro (α := List Value) [iv 2, .int .u8 2] ⟨⟨rfl, fun w' hw' => rd_atz hw'.1.1.1.1.2 (k := 1) rfl (1 : Int) rfl⟩, ?_⟩
   | refine Exists.intro (α := List Value) [iv 3, .int .u8 4] ⟨⟨rfl, fun w' hw' => rd_atz hw'.1.1.1.1.2 (k := 2) rfl (2 : Int) rfl⟩, ?_⟩
   | refine eqlE81 (q := true) rfl ?_
 all_goals first | (exfalso; omega) | exact ⟨fun β => rfl, fun w' h => h.1.1.1.1.1.1.1.1⟩
end Go.Proofs.Ythfabodamhdhaaa
