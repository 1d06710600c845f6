/- What the chapter shows: awake returns true. -/
import Derived.Test.YtaciigegbgnadaaHE
namespace Go.Proofs.Ytaciigegbgnadaa
open Go Tx Go.RowKit
set_option linter.unusedSimpArgs false
set_option linter.unusedVariables false

abbrev exV (y : Addr × Addr × Addr) : Value := .agg #[.slice (some y.1) 2 2, .slice (some y.2.1) 1 1, iv 1000, iv 1500, iv 2000, .slice (some y.2.2) 2 2]
theorem rd_cells {α : Type} {sz : Nat} {f : α → List Value} (hf : ∀ x, (f x).length = sz) {n m : Nat} {bs : List α} {w' : World} {b c ty : Nat} {l : List Value} (hl : l = bs.flatMap f) (hn : n = bs.length) (h : St m (fun w2 => w2.heap[b]? = some (.cells l.toArray ty (0, 0))) w') : St m (Rd sz f (.slice (some ⟨b, 0, none⟩) n c) bs) w' :=
  h.imp fun w2 q => Rd.of_cells (sz := sz) (f := f) hf hn (hl ▸ q)

set_option maxHeartbeats 1000000 in
set_option maxRecDepth 100000 in
theorem ex54_ok (w : World) : Calls Try.prog 54 #[] w fun e w' => ∃ y : Addr × Addr × Addr, e = .returned (exV y) ∧ Below w.heap.size w w' ∧ St w.heap.size (RigIn (exR (some y.1) (some y.2.1) (some y.2.2)) exP exB exL) w' := by
  refine calls_fam env mixed Try.func54 has54 Try.ntmps54 [] (by simp) ?_
  repeat'
    conv => whnf
    first
      | refine And.intro (a := drawB _ = true) (by kernel_rfl) ?_
      | refine And.intro (a := (_ : Bool) = true) rfl ?_
      | refine And.intro (a := (_ : Bool) = true ∧ (_ : Bool) = true) ⟨rfl, rfl⟩ ?_
      | refine And.intro (a := (_ : Bool) = true ∧ (_ : List _) = []) ⟨rfl, rfl⟩ ?_
      | refine And.intro (a := IR _ _) (And.intro (by omega) (by omega)) ?_
      | refine wrapE (And.intro (by omega) (by omega)) ?_
      | refine And.intro (a := (0 : Int) ≤ _ ∧ _ < _) (And.intro (by omega) (by omega)) ?_
      | refine And.intro (a := (_ : Bool) = true) (by simp only [Nat.beq_refl]; rfl) ?_
      | refine And.intro (a := ((_ : Bool) = true → 1 ≤ _) ∧ _ ≤ 9223372036854775807 ∧ _ ≤ 140737488355328) ⟨fun h => (by first | omega | cases h), by omega, by omega⟩ ?_
      | refine splT ?_
      | refine splF ?_
      | refine splNot ?_
      | (refine splIn (fun hc => ?_) (fun hc => ?_) <;> first | (exfalso; omega) | (exfalso; dsimp only at hc; omega) | skip)
      | (refine splD (fun hc => ?_) (fun hc => ?_) <;> first | (exfalso; omega) | (exfalso; dsimp only at hc; omega) | skip)
      | (refine splE (fun hc => ?_) (fun hc => ?_) <;> first | (exfalso; omega) | (exfalso; dsimp only at hc; omega) | skip)
      | (refine splNE (fun hc => ?_) (fun hc => ?_) <;> first | (exfalso; omega) | (exfalso; dsimp only at hc; omega) | skip)
  exact ⟨fun w' h => h, fun β w' hB hblk => ⟨(⟨β 1, 0, none⟩, ⟨β 2, 0, none⟩, ⟨β 3, 0, none⟩), rfl, (((rd_cells (sz := 1) (f := iF) (bs := exP) (fun _ => rfl) rfl rfl (hblk 1 _ rfl rfl)).and (rd_cells (sz := 8) (f := Bm.cs) (bs := exB) (fun _ => rfl) rfl rfl (hblk 2 _ rfl rfl))).and (rd_cells (sz := 5) (f := Ld.cs) (bs := exL) (fun _ => rfl) rfl rfl (hblk 3 _ rfl rfl))).imp
    fun w2 q => ⟨q.1.1, q.1.2, q.2, rfl, rfl, rfl, by decide, by decide, by decide⟩⟩⟩
set_option maxRecDepth 100000 in
theorem ex55_ok (w : World) : Calls Try.prog 55 #[] w fun e w' => ∃ y : Addr, e = .returned (.slice (some y) 3 3) ∧ Below w.heap.size w w' ∧ St w.heap.size (Rd 4 En.cs (.slice (some y) 3 3) exD) w' := by
  refine calls_fam env mixed Try.func55 has55 Try.ntmps55 [] (by simp) ?_
  repeat'
    conv => whnf
    first
      | refine And.intro (a := drawB _ = true) (by kernel_rfl) ?_
      | refine And.intro (a := (_ : Bool) = true) rfl ?_
      | refine And.intro (a := (_ : Bool) = true ∧ (_ : Bool) = true) ⟨rfl, rfl⟩ ?_
      | refine And.intro (a := (_ : Bool) = true ∧ (_ : List _) = []) ⟨rfl, rfl⟩ ?_
      | refine And.intro (a := IR _ _) (And.intro (by omega) (by omega)) ?_
      | refine wrapE (And.intro (by omega) (by omega)) ?_
      | refine And.intro (a := (0 : Int) ≤ _ ∧ _ < _) (And.intro (by omega) (by omega)) ?_
      | refine And.intro (a := (_ : Bool) = true) (by simp only [Nat.beq_refl]; rfl) ?_
      | refine And.intro (a := ((_ : Bool) = true → 1 ≤ _) ∧ _ ≤ 9223372036854775807 ∧ _ ≤ 140737488355328) ⟨fun h => (by first | omega | cases h), by omega, by omega⟩ ?_
      | refine splT ?_
      | refine splF ?_
      | refine splNot ?_
      | (refine splIn (fun hc => ?_) (fun hc => ?_) <;> first | (exfalso; omega) | (exfalso; dsimp only at hc; omega) | skip)
      | (refine splD (fun hc => ?_) (fun hc => ?_) <;> first | (exfalso; omega) | (exfalso; dsimp only at hc; omega) | skip)
      | (refine splE (fun hc => ?_) (fun hc => ?_) <;> first | (exfalso; omega) | (exfalso; dsimp only at hc; omega) | skip)
      | (refine splNE (fun hc => ?_) (fun hc => ?_) <;> first | (exfalso; omega) | (exfalso; dsimp only at hc; omega) | skip)
  exact ⟨fun w' h => h, fun β w' hB hblk => ⟨⟨β 0, 0, none⟩, rfl, rd_cells (sz := 4) (f := En.cs) (bs := exD) (fun _ => rfl) rfl rfl (hblk 0 _ rfl rfl)⟩⟩
theorem ex29_ok (y : Addr × Addr × Addr) (b : Nat) (w : World) (h : RigIn (exR (some y.1) (some y.2.1) (some y.2.2)) exP exB exL w) (hp : Rd 1 iF (.slice (some ⟨b, 0, none⟩) 2 2) [600, 60] w) :
    Calls Try.prog 29 #[exV y, .slice (some ⟨b, 0, none⟩) 2 2] w fun e w' => ∃ z : (Option Addr × Nat) × (Addr × Nat), e = .returned (.tuple #[sV 2 z.1, .slice (some z.2.1) 1 z.2.2, iv 0]) ∧ Below w.heap.size w w' ∧
      St w.heap.size (fun w2 => Rd 1 iF (sV 2 z.1) [23760000, 138240000] w2 ∧ Rd 2 gF (.slice (some z.2.1) 1 z.2.2) [(23760000, 138240000)] w2) w' := by
  refine (Bears_ok (exR (some y.1) (some y.2.1) (some y.2.2)) exP exB exL [600, 60] (some ⟨b, 0, none⟩) 2 w h hp (by decide)).mono fun e w' ⟨z, h1, h2, h3⟩ => ?_
  rw [ex_brP, ex_brH, ex_brE] at h1
  rw [ex_brP, ex_brH] at h3
  obtain ⟨z1, z2, z3⟩ := z
  rcases (h3.now).2 with h | ⟨ad, c, h, _⟩
  · simp at h
  · simp only [List.length_cons, List.length_nil, Value.slice.injEq] at h
    obtain ⟨rfl, _, rfl⟩ := h
    exact ⟨(z1, (ad, _)), h1, h2, h3⟩
theorem ex41_ok (y : Addr × Addr × Addr) (w : World) (h : RigIn (exR (some y.1) (some y.2.1) (some y.2.2)) exP exB exL w) :
    Calls Try.prog 41 #[exV y] w fun e w' => ∃ z : Option Addr × Nat, e = .returned (.tuple #[.agg #[iv (-1), iv 1], sV 2 z, iv 0]) ∧ Below w.heap.size w w' ∧ St w.heap.size (Rd 1 iF (sV 2 z) [600, 60]) w' := by
  refine (Over_ok (exR (some y.1) (some y.2.1) (some y.2.2)) exP exB exL w h).mono fun e w' ⟨z, h1, h2, h3⟩ => ?_
  obtain ⟨q1, q2, q3, q4⟩ := ex_ov (some y.1) (some y.2.1) (some y.2.2)
  have q4' : (ovR (exR (some y.1) (some y.2.1) (some y.2.2)) exP exB exL).e (rigOk (exR (some y.1) (some y.2.1) (some y.2.2)).f0 (exR (some y.1) (some y.2.1) (some y.2.2)).f1 (exR (some y.1) (some y.2.1) (some y.2.2)).f2 exP exB exL) = 0 := q4
  rw [q1, q2, q3, q4'] at h1
  rw [q3] at h3
  exact ⟨z, h1, h2, h3⟩
theorem ex17_ok (b : Nat) (y : Addr) (w : World) (hG : Rd 2 gF (.slice (some ⟨b, 0, none⟩) 1 1) exG w) (hL : Rd 4 En.cs (.slice (some y) 3 3) exD w) :
    Calls Try.prog 17 #[.slice (some ⟨b, 0, none⟩) 1 1, .slice (some y) 3 3, iv 7] w fun e w' => ∃ z : Option Addr × Nat, e = .returned (.tuple #[sV 1 z, iv 0]) ∧ Below w.heap.size w w' ∧ St w.heap.size (Rd 1 iF (sV 1 z) [0]) w' := by
  refine (Stale_ok exG exD (some ⟨b, 0, none⟩) (some y) 1 3 7 w hG hL (by decide) (by decide)).mono fun e w' ⟨z, h1, h2, h3⟩ => ?_
  rw [ex_sta.1, ex_sta.2.1] at h1
  rw [ex_sta.1] at h3
  exact ⟨z, h1, h2, h3⟩
theorem ex20_ok (b : Nat) (y : Addr) (w : World) (hG : Rd 2 gF (.slice (some ⟨b, 0, none⟩) 1 1) exG w) (hL : Rd 4 En.cs (.slice (some y) 3 3) exD w) :
    Calls Try.prog 20 #[.slice (some ⟨b, 0, none⟩) 1 1, .slice (some y) 3 3, iv 0, iv 6, iv 1] w fun e w' => e = .returned (.tuple #[iv 8, iv 0]) ∧ Below w.heap.size w w' := by
  have h := Until_ok exG exD (some ⟨b, 0, none⟩) (some y) 1 3 0 6 1 w hG hL (by decide) (by decide)
  rw [ex_sta.2.2.1, ex_sta.2.2.2] at h
  exact h
theorem ints_eq (A : List Int) (o p : Option Addr) (n c d : Nat) (w : World) (hn : n = A.length) (hA : Rd 1 iF (.slice o n c) A w) (hB : Rd 1 iF (.slice p n d) A w) (hl : A.length ≤ 1000000) :
    Calls Try.prog 25 #[.slice o n c, .slice p n d] w fun e w' => e = .returned (.bool true) ∧ Below w.heap.size w w' := by
  subst hn
  have h := ints_ok A A o p c d w hA hB hl hl
  rwa [decide_eq_true rfl] at h

set_option maxHeartbeats 4000000 in
set_option maxRecDepth 100000 in
theorem awake_ok (w : World) : Calls Try.prog 16 #[] w fun e w' => e = .returned (.bool true) ∧ Below w.heap.size w w' := by
  refine calls_val env mixed Try.func16 has16 Try.ntmps16 [] (by simp) ?_
  repeat'
    conv => whnf
    first
      | refine And.intro (a := drawB _ = true) (by kernel_rfl) ?_
      | refine And.intro (a := (_ : Bool) = true) rfl ?_
      | refine And.intro (a := (_ : Bool) = true ∧ (_ : Bool) = true) ⟨rfl, rfl⟩ ?_
      | refine And.intro (a := (_ : Bool) = true ∧ (_ : List _) = []) ⟨rfl, rfl⟩ ?_
      | refine And.intro (a := IR _ _) (And.intro (by omega) (by omega)) ?_
      | refine wrapE (And.intro (by omega) (by omega)) ?_
      | refine And.intro (a := (0 : Int) ≤ _ ∧ _ < _) (And.intro (by omega) (by omega)) ?_
      | refine And.intro (a := (_ : Bool) = true) (by simp only [Nat.beq_refl]; rfl) ?_
      | refine And.intro (a := ((_ : Bool) = true → 1 ≤ _) ∧ _ ≤ 9223372036854775807 ∧ _ ≤ 140737488355328) ⟨fun h => (by first | omega | cases h), by omega, by omega⟩ ?_
      | refine splT ?_
      | refine splF ?_
      | refine splNot ?_
      | (refine splIn (fun hc => ?_) (fun hc => ?_) <;> first | (exfalso; omega) | (exfalso; dsimp only at hc; omega) | skip)
      | (refine splD (fun hc => ?_) (fun hc => ?_) <;> first | (exfalso; omega) | (exfalso; dsimp only at hc; omega) | skip)
      | (refine splE (fun hc => ?_) (fun hc => ?_) <;> first | (exfalso; omega) | (exfalso; dsimp only at hc; omega) | skip)
      | (refine splNE (fun hc => ?_) (fun hc => ?_) <;> first | (exfalso; omega) | (exfalso; dsimp only at hc; omega) | skip)
      | ((with_reducible show CallEv _ _ 54 _ _ _ _ _); refine callF [] exV (fun y => RigIn (exR (some y.1) (some y.2.1) (some y.2.2)) exP exB exL) (fun β w' _ hbw => ex54_ok w') ?_; intro y; obtain ⟨y1, y2, y3⟩ := y; dsimp only)
      | ((with_reducible show CallEv _ _ 29 _ _ _ _ _); refine callF [0] (fun z : (Option Addr × Nat) × (Addr × Nat) => .tuple #[sV 2 z.1, .slice (some z.2.1) 1 z.2.2, iv 0]) (fun z w2 => Rd 1 iF (sV 2 z.1) [23760000, 138240000] w2 ∧ Rd 2 gF (.slice (some z.2.1) 1 z.2.2) [(23760000, 138240000)] w2) (fun β w' hbk hbw => ex29_ok (_, _, _) _ w' hbw.2 (Rd.of_cells (sz := 1) (f := iF) (bs := [600, 60]) (fun _ => rfl) rfl (hbk 0 (by simp) _ rfl))) ?_; intro z; obtain ⟨⟨z1, z2⟩, z3, z4⟩ := z; dsimp only)
      | ((with_reducible show CallEv _ _ 41 _ _ _ _ _); refine callF [] (fun z : Option Addr × Nat => .tuple #[.agg #[iv (-1), iv 1], sV 2 z, iv 0]) (fun z => Rd 1 iF (sV 2 z) [600, 60]) (fun β w' hbk hbw => ex41_ok (_, _, _) w' hbw.2) ?_; intro z; obtain ⟨v1, v2⟩ := z; dsimp only)
      | ((with_reducible show CallEv _ _ 55 _ _ _ _ _); refine callF [] (fun y : Addr => .slice (some y) 3 3) (fun y => Rd 4 En.cs (.slice (some y) 3 3) exD) (fun β w' hbk hbw => ex55_ok w') ?_; intro u)
      | ((with_reducible show CallEv _ _ 17 _ _ _ _ _); refine callF [2] (fun z : Option Addr × Nat => .tuple #[sV 1 z, iv 0]) (fun z => Rd 1 iF (sV 1 z) [0]) (fun β w' hbk hbw => ex17_ok _ _ w' (Rd.of_cells (sz := 2) (f := gF) (bs := exG) (fun _ => rfl) rfl (hbk 2 (by simp) _ rfl)) hbw.2) ?_; intro z; obtain ⟨x1, x2⟩ := z; dsimp only)
      | ((with_reducible show CallEv _ _ 20 _ _ _ _ _); refine callM (k := 20) [2] (fun β w' hbk hbw => ex20_ok _ _ w' (Rd.of_cells (sz := 2) (f := gF) (bs := exG) (fun _ => rfl) rfl (hbk 2 (by simp) _ rfl)) hbw.2) ?_)
      | ((with_reducible show CallEv _ _ 25 [_, .sl 3 0 2 2] _ _ _ _); refine callM (k := 25) [3] (fun β w' hbk hbw => ints_eq [23760000, 138240000] _ _ 2 _ _ w' rfl hbw.1.1.1.1.1.2.1 (Rd.of_cells (sz := 1) (f := iF) (bs := [23760000, 138240000]) (fun _ => rfl) rfl (hbk 3 (by simp) _ rfl)) (by decide)) ?_)
      | ((with_reducible show CallEv _ _ 25 [_, .sl 4 0 2 2] _ _ _ _); refine callM (k := 25) [4] (fun β w' hbk hbw => ints_eq [600, 60] _ _ 2 _ _ w' rfl hbw.1.1.1.2 (Rd.of_cells (sz := 1) (f := iF) (bs := [600, 60]) (fun _ => rfl) rfl (hbk 4 (by simp) _ rfl)) (by decide)) ?_)
      | ((with_reducible show CallEv _ _ 25 [_, .sl 5 0 1 1] _ _ _ _); refine callM (k := 25) [5] (fun β w' hbk hbw => ints_eq [0] _ _ 1 _ _ w' rfl hbw.1.2 (Rd.of_cells (sz := 1) (f := iF) (bs := [0]) (fun _ => rfl) rfl (hbk 5 (by simp) _ rfl)) (by decide)) ?_)
      | refine Exists.intro (α := List Value) (gF (23760000, 138240000)) ⟨⟨rfl, fun w' hw' => rd_atz hw'.1.1.1.1.1.2.2 (k := 0) (b := (23760000, 138240000)) rfl 0 rfl⟩, ?_⟩
      | refine eqlE71 (q := true) rfl ?_
      | refine eqlE95 (q := true) rfl ?_
  all_goals first | exact ⟨fun β => rfl, fun w' h => h.1.1.1.1.1.1.1⟩ | (trace_state; sorry)
end Go.Proofs.Ytaciigegbgnadaa
