/- RiggingNames answers true. By JY.py. -/
import Derived.Test.YtaciigegbgnadaaJX
namespace Go.Proofs.Ytaciigegbgnadaa
open Go Tx Go.RowKit
set_option linter.unusedSimpArgs false
set_option linter.unusedVariables false

theorem rdc {α : Type} {sz : Nat} {f : α → List Value} (hf : ∀ x, (f x).length = sz) {bs : List α} {w : World} {b : Nat} {ty : TypeId} {c n : Nat} {l : List Value} (hl : l = bs.flatMap f) (hn : n = bs.length) (h : w.heap[b]? = some (.cells l.toArray ty (0, 0))) : Rd sz f (.slice (some ⟨b, 0, none⟩) n c) bs w := Rd.of_cells hf hn (hl ▸ h)

set_option maxHeartbeats 8000000 in
set_option maxRecDepth 100000 in
theorem Nm1 (w : World) (h3 : VC Try.prog (rest 3 body15) ⟨222, [], [], 0, Below w.heap.size w, z0⟩ (endΦ env Try.f15 fun s σ => (∀ β, s.c β = .bool true) ∧ ∀ w', σ.h w' → Below w.heap.size w w')) : Calls Try.prog 15 #[] w fun e w' => e = .returned (.bool true) ∧ Below w.heap.size w w' := by
  refine calls_valV env mixed Try.func15 has15 Try.ntmps15 [] (by simp) ?_
  refine VC.cutH env mixed 3 0 (fun _ : Unit => []) (fun _ => []) (fun _ => Below w.heap.size w) (fun _ => True) (fun _ _ => ⟨rfl, rfl⟩) ?_ (fun _ _ => h3)
  clear h3
  obtain ⟨hp, hpl⟩ := nm_p
  obtain ⟨⟨ha, hh⟩, hhl⟩ := nm_h
  have h38 := nm38_ok
  generalize nmP = NP at *
  generalize nmH = NH at *
  repeat'
   conv => whnf
   first
    | refine zA ?_ | refine zB ?_ | refine zC ?_ | refine zD ?_ | refine zE ?_ | refine zF ?_ | refine zG ?_ | refine zH ?_ | refine zJ ?_ | refine zI ?_ | refine splT ?_ | refine splF ?_ | refine splNot ?_
    | ((first | refine splIn (fun hc => ?_) (fun hc => ?_) | refine splD (fun hc => ?_) (fun hc => ?_) | refine splE (fun hc => ?_) (fun hc => ?_) | refine splNE (fun hc => ?_) (fun hc => ?_)) <;> first | (exfalso; omega) | (exfalso; dsimp only at hc; omega) | skip)
    | ((with_reducible show CallEv _ _ 54 _ _ _ _ _); refine callF [] exV (fun y => exI y exB exL) (fun β w' _ hbw => ex54_ok w') ?_; intro y; obtain ⟨y1, y2, y3⟩ := y; dsimp only)
    | ((with_reducible show CallEv _ _ 38 _ _ _ _ _); refine callF [] (fun z : (Addr × Nat) × (Addr × Nat) => .tuple #[.slice (some z.1.1) 2 z.1.2, .slice (some z.2.1) 1 z.2.2, iv 0]) (fun z w2 => Rd 2 gF (.slice (some z.1.1) 2 z.1.2) NP w2 ∧ Rd 4 f4 (.slice (some z.2.1) 1 z.2.2) NH w2) (fun β w' _ hbw => h38 _ w' hbw.2) ?_; intro z; obtain ⟨⟨z1, z2⟩, z3, z4⟩ := z; dsimp only)
    | refine Exists.intro (α := List Value) [iv 23760000, iv 23760000] ⟨⟨rfl, fun w' hw' => rd_at hw'.2.1 hp⟩, ?_⟩
    | refine idxP env rfl rfl rfl rfl (And.intro (by omega) (by omega)) ?_
    | refine Exists.intro (α := List Value) [iv 30240000, iv 138240000] ⟨⟨rfl, fun w' hw' j v hj => (by rw [Addr.add_add]; match j, hj with | 0, hj => exact rd_at hw'.2.2 hh 2 _ hj | 1, hj => exact rd_at hw'.2.2 hh 3 _ hj)⟩, ?_⟩
    | refine neqE93 (q := false) (by simp) ?_
  all_goals first | (exfalso; omega) | exact ⟨rfl, (), trivial, Ent.weak rfl trivial trivial fun _ h => h.1.1⟩

set_option maxHeartbeats 8000000 in
set_option maxRecDepth 100000 in
theorem Nm2 (w : World) (h3 : VC Try.prog (rest 8 (rest 3 body15)) ⟨222, [], [], 0, Below w.heap.size w, z0⟩ (endΦ env Try.f15 fun s σ => (∀ β, s.c β = .bool true) ∧ ∀ w', σ.h w' → Below w.heap.size w w')) : VC Try.prog (rest 3 body15) ⟨222, [], [], 0, Below w.heap.size w, z0⟩ (endΦ env Try.f15 fun s σ => (∀ β, s.c β = .bool true) ∧ ∀ w', σ.h w' → Below w.heap.size w w') := by
  refine VC.cutH env mixed 8 0 (fun _ : Unit => []) (fun _ => []) (fun _ => Below w.heap.size w) (fun _ => True) (fun _ _ => ⟨rfl, rfl⟩) ?_ (fun _ _ => h3)
  clear h3
  repeat'
   conv => whnf
   first
    | refine zA ?_ | refine zB ?_ | refine zC ?_ | refine zD ?_ | refine zE ?_ | refine zF ?_ | refine zG ?_ | refine zH ?_ | refine zJ ?_ | refine zI ?_ | refine splT ?_ | refine splF ?_ | refine splNot ?_
    | ((first | refine splIn (fun hc => ?_) (fun hc => ?_) | refine splD (fun hc => ?_) (fun hc => ?_) | refine splE (fun hc => ?_) (fun hc => ?_) | refine splNE (fun hc => ?_) (fun hc => ?_)) <;> first | (exfalso; omega) | (exfalso; dsimp only at hc; omega) | skip)
    | ((with_reducible show CallEv _ _ 54 _ _ _ _ _); refine callI env mixed 1000 [] Try.func54 has54 Try.ntmps54 (Nat.le_of_ble_eq_true rfl) rfl rfl rfl ?_)
    | ((with_reducible show CallEv _ _ 49 _ _ _ _ _); refine callM (k := 49) [1, 2, 3] (fun β w' hbk hbw => nm49 (⟨β 1, 0, none⟩, ⟨β 2, 0, none⟩, ⟨β 3, 0, none⟩) exB exL1 0 25 520 0 w' ⟨rdc (sz := 1) (f := iF) (fun _ => rfl) rfl rfl (hbk 1 (by simp) _ rfl), rdc (sz := 8) (f := Bm.cs) (fun _ => rfl) rfl rfl (hbk 2 (by simp) _ rfl), rdc (sz := 5) (f := Ld.cs) (fun _ => rfl) rfl rfl (hbk 3 (by simp) _ rfl), rfl, rfl, rfl, by decide, by decide, by decide⟩ (by simp [exL1]) (nm_r0 _ _ _) (nm_r1 _ _ _)) ?_)
    | ((with_reducible show CallEv _ _ 49 _ _ _ _ _); refine callM (k := 49) [1, 2, 3] (fun β w' hbk hbw => nm49 (⟨β 1, 0, none⟩, ⟨β 2, 0, none⟩, ⟨β 3, 0, none⟩) exB exL2 0 25 0 9 w' ⟨rdc (sz := 1) (f := iF) (fun _ => rfl) rfl rfl (hbk 1 (by simp) _ rfl), rdc (sz := 8) (f := Bm.cs) (fun _ => rfl) rfl rfl (hbk 2 (by simp) _ rfl), rdc (sz := 5) (f := Ld.cs) (fun _ => rfl) rfl rfl (hbk 3 (by simp) _ rfl), rfl, rfl, rfl, by decide, by decide, by decide⟩ (by simp [exL2]) (nm_r2 _ _ _) (nm_r3 _ _ _)) ?_)
    | ((with_reducible show CallEv _ _ 41 _ _ _ _ _); refine callF [1, 2, 3] (fun z : Option Addr × Nat => .tuple #[.agg #[iv 0, iv 0], sV 0 z, iv 7]) (fun z => Rd 1 iF (sV 0 z) []) (fun β w' hbk hbw => nm41_ok (⟨β 1, 0, none⟩, ⟨β 2, 0, none⟩, ⟨β 3, 0, none⟩) w' ⟨rdc (sz := 1) (f := iF) (fun _ => rfl) rfl rfl (hbk 1 (by simp) _ rfl), rdc (sz := 8) (f := Bm.cs) (fun _ => rfl) rfl rfl (hbk 2 (by simp) _ rfl), rdc (sz := 5) (f := Ld.cs) (fun _ => rfl) rfl rfl (hbk 3 (by simp) _ rfl), rfl, rfl, rfl, by decide, by decide, by decide⟩) ?_; intro z; obtain ⟨z1, z2⟩ := z; dsimp only)
    | ((with_reducible show CallEv _ _ 42 _ _ _ _ _); refine callF [1, 2, 3] (fun z : Option Addr × Nat => .tuple #[.agg #[iv 0, iv 1], sV 2 z, iv 0]) (fun z => Rd 1 iF (sV 2 z) [0, 200]) (fun β w' hbk hbw => nm42_ok (⟨β 1, 0, none⟩, ⟨β 2, 0, none⟩, ⟨β 3, 0, none⟩) w' ⟨rdc (sz := 1) (f := iF) (fun _ => rfl) rfl rfl (hbk 1 (by simp) _ rfl), rdc (sz := 8) (f := Bm.cs) (fun _ => rfl) rfl rfl (hbk 2 (by simp) _ rfl), rdc (sz := 5) (f := Ld.cs) (fun _ => rfl) rfl rfl (hbk 3 (by simp) _ rfl), rfl, rfl, rfl, by decide, by decide, by decide⟩) ?_; intro z; obtain ⟨x1, x2⟩ := z; dsimp only)
    | refine neqE95 (q := false) (by simp) ?_
    | ((with_reducible show CallEv _ _ 25 _ _ _ _ _); refine callM (k := 25) [7] (fun β w' hbk hbw => ints_eq [0, 200] _ _ 2 _ _ w' rfl hbw.2 (rdc (sz := 1) (f := iF) (fun _ => rfl) rfl rfl (hbk 7 (by simp) _ rfl)) (by decide)) ?_)
  all_goals first | (exfalso; omega) | exact ⟨rfl, (), trivial, Ent.weak rfl trivial trivial fun _ h => h.1.1⟩

set_option maxHeartbeats 8000000 in
set_option maxRecDepth 100000 in
theorem Nm3 (w : World) (h4 : VC Try.prog (rest 2 (rest 8 (rest 3 body15))) ⟨222, [(15, .sl 0 0 1 1)], [(0, .cells [.v (iv 30), .v (iv 10)] 118)], 1, Below w.heap.size w, z0⟩ (endΦ env Try.f15 fun s σ => (∀ β, s.c β = .bool true) ∧ ∀ w', σ.h w' → Below w.heap.size w w')) : VC Try.prog (rest 8 (rest 3 body15)) ⟨222, [], [], 0, Below w.heap.size w, z0⟩ (endΦ env Try.f15 fun s σ => (∀ β, s.c β = .bool true) ∧ ∀ w', σ.h w' → Below w.heap.size w w') := by
  refine VC.cutH env mixed 2 1 (fun _ : Unit => [(15, .sl 0 0 1 1)]) (fun _ => [(0, .cells [.v (iv 30), .v (iv 10)] 118)]) (fun _ => Below w.heap.size w) (fun _ => True) (fun _ _ => ⟨rfl, rfl⟩) ?_ (fun _ _ => h4)
  clear h4
  repeat'
   conv => whnf
   first
    | refine zA ?_ | refine zB ?_ | refine zC ?_ | refine zD ?_ | refine zE ?_ | refine zF ?_ | refine zG ?_ | refine zH ?_ | refine zJ ?_ | refine zI ?_ | refine splT ?_ | refine splF ?_ | refine splNot ?_
    | ((first | refine splIn (fun hc => ?_) (fun hc => ?_) | refine splD (fun hc => ?_) (fun hc => ?_) | refine splE (fun hc => ?_) (fun hc => ?_) | refine splNE (fun hc => ?_) (fun hc => ?_)) <;> first | (exfalso; omega) | (exfalso; dsimp only at hc; omega) | skip)
  refine loopN 2 (fun k : Nat => [(15, .sl 0 0 1 1), (143, .sl 1 0 8 8), (144, .v (iv 8)), (145, .v (iv k))]) (fun _ => [(0, .cells [.v (iv 30), .v (iv 10)] 118), (1, .cells [.v (iv 1), .v (iv 1), .v (iv 1), .v (iv 1), .v (iv 1), .v (iv 0), .v (iv 0), .v (iv 1)] 3)]) (fun k => k ≤ 8) (fun k => 8 - k) 0 (by omega) ⟨rfl, rfl, rfl, rfl, trivial⟩ ⟨rfl, rfl, trivial⟩ (fun _ _ => ⟨rfl, rfl⟩) ?_
  intro k hk
  obtain rfl | rfl | rfl | rfl | rfl | rfl | rfl | rfl | rfl : k = 0 ∨ k = 1 ∨ k = 2 ∨ k = 3 ∨ k = 4 ∨ k = 5 ∨ k = 6 ∨ k = 7 ∨ k = 8 := by omega
  · skip
    repeat'
     conv => whnf
     first
      | refine zA ?_ | refine zB ?_ | refine zC ?_ | refine zD ?_ | refine zE ?_ | refine zF ?_ | refine zG ?_ | refine zH ?_ | refine zJ ?_ | refine zI ?_ | refine splT ?_ | refine splF ?_ | refine splNot ?_
      | ((first | refine splIn (fun hc => ?_) (fun hc => ?_) | refine splD (fun hc => ?_) (fun hc => ?_) | refine splE (fun hc => ?_) (fun hc => ?_) | refine splNE (fun hc => ?_) (fun hc => ?_)) <;> first | (exfalso; omega) | (exfalso; dsimp only at hc; omega) | skip)
      | ((with_reducible show CallEv _ _ 55 _ _ _ _ _); refine callF [] (fun y : Addr => .slice (some y) 3 3) (fun y => Rd 4 En.cs (.slice (some y) 3 3) exD) (fun β w' _ hbw => ex55_ok w') ?_; intro y; dsimp only)
      | ((with_reducible show CallEv _ _ 17 _ _ _ _ _); refine callF [0] (fun z : Option Addr × Nat => .tuple #[sV 1 z, iv 0]) (fun _ _ => True) (fun β w' hbk hbw => nm17_ok (β 0) _ 0 1 0 w' (rdc (sz := 2) (f := gF) (fun _ => rfl) rfl rfl (hbk 0 (by simp) _ rfl)) hbw.2 nm_st.1 nm_se.1) ?_; intro z; obtain ⟨z1, z2⟩ := z; dsimp only)
    all_goals first | (exfalso; omega) | exact ⟨1, by omega, by omega, Ent.weak rfl ⟨rfl, rfl, rfl, rfl, trivial⟩ ⟨rfl, rfl, trivial⟩ fun _ h => h.1.1⟩
  · skip
    repeat'
     conv => whnf
     first
      | refine zA ?_ | refine zB ?_ | refine zC ?_ | refine zD ?_ | refine zE ?_ | refine zF ?_ | refine zG ?_ | refine zH ?_ | refine zJ ?_ | refine zI ?_ | refine splT ?_ | refine splF ?_ | refine splNot ?_
      | ((first | refine splIn (fun hc => ?_) (fun hc => ?_) | refine splD (fun hc => ?_) (fun hc => ?_) | refine splE (fun hc => ?_) (fun hc => ?_) | refine splNE (fun hc => ?_) (fun hc => ?_)) <;> first | (exfalso; omega) | (exfalso; dsimp only at hc; omega) | skip)
      | ((with_reducible show CallEv _ _ 55 _ _ _ _ _); refine callF [] (fun y : Addr => .slice (some y) 3 3) (fun y => Rd 4 En.cs (.slice (some y) 3 3) exD) (fun β w' _ hbw => ex55_ok w') ?_; intro y; dsimp only)
      | ((with_reducible show CallEv _ _ 17 _ _ _ _ _); refine callF [0] (fun z : Option Addr × Nat => .tuple #[sV 1 z, iv 0]) (fun _ _ => True) (fun β w' hbk hbw => nm17_ok (β 0) _ 1 1 0 w' (rdc (sz := 2) (f := gF) (fun _ => rfl) rfl rfl (hbk 0 (by simp) _ rfl)) hbw.2 nm_st.2.1 nm_se.2.1) ?_; intro z; obtain ⟨z1, z2⟩ := z; dsimp only)
    all_goals first | (exfalso; omega) | exact ⟨2, by omega, by omega, Ent.weak rfl ⟨rfl, rfl, rfl, rfl, trivial⟩ ⟨rfl, rfl, trivial⟩ fun _ h => h.1.1⟩
  · skip
    repeat'
     conv => whnf
     first
      | refine zA ?_ | refine zB ?_ | refine zC ?_ | refine zD ?_ | refine zE ?_ | refine zF ?_ | refine zG ?_ | refine zH ?_ | refine zJ ?_ | refine zI ?_ | refine splT ?_ | refine splF ?_ | refine splNot ?_
      | ((first | refine splIn (fun hc => ?_) (fun hc => ?_) | refine splD (fun hc => ?_) (fun hc => ?_) | refine splE (fun hc => ?_) (fun hc => ?_) | refine splNE (fun hc => ?_) (fun hc => ?_)) <;> first | (exfalso; omega) | (exfalso; dsimp only at hc; omega) | skip)
      | ((with_reducible show CallEv _ _ 55 _ _ _ _ _); refine callF [] (fun y : Addr => .slice (some y) 3 3) (fun y => Rd 4 En.cs (.slice (some y) 3 3) exD) (fun β w' _ hbw => ex55_ok w') ?_; intro y; dsimp only)
      | ((with_reducible show CallEv _ _ 17 _ _ _ _ _); refine callF [0] (fun z : Option Addr × Nat => .tuple #[sV 1 z, iv 0]) (fun _ _ => True) (fun β w' hbk hbw => nm17_ok (β 0) _ 2 1 0 w' (rdc (sz := 2) (f := gF) (fun _ => rfl) rfl rfl (hbk 0 (by simp) _ rfl)) hbw.2 nm_st.2.2.1 nm_se.2.2.1) ?_; intro z; obtain ⟨z1, z2⟩ := z; dsimp only)
    all_goals first | (exfalso; omega) | exact ⟨3, by omega, by omega, Ent.weak rfl ⟨rfl, rfl, rfl, rfl, trivial⟩ ⟨rfl, rfl, trivial⟩ fun _ h => h.1.1⟩
  · skip
    repeat'
     conv => whnf
     first
      | refine zA ?_ | refine zB ?_ | refine zC ?_ | refine zD ?_ | refine zE ?_ | refine zF ?_ | refine zG ?_ | refine zH ?_ | refine zJ ?_ | refine zI ?_ | refine splT ?_ | refine splF ?_ | refine splNot ?_
      | ((first | refine splIn (fun hc => ?_) (fun hc => ?_) | refine splD (fun hc => ?_) (fun hc => ?_) | refine splE (fun hc => ?_) (fun hc => ?_) | refine splNE (fun hc => ?_) (fun hc => ?_)) <;> first | (exfalso; omega) | (exfalso; dsimp only at hc; omega) | skip)
      | ((with_reducible show CallEv _ _ 55 _ _ _ _ _); refine callF [] (fun y : Addr => .slice (some y) 3 3) (fun y => Rd 4 En.cs (.slice (some y) 3 3) exD) (fun β w' _ hbw => ex55_ok w') ?_; intro y; dsimp only)
      | ((with_reducible show CallEv _ _ 17 _ _ _ _ _); refine callF [0] (fun z : Option Addr × Nat => .tuple #[sV 1 z, iv 0]) (fun _ _ => True) (fun β w' hbk hbw => nm17_ok (β 0) _ 3 1 0 w' (rdc (sz := 2) (f := gF) (fun _ => rfl) rfl rfl (hbk 0 (by simp) _ rfl)) hbw.2 nm_st.2.2.2.1 nm_se.2.2.2.1) ?_; intro z; obtain ⟨z1, z2⟩ := z; dsimp only)
    all_goals first | (exfalso; omega) | exact ⟨4, by omega, by omega, Ent.weak rfl ⟨rfl, rfl, rfl, rfl, trivial⟩ ⟨rfl, rfl, trivial⟩ fun _ h => h.1.1⟩
  · skip
    repeat'
     conv => whnf
     first
      | refine zA ?_ | refine zB ?_ | refine zC ?_ | refine zD ?_ | refine zE ?_ | refine zF ?_ | refine zG ?_ | refine zH ?_ | refine zJ ?_ | refine zI ?_ | refine splT ?_ | refine splF ?_ | refine splNot ?_
      | ((first | refine splIn (fun hc => ?_) (fun hc => ?_) | refine splD (fun hc => ?_) (fun hc => ?_) | refine splE (fun hc => ?_) (fun hc => ?_) | refine splNE (fun hc => ?_) (fun hc => ?_)) <;> first | (exfalso; omega) | (exfalso; dsimp only at hc; omega) | skip)
      | ((with_reducible show CallEv _ _ 55 _ _ _ _ _); refine callF [] (fun y : Addr => .slice (some y) 3 3) (fun y => Rd 4 En.cs (.slice (some y) 3 3) exD) (fun β w' _ hbw => ex55_ok w') ?_; intro y; dsimp only)
      | ((with_reducible show CallEv _ _ 17 _ _ _ _ _); refine callF [0] (fun z : Option Addr × Nat => .tuple #[sV 1 z, iv 0]) (fun _ _ => True) (fun β w' hbk hbw => nm17_ok (β 0) _ 4 1 0 w' (rdc (sz := 2) (f := gF) (fun _ => rfl) rfl rfl (hbk 0 (by simp) _ rfl)) hbw.2 nm_st.2.2.2.2.1 nm_se.2.2.2.2.1) ?_; intro z; obtain ⟨z1, z2⟩ := z; dsimp only)
    all_goals first | (exfalso; omega) | exact ⟨5, by omega, by omega, Ent.weak rfl ⟨rfl, rfl, rfl, rfl, trivial⟩ ⟨rfl, rfl, trivial⟩ fun _ h => h.1.1⟩
  · skip
    repeat'
     conv => whnf
     first
      | refine zA ?_ | refine zB ?_ | refine zC ?_ | refine zD ?_ | refine zE ?_ | refine zF ?_ | refine zG ?_ | refine zH ?_ | refine zJ ?_ | refine zI ?_ | refine splT ?_ | refine splF ?_ | refine splNot ?_
      | ((first | refine splIn (fun hc => ?_) (fun hc => ?_) | refine splD (fun hc => ?_) (fun hc => ?_) | refine splE (fun hc => ?_) (fun hc => ?_) | refine splNE (fun hc => ?_) (fun hc => ?_)) <;> first | (exfalso; omega) | (exfalso; dsimp only at hc; omega) | skip)
      | ((with_reducible show CallEv _ _ 55 _ _ _ _ _); refine callF [] (fun y : Addr => .slice (some y) 3 3) (fun y => Rd 4 En.cs (.slice (some y) 3 3) exD) (fun β w' _ hbw => ex55_ok w') ?_; intro y; dsimp only)
      | ((with_reducible show CallEv _ _ 17 _ _ _ _ _); refine callF [0] (fun z : Option Addr × Nat => .tuple #[sV 0 z, iv 0]) (fun _ _ => True) (fun β w' hbk hbw => nm17_ok (β 0) _ 5 0 0 w' (rdc (sz := 2) (f := gF) (fun _ => rfl) rfl rfl (hbk 0 (by simp) _ rfl)) hbw.2 nm_st.2.2.2.2.2.1 nm_se.2.2.2.2.2.1) ?_; intro z; obtain ⟨z1, z2⟩ := z; dsimp only)
    all_goals first | (exfalso; omega) | exact ⟨6, by omega, by omega, Ent.weak rfl ⟨rfl, rfl, rfl, rfl, trivial⟩ ⟨rfl, rfl, trivial⟩ fun _ h => h.1.1⟩
  · skip
    repeat'
     conv => whnf
     first
      | refine zA ?_ | refine zB ?_ | refine zC ?_ | refine zD ?_ | refine zE ?_ | refine zF ?_ | refine zG ?_ | refine zH ?_ | refine zJ ?_ | refine zI ?_ | refine splT ?_ | refine splF ?_ | refine splNot ?_
      | ((first | refine splIn (fun hc => ?_) (fun hc => ?_) | refine splD (fun hc => ?_) (fun hc => ?_) | refine splE (fun hc => ?_) (fun hc => ?_) | refine splNE (fun hc => ?_) (fun hc => ?_)) <;> first | (exfalso; omega) | (exfalso; dsimp only at hc; omega) | skip)
      | ((with_reducible show CallEv _ _ 55 _ _ _ _ _); refine callF [] (fun y : Addr => .slice (some y) 3 3) (fun y => Rd 4 En.cs (.slice (some y) 3 3) exD) (fun β w' _ hbw => ex55_ok w') ?_; intro y; dsimp only)
      | ((with_reducible show CallEv _ _ 17 _ _ _ _ _); refine callF [0] (fun z : Option Addr × Nat => .tuple #[sV 0 z, iv 0]) (fun _ _ => True) (fun β w' hbk hbw => nm17_ok (β 0) _ 6 0 0 w' (rdc (sz := 2) (f := gF) (fun _ => rfl) rfl rfl (hbk 0 (by simp) _ rfl)) hbw.2 nm_st.2.2.2.2.2.2.1 nm_se.2.2.2.2.2.2.1) ?_; intro z; obtain ⟨z1, z2⟩ := z; dsimp only)
    all_goals first | (exfalso; omega) | exact ⟨7, by omega, by omega, Ent.weak rfl ⟨rfl, rfl, rfl, rfl, trivial⟩ ⟨rfl, rfl, trivial⟩ fun _ h => h.1.1⟩
  · skip
    repeat'
     conv => whnf
     first
      | refine zA ?_ | refine zB ?_ | refine zC ?_ | refine zD ?_ | refine zE ?_ | refine zF ?_ | refine zG ?_ | refine zH ?_ | refine zJ ?_ | refine zI ?_ | refine splT ?_ | refine splF ?_ | refine splNot ?_
      | ((first | refine splIn (fun hc => ?_) (fun hc => ?_) | refine splD (fun hc => ?_) (fun hc => ?_) | refine splE (fun hc => ?_) (fun hc => ?_) | refine splNE (fun hc => ?_) (fun hc => ?_)) <;> first | (exfalso; omega) | (exfalso; dsimp only at hc; omega) | skip)
      | ((with_reducible show CallEv _ _ 55 _ _ _ _ _); refine callF [] (fun y : Addr => .slice (some y) 3 3) (fun y => Rd 4 En.cs (.slice (some y) 3 3) exD) (fun β w' _ hbw => ex55_ok w') ?_; intro y; dsimp only)
      | ((with_reducible show CallEv _ _ 17 _ _ _ _ _); refine callF [0] (fun z : Option Addr × Nat => .tuple #[sV 1 z, iv 0]) (fun _ _ => True) (fun β w' hbk hbw => nm17_ok (β 0) _ 7 1 0 w' (rdc (sz := 2) (f := gF) (fun _ => rfl) rfl rfl (hbk 0 (by simp) _ rfl)) hbw.2 nm_st.2.2.2.2.2.2.2 nm_se.2.2.2.2.2.2.2) ?_; intro z; obtain ⟨z1, z2⟩ := z; dsimp only)
    all_goals first | (exfalso; omega) | exact ⟨8, by omega, by omega, Ent.weak rfl ⟨rfl, rfl, rfl, rfl, trivial⟩ ⟨rfl, rfl, trivial⟩ fun _ h => h.1.1⟩
  · skip
    repeat'
     conv => whnf
     first
      | refine zA ?_ | refine zB ?_ | refine zC ?_ | refine zD ?_ | refine zE ?_ | refine zF ?_ | refine zG ?_ | refine zH ?_ | refine zJ ?_ | refine zI ?_ | refine splT ?_ | refine splF ?_ | refine splNot ?_
      | ((first | refine splIn (fun hc => ?_) (fun hc => ?_) | refine splD (fun hc => ?_) (fun hc => ?_) | refine splE (fun hc => ?_) (fun hc => ?_) | refine splNE (fun hc => ?_) (fun hc => ?_)) <;> first | (exfalso; omega) | (exfalso; dsimp only at hc; omega) | skip)
    all_goals first | (exfalso; omega) | exact ⟨rfl, (), trivial, Ent.weak rfl ⟨rfl, trivial⟩ ⟨rfl, trivial⟩ fun _ h => h⟩

theorem nm17b (o : Option Addr) (c : Nat) (w : World) (h : Rd 2 gF (.slice o 21 c) exG0 w) : Calls Try.prog 17 #[.slice o 21 c, .slice none 0 0, iv 0] w fun e w' => ∃ z : Option Addr × Nat, e = .returned (.tuple #[sV 0 z, iv 3]) ∧ Below w.heap.size w w' ∧ St w.heap.size (fun _ => True) w' := by
  refine (Stale_ok exG0 [] o none c 0 0 w h (.inl ⟨rfl, rfl⟩) (by decide) (by decide)).mono fun e w' ⟨z, h1, h2, h3⟩ => ?_
  rw [nm_s2.1, nm_s2.2] at h1
  exact ⟨z, h1, h2, fun _ _ => trivial⟩
theorem nm22b (y : Addr) (w : World) (h : Rd 4 En.cs (.slice (some y) 3 3) exD w) : Calls Try.prog 22 #[.slice none 0 0, .slice (some y) 3 3] w fun e w' => e = .returned (iv 1) ∧ Below w.heap.size w w' := by
  have := CheckLog_ok [] exD none (some y) 0 3 w (.inl ⟨rfl, rfl⟩) h (by decide) (by decide)
  rw [show lgE [] exD = 1 from by kernel_rfl] at this
  exact this
set_option maxHeartbeats 8000000 in
set_option maxRecDepth 100000 in
theorem Nm4 (w : World) : VC Try.prog (rest 2 (rest 8 (rest 3 body15))) ⟨222, [(15, .sl 0 0 1 1)], [(0, .cells [.v (iv 30), .v (iv 10)] 118)], 1, Below w.heap.size w, z0⟩ (endΦ env Try.f15 fun s σ => (∀ β, s.c β = .bool true) ∧ ∀ w', σ.h w' → Below w.heap.size w w') := by
  refine VC.cutH env mixed 4 1 (fun _ : Unit => [(22, .v (iv 2)), (24, .v (iv 2)), (26, .v (iv 2)), (28, .v (iv 3))]) (fun _ => []) (fun _ => Below w.heap.size w) (fun _ => True) (fun _ _ => ⟨rfl, rfl⟩) ?_ (fun _ _ => ?_)
  · skip
    repeat'
     conv => whnf
     first
      | refine zA ?_ | refine zB ?_ | refine zC ?_ | refine zD ?_ | refine zE ?_ | refine zF ?_ | refine zG ?_ | refine zH ?_ | refine zJ ?_ | refine zI ?_ | refine splT ?_ | refine splF ?_ | refine splNot ?_
      | ((first | refine splIn (fun hc => ?_) (fun hc => ?_) | refine splD (fun hc => ?_) (fun hc => ?_) | refine splE (fun hc => ?_) (fun hc => ?_) | refine splNE (fun hc => ?_) (fun hc => ?_)) <;> first | (exfalso; omega) | (exfalso; dsimp only at hc; omega) | skip)
      | ((with_reducible show CallEv _ _ 54 _ _ _ _ _); refine callF [] exV (fun y => exI y exB exL) (fun β w' _ hbw => ex54_ok w') ?_; intro y; obtain ⟨y1, y2, y3⟩ := y; dsimp only)
      | ((with_reducible show CallEv _ _ 29 _ _ _ _ _); refine callF [1] (fun z : (Option Addr × Nat) × (Option Addr × Nat) => .tuple #[sV 0 z.1, sV 0 z.2, iv 2]) (fun _ _ => True) (fun β w' hbk hbw => nm29_ok _ (β 1) w' hbw.2 (rdc (sz := 1) (f := iF) (fun _ => rfl) rfl rfl (hbk 1 (by simp) _ rfl))) ?_; intro z; obtain ⟨⟨z1, z2⟩, z3, z4⟩ := z; dsimp only)
      | ((with_reducible show CallEv _ _ 49 _ _ _ _ _); refine callE (k := 49) (fun β w' hbw => nm49 (_, _, _) exB exL 1 0 0 2 _ hbw.2 (by simp [exL]) (nm_r4 _ _ _).1 (nm_r4 _ _ _).2) ?_)
      | ((with_reducible show CallEv _ _ 55 _ _ _ _ _); refine callF [] (fun y : Addr => .slice (some y) 3 3) (fun y => Rd 4 En.cs (.slice (some y) 3 3) exD) (fun β w' _ hbw => ex55_ok w') ?_; intro y; dsimp only)
      | ((with_reducible show CallEv _ _ 17 [_, _, .v (iv (-1))] _ _ _ _); refine callF [0] (fun z : Option Addr × Nat => .tuple #[sV 0 z, iv 2]) (fun _ _ => True) (fun β w' hbk hbw => nm17_ok (β 0) _ (-1) 0 2 w' (rdc (sz := 2) (f := gF) (fun _ => rfl) rfl rfl (hbk 0 (by simp) _ rfl)) hbw.2 (by rw [nm_s1.2]; rfl) nm_s1.1) ?_; intro z; obtain ⟨z5, z6⟩ := z; dsimp only)
      | refine mkO env 2 21 (exG0.flatMap gF) rfl rfl rfl (by decide) rfl (by omega) (by decide) rfl rfl ?_
      | ((with_reducible show CallEv _ _ 17 _ _ _ _ _); refine callF [2] (fun z : Option Addr × Nat => .tuple #[sV 0 z, iv 3]) (fun _ _ => True) (fun β w' hbk hbw => nm17b _ _ w' (Rd.of_owns (sz := 2) (f := gF) (fun _ => rfl) rfl rfl (hbk 2 (by simp) _ rfl))) ?_; intro z; obtain ⟨z7, z8⟩ := z; dsimp only)
    all_goals first | (exfalso; omega) | exact ⟨rfl, (), trivial, Ent.weak rfl ⟨rfl, rfl, rfl, rfl, trivial⟩ trivial fun _ h => h.1.1.1.1.1.1⟩
  · refine VC.of env mixed ?_
    repeat'
     conv => whnf
     first
      | refine zA ?_ | refine zB ?_ | refine zC ?_ | refine zD ?_ | refine zE ?_ | refine zF ?_ | refine zG ?_ | refine zH ?_ | refine zJ ?_ | refine zI ?_ | refine splT ?_ | refine splF ?_ | refine splNot ?_
      | ((first | refine splIn (fun hc => ?_) (fun hc => ?_) | refine splD (fun hc => ?_) (fun hc => ?_) | refine splE (fun hc => ?_) (fun hc => ?_) | refine splNE (fun hc => ?_) (fun hc => ?_)) <;> first | (exfalso; omega) | (exfalso; dsimp only at hc; omega) | skip)
      | ((with_reducible show CallEv _ _ 54 _ _ _ _ _); refine callI env mixed 1000 [22, 24, 26, 28] Try.func54 has54 Try.ntmps54 (Nat.le_of_ble_eq_true rfl) rfl rfl rfl ?_)
      | ((with_reducible show CallEv _ _ 34 _ _ _ _ _); refine callM (k := 34) [2, 3, 4] (fun β w' hbk hbw => nm34_ok (⟨β 2, 0, none⟩, ⟨β 3, 0, none⟩, ⟨β 4, 0, none⟩) w' (⟨rdc (sz := 1) (f := iF) (fun _ => rfl) rfl rfl (hbk 2 (by simp) _ rfl), rdc (sz := 8) (f := Bm.cs) (fun _ => rfl) rfl rfl (hbk 3 (by simp) _ rfl), rdc (sz := 5) (f := Ld.cs) (fun _ => rfl) rfl rfl (hbk 4 (by simp) _ rfl), rfl, rfl, rfl, by decide, by decide, by decide⟩)) ?_)
      | ((with_reducible show CallEv _ _ 55 _ _ _ _ _); refine callF [] (fun y : Addr => .slice (some y) 3 3) (fun y => Rd 4 En.cs (.slice (some y) 3 3) exD) (fun β w' _ hbw => ex55_ok w') ?_; intro y; dsimp only)
      | ((with_reducible show CallEv _ _ 22 _ _ _ _ _); refine callE (k := 22) (fun β w' hbw => nm22b _ _ hbw.2) ?_)
      | ((with_reducible show CallEv _ _ 16 _ _ _ _ _); refine callE (k := 16) (fun β w' hbw => awake_ok _) ?_)
    all_goals first | (exfalso; omega) | exact ⟨fun β => rfl, fun w' h => h.1⟩
theorem RiggingNames_ok (w : World) : Calls Try.prog 15 #[] w fun e w' => e = .returned (.bool true) ∧ Below w.heap.size w w' := Nm1 w (Nm2 w (Nm3 w (Nm4 w)))
end Go.Proofs.Ytaciigegbgnadaa
