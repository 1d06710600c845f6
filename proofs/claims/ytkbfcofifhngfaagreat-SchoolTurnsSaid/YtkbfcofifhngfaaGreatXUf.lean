/- Part 6 of the proof: texts merged. -/
import Derived.Test.YtkbfcofifhngfaaGreatXUe
set_option maxHeartbeats 8000000
set_option maxRecDepth 100000
set_option linter.unusedSectionVars false
set_option linter.unusedSimpArgs false
set_option linter.unusedVariables false
namespace Go.Proofs.YtkbfcofifhngfaaGreat
open Go Tx Go.RowKit
theorem ints2 (a b : Int) (o : Option Addr) (c bb : Nat) (w : World) (h : Rd 1 iF (.slice o 2 c) [a, b] w) (hb : w.heap[bb]? = some (.cells #[iv a, iv b] 3 (0, 0))) : Calls Tryz.prog 36 #[.slice o 2 c, .slice (some ⟨bb, 0, none⟩) 2 2] w fun e w' => e = .returned (.bool true) ∧ Below w.heap.size w w' := by
 have h1 : Rd 1 iF (.slice (some ⟨bb, 0, none⟩) 2 2) [a, b] w := Rd.of_cells (sz := 1) (f := iF) (bs := [a, b]) (fun _ => rfl) rfl hb
 have := ints_ok [a, b] [a, b] o (some ⟨bb, 0, none⟩) c 2 w h h1 (by show (2 : Nat) ≤ 1000000; omega)
 rw [decide_eq_true (rfl : [a, b] = [a, b])] at this
 exact this
theorem Aw5 (w : World) (zo ao bo co to : Option Addr) (zc ac bc cc tc : Nat) :
 VC Tryz.prog (rest 10 body12) ⟨108, [(2, .v (iv 7)), (3, .v (iv 4)), (4, .v (iv 0)), (6, .ptr 0 0), (7, .v (iv 0)), (10, .v (.slice ao 2 ac)), (11, .v (.slice bo 2 bc)), (12, .v (iv 0)), (13, .v (.slice co 2 cc)), (14, .v (iv 0)), (15, .v (.slice to 4 tc)), (16, .v (iv 0))], [(0, .cells [.v (.int .u8 2), .v (iv 0), .v (.slice zo 1 zc), .v (iv 4), .v (iv 3)] 56)], 1, fun w' => Below w.heap.size w w' ∧ St w.heap.size (Rd 1 iF (.slice zo 1 zc) [1]) w' ∧ St w.heap.size (Rd 1 iF (.slice ao 2 ac) [15, 3]) w' ∧ St w.heap.size (Rd 1 iF (.slice bo 2 bc) [25, 7]) w' ∧ St w.heap.size (Rd 1 iF (.slice co 2 cc) [13, 4]) w', z0⟩ (endΦ env Tryz.f12 fun v σ => (∀ β, v.c β = .bool true) ∧ ∀ w', σ.h w' → Below w.heap.size w w') := by
 refine VC.of env mixed ?_
 have h23 : ∀ (b : Nat) (w' : World), Rd 1 iF (.slice zo 1 zc) [1] w' → w'.heap[b]? = some (.cells #[iv 1] 3 (0, 0)) → Calls Tryz.prog 23 #[(⟨2, 0, zo, zc, [1], 4, 3⟩ : Rn).v, (⟨2, 0, some ⟨b, 0, none⟩, 1, [1], 4, 3⟩ : Rn).v] w' fun e w2 => e = Ending.returned (.bool true) ∧ Below w'.heap.size w' w2 := fun b w' h hb => same_ok ⟨2, 0, zo, zc, [1], 4, 3⟩ ⟨2, 0, some ⟨b, 0, none⟩, 1, [1], 4, 3⟩ w' h (Rd.of_cells (sz := 1) (f := iF) (bs := [1]) (fun _ => rfl) rfl hb) (by show (1 : Nat) ≤ 1000000; omega)
 repeat'
  conv => whnf
  first
   |refine zB ?_|refine zD ?_|refine splT ?_
   |((with_reducible show CallEv _ _ 23 ..); refine callM [1] (fun β w' hbk hbw => h23 (β 1) w' hbw.2.1.now (hbk 1 (by simp) _ rfl)) ?_)
   |((with_reducible show CallEv _ _ 36 [.v (.slice ao 2 ac), _] _ _ _ _); refine callM (k := 36) [2] (fun β w' hbk hbw => ints2 15 3 ao ac (β 2) w' hbw.2.2.1.now (hbk 2 (by simp) _ rfl)) ?_)
   |((with_reducible show CallEv _ _ 36 [.v (.slice bo 2 bc), _] _ _ _ _); refine callM (k := 36) [3] (fun β w' hbk hbw => ints2 25 7 bo bc (β 3) w' hbw.2.2.2.1.now (hbk 3 (by simp) _ rfl)) ?_)
   |((with_reducible show CallEv _ _ 36 [.v (.slice co 2 cc), _] _ _ _ _); refine callM (k := 36) [4] (fun β w' hbk hbw => ints2 13 4 co cc (β 4) w' hbw.2.2.2.2.now (hbk 4 (by simp) _ rfl)) ?_)
 all_goals exact ⟨fun β => rfl, fun w' h => h.1⟩
theorem Aw4 (w : World) (zo ao bo co : Option Addr) (zc ac bc cc : Nat) :
 VC Tryz.prog (rest 9 body12) ⟨108, [(2, .v (iv 7)), (3, .v (iv 4)), (4, .v (iv 0)), (6, .ptr 0 0), (7, .v (iv 0)), (10, .v (.slice ao 2 ac)), (11, .v (.slice bo 2 bc)), (12, .v (iv 0)), (13, .v (.slice co 2 cc)), (14, .v (iv 0))], [(0, .cells [.v (.int .u8 2), .v (iv 0), .v (.slice zo 1 zc), .v (iv 4), .v (iv 3)] 56)], 1, fun w' => Below w.heap.size w w' ∧ St w.heap.size (Rd 1 iF (.slice zo 1 zc) [1]) w' ∧ St w.heap.size (Rd 1 iF (.slice ao 2 ac) [15, 3]) w' ∧ St w.heap.size (Rd 1 iF (.slice bo 2 bc) [25, 7]) w' ∧ St w.heap.size (Rd 1 iF (.slice co 2 cc) [13, 4]) w', z0⟩ (endΦ env Tryz.f12 fun v σ => (∀ β, v.c β = .bool true) ∧ ∀ w', σ.h w' → Below w.heap.size w w') := by
 have h32 := fun (w' : World) (hw : Below w.heap.size w w') => famS hw (camp_ok w')
 have h13 : ∀ (y : Sc), y.d = campD → ∀ (w' : World), ScIn y w' → Calls Tryz.prog 13 #[y.v] w' fun e w2 => ∃ p : Option Addr × Nat, e = Ending.returned (.tuple #[.slice p.1 4 p.2, iv 0]) ∧ Below w'.heap.size w' w2 ∧ St w'.heap.size (fun _ => True) w2 := fun y hy w' h => by
  have h0 := Table_ok y w' h (camp0_b.d hy)
  rw [hy] at h0
  refine h0.mono fun e w2 ⟨x, h1, h2, h3⟩ => ⟨(x.o, x.c), ?_, h2, fun _ _ => trivial⟩
  have h4 := (x.h awk1.2.2.2.2.1).1
  unfold rfitB at h4
  simp only [Bool.and_eq_true, decide_eq_true_eq] at h4
  have h5 : x.R.length = 4 := by have h6 := h4.1; rw [List.length_map] at h6; have h7 : campD.sl = 4 := rfl; omega
  rw [h1]
  show Ending.returned (Value.tuple #[.slice x.o x.R.length x.c, iv (errT campD)]) = _
  rw [h5, awk1.2.2.2.2.1]
 refine VC.cutE env mixed 1 1 (fun p : Option Addr × Nat => [(2, .v (iv 7)), (3, .v (iv 4)), (4, .v (iv 0)), (6, .ptr 0 0), (7, .v (iv 0)), (10, .v (.slice ao 2 ac)), (11, .v (.slice bo 2 bc)), (12, .v (iv 0)), (13, .v (.slice co 2 cc)), (14, .v (iv 0)), (15, .v (.slice p.1 4 p.2)), (16, .v (iv 0))]) (fun _ => [(0, .cells [.v (.int .u8 2), .v (iv 0), .v (.slice zo 1 zc), .v (iv 4), .v (iv 3)] 56)]) (fun _ => True) (fun _ _ => ⟨rfl, rfl⟩) ?_ (fun p _ => Aw5 w zo ao bo co p.1 zc ac bc cc p.2)
 repeat'
  conv => whnf
  first
   |refine zD ?_
   |((with_reducible show CallEv _ _ 32 ..); refine callF [] (fun y : { y : Sc // y.d = campD } => y.1.v) (fun y => St w.heap.size (ScIn y.1)) (fun β w' _ hbw => h32 w' (by repeat (first | exact hbw | replace hbw := hbw.1))) ?_; rintro ⟨⟨sl, ro, su, go, gc, G, to, tc, T⟩, hy⟩)
   |((with_reducible show CallEv _ _ 13 ..); refine callF [] (fun p : Option Addr × Nat => .tuple #[.slice p.1 4 p.2, iv 0]) (fun _ _ => True) (fun β w' _ hbw => h13 _ hy w' hbw.2.now) ?_; intro p)
 all_goals exact ⟨rfl, p, trivial, Ent.weak rfl ⟨rfl, rfl, rfl, rfl, rfl, rfl, rfl, rfl, rfl, rfl, rfl, rfl, trivial⟩ ⟨rfl, trivial⟩ fun w' h => h.1.1⟩
structure P3 where
 ao : Option Addr
 ac : Nat
 bo : Option Addr
 bc : Nat
 co : Option Addr
 cc : Nat
theorem Aw3 (w : World) (zo : Option Addr) (zc : Nat) :
 VC Tryz.prog (rest 6 body12) ⟨108, [(2, .v (iv 7)), (3, .v (iv 4)), (4, .v (iv 0)), (6, .ptr 0 0), (7, .v (iv 0))], [(0, .cells [.v (.int .u8 2), .v (iv 0), .v (.slice zo 1 zc), .v (iv 4), .v (iv 3)] 56)], 1, fun w' => Below w.heap.size w w' ∧ St w.heap.size (Rd 1 iF (.slice zo 1 zc) [1]) w', z0⟩ (endΦ env Tryz.f12 fun v σ => (∀ β, v.c β = .bool true) ∧ ∀ w', σ.h w' → Below w.heap.size w w') := by
 have h33 := fun (w' : World) (hw : Below w.heap.size w w') => famS hw (year_ok w')
 have h34 : ∀ (y : Yr) (w' : World), Below w.heap.size w w' → CrIn y.x w' ∧ SyIn y.o y.c y.S w' → Calls Tryz.prog 34 #[y.x.v, .slice y.o y.S.length y.c] w' fun e w2 => ∃ p : (Option Addr × Nat) × (Option Addr × Nat), e = Ending.returned (.tuple #[.slice p.1.1 2 p.1.2, .slice p.2.1 2 p.2.2, iv 0]) ∧ Below w'.heap.size w' w2 ∧ St w'.heap.size (fun w3 => St w.heap.size (Rd 1 iF (.slice p.1.1 2 p.1.2) [15, 3]) w3 ∧ St w.heap.size (Rd 1 iF (.slice p.2.1 2 p.2.2) [25, 7]) w3) w2 := fun y w' hw h => by
  have h0 := famS hw (Has_ok y.x y.o y.c y.S w' h.1 h.2)
  obtain ⟨e1, e2, e3, e4⟩ : y.x.N = [40, 10] ∧ y.x.wk = 4 ∧ y.x.CC = [[1000, 1000], [500, 1500]] ∧ y.S.map Sy.d = [(0, [12, 2]), (1, [7, 1])] := by have := y.h; simp only [Prod.mk.injEq] at this; exact this
  rw [e1, e2, e3, e4, awk3.1, awk3.2.1, awk3.2.2.1] at h0
  exact h0.mono fun e w2 ⟨p, h1, h2, h3⟩ => ⟨p, h1, h2, fun w3 k3 => ⟨fun w4 k4 => (h3 w3 k3 w4 k4).1, fun w4 k4 => (h3 w3 k3 w4 k4).2⟩⟩
 have h35 : ∀ (y : Yr) (w' : World), Below w.heap.size w w' → CrIn y.x w' ∧ SyIn y.o y.c y.S w' → Calls Tryz.prog 35 #[y.x.v, .slice y.o y.S.length y.c] w' fun e w2 => ∃ p : Option Addr × Nat, e = Ending.returned (.tuple #[.slice p.1 2 p.2, iv 0]) ∧ Below w'.heap.size w' w2 ∧ St w'.heap.size (fun w3 => St w.heap.size (Rd 1 iF (.slice p.1 2 p.2) [13, 4]) w3) w2 := fun y w' hw h => by
  have h0 := famS hw (Next_ok y.x y.o y.c y.S w' h.1 h.2)
  obtain ⟨e1, e2, e3, e4⟩ : y.x.N = [40, 10] ∧ y.x.wk = 4 ∧ y.x.CC = [[1000, 1000], [500, 1500]] ∧ y.S.map Sy.d = [(0, [12, 2]), (1, [7, 1])] := by have := y.h; simp only [Prod.mk.injEq] at this; exact this
  rw [e1, e2, e3, e4, awk3.2.2.2.1, awk3.2.2.2.2] at h0
  exact h0
 refine VC.cutH env mixed 3 1 (fun p : P3 => [(2, .v (iv 7)), (3, .v (iv 4)), (4, .v (iv 0)), (6, .ptr 0 0), (7, .v (iv 0)), (10, .v (.slice p.ao 2 p.ac)), (11, .v (.slice p.bo 2 p.bc)), (12, .v (iv 0)), (13, .v (.slice p.co 2 p.cc)), (14, .v (iv 0))]) (fun _ => [(0, .cells [.v (.int .u8 2), .v (iv 0), .v (.slice zo 1 zc), .v (iv 4), .v (iv 3)] 56)]) (fun p w' => Below w.heap.size w w' ∧ St w.heap.size (Rd 1 iF (.slice zo 1 zc) [1]) w' ∧ St w.heap.size (Rd 1 iF (.slice p.ao 2 p.ac) [15, 3]) w' ∧ St w.heap.size (Rd 1 iF (.slice p.bo 2 p.bc) [25, 7]) w' ∧ St w.heap.size (Rd 1 iF (.slice p.co 2 p.cc) [13, 4]) w') (fun _ => True) (fun _ _ => ⟨rfl, rfl⟩) ?_ (fun p _ => Aw4 w zo p.ao p.bo p.co zc p.ac p.bc p.cc)
 repeat'
  conv => whnf
  first
   |refine zC ?_|refine zD ?_
   |((with_reducible show CallEv _ _ 33 ..); refine callF [] (fun y : Yr => y.v) (fun y w' => St w.heap.size (fun w2 => CrIn y.x w2 ∧ SyIn y.o y.c y.S w2) w') (fun β w' _ hbw => h33 w' (by repeat (first | exact hbw | replace hbw := hbw.1))) ?_; rintro ⟨⟨no, nc, NN, wk, ko, kc, C⟩, so, sc, S, hy⟩)
   |((with_reducible show CallEv _ _ 34 ..); refine callF [] (fun p : (Option Addr × Nat) × (Option Addr × Nat) => .tuple #[.slice p.1.1 2 p.1.2, .slice p.2.1 2 p.2.2, iv 0]) (fun p w3 => St w.heap.size (Rd 1 iF (.slice p.1.1 2 p.1.2) [15, 3]) w3 ∧ St w.heap.size (Rd 1 iF (.slice p.2.1 2 p.2.2) [25, 7]) w3) (fun β w' _ hbw => h34 ⟨⟨no, nc, NN, wk, ko, kc, C⟩, so, sc, S, hy⟩ w' (by repeat (first | exact hbw | replace hbw := hbw.1)) hbw.2.now) ?_; intro p)
   |((with_reducible show CallEv _ _ 35 ..); refine callF [] (fun p : Option Addr × Nat => .tuple #[.slice p.1 2 p.2, iv 0]) (fun p w3 => St w.heap.size (Rd 1 iF (.slice p.1 2 p.2) [13, 4]) w3) (fun β w' _ hbw => h35 ⟨⟨no, nc, NN, wk, ko, kc, C⟩, so, sc, S, hy⟩ w' (by repeat (first | exact hbw | replace hbw := hbw.1)) hbw.1.2.now) ?_; intro q)
 all_goals exact ⟨rfl, ⟨p.1.1, p.1.2, p.2.1, p.2.2, q.1, q.2⟩, trivial, Ent.weak rfl ⟨rfl, rfl, rfl, rfl, rfl, rfl, rfl, rfl, rfl, rfl, trivial⟩ ⟨rfl, trivial⟩ fun w' h => ⟨h.1.1.1.1, h.1.1.1.2, h.1.2.1, h.1.2.2, h.2⟩⟩
theorem Aw2 (w : World) :
 VC Tryz.prog (rest 3 body12) ⟨108, [(2, .v (iv 7)), (3, .v (iv 4)), (4, .v (iv 0))], [], 1, Below w.heap.size w, z0⟩ (endΦ env Tryz.f12 fun v σ => (∀ β, v.c β = .bool true) ∧ ∀ w', σ.h w' → Below w.heap.size w w') := by
 have h32 := fun (w' : World) (hw : Below w.heap.size w w') => famS hw (camp_ok w')
 have h22 : ∀ (y : Sc), y.d = campD.at 3 → ∀ (w' : World), Below w.heap.size w w' → ScIn y w' → Calls Tryz.prog 22 #[y.v] w' fun e w2 => ∃ z : RnF (some ⟨2, 0, [1], 4, 3⟩), e = Ending.returned (.tuple #[z.1.v, iv 0]) ∧ Below w'.heap.size w' w2 ∧ St w'.heap.size (St w.heap.size (Rd 1 iF (.slice z.1.o z.1.L.length z.1.c) z.1.L)) w2 := fun y hy w' hw h => by
  have h0 := famS hw (Why_ok y w' h ((camp0_b.sl 3).d (s := { camp0 with sl := 3 }) hy))
  rw [hy, awk2.1, awk2.2] at h0
  exact h0
 refine VC.cutH env mixed 3 1 (fun p : Option Addr × Nat => [(2, .v (iv 7)), (3, .v (iv 4)), (4, .v (iv 0)), (6, .ptr 0 0), (7, .v (iv 0))]) (fun p => [(0, .cells [.v (.int .u8 2), .v (iv 0), .v (.slice p.1 1 p.2), .v (iv 4), .v (iv 3)] 56)]) (fun p w' => Below w.heap.size w w' ∧ St w.heap.size (Rd 1 iF (.slice p.1 1 p.2) [1]) w') (fun _ => True) (fun _ _ => ⟨rfl, rfl⟩) ?_ (fun p _ => Aw3 w p.1 p.2)
 repeat'
  conv => whnf
  first
   |refine zB ?_|refine zC ?_|refine zD ?_
   |((with_reducible show CallEv _ _ 32 ..); refine callF [] (fun y : { y : Sc // y.d = campD } => y.1.v) (fun y => St w.heap.size (ScIn y.1)) (fun β w' _ hbw => h32 w' (by repeat (first | exact hbw | replace hbw := hbw.1))) ?_; rintro ⟨⟨sl, ro, su, go, gc, G, to, tc, T⟩, hy⟩)
   |((with_reducible show CallEv _ _ 22 ..); refine callF [] (fun z : RnF (some ⟨2, 0, [1], 4, 3⟩) => .tuple #[z.1.v, iv 0]) (fun z => St w.heap.size (Rd 1 iF (.slice z.1.o z.1.L.length z.1.c) z.1.L)) (fun β w' _ hbw => h22 ⟨3, ro, su, go, gc, G, to, tc, T⟩ (by rw [← hy]; rfl) w' (by repeat (first | exact hbw | replace hbw := hbw.1)) ⟨hbw.2.now.g, hbw.2.now.r, hbw.2.now.t, hbw.2.now.h⟩) ?_; rintro ⟨⟨zk, zg, zo, zc, zL, zn, zh⟩, hz⟩)
 have hz : (⟨zk, zg, zL, zn, zh⟩ : RD) = ⟨2, 0, [1], 4, 3⟩ := hz
 simp only [RD.mk.injEq] at hz
 obtain ⟨rfl, rfl, rfl, rfl, rfl⟩ := hz
 exact ⟨rfl, (zo, zc), trivial, Ent.ren (rho [(0, 2)]) rfl rfl ⟨rfl, rfl, rfl, rfl, rfl, trivial⟩ ⟨rfl, trivial⟩ fun w' h => ⟨h.1.1, h.2⟩⟩
theorem awake_ok (w : World) : Calls Tryz.prog 12 #[] w fun e w' => e = .returned (.bool true) ∧ Below w.heap.size w w' := by
 have h32 := fun (w' : World) (hw : Below w.heap.size w w') => famS hw (camp_ok w')
 have h22 : ∀ (y : Sc), y.d = campD → ∀ (w' : World), ScIn y w' → Calls Tryz.prog 22 #[y.v] w' fun e w2 => ∃ z : RnF none, e = Ending.returned (.tuple #[z.1.v, iv 7]) ∧ Below w'.heap.size w' w2 ∧ St w'.heap.size (fun _ => True) w2 := fun y hy w' h => by
  have h0 := Why_ok y w' h (camp0_b.d hy)
  rw [hy, awk1.1, awk1.2.1] at h0
  exact h0.mono fun e w2 ⟨z, h1, h2, h3⟩ => ⟨z, h1, h2, fun _ _ => trivial⟩
 have h19 : ∀ (y : Sc), y.d = campD → ∀ (w' : World), ScIn y w' → Calls Tryz.prog 19 #[y.v] w' fun e w2 => e = Ending.returned (.tuple #[iv 4, iv 0]) ∧ Below w'.heap.size w' w2 := fun y hy w' h => by
  have h0 := Least_ok y w' h (camp0_b.d hy)
  rw [hy, awk1.2.2.1, awk1.2.2.2.1, awk1.2.2.2.2.2] at h0
  exact h0
 refine calls_valV env mixed Tryz.func12 has12 Tryz.ntmps12 [] (by simp) ?_
 refine VC.cutE env mixed 3 1 (fun _ : Unit => [(2, .v (iv 7)), (3, .v (iv 4)), (4, .v (iv 0))]) (fun _ => []) (fun _ => True) (fun _ _ => ⟨rfl, rfl⟩) ?_ (fun _ _ => Aw2 w)
 repeat'
  conv => whnf
  first
   |refine zC ?_|refine zD ?_
   |((with_reducible show CallEv _ _ 32 ..); refine callF [] (fun y : { y : Sc // y.d = campD } => y.1.v) (fun y => St w.heap.size (ScIn y.1)) (fun β w' _ hbw => h32 w' (by repeat (first | exact hbw | replace hbw := hbw.1))) ?_; rintro ⟨⟨sl, ro, su, go, gc, G, to, tc, T⟩, hy⟩)
   |((with_reducible show CallEv _ _ 22 ..); refine callF [] (fun z : RnF none => .tuple #[z.1.v, iv 7]) (fun z _ => True) (fun β w' _ hbw => h22 _ hy w' hbw.2.now) ?_; intro z)
   |((with_reducible show CallEv _ _ 19 ..); refine callE (fun β w' hbw => h19 _ hy w' hbw.2.now) ?_)
 all_goals exact ⟨rfl, (), trivial, Ent.weak rfl ⟨rfl, rfl, rfl, trivial⟩ trivial fun w' h => by repeat (first | exact h | replace h := h.1)⟩
theorem oneRw (L : List Rw) : ∀ v ∈ L.flatMap Rw.cs, v.oneCell' = true := fun v hv => by
 obtain ⟨n, _, h⟩ := List.mem_flatMap.1 hv
 have : v = n.v := by simpa using h
 subst this; rfl
theorem lenRw (L : List Rw) : (L.flatMap Rw.cs).length = L.length * 1 := by
 induction L with
 | nil => rfl
 | cons a L ih => rw [List.flatMap_cons, List.length_append, ih, List.length_cons]; show 1 + _ = (_ + 1) * 1; omega
theorem oneTc (L : List Tc) : ∀ v ∈ L.flatMap Tc.cs, v.oneCell' = true := fun v hv => by
 obtain ⟨n, _, h⟩ := List.mem_flatMap.1 hv
 have : v = .slice n.o n.T.length n.c ∨ v = iv n.h := by simpa using h
 rcases this with rfl | rfl <;> rfl
theorem lenTc (L : List Tc) : (L.flatMap Tc.cs).length = L.length * 2 := by
 induction L with
 | nil => rfl
 | cons a L ih => rw [List.flatMap_cons, List.length_append, ih, List.length_cons]; show 2 + _ = (_ + 1) * 2; omega
theorem Rd.dropP {α : Type} {sz : Nat} {f : α → List Value} {ad : Addr} {n c : Nat} {L : List α} {w : World} (h : Rd sz f (.slice (some ad) n c) L w) (k c' : Nat) : Rd sz f (.slice (some (ad.add (k * sz))) (L.drop k).length c') (L.drop k) w :=
 .inr ⟨_, _, rfl, fun i b hi j v hv => by
  rw [List.getElem?_drop] at hi
  have := rd_at h hi j v hv
  rwa [show ((ad.add (k * sz)).add (i * sz)) = ad.add ((k + i) * sz) from by rw [Addr.add_add, Nat.add_mul]]⟩
theorem Rd.takeP {α : Type} {sz : Nat} {f : α → List Value} {ad : Addr} {n c : Nat} {L : List α} {w : World} (h : Rd sz f (.slice (some ad) n c) L w) (k c' : Nat) : Rd sz f (.slice (some ad) (L.take k).length c') (L.take k) w :=
 .inr ⟨_, _, rfl, fun i b hi j v hv => by
  refine rd_at h ?_ j v hv
  rw [List.getElem?_take] at hi
  split at hi
  · exact hi
  · cases hi⟩
theorem nil_or {α : Type} {sz : Nat} {f : α → List Value} {o : Option Addr} {c : Nat} {w : World} (h : Rd sz f (.slice o 0 c) [] w) : (o = none ∧ c = 0) ∨ ∃ a, o = some a := by
 rcases h with ⟨h, _⟩ | ⟨ad, c', h, _⟩
 · simp only [Value.slice.injEq] at h; exact .inl ⟨h.1, h.2.2⟩
 · simp only [Value.slice.injEq] at h; exact .inr ⟨ad, h.1⟩
theorem tmod_nat (a n : Nat) : (a : Int).tmod (n : Int) = ((a % n : Nat) : Int) := by
 rw [Int.ofNat_tmod]
theorem Tu6 (D : SD) (a b : Nat) (s x : Sc) (hs : s.d = D) (hx : x.d = D.turn a b) (hv : scOk D = true) (w : World) (h : ScIn s w) (hB : ScB s) (hBx : ScB x) (K : World → Prop) (hin : ∀ w', Below w.heap.size w w' → K w' → ScIn x w') :
 VC Tryz.prog (rest 6 body6) ⟨113, [(3, .ptr 0 0), (7, .ptr 1 0)], [(0, .cells [.v (iv s.sl), .v (iv s.ro), .v (iv s.su), .v (.slice s.go s.G.length s.gc), .v (.slice s.to s.T.length s.tc)] 25), (1, .cells [.v (iv x.sl), .v (iv x.ro), .v (iv x.su), .v (.slice x.go x.G.length x.gc), .v (.slice x.to x.T.length x.tc)] 25)], 2, fun w' => Below w.heap.size w w' ∧ K w', z0⟩ (endΦ env Tryz.f6 fun v σ => (∀ β, v.c β = .bool true) ∧ ∀ w', σ.h w' → Below w.heap.size w w') := by
 have h12 := fun w' => awake_ok w'
 have hs14 := fun (w' : World) (hw : Below w.heap.size w w') => famS hw (School_ok s w' (h.below hw) hB)
 have hx14 := fun (w' : World) (hw : Below w.heap.size w w' ∧ K w') => famS hw.1 (School_ok x w' (hin w' hw.1 hw.2) hBx)
 rw [hs] at hs14
 rw [hx] at hx14
 have t13 : ∀ (E : SD) (y : { y : Sc // y.d = E }), ScB y.1 → ∀ (w' : World), ScIn y.1 w' → Calls Tryz.prog 13 #[y.1.v] w' fun e w2 => ∃ p : Option Addr × Nat × Nat, e = .returned (.tuple #[.slice p.1 p.2.1 p.2.2, iv (errT E)]) ∧ Below w'.heap.size w' w2 ∧ St w'.heap.size (fun _ => True) w2 := fun E y hb w' h1 => by
  have h2 := Table_ok y.1 w' h1 hb
  rw [y.2] at h2
  exact h2.mono fun e w2 ⟨z, h3, h4, h5⟩ => ⟨(z.o, z.R.length, z.c), h3, h4, fun _ _ => trivial⟩
 have t19 : ∀ (E : SD) (y : { y : Sc // y.d = E }), ScB y.1 → ∀ (w' : World), ScIn y.1 w' → Calls Tryz.prog 19 #[y.1.v] w' fun e w2 => e = .returned (.tuple #[iv (if scOk E = true then (lst E : Int) else 0), iv (errL E)]) ∧ Below w'.heap.size w' w2 := fun E y hb w' h1 => by
  have h2 := Least_ok y.1 w' h1 hb
  rw [y.2] at h2
  exact h2
 have s13 := fun (y : { y : Sc // y.d = D }) => t13 D y (hB.d (y.2.trans hs.symm))
 have s19 := fun (y : { y : Sc // y.d = D }) => t19 D y (hB.d (y.2.trans hs.symm))
 have x13 := fun (y : { y : Sc // y.d = D.turn a b }) => t13 _ y (hBx.d (y.2.trans hx.symm))
 have x19 := fun (y : { y : Sc // y.d = D.turn a b }) => t19 _ y (hBx.d (y.2.trans hx.symm))
 rw [turn_errT] at x13
 rw [turnD_ok, turn_lst, turn_errL] at x19
 rw [hv, if_pos rfl] at s19 x19
 generalize errT D = E at *
 generalize (lst D : Int) = M at *
 generalize errL D = F at *
 clear t13 t19 hBx h hs hx hB hin
 obtain ⟨sl, ro, su, go, gc, G, to, tc, T⟩ := s
 obtain ⟨xsl, xro, xsu, xgo, xgc, xG, xto, xtc, xT⟩ := x
 dsimp only at hs14 hx14 ⊢
 refine VC.cutE env mixed 1 2 (fun _ : Unit => [(3, .ptr 0 0), (7, .ptr 1 0), (13, .v (iv E))]) (fun _ => [(0, .cells [.v (iv sl), .v (iv ro), .v (iv su), .v (.slice go G.length gc), .v (.slice to T.length tc)] 25), (1, .cells [.v (iv xsl), .v (iv xro), .v (iv xsu), .v (.slice xgo xG.length xgc), .v (.slice xto xT.length xtc)] 25)]) (fun _ => True) (fun _ _ => ⟨rfl, rfl⟩) ?_ (fun _ _ => ?_)
 · skip
   repeat'
    conv => whnf
    first
     |refine zD ?_
     |((with_reducible show CallEv _ _ 14 ..); refine callF [] (fun y : { y : Sc // y.d = D } => y.1.v) (fun y => St w.heap.size (ScIn y.1)) (fun β w' _ hbw => hs14 w' hbw.1) ?_; intro y)
     |((with_reducible show CallEv _ _ 13 ..); refine callF [] (fun p : Option Addr × Nat × Nat => .tuple #[.slice p.1 p.2.1 p.2.2, iv E]) (fun _ _ => True) (fun β w' _ hbw => s13 y w' hbw.2.now) ?_; intro p)
   all_goals exact ⟨rfl, (), trivial, Ent.weak rfl ⟨rfl, rfl, rfl, trivial⟩ ⟨rfl, rfl, trivial⟩ fun w' h => ⟨h.1.1.1, h.1.1.2⟩⟩
 refine VC.cutE env mixed 1 2 (fun _ : Unit => [(3, .ptr 0 0), (7, .ptr 1 0), (13, .v (iv E)), (15, .v (iv E))]) (fun _ => [(0, .cells [.v (iv sl), .v (iv ro), .v (iv su), .v (.slice go G.length gc), .v (.slice to T.length tc)] 25), (1, .cells [.v (iv xsl), .v (iv xro), .v (iv xsu), .v (.slice xgo xG.length xgc), .v (.slice xto xT.length xtc)] 25)]) (fun _ => True) (fun _ _ => ⟨rfl, rfl⟩) ?_ (fun _ _ => ?_)
 · skip
   repeat'
    conv => whnf
    first
     |refine zD ?_
     |((with_reducible show CallEv _ _ 14 ..); refine callF [] (fun y : { y : Sc // y.d = D.turn a b } => y.1.v) (fun y => St w.heap.size (ScIn y.1)) (fun β w' _ hbw => hx14 w' hbw) ?_; intro y)
     |((with_reducible show CallEv _ _ 13 ..); refine callF [] (fun p : Option Addr × Nat × Nat => .tuple #[.slice p.1 p.2.1 p.2.2, iv E]) (fun _ _ => True) (fun β w' _ hbw => x13 y w' hbw.2.now) ?_; intro p)
   all_goals exact ⟨rfl, (), trivial, Ent.weak rfl ⟨rfl, rfl, rfl, rfl, trivial⟩ ⟨rfl, rfl, trivial⟩ fun w' h => ⟨h.1.1.1, h.1.1.2⟩⟩
 refine VC.cutE env mixed 1 2 (fun _ : Unit => [(3, .ptr 0 0), (7, .ptr 1 0), (13, .v (iv E)), (15, .v (iv E)), (16, .v (iv M)), (17, .v (iv F))]) (fun _ => [(0, .cells [.v (iv sl), .v (iv ro), .v (iv su), .v (.slice go G.length gc), .v (.slice to T.length tc)] 25), (1, .cells [.v (iv xsl), .v (iv xro), .v (iv xsu), .v (.slice xgo xG.length xgc), .v (.slice xto xT.length xtc)] 25)]) (fun _ => True) (fun _ _ => ⟨rfl, rfl⟩) ?_ (fun _ _ => ?_)
 · skip
   repeat'
    conv => whnf
    first
     |refine zD ?_
     |((with_reducible show CallEv _ _ 14 ..); refine callF [] (fun y : { y : Sc // y.d = D } => y.1.v) (fun y => St w.heap.size (ScIn y.1)) (fun β w' _ hbw => hs14 w' hbw.1) ?_; intro y)
     |((with_reducible show CallEv _ _ 19 ..); refine callE (fun β w' hbw => s19 y w' hbw.2.now) ?_)
   all_goals exact ⟨rfl, (), trivial, Ent.weak rfl ⟨rfl, rfl, rfl, rfl, rfl, rfl, trivial⟩ ⟨rfl, rfl, trivial⟩ fun w' h => ⟨h.1.1, h.1.2⟩⟩
 refine VC.cutE env mixed 1 2 (fun _ : Unit => [(3, .ptr 0 0), (7, .ptr 1 0), (13, .v (iv E)), (15, .v (iv E)), (16, .v (iv M)), (17, .v (iv F)), (18, .v (iv M)), (19, .v (iv F))]) (fun _ => [(0, .cells [.v (iv sl), .v (iv ro), .v (iv su), .v (.slice go G.length gc), .v (.slice to T.length tc)] 25), (1, .cells [.v (iv xsl), .v (iv xro), .v (iv xsu), .v (.slice xgo xG.length xgc), .v (.slice xto xT.length xtc)] 25)]) (fun _ => True) (fun _ _ => ⟨rfl, rfl⟩) ?_ (fun _ _ => ?_)
 · skip
   repeat'
    conv => whnf
    first
     |refine zD ?_
     |((with_reducible show CallEv _ _ 14 ..); refine callF [] (fun y : { y : Sc // y.d = D.turn a b } => y.1.v) (fun y => St w.heap.size (ScIn y.1)) (fun β w' _ hbw => hx14 w' hbw) ?_; intro y)
     |((with_reducible show CallEv _ _ 19 ..); refine callE (fun β w' hbw => x19 y w' hbw.2.now) ?_)
   all_goals exact ⟨rfl, (), trivial, Ent.weak rfl ⟨rfl, rfl, rfl, rfl, rfl, rfl, rfl, rfl, trivial⟩ ⟨rfl, rfl, trivial⟩ fun w' h => ⟨h.1.1, h.1.2⟩⟩
 refine VC.of env mixed ?_
 repeat'
  conv => whnf
  first
   |refine zD ?_
   |(refine splD ?_ ?_ <;> intro hc <;> first|(exfalso; omega)|skip)
   |((with_reducible show CallEv _ _ 12 ..); refine callE (fun β w' hbw => h12 w') ?_)
 all_goals exact ⟨fun β => rfl, fun w' h => h.1⟩
theorem Tu_gt (D : SD) (sl ro su : Int) (go : Addr) (to : Addr) (G : List Rw) (T : List Tc) (gc tc : Nat) (gv tv kg kt : Nat) (w : World) (hs : Sc.d ⟨sl, ro, su, (some go), gc, G, (some to), tc, T⟩ = D) (h : ScIn ⟨sl, ro, su, (some go), gc, G, (some to), tc, T⟩ w) (hB : ScB ⟨sl, ro, su, (some go), gc, G, (some to), tc, T⟩) (hv : scOk D = true) (hg8 : 1 ≤ G.length ∧ G.length ≤ 8) (hgc : G.length ≤ gc) (hgv : gv < 256) (hkg : gv % G.length = kg) (ht8 : 1 ≤ T.length ∧ T.length ≤ 8) (htc : T.length ≤ tc) (htv : tv < 256) (hkt : tv % T.length = kt) :
 VC Tryz.prog (rest 3 body6) ⟨113, [(1, .v (.int .u8 gv)), (2, .v (.int .u8 tv)), (3, .ptr 0 0), (7, .ptr 1 0)], [(0, .cells [.v (iv sl), .v (iv ro), .v (iv su), .v (.slice (some go) G.length gc), .v (.slice (some to) T.length tc)] 25), (1, .cells [.v (iv sl), .v (iv ro), .v (iv su), .v (.slice (some go) G.length gc), .v (.slice (some to) T.length tc)] 25)], 2, Below w.heap.size w, z0⟩ (endΦ env Tryz.f6 fun v σ => (∀ β, v.c β = .bool true) ∧ ∀ w', σ.h w' → Below w.heap.size w w') := by
 have hgo := fun (p : (Nat × Nat) × (Nat × Nat)) => Tu6 D kg kt ⟨sl, ro, su, (some go), gc, G, (some to), tc, T⟩ ⟨sl, ro, su, some ⟨p.1.1, 0, none⟩, p.1.2, rot G kg, some ⟨p.2.1, 0, none⟩, p.2.2, rot T kt⟩ hs (by rw [← hs]; unfold Sc.d SD.turn; dsimp only; rw [rot_map, rot_map]) hv w h hB ⟨by rw [rot_len]; exact hB.g, fun r hr => hB.r r (rot_mem.1 hr), by rw [rot_len]; exact hB.t, fun r hr => hB.h r (rot_mem.1 hr)⟩ (fun w' => St w.heap.size (Rd 1 Rw.cs (.slice (some ⟨p.1.1, 0, none⟩) (rot G kg).length p.1.2) (rot G kg)) w' ∧ St w.heap.size (Rd 2 Tc.cs (.slice (some ⟨p.2.1, 0, none⟩) (rot T kt).length p.2.2) (rot T kt)) w') (fun w' hb hk => ⟨hk.1.now, fun r hr => (h.below hb).r r (rot_mem.1 hr), hk.2.now, fun r hr => (h.below hb).h r (rot_mem.1 hr)⟩)
 have hl1 : kg < G.length := by rw [← hkg]; exact Nat.mod_lt _ (by omega)
 have hm1 := tmod_nat gv G.length
 rw [hkg] at hm1
 have a1 := fun w' (hb : Below w.heap.size w w') => Rd.ext (f := Rw.cs) (sz := 1) (fun _ => rfl) (h.below hb).g
 have a2 := fun w' (hb : Below w.heap.size w w') => Rd.ext (f := Rw.cs) (sz := 1) (fun _ => rfl) (Rd.dropP (h.below hb).g kg (gc - kg))
 have a3 := fun w' (hb : Below w.heap.size w w') => Rd.ext (f := Rw.cs) (sz := 1) (fun _ => rfl) (Rd.takeP (h.below hb).g kg gc)
 have l1 := lenRw G
 have l2 : ((G.drop kg).flatMap Rw.cs).length = (G.length - kg) * 1 := by rw [lenRw, List.length_drop]
 have l3 : ((G.take kg).flatMap Rw.cs).length = kg * 1 := by rw [lenRw, List.length_take, Nat.min_eq_left (by omega)]
 have o1 := oneRw G
 have o2 := oneRw (G.drop kg)
 have o3 := oneRw (G.take kg)
 have hn1 : 0 + (G.length - kg) + kg = (rot G kg).length := by rw [rot_len]; omega
 have hf1 : [] ++ (G.drop kg).flatMap Rw.cs ++ (G.take kg).flatMap Rw.cs = (rot G kg).flatMap Rw.cs := by rw [List.nil_append, rot, List.flatMap_append]
 generalize G.flatMap Rw.cs = X1 at *
 generalize (G.drop kg).flatMap Rw.cs = X2 at *
 generalize (G.take kg).flatMap Rw.cs = X3 at *
 have hl4 : kt < T.length := by rw [← hkt]; exact Nat.mod_lt _ (by omega)
 have hm4 := tmod_nat tv T.length
 rw [hkt] at hm4
 have a4 := fun w' (hb : Below w.heap.size w w') => Rd.ext (f := Tc.cs) (sz := 2) (fun _ => rfl) (h.below hb).t
 have a5 := fun w' (hb : Below w.heap.size w w') => Rd.ext (f := Tc.cs) (sz := 2) (fun _ => rfl) (Rd.dropP (h.below hb).t kt (tc - kt))
 have a6 := fun w' (hb : Below w.heap.size w w') => Rd.ext (f := Tc.cs) (sz := 2) (fun _ => rfl) (Rd.takeP (h.below hb).t kt tc)
 have l4 := lenTc T
 have l5 : ((T.drop kt).flatMap Tc.cs).length = (T.length - kt) * 2 := by rw [lenTc, List.length_drop]
 have l6 : ((T.take kt).flatMap Tc.cs).length = kt * 2 := by rw [lenTc, List.length_take, Nat.min_eq_left (by omega)]
 have o4 := oneTc T
 have o5 := oneTc (T.drop kt)
 have o6 := oneTc (T.take kt)
 have hn4 : 0 + (T.length - kt) + kt = (rot T kt).length := by rw [rot_len]; omega
 have hf4 : [] ++ (T.drop kt).flatMap Tc.cs ++ (T.take kt).flatMap Tc.cs = (rot T kt).flatMap Tc.cs := by rw [List.nil_append, rot, List.flatMap_append]
 generalize T.flatMap Tc.cs = X4 at *
 generalize (T.drop kt).flatMap Tc.cs = X5 at *
 generalize (T.take kt).flatMap Tc.cs = X6 at *
 refine VC.cutE env mixed 3 6 (fun _ : Unit => [(3, .ptr 0 0), (7, .ptr 1 0)]) (fun _ => [(0, .cells [.v (iv sl), .v (iv ro), .v (iv su), .v (.slice (some go) G.length gc), .v (.slice (some to) T.length tc)] 25), (1, .cells [.v (iv sl), .v (iv ro), .v (iv su), .os 2 3 (0 + (G.length - kg) + kg), .os 4 5 (0 + (T.length - kt) + kt)] 25), (2, .own 3 (0 + (G.length - kg) + kg) 1 ([] ++ X2 ++ X3) 36), (4, .own 5 (0 + (T.length - kt) + kt) 2 ([] ++ X5 ++ X6) 74)]) (fun _ => True) (fun _ _ => ⟨rfl, by simp only [mB, Blk.lt, SV.lts, SV.lt]; rfl⟩) ?_ (fun _ _ => ?_)
 · clear hgo
   repeat'
    conv => whnf
    first
     |refine zA ?_|refine zB ?_|refine zC ?_|refine zH ?_|refine zI ?_
     |(refine splD ?_ ?_ <;> intro hc <;> first|(exfalso; omega)|skip)
     |refine eL X1 ⟨⟨l1, fun w' hw' => a1 w' hw', o1⟩, ?_⟩
     |refine eL X2 ⟨⟨l2, fun w' hw' => a2 w' hw', o2⟩, ?_⟩
     |refine eL X3 ⟨⟨l3, fun w' hw' => a3 w' hw', o3⟩, ?_⟩
     |refine Exists.intro (α := Value) (iv gv) ⟨cv5i gv hgv, ?_⟩
     |refine Exists.intro (α := Int) (kg : Int) ⟨⟨by omega, hm1⟩, ?_⟩
     |refine eL X4 ⟨⟨l4, fun w' hw' => a4 w' hw', o4⟩, ?_⟩
     |refine eL X5 ⟨⟨l5, fun w' hw' => a5 w' hw', o5⟩, ?_⟩
     |refine eL X6 ⟨⟨l6, fun w' hw' => a6 w' hw', o6⟩, ?_⟩
     |refine Exists.intro (α := Value) (iv tv) ⟨cv5i tv htv, ?_⟩
     |refine Exists.intro (α := Int) (kt : Int) ⟨⟨by omega, hm4⟩, ?_⟩
     |refine slLo env rfl rfl rfl rfl (by omega) (by omega) rfl ?_
     |refine slHi env rfl rfl rfl rfl (by omega) rfl ?_
   all_goals exact ⟨rfl, (), trivial, Ent.ren (rho [(2, 8), (3, 9), (4, 12), (5, 13)]) rfl rfl ⟨rfl, rfl, trivial⟩ ⟨rfl, rfl, rfl, rfl, trivial⟩ fun w' h => h⟩
 · rw [hn1, hf1, hn4, hf4]
   exact VC.dis (α := (Nat × Nat) × (Nat × Nat)) (I := fun p => ⟨113, [(3, .ptr 0 0), (7, .ptr 1 0)], [(0, .cells [.v (iv sl), .v (iv ro), .v (iv su), .v (.slice (some go) G.length gc), .v (.slice (some to) T.length tc)] 25), (1, .cells [.v (iv sl), .v (iv ro), .v (iv su), .v (.slice (some ⟨p.1.1, 0, none⟩) (rot G kg).length p.1.2), .v (.slice (some ⟨p.2.1, 0, none⟩) (rot T kt).length p.2.2)] 25)], 2, fun w' => Below w.heap.size w w' ∧ St w.heap.size (Rd 1 Rw.cs (.slice (some ⟨p.1.1, 0, none⟩) (rot G kg).length p.1.2) (rot G kg)) w' ∧ St w.heap.size (Rd 2 Tc.cs (.slice (some ⟨p.2.1, 0, none⟩) (rot T kt).length p.2.2) (rot T kt)) w', z0⟩) (pre := fun _ => True)
    (Dis.mk3 (w0 := w) id [2, 4] rfl (fun i hi => by simp only [List.mem_cons, List.not_mem_nil, or_false] at hi; rcases hi with rfl | rfl <;> exact ⟨_, rfl, rfl⟩) (fun w' h => h) (fun β w1 hok hw1 hge => ⟨((β 2, β 3), (β 4, β 5)), trivial, ⟨⟨_, rfl, rfl⟩, ⟨_, rfl, rfl⟩, trivial⟩, ⟨⟨rfl, _, rfl, fun _ => rfl, fun w2 y hy => hy⟩, ⟨rfl, _, rfl, fun _ => rfl, fun w2 y hy => hy⟩, trivial⟩, rfl, fun w2 hw2 hLo => ⟨hw2, rows_st (sz := 1) (f := Rw.cs) (fun _ => rfl) rfl rfl (hge 2 _ rfl rfl) (hLo 2 (by simp) _ rfl), rows_st (sz := 2) (f := Tc.cs) (fun _ => rfl) rfl rfl (hge 4 _ rfl rfl) (hLo 4 (by simp) _ rfl)⟩⟩))
    (fun _ _ => okB rfl rfl rfl) (fun p _ => hgo p)
theorem Tu_gn (D : SD) (sl ro su : Int) (go : Addr) (to : Option Addr) (G : List Rw) (gc tc : Nat) (gv tv kg kt : Nat) (w : World) (hs : Sc.d ⟨sl, ro, su, (some go), gc, G, to, tc, ([] : List Tc)⟩ = D) (h : ScIn ⟨sl, ro, su, (some go), gc, G, to, tc, ([] : List Tc)⟩ w) (hB : ScB ⟨sl, ro, su, (some go), gc, G, to, tc, ([] : List Tc)⟩) (hv : scOk D = true) (hg8 : 1 ≤ G.length ∧ G.length ≤ 8) (hgc : G.length ≤ gc) (hgv : gv < 256) (hkg : gv % G.length = kg) :
 VC Tryz.prog (rest 3 body6) ⟨113, [(1, .v (.int .u8 gv)), (2, .v (.int .u8 tv)), (3, .ptr 0 0), (7, .ptr 1 0)], [(0, .cells [.v (iv sl), .v (iv ro), .v (iv su), .v (.slice (some go) G.length gc), .v (.slice to 0 tc)] 25), (1, .cells [.v (iv sl), .v (iv ro), .v (iv su), .v (.slice (some go) G.length gc), .v (.slice to 0 tc)] 25)], 2, Below w.heap.size w, z0⟩ (endΦ env Tryz.f6 fun v σ => (∀ β, v.c β = .bool true) ∧ ∀ w', σ.h w' → Below w.heap.size w w') := by
 have hgo := fun (p : (Nat × Nat) × (Nat × Nat)) => Tu6 D kg kt ⟨sl, ro, su, (some go), gc, G, to, tc, ([] : List Tc)⟩ ⟨sl, ro, su, some ⟨p.1.1, 0, none⟩, p.1.2, rot G kg, none, 0, []⟩ hs (by rw [← hs]; unfold Sc.d SD.turn; dsimp only; rw [rot_map]; simp [rot]) hv w h hB ⟨by rw [rot_len]; exact hB.g, fun r hr => hB.r r (rot_mem.1 hr), Nat.zero_le _, fun r hr => (by cases hr)⟩ (fun w' => St w.heap.size (Rd 1 Rw.cs (.slice (some ⟨p.1.1, 0, none⟩) (rot G kg).length p.1.2) (rot G kg)) w' ∧ True) (fun w' hb hk => ⟨hk.1.now, fun r hr => (h.below hb).r r (rot_mem.1 hr), .inl ⟨rfl, rfl⟩, fun r hr => (by cases hr)⟩)
 have hl1 : kg < G.length := by rw [← hkg]; exact Nat.mod_lt _ (by omega)
 have hm1 := tmod_nat gv G.length
 rw [hkg] at hm1
 have a1 := fun w' (hb : Below w.heap.size w w') => Rd.ext (f := Rw.cs) (sz := 1) (fun _ => rfl) (h.below hb).g
 have a2 := fun w' (hb : Below w.heap.size w w') => Rd.ext (f := Rw.cs) (sz := 1) (fun _ => rfl) (Rd.dropP (h.below hb).g kg (gc - kg))
 have a3 := fun w' (hb : Below w.heap.size w w') => Rd.ext (f := Rw.cs) (sz := 1) (fun _ => rfl) (Rd.takeP (h.below hb).g kg gc)
 have l1 := lenRw G
 have l2 : ((G.drop kg).flatMap Rw.cs).length = (G.length - kg) * 1 := by rw [lenRw, List.length_drop]
 have l3 : ((G.take kg).flatMap Rw.cs).length = kg * 1 := by rw [lenRw, List.length_take, Nat.min_eq_left (by omega)]
 have o1 := oneRw G
 have o2 := oneRw (G.drop kg)
 have o3 := oneRw (G.take kg)
 have hn1 : 0 + (G.length - kg) + kg = (rot G kg).length := by rw [rot_len]; omega
 have hf1 : [] ++ (G.drop kg).flatMap Rw.cs ++ (G.take kg).flatMap Rw.cs = (rot G kg).flatMap Rw.cs := by rw [List.nil_append, rot, List.flatMap_append]
 generalize G.flatMap Rw.cs = X1 at *
 generalize (G.drop kg).flatMap Rw.cs = X2 at *
 generalize (G.take kg).flatMap Rw.cs = X3 at *
 refine VC.cutE env mixed 3 6 (fun _ : Unit => [(3, .ptr 0 0), (7, .ptr 1 0)]) (fun _ => [(0, .cells [.v (iv sl), .v (iv ro), .v (iv su), .v (.slice (some go) G.length gc), .v (.slice to 0 tc)] 25), (1, .cells [.v (iv sl), .v (iv ro), .v (iv su), .os 2 3 (0 + (G.length - kg) + kg), .v (.slice none 0 0)] 25), (2, .own 3 (0 + (G.length - kg) + kg) 1 ([] ++ X2 ++ X3) 36)]) (fun _ => True) (fun _ _ => ⟨rfl, by simp only [mB, Blk.lt, SV.lts, SV.lt]; rfl⟩) ?_ (fun _ _ => ?_)
 · clear hgo
   rcases nil_or h.t with ⟨rfl, rfl⟩ | ⟨to, rfl⟩
   all_goals skip
   repeat'
    conv => whnf
    first
     |refine zA ?_|refine zB ?_|refine zC ?_|refine zH ?_|refine zJ ?_|refine zI ?_|refine splF ?_
     |(refine splD ?_ ?_ <;> intro hc <;> first|(exfalso; omega)|skip)
     |refine eL X1 ⟨⟨l1, fun w' hw' => a1 w' hw', o1⟩, ?_⟩
     |refine eL X2 ⟨⟨l2, fun w' hw' => a2 w' hw', o2⟩, ?_⟩
     |refine eL X3 ⟨⟨l3, fun w' hw' => a3 w' hw', o3⟩, ?_⟩
     |refine Exists.intro (α := Value) (iv gv) ⟨cv5i gv hgv, ?_⟩
     |refine Exists.intro (α := Int) (kg : Int) ⟨⟨by omega, hm1⟩, ?_⟩
     |refine eL [] ⟨⟨rfl, fun w' hw' j v hj => (by simp at hj), fun v hv => (by cases hv)⟩, ?_⟩
     |refine slLo env rfl rfl rfl rfl (by omega) (by omega) rfl ?_
     |refine slHi env rfl rfl rfl rfl (by omega) rfl ?_
   all_goals exact ⟨rfl, (), trivial, Ent.ren (rho [(2, 6), (3, 7)]) rfl rfl ⟨rfl, rfl, trivial⟩ ⟨rfl, rfl, rfl, trivial⟩ fun w' h => h⟩
 · rw [hn1, hf1]
   exact VC.dis (α := (Nat × Nat) × (Nat × Nat)) (I := fun p => ⟨113, [(3, .ptr 0 0), (7, .ptr 1 0)], [(0, .cells [.v (iv sl), .v (iv ro), .v (iv su), .v (.slice (some go) G.length gc), .v (.slice to 0 tc)] 25), (1, .cells [.v (iv sl), .v (iv ro), .v (iv su), .v (.slice (some ⟨p.1.1, 0, none⟩) (rot G kg).length p.1.2), .v (.slice none 0 0)] 25)], 2, fun w' => Below w.heap.size w w' ∧ St w.heap.size (Rd 1 Rw.cs (.slice (some ⟨p.1.1, 0, none⟩) (rot G kg).length p.1.2) (rot G kg)) w' ∧ True, z0⟩) (pre := fun _ => True)
    (Dis.mk3 (w0 := w) id [2] rfl (fun i hi => by rw [List.mem_singleton] at hi; subst hi; exact ⟨_, rfl, rfl⟩) (fun w' h => h) (fun β w1 hok hw1 hge => ⟨((β 2, β 3), (β 4, β 5)), trivial, ⟨⟨_, rfl, rfl⟩, ⟨_, rfl, rfl⟩, trivial⟩, ⟨⟨rfl, _, rfl, fun _ => rfl, fun w2 y hy => hy⟩, ⟨rfl, _, rfl, fun _ => rfl, fun w2 y hy => hy⟩, trivial⟩, rfl, fun w2 hw2 hLo => ⟨hw2, rows_st (sz := 1) (f := Rw.cs) (fun _ => rfl) rfl rfl (hge 2 _ rfl rfl) (hLo 2 (by simp) _ rfl), trivial⟩⟩))
    (fun _ _ => okB rfl rfl rfl) (fun p _ => hgo p)
theorem Tu_nt (D : SD) (sl ro su : Int) (go : Option Addr) (to : Addr) (T : List Tc) (gc tc : Nat) (gv tv kg kt : Nat) (w : World) (hs : Sc.d ⟨sl, ro, su, go, gc, ([] : List Rw), (some to), tc, T⟩ = D) (h : ScIn ⟨sl, ro, su, go, gc, ([] : List Rw), (some to), tc, T⟩ w) (hB : ScB ⟨sl, ro, su, go, gc, ([] : List Rw), (some to), tc, T⟩) (hv : scOk D = true) (ht8 : 1 ≤ T.length ∧ T.length ≤ 8) (htc : T.length ≤ tc) (htv : tv < 256) (hkt : tv % T.length = kt) :
 VC Tryz.prog (rest 3 body6) ⟨113, [(1, .v (.int .u8 gv)), (2, .v (.int .u8 tv)), (3, .ptr 0 0), (7, .ptr 1 0)], [(0, .cells [.v (iv sl), .v (iv ro), .v (iv su), .v (.slice go 0 gc), .v (.slice (some to) T.length tc)] 25), (1, .cells [.v (iv sl), .v (iv ro), .v (iv su), .v (.slice go 0 gc), .v (.slice (some to) T.length tc)] 25)], 2, Below w.heap.size w, z0⟩ (endΦ env Tryz.f6 fun v σ => (∀ β, v.c β = .bool true) ∧ ∀ w', σ.h w' → Below w.heap.size w w') := by
 have hgo := fun (p : (Nat × Nat) × (Nat × Nat)) => Tu6 D kg kt ⟨sl, ro, su, go, gc, ([] : List Rw), (some to), tc, T⟩ ⟨sl, ro, su, none, 0, [], some ⟨p.2.1, 0, none⟩, p.2.2, rot T kt⟩ hs (by rw [← hs]; unfold Sc.d SD.turn; dsimp only; rw [rot_map]; simp [rot]) hv w h hB ⟨Nat.zero_le _, fun r hr => (by cases hr), by rw [rot_len]; exact hB.t, fun r hr => hB.h r (rot_mem.1 hr)⟩ (fun w' => True ∧ St w.heap.size (Rd 2 Tc.cs (.slice (some ⟨p.2.1, 0, none⟩) (rot T kt).length p.2.2) (rot T kt)) w') (fun w' hb hk => ⟨.inl ⟨rfl, rfl⟩, fun r hr => (by cases hr), hk.2.now, fun r hr => (h.below hb).h r (rot_mem.1 hr)⟩)
 have hl4 : kt < T.length := by rw [← hkt]; exact Nat.mod_lt _ (by omega)
 have hm4 := tmod_nat tv T.length
 rw [hkt] at hm4
 have a4 := fun w' (hb : Below w.heap.size w w') => Rd.ext (f := Tc.cs) (sz := 2) (fun _ => rfl) (h.below hb).t
 have a5 := fun w' (hb : Below w.heap.size w w') => Rd.ext (f := Tc.cs) (sz := 2) (fun _ => rfl) (Rd.dropP (h.below hb).t kt (tc - kt))
 have a6 := fun w' (hb : Below w.heap.size w w') => Rd.ext (f := Tc.cs) (sz := 2) (fun _ => rfl) (Rd.takeP (h.below hb).t kt tc)
 have l4 := lenTc T
 have l5 : ((T.drop kt).flatMap Tc.cs).length = (T.length - kt) * 2 := by rw [lenTc, List.length_drop]
 have l6 : ((T.take kt).flatMap Tc.cs).length = kt * 2 := by rw [lenTc, List.length_take, Nat.min_eq_left (by omega)]
 have o4 := oneTc T
 have o5 := oneTc (T.drop kt)
 have o6 := oneTc (T.take kt)
 have hn4 : 0 + (T.length - kt) + kt = (rot T kt).length := by rw [rot_len]; omega
 have hf4 : [] ++ (T.drop kt).flatMap Tc.cs ++ (T.take kt).flatMap Tc.cs = (rot T kt).flatMap Tc.cs := by rw [List.nil_append, rot, List.flatMap_append]
 generalize T.flatMap Tc.cs = X4 at *
 generalize (T.drop kt).flatMap Tc.cs = X5 at *
 generalize (T.take kt).flatMap Tc.cs = X6 at *
 refine VC.cutE env mixed 3 6 (fun _ : Unit => [(3, .ptr 0 0), (7, .ptr 1 0)]) (fun _ => [(0, .cells [.v (iv sl), .v (iv ro), .v (iv su), .v (.slice go 0 gc), .v (.slice (some to) T.length tc)] 25), (1, .cells [.v (iv sl), .v (iv ro), .v (iv su), .v (.slice none 0 0), .os 4 5 (0 + (T.length - kt) + kt)] 25), (4, .own 5 (0 + (T.length - kt) + kt) 2 ([] ++ X5 ++ X6) 74)]) (fun _ => True) (fun _ _ => ⟨rfl, by simp only [mB, Blk.lt, SV.lts, SV.lt]; rfl⟩) ?_ (fun _ _ => ?_)
 · clear hgo
   rcases nil_or h.g with ⟨rfl, rfl⟩ | ⟨go, rfl⟩
   all_goals skip
   repeat'
    conv => whnf
    first
     |refine zA ?_|refine zB ?_|refine zC ?_|refine zH ?_|refine zJ ?_|refine zI ?_|refine splF ?_
     |(refine splD ?_ ?_ <;> intro hc <;> first|(exfalso; omega)|skip)
     |refine eL X4 ⟨⟨l4, fun w' hw' => a4 w' hw', o4⟩, ?_⟩
     |refine eL X5 ⟨⟨l5, fun w' hw' => a5 w' hw', o5⟩, ?_⟩
     |refine eL X6 ⟨⟨l6, fun w' hw' => a6 w' hw', o6⟩, ?_⟩
     |refine Exists.intro (α := Value) (iv tv) ⟨cv5i tv htv, ?_⟩
     |refine Exists.intro (α := Int) (kt : Int) ⟨⟨by omega, hm4⟩, ?_⟩
     |refine eL [] ⟨⟨rfl, fun w' hw' j v hj => (by simp at hj), fun v hv => (by cases hv)⟩, ?_⟩
     |refine slLo env rfl rfl rfl rfl (by omega) (by omega) rfl ?_
     |refine slHi env rfl rfl rfl rfl (by omega) rfl ?_
   all_goals exact ⟨rfl, (), trivial, Ent.ren (rho [(4, 6), (5, 7)]) rfl rfl ⟨rfl, rfl, trivial⟩ ⟨rfl, rfl, rfl, trivial⟩ fun w' h => h⟩
 · rw [hn4, hf4]
   exact VC.dis (α := (Nat × Nat) × (Nat × Nat)) (I := fun p => ⟨113, [(3, .ptr 0 0), (7, .ptr 1 0)], [(0, .cells [.v (iv sl), .v (iv ro), .v (iv su), .v (.slice go 0 gc), .v (.slice (some to) T.length tc)] 25), (1, .cells [.v (iv sl), .v (iv ro), .v (iv su), .v (.slice none 0 0), .v (.slice (some ⟨p.2.1, 0, none⟩) (rot T kt).length p.2.2)] 25)], 2, fun w' => Below w.heap.size w w' ∧ True ∧ St w.heap.size (Rd 2 Tc.cs (.slice (some ⟨p.2.1, 0, none⟩) (rot T kt).length p.2.2) (rot T kt)) w', z0⟩) (pre := fun _ => True)
    (Dis.mk3 (w0 := w) id [4] rfl (fun i hi => by rw [List.mem_singleton] at hi; subst hi; exact ⟨_, rfl, rfl⟩) (fun w' h => h) (fun β w1 hok hw1 hge => ⟨((β 2, β 3), (β 4, β 5)), trivial, ⟨⟨_, rfl, rfl⟩, ⟨_, rfl, rfl⟩, trivial⟩, ⟨⟨rfl, _, rfl, fun _ => rfl, fun w2 y hy => hy⟩, ⟨rfl, _, rfl, fun _ => rfl, fun w2 y hy => hy⟩, trivial⟩, rfl, fun w2 hw2 hLo => ⟨hw2, trivial, rows_st (sz := 2) (f := Tc.cs) (fun _ => rfl) rfl rfl (hge 4 _ rfl rfl) (hLo 4 (by simp) _ rfl)⟩⟩))
    (fun _ _ => okB rfl rfl rfl) (fun p _ => hgo p)
theorem Tu_nn (D : SD) (sl ro su : Int) (go : Option Addr) (to : Option Addr) (gc tc : Nat) (gv tv kg kt : Nat) (w : World) (hs : Sc.d ⟨sl, ro, su, go, gc, ([] : List Rw), to, tc, ([] : List Tc)⟩ = D) (h : ScIn ⟨sl, ro, su, go, gc, ([] : List Rw), to, tc, ([] : List Tc)⟩ w) (hB : ScB ⟨sl, ro, su, go, gc, ([] : List Rw), to, tc, ([] : List Tc)⟩) (hv : scOk D = true) :
 VC Tryz.prog (rest 3 body6) ⟨113, [(1, .v (.int .u8 gv)), (2, .v (.int .u8 tv)), (3, .ptr 0 0), (7, .ptr 1 0)], [(0, .cells [.v (iv sl), .v (iv ro), .v (iv su), .v (.slice go 0 gc), .v (.slice to 0 tc)] 25), (1, .cells [.v (iv sl), .v (iv ro), .v (iv su), .v (.slice go 0 gc), .v (.slice to 0 tc)] 25)], 2, Below w.heap.size w, z0⟩ (endΦ env Tryz.f6 fun v σ => (∀ β, v.c β = .bool true) ∧ ∀ w', σ.h w' → Below w.heap.size w w') := by
 have hgo := fun (p : (Nat × Nat) × (Nat × Nat)) => Tu6 D kg kt ⟨sl, ro, su, go, gc, ([] : List Rw), to, tc, ([] : List Tc)⟩ ⟨sl, ro, su, none, 0, [], none, 0, []⟩ hs (by rw [← hs]; unfold Sc.d SD.turn; dsimp only; simp [rot]) hv w h hB ⟨Nat.zero_le _, fun r hr => (by cases hr), Nat.zero_le _, fun r hr => (by cases hr)⟩ (fun w' => True ∧ True) (fun w' hb hk => ⟨.inl ⟨rfl, rfl⟩, fun r hr => (by cases hr), .inl ⟨rfl, rfl⟩, fun r hr => (by cases hr)⟩)
 refine VC.cutE env mixed 3 6 (fun _ : Unit => [(3, .ptr 0 0), (7, .ptr 1 0)]) (fun _ => [(0, .cells [.v (iv sl), .v (iv ro), .v (iv su), .v (.slice go 0 gc), .v (.slice to 0 tc)] 25), (1, .cells [.v (iv sl), .v (iv ro), .v (iv su), .v (.slice none 0 0), .v (.slice none 0 0)] 25)]) (fun _ => True) (fun _ _ => ⟨rfl, by simp only [mB, Blk.lt, SV.lts, SV.lt]; rfl⟩) ?_ (fun _ _ => ?_)
 · clear hgo
   rcases nil_or h.g with ⟨rfl, rfl⟩ | ⟨go, rfl⟩
   all_goals rcases nil_or h.t with ⟨rfl, rfl⟩ | ⟨to, rfl⟩
   all_goals skip
   repeat'
    conv => whnf
    first
     |refine zA ?_|refine zB ?_|refine zC ?_|refine zJ ?_|refine splF ?_
     |refine eL [] ⟨⟨rfl, fun w' hw' j v hj => (by simp at hj), fun v hv => (by cases hv)⟩, ?_⟩
   all_goals exact ⟨rfl, (), trivial, Ent.ren (rho []) rfl rfl ⟨rfl, rfl, trivial⟩ ⟨rfl, rfl, trivial⟩ fun w' h => h⟩
 · skip
   exact VC.dis (α := (Nat × Nat) × (Nat × Nat)) (I := fun p => ⟨113, [(3, .ptr 0 0), (7, .ptr 1 0)], [(0, .cells [.v (iv sl), .v (iv ro), .v (iv su), .v (.slice go 0 gc), .v (.slice to 0 tc)] 25), (1, .cells [.v (iv sl), .v (iv ro), .v (iv su), .v (.slice none 0 0), .v (.slice none 0 0)] 25)], 2, fun w' => Below w.heap.size w w' ∧ True ∧ True, z0⟩) (pre := fun _ => True)
    (Dis.mk3 (w0 := w) id [] rfl (fun i hi => by cases hi) (fun w' h => h) (fun β w1 hok hw1 hge => ⟨((β 2, β 3), (β 4, β 5)), trivial, ⟨⟨_, rfl, rfl⟩, ⟨_, rfl, rfl⟩, trivial⟩, ⟨⟨rfl, _, rfl, fun _ => rfl, fun w2 y hy => hy⟩, ⟨rfl, _, rfl, fun _ => rfl, fun w2 y hy => hy⟩, trivial⟩, rfl, fun w2 hw2 hLo => ⟨hw2, trivial, trivial⟩⟩))
    (fun _ _ => okB rfl rfl rfl) (fun p _ => hgo p)
theorem SchoolTurns_ok (s : Sc) (gv tv : Nat) (w : World) (h : ScIn s w) (hX : ScX s) (hgc : s.G.length ≤ s.gc) (htc : s.T.length ≤ s.tc) (hgv : gv < 256) (htv : tv < 256) :
 Calls Tryz.prog 6 #[s.v, .int .u8 gv, .int .u8 tv] w fun e w' => e = .returned (.bool true) ∧ Below w.heap.size w w' := by
 have h12 := fun w' => awake_ok w'
 have h15 := fun (w' : World) (hw : Below w.heap.size w w') => RightX_ok s w' (h.below hw) hX
 cases hv : scOk s.d with
 | false =>
  rw [hv] at h15
  obtain ⟨sl, ro, su, go, gc, G, to, tc, T⟩ := s
  refine calls_val env mixed Tryz.func6 has6 Tryz.ntmps6 [.agg #[iv sl, iv ro, iv su, .slice go G.length gc, .slice to T.length tc], .int .u8 gv, .int .u8 tv] (by simp) ?_
  repeat'
   conv => whnf
   first
    |refine zD ?_|refine splT ?_
    |((with_reducible show CallEv _ _ 15 ..); refine callE (fun β w' hbw => h15 _ hbw) ?_)
    |((with_reducible show CallEv _ _ 12 ..); refine callE (fun β w' hbw => h12 w') ?_)
  all_goals exact ⟨fun β => rfl, fun w' h => h⟩
 | true =>
  rw [hv] at h15
  have hB := ScX.ok hv
  obtain ⟨sl, ro, su, go, gc, G, to, tc, T⟩ := s
  obtain ⟨_, _, _, hv4, hv5, _, _⟩ := scOk_iff.1 hv
  have g8 : (G.map Rw.xs).length ≤ 8 := hv4
  have t8 : (T.map Tc.d).length ≤ 8 := hv5
  rw [List.length_map] at g8 t8
  dsimp only at hgc htc
  refine calls_valV env mixed Tryz.func6 has6 Tryz.ntmps6 [.agg #[iv sl, iv ro, iv su, .slice go G.length gc, .slice to T.length tc], .int .u8 gv, .int .u8 tv] (by simp) ?_
  refine VC.cutE env mixed 3 2 (fun _ : Unit => [(1, .v (.int .u8 gv)), (2, .v (.int .u8 tv)), (3, .ptr 0 0), (7, .ptr 1 0)]) (fun _ => [(0, .cells [.v (iv sl), .v (iv ro), .v (iv su), .v (.slice go G.length gc), .v (.slice to T.length tc)] 25), (1, .cells [.v (iv sl), .v (iv ro), .v (iv su), .v (.slice go G.length gc), .v (.slice to T.length tc)] 25)]) (fun _ => True) (fun _ _ => ⟨rfl, rfl⟩) ?_ (fun _ _ => ?_)
  · skip
    repeat'
     conv => whnf
     first
      |refine zC ?_|refine zD ?_|refine splF ?_
      |((with_reducible show CallEv _ _ 15 ..); refine callE (fun β w' hbw => h15 _ hbw) ?_)
    all_goals exact ⟨rfl, (), trivial, Ent.weak rfl ⟨rfl, rfl, rfl, rfl, trivial⟩ ⟨rfl, rfl, trivial⟩ fun _ h => h⟩
  · cases G with
    | nil =>
     cases T with
     | nil => exact Tu_nn _ sl ro su go to gc tc gv tv 0 0 w rfl h hB hv
     | cons t T =>
      obtain ⟨_, to, rfl, _⟩ := h.t.ptr (by simp)
      exact Tu_nt _ sl ro su go to (t :: T) gc tc gv tv 0 _ w rfl h hB hv ⟨by simp, t8⟩ htc htv rfl
    | cons g G =>
     obtain ⟨_, go, rfl, _⟩ := h.g.ptr (by simp)
     cases T with
     | nil => exact Tu_gn _ sl ro su go to (g :: G) gc tc gv tv _ 0 w rfl h hB hv ⟨by simp, g8⟩ hgc hgv rfl
     | cons t T =>
      obtain ⟨_, to, rfl, _⟩ := h.t.ptr (by simp)
      exact Tu_gt _ sl ro su go to (g :: G) (t :: T) gc tc gv tv _ _ w rfl h hB hv ⟨by simp, g8⟩ hgc hgv rfl ⟨by simp, t8⟩ htc htv rfl
end Go.Proofs.YtkbfcofifhngfaaGreat
namespace Go.Proofs.YtkbfcofifhngfaaGreat
open Go Tx Go.RowKit Go.WideShapes
abbrev I64 (n : Int) : Prop := -9223372036854775808 ≤ n ∧ n ≤ 9223372036854775807
def shI : Shp := .int .i64
def shTe : Shp := .agg [.sl 1 shI, shI]
def shSc : Shp := .agg [shI, shI, shI, .sl 1 (.sl 1 shI), .sl 2 shTe]
theorem op_slc {α : Type} {w : World} {sz : Nat} {e : Shp} {f : α → List Value} {Q : α → Prop} (he : ∀ es, e.rd w es → ∃ x, es = f x ∧ Q x) {cs : List Value} (h : (Shp.sl sz e).rd w cs) :
 ∃ (o : Option Addr) (c : Nat) (xs : List α), cs = [.slice o xs.length c] ∧ Rd sz f (.slice o xs.length c) xs w ∧ xs.length ≤ 9223372036854775807 ∧ ∀ x ∈ xs, Q x := by
 unfold Shp.rd at h
 rcases h with rfl | ⟨a, n, c, rfl, h1, h2, h3⟩
 · exact ⟨none, 0, [], rfl, .inl ⟨rfl, rfl⟩, by simp, fun x hx => by simp at hx⟩
 · obtain ⟨xs, hl, hb⟩ := list_of (Q := fun i (x : α) => (∀ j v, (f x)[j]? = some v → w.cell? ((a.add (i * sz)).add j) = some v) ∧ Q x) n fun i hi => by
    obtain ⟨es, _, e2, e3⟩ := h3 i hi
    obtain ⟨x, rfl, hx⟩ := he es e3
    exact ⟨x, e2, hx⟩
   subst hl
   exact ⟨some a, c, xs, rfl, .inr ⟨a, c, rfl, fun k b hk => (hb k b hk).1⟩, by unfold maxLen at h2; omega, fun x hx => by
    obtain ⟨k, hk⟩ := List.mem_iff_getElem?.1 hx
    exact (hb k x hk).2⟩
theorem op_i {w : World} {es : List Value} (h : shI.rd w es) : ∃ n : Int, es = iF n ∧ I64 n := by
 simp only [shI, Shp.rd] at h
 obtain ⟨n, rfl, g⟩ := h
 exact ⟨n, rfl, wf64 g⟩
theorem op_ints {w : World} {cs : List Value} (h : (Shp.sl 1 shI).rd w cs) : ∃ (o : Option Addr) (c : Nat) (xs : List Int), cs = [.slice o xs.length c] ∧ Rd 1 iF (.slice o xs.length c) xs w ∧ xs.length ≤ 9223372036854775807 ∧ ∀ x ∈ xs, I64 x :=
 op_slc (f := iF) (Q := I64) (fun es h => op_i h) h
theorem op_rw {w : World} {es : List Value} (h : (Shp.sl 1 shI).rd w es) : ∃ r : Rw, es = Rw.cs r ∧ Rd 1 iF r.v r.xs w ∧ r.xs.length ≤ 9223372036854775807 := by
 obtain ⟨o, c, xs, h1, h2, h3, _⟩ := op_ints h
 exact ⟨⟨o, c, xs⟩, h1, h2, h3⟩
theorem op_te {w : World} {es : List Value} (h : shTe.rd w es) : ∃ s : Tc, es = Tc.cs s ∧ Rd 1 iF (.slice s.o s.T.length s.c) s.T w ∧ s.T.length ≤ 9223372036854775807 ∧ I64 s.h := by
 simp only [shTe, Shp.rd.eq_3, Shp.rds] at h
 obtain ⟨_, _, rfl, h2, _, _, rfl, h3, rfl⟩ := h
 obtain ⟨n0, rfl, g0⟩ := op_i h3
 obtain ⟨o, c, xs, rfl, h3, h4, _⟩ := op_ints h2
 exact ⟨⟨o, c, xs, n0⟩, rfl, h3, h4, g0⟩
theorem op_school {w : World} {cs : List Value} (h : shSc.rd w cs) : ∃ x : Sc, cs = [iv x.sl, iv x.ro, iv x.su, .slice x.go x.G.length x.gc, .slice x.to x.T.length x.tc] ∧ ScIn x w ∧ ScX x ∧ (I64 x.sl ∧ I64 x.ro ∧ I64 x.su ∧ ∀ t ∈ x.T, I64 t.h) := by
 unfold shSc at h
 simp only [Shp.rd.eq_3, Shp.rds] at h
 obtain ⟨_, _, rfl, h1, _, _, rfl, h2, _, _, rfl, h3, _, _, rfl, h4, _, _, rfl, h5, rfl⟩ := h
 obtain ⟨n1, rfl, g1⟩ := op_i h1
 obtain ⟨n2, rfl, g2⟩ := op_i h2
 obtain ⟨n3, rfl, g3⟩ := op_i h3
 obtain ⟨go, gc, G, rfl, b1, b2, b3⟩ := op_slc (f := Rw.cs) (Q := fun r => Rd 1 iF r.v r.xs w ∧ r.xs.length ≤ 9223372036854775807) (fun es h => op_rw h) h4
 obtain ⟨to, tc, T, rfl, d1, d2, d3⟩ := op_slc (f := Tc.cs) (Q := fun s => Rd 1 iF (.slice s.o s.T.length s.c) s.T w ∧ s.T.length ≤ 9223372036854775807 ∧ I64 s.h) (fun es h => op_te h) h5
 exact ⟨⟨n1, n2, n3, go, gc, G, to, tc, T⟩, rfl, ⟨b1, fun r hr => (b3 r hr).1, d1, fun t ht => (d3 t ht).1⟩, ⟨b2, fun r hr => (b3 r hr).2, d2, fun t ht => (d3 t ht).2.1⟩, g1, g2, g3, fun t ht => (d3 t ht).2.2⟩
theorem op_cap {w : World} {sz : Nat} {e : Shp} {o : Option Addr} {n c : Nat} (h : (Shp.sl sz e).rd w [.slice o n c]) : n ≤ c := by
 unfold Shp.rd at h
 rcases h with h | ⟨a, n', c', h, h1, h2, h3⟩
 · simp only [List.cons.injEq, Value.slice.injEq] at h; omega
 · simp only [List.cons.injEq, Value.slice.injEq] at h; omega
theorem op_schoolC {w : World} {cs : List Value} (h : shSc.rd w cs) : ∃ x : Sc, cs = [iv x.sl, iv x.ro, iv x.su, .slice x.go x.G.length x.gc, .slice x.to x.T.length x.tc] ∧ ScIn x w ∧ ScX x ∧ x.G.length ≤ x.gc ∧ x.T.length ≤ x.tc := by
 have h0 := h
 obtain ⟨x, rfl, h1, h2, _⟩ := op_school h0
 refine ⟨x, rfl, h1, h2, ?_⟩
 unfold shSc at h
 simp only [Shp.rd.eq_3, Shp.rds] at h
 obtain ⟨a1, b1, e1, k1, a2, b2, e2, k2, a3, b3, e3, k3, a4, b4, e4, k4, a5, b5, e5, k5, e6⟩ := h
 obtain ⟨n1, rfl, _⟩ := op_i k1
 obtain ⟨n2, rfl, _⟩ := op_i k2
 obtain ⟨n3, rfl, _⟩ := op_i k3
 obtain ⟨go, gc, G, rfl, _⟩ := op_slc (f := Rw.cs) (Q := fun r => Rd 1 iF r.v r.xs w ∧ r.xs.length ≤ 9223372036854775807) (fun es h => op_rw h) k4
 obtain ⟨to, tc, T, rfl, _⟩ := op_slc (f := Tc.cs) (Q := fun s => Rd 1 iF (.slice s.o s.T.length s.c) s.T w ∧ s.T.length ≤ 9223372036854775807 ∧ I64 s.h) (fun es h => op_te h) k5
 subst e6
 simp at e1
 obtain ⟨_, rfl⟩ := e1
 simp at e2
 obtain ⟨_, rfl⟩ := e2
 simp at e3
 obtain ⟨_, rfl⟩ := e3
 simp at e4
 obtain ⟨⟨rfl, hgl, rfl⟩, rfl⟩ := e4
 simp at e5
 obtain ⟨rfl, htl, rfl⟩ := e5
 have q1 := op_cap k4
 have q2 := op_cap k5
 omega
theorem wfu8 {a : Int} (h : (Lit.int .u8 a).wf = true) : ∃ k : Nat, a = k ∧ k < 256 := by
 simp [Lit.wf, IntKind.min, IntKind.max, IntKind.bits, IntKind.signed] at h
 exact ⟨a.toNat, by omega, by omega⟩
end Go.Proofs.YtkbfcofifhngfaaGreat
