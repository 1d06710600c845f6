/- SchoolGroups: both calls of Join. -/
import Derived.Test.YtpleibfohjbneaaGreatSO
namespace Go.Proofs.YtpleibfohjbneaaGreat
open Go Tx Go.RowKit
set_option linter.unusedSimpArgs false
set_option linter.unusedVariables false

/-- The state behind the first call of Join, and behind the second. -/
abbrev gS5 (no : Option Addr) (nc : Nat) (N : List Int) (wk : Int) (co : Option Addr) (cc : Nat) (C : List Rw) (o : Option Addr) (c : Nat) (K : List Kd) (go : Option Addr) (gc : Nat) (xs : List Int) (n : Int) (w : World) (y : (Addr × Nat) × (Addr × Nat)) : Sg :=
  ⟨204, [(1, .v (.slice o K.length c)), (2, .v (.slice go xs.length gc)), (3, .v (iv n)), (4, .ptr 0 0), (10, .v (.slice (some y.1.1) 1 y.1.2)), (11, .v (iv 0))], [(0, .cells [.v (.slice no N.length nc), .v (iv wk), .v (.slice co C.length cc)] 56)], 1, fun w2 => Below w.heap.size w w2 ∧ jyH (jnR N wk (C.map Rw.xs) (K.map Kd.d) xs) y w2, z0⟩
abbrev gS6 (no : Option Addr) (nc : Nat) (N : List Int) (wk : Int) (co : Option Addr) (cc : Nat) (C : List Rw) (o : Option Addr) (c : Nat) (K : List Kd) (go : Option Addr) (gc : Nat) (xs : List Int) (n : Int) (w : World) (y z : (Addr × Nat) × (Addr × Nat)) : Sg :=
  ⟨204, [(1, .v (.slice o K.length c)), (2, .v (.slice go xs.length gc)), (4, .ptr 0 0), (10, .v (.slice (some y.1.1) 1 y.1.2)), (11, .v (iv 0)), (12, .v (.slice (some z.1.1) 1 z.1.2)), (13, .v (iv 0))], [(0, .cells [.v (.slice no N.length nc), .v (iv wk), .v (.slice co C.length cc)] 56)], 1, fun w2 => (Below w.heap.size w w2 ∧ jyH (jnR N wk (C.map Rw.xs) (K.map Kd.d) xs) y w2) ∧ jyH (jnR N wk (C.map Rw.xs) (K.map Kd.d) (xs ++ [n])) z w2, z0⟩

set_option maxHeartbeats 8000000 in
set_option maxRecDepth 100000 in
theorem Gr4 (no : Option Addr) (nc : Nat) (N : List Int) (wk : Int) (co : Option Addr) (cc : Nat) (C : List Rw) (o : Option Addr) (c : Nat) (K : List Kd) (go : Option Addr) (gc : Nat) (xs : List Int) (n : Int) (w : World) (hX : CrIn ⟨no, nc, N, wk, co, cc, C⟩ w) (hK : KdIn o c K w) (hg : Rd 1 iF (.slice go xs.length gc) xs w) (hc : crOk N wk (C.map Rw.xs) = true) (hx45 : xs.length ≤ 45) (hj : jfE N.length (C.map Rw.xs).length wk (K.map Kd.d) (xs ++ [n]) = 0)
    (h5 : ∀ y, VC Tryz.prog (rest 1 (rest 4 body11)) (gS5 no nc N wk co cc C o c K go gc xs n w y) (endΦ env Tryz.f11 fun s σ => (∀ β, s.c β = .bool true) ∧ ∀ w', σ.h w' → Below w.heap.size w w')) : VC Tryz.prog (rest 4 body11) (gS4 no nc N wk co cc C o c K go gc xs n w) (endΦ env Tryz.f11 fun s σ => (∀ β, s.c β = .bool true) ∧ ∀ w', σ.h w' → Below w.heap.size w w') := by
  have h30 := fun w' hb => Course_nr ⟨no, nc, N, wk, co, cc, C⟩ w' (hX.below hb)
  have h49 := fun w' hb => children_ok o c K w' (hK.below hb)
  have hz := KzOk.of hX hK
  have hnl := hX.nl
  have hcl := hX.cl
  have hcm : (C.map Rw.xs).length ≤ 1000000 := by rw [List.length_map]; exact hcl
  have hrl : ∀ l ∈ C.map Rw.xs, l.length ≤ 1000000 := fun l hl => by obtain ⟨r, hr, rfl⟩ := List.mem_map.1 hl; exact hX.rl r hr
  have h47 := fun w' hb => list_fam xs go gc w' (hg.below hb) (by omega)
  have h48 := @Join_nr N wk (C.map Rw.xs) (K.map Kd.d) xs hnl hcm hrl hz (by omega) hc (jfE_init hj)
  dsimp only at h30
  refine VC.cutH env mixed 1 1 (fun y : (Addr × Nat) × (Addr × Nat) => [(1, .v (.slice o K.length c)), (2, .v (.slice go xs.length gc)), (3, .v (iv n)), (4, .ptr 0 0), (10, .v (.slice (some y.1.1) 1 y.1.2)), (11, .v (iv 0))]) (fun _ => [(0, .cells [.v (.slice no N.length nc), .v (iv wk), .v (.slice co C.length cc)] 56)]) (fun y w2 => Below w.heap.size w w2 ∧ jyH (jnR N wk (C.map Rw.xs) (K.map Kd.d) xs) y w2) (fun _ => True) (fun _ _ => ⟨rfl, rfl⟩) ?_ (fun y _ => h5 y)
  clear h5
  repeat'
   conv => whnf
   first
    | refine zA ?_ | refine zB ?_ | refine zC ?_ | refine zD ?_ | refine zE ?_ | refine zF ?_ | refine zG ?_ | refine zH ?_ | refine zJ ?_ | refine zI ?_ | refine splT ?_ | refine splF ?_ | refine splNot ?_
    | ((first | refine splIn (fun hc => ?_) (fun hc => ?_) | refine splD (fun hc => ?_) (fun hc => ?_) | refine splE (fun hc => ?_) (fun hc => ?_) | refine splNE (fun hc => ?_) (fun hc => ?_)) <;> first | (exfalso; omega) | (exfalso; dsimp only at hc; omega) | skip)
    | ((with_reducible show CallEv _ _ 30 _ _ _ _ _); refine callF [] (fun y : (Option Addr × Nat) × Rws (C.map Rw.xs) => .agg #[.slice y.1.1 N.length y.1.2, iv wk, .slice y.2.o y.2.C.length y.2.c]) (fun y => crH N y) (fun β w' _ hbw => h30 w' (by first | exact hbw | exact hbw.1 | exact hbw.1.1 | exact hbw.1.1.1 | exact hbw.1.1.1.1 | exact hbw.1.1.1.1.1 | exact hbw.1.1.1.1.1.1 | exact hbw.1.1.1.1.1.1.1 | exact hbw.1.1.1.1.1.1.1.1 | exact hbw.1.1.1.1.1.1.1.1.1 | exact hbw.1.1.1.1.1.1.1.1.1.1 | exact hbw.1.1.1.1.1.1.1.1.1.1.1 | exact hbw.1.1.1.1.1.1.1.1.1.1.1.1 | exact hbw.1.1.1.1.1.1.1.1.1.1.1.1.1)) ?_; intro y; obtain ⟨⟨n1, n2⟩, ⟨c1, c2, C1, hC1⟩⟩ := y; dsimp only)
    | ((with_reducible show CallEv _ _ 49 _ _ _ _ _); refine callF [] (fun y : KdF (K.map Kd.d) => .slice y.o y.K.length y.c) (fun y => y.In) (fun β w' _ hbw => h49 w' (by first | exact hbw | exact hbw.1 | exact hbw.1.1 | exact hbw.1.1.1 | exact hbw.1.1.1.1 | exact hbw.1.1.1.1.1 | exact hbw.1.1.1.1.1.1 | exact hbw.1.1.1.1.1.1.1 | exact hbw.1.1.1.1.1.1.1.1 | exact hbw.1.1.1.1.1.1.1.1.1 | exact hbw.1.1.1.1.1.1.1.1.1.1 | exact hbw.1.1.1.1.1.1.1.1.1.1.1 | exact hbw.1.1.1.1.1.1.1.1.1.1.1.1 | exact hbw.1.1.1.1.1.1.1.1.1.1.1.1.1)) ?_; intro y; obtain ⟨k1, k2, K1, hK1⟩ := y; dsimp only)
    | ((with_reducible show CallEv _ _ 47 _ _ _ _ _); refine callF [] (fun y : Option Addr × Nat => .slice y.1 xs.length y.2) (fun y w2 => Rd 1 iF (.slice y.1 xs.length y.2) xs w2) (fun β w' _ hbw => h47 w' (by first | exact hbw | exact hbw.1 | exact hbw.1.1 | exact hbw.1.1.1 | exact hbw.1.1.1.1 | exact hbw.1.1.1.1.1 | exact hbw.1.1.1.1.1.1 | exact hbw.1.1.1.1.1.1.1 | exact hbw.1.1.1.1.1.1.1.1 | exact hbw.1.1.1.1.1.1.1.1.1 | exact hbw.1.1.1.1.1.1.1.1.1.1 | exact hbw.1.1.1.1.1.1.1.1.1.1.1 | exact hbw.1.1.1.1.1.1.1.1.1.1.1.1 | exact hbw.1.1.1.1.1.1.1.1.1.1.1.1.1)) ?_; intro y; obtain ⟨x1, x2⟩ := y; dsimp only)
    | ((with_reducible show CallEv _ _ 48 _ _ _ _ _); refine callF [1] jyV (jyH (jnR N wk (C.map Rw.xs) (K.map Kd.d) xs)) (fun β w' hbk hbw => h48 n1 n2 c1 c2 C1 hC1 k1 k2 K1 hK1 (some ⟨β 1, 0, none⟩) 1 x1 x2 w' hbw.1.1.2 hbw.1.2 (rdc (sz := 1) (f := Rw.cs) (fun _ => rfl) rfl rfl (hbk 1 (by simp) _ rfl)) hbw.2) ?_; intro y; obtain ⟨⟨y1, y2⟩, y3, y4⟩ := y; dsimp only)
  all_goals first | (exfalso; omega) | exact ⟨rfl, ((y1, y2), y3, y4), trivial, Ent.weak rfl ⟨rfl, rfl, rfl, rfl, rfl, rfl, trivial⟩ ⟨rfl, trivial⟩ fun w2 h => ⟨h.1.1.1.1, h.2⟩⟩

set_option maxHeartbeats 8000000 in
set_option maxRecDepth 100000 in
theorem Gr5n (no : Option Addr) (nc : Nat) (N : List Int) (wk : Int) (co : Option Addr) (cc : Nat) (C : List Rw) (o : Option Addr) (c : Nat) (K : List Kd) (go : Option Addr) (gc : Nat) (n : Int) (w : World) (y : (Addr × Nat) × (Addr × Nat)) (hX : CrIn ⟨no, nc, N, wk, co, cc, C⟩ w) (hK : KdIn o c K w) (hg : Rd 1 iF (.slice go ([] : List Int).length gc) ([] : List Int) w) (hc : crOk N wk (C.map Rw.xs) = true) (hx45 : ([] : List Int).length ≤ 45) (hj : jfE N.length (C.map Rw.xs).length wk (K.map Kd.d) [n] = 0)
    (h6 : ∀ z, VC Tryz.prog (rest 1 (rest 1 (rest 4 body11))) (gS6 no nc N wk co cc C o c K go gc [] n w y z) (endΦ env Tryz.f11 fun s σ => (∀ β, s.c β = .bool true) ∧ ∀ w', σ.h w' → Below w.heap.size w w')) : VC Tryz.prog (rest 1 (rest 4 body11)) (gS5 no nc N wk co cc C o c K go gc [] n w y) (endΦ env Tryz.f11 fun s σ => (∀ β, s.c β = .bool true) ∧ ∀ w', σ.h w' → Below w.heap.size w w') := by
  have h30 := fun w' hb => Course_nr ⟨no, nc, N, wk, co, cc, C⟩ w' (hX.below hb)
  have h49 := fun w' hb => children_ok o c K w' (hK.below hb)
  have hz := KzOk.of hX hK
  have hnl := hX.nl
  have hcl := hX.cl
  have hcm : (C.map Rw.xs).length ≤ 1000000 := by rw [List.length_map]; exact hcl
  have hrl : ∀ l ∈ C.map Rw.xs, l.length ≤ 1000000 := fun l hl => by obtain ⟨r, hr, rfl⟩ := List.mem_map.1 hl; exact hX.rl r hr
  have h47 := fun w2 hb => list_none go gc w2 (hg.below hb)
  skip
  have h48 := @Join_nr N wk (C.map Rw.xs) (K.map Kd.d) [n] hnl hcm hrl hz (by simp <;> omega) hc hj
  dsimp only at h30
  obtain ⟨⟨y1, y2⟩, y3, y4⟩ := y
  refine VC.cutH env mixed 1 1 (fun z : (Addr × Nat) × (Addr × Nat) => [(1, .v (.slice o K.length c)), (2, .v (.slice go 0 gc)), (4, .ptr 0 0), (10, .v (.slice (some y1) 1 y2)), (11, .v (iv 0)), (12, .v (.slice (some z.1.1) 1 z.1.2)), (13, .v (iv 0))]) (fun _ => [(0, .cells [.v (.slice no N.length nc), .v (iv wk), .v (.slice co C.length cc)] 56)]) (fun z w2 => (Below w.heap.size w w2 ∧ jyH (jnR N wk (C.map Rw.xs) (K.map Kd.d) []) ((y1, y2), y3, y4) w2) ∧ jyH (jnR N wk (C.map Rw.xs) (K.map Kd.d) [n]) z w2) (fun _ => True) (fun _ _ => ⟨rfl, rfl⟩) ?_ (fun y _ => h6 y)
  clear h6
  repeat'
   conv => whnf
   first
    | refine zA ?_ | refine zB ?_ | refine zC ?_ | refine zD ?_ | refine zE ?_ | refine zF ?_ | refine zG ?_ | refine zH ?_ | refine zJ ?_ | refine zI ?_ | refine splT ?_ | refine splF ?_ | refine splNot ?_
    | ((first | refine splIn (fun hc => ?_) (fun hc => ?_) | refine splD (fun hc => ?_) (fun hc => ?_) | refine splE (fun hc => ?_) (fun hc => ?_) | refine splNE (fun hc => ?_) (fun hc => ?_)) <;> first | (exfalso; omega) | (exfalso; dsimp only at hc; omega) | skip)
    | ((with_reducible show CallEv _ _ 30 _ _ _ _ _); refine callF [] (fun y : (Option Addr × Nat) × Rws (C.map Rw.xs) => .agg #[.slice y.1.1 N.length y.1.2, iv wk, .slice y.2.o y.2.C.length y.2.c]) (fun y => crH N y) (fun β w' _ hbw => h30 w' (by first | exact hbw | exact hbw.1 | exact hbw.1.1 | exact hbw.1.1.1 | exact hbw.1.1.1.1 | exact hbw.1.1.1.1.1 | exact hbw.1.1.1.1.1.1 | exact hbw.1.1.1.1.1.1.1 | exact hbw.1.1.1.1.1.1.1.1 | exact hbw.1.1.1.1.1.1.1.1.1 | exact hbw.1.1.1.1.1.1.1.1.1.1 | exact hbw.1.1.1.1.1.1.1.1.1.1.1 | exact hbw.1.1.1.1.1.1.1.1.1.1.1.1 | exact hbw.1.1.1.1.1.1.1.1.1.1.1.1.1)) ?_; intro y; obtain ⟨⟨n1, n2⟩, ⟨c1, c2, C1, hC1⟩⟩ := y; dsimp only)
    | ((with_reducible show CallEv _ _ 49 _ _ _ _ _); refine callF [] (fun y : KdF (K.map Kd.d) => .slice y.o y.K.length y.c) (fun y => y.In) (fun β w' _ hbw => h49 w' (by first | exact hbw | exact hbw.1 | exact hbw.1.1 | exact hbw.1.1.1 | exact hbw.1.1.1.1 | exact hbw.1.1.1.1.1 | exact hbw.1.1.1.1.1.1 | exact hbw.1.1.1.1.1.1.1 | exact hbw.1.1.1.1.1.1.1.1 | exact hbw.1.1.1.1.1.1.1.1.1 | exact hbw.1.1.1.1.1.1.1.1.1.1 | exact hbw.1.1.1.1.1.1.1.1.1.1.1 | exact hbw.1.1.1.1.1.1.1.1.1.1.1.1 | exact hbw.1.1.1.1.1.1.1.1.1.1.1.1.1)) ?_; intro y; obtain ⟨k1, k2, K1, hK1⟩ := y; dsimp only)
    | ((with_reducible show CallEv _ _ 47 _ _ _ _ _); refine callE (k := 47) (fun β w' hbw => h47 w' (by first | exact hbw | exact hbw.1 | exact hbw.1.1 | exact hbw.1.1.1 | exact hbw.1.1.1.1 | exact hbw.1.1.1.1.1 | exact hbw.1.1.1.1.1.1 | exact hbw.1.1.1.1.1.1.1 | exact hbw.1.1.1.1.1.1.1.1 | exact hbw.1.1.1.1.1.1.1.1.1 | exact hbw.1.1.1.1.1.1.1.1.1.1 | exact hbw.1.1.1.1.1.1.1.1.1.1.1 | exact hbw.1.1.1.1.1.1.1.1.1.1.1.1 | exact hbw.1.1.1.1.1.1.1.1.1.1.1.1.1)) ?_)
    | ((with_reducible show CallEv _ _ 48 _ _ _ _ _); refine callF [4, 2] jyV (jyH (jnR N wk (C.map Rw.xs) (K.map Kd.d) [n])) (fun β w' hbk hbw => h48 n1 n2 c1 c2 C1 hC1 k1 k2 K1 hK1 (some ⟨β 4, 0, none⟩) 1 (some ⟨β 2, 0, none⟩) (β 3) w' hbw.1.2 hbw.2 (rdc (sz := 1) (f := Rw.cs) (fun _ => rfl) rfl rfl (hbk 4 (by simp) _ rfl)) (own_as rfl rfl (hbk 2 (by simp) _ rfl))) ?_; intro z; obtain ⟨⟨z1, z2⟩, z3, z4⟩ := z; dsimp only)
  all_goals first | (exfalso; omega) | exact ⟨rfl, ((z1, z2), z3, z4), trivial, Ent.weak rfl ⟨rfl, rfl, rfl, rfl, rfl, rfl, rfl, trivial⟩ ⟨rfl, trivial⟩ fun w2 h => ⟨h.1.1.1, h.2⟩⟩

set_option maxHeartbeats 8000000 in
set_option maxRecDepth 100000 in
theorem Gr5c (no : Option Addr) (nc : Nat) (N : List Int) (wk : Int) (co : Option Addr) (cc : Nat) (C : List Rw) (o : Option Addr) (c : Nat) (K : List Kd) (go : Option Addr) (gc : Nat) (x : Int) (xs : List Int) (n : Int) (w : World) (y : (Addr × Nat) × (Addr × Nat)) (hX : CrIn ⟨no, nc, N, wk, co, cc, C⟩ w) (hK : KdIn o c K w) (hg : Rd 1 iF (.slice go (x :: xs).length gc) (x :: xs) w) (hc : crOk N wk (C.map Rw.xs) = true) (hx45 : (x :: xs).length ≤ 45) (hj : jfE N.length (C.map Rw.xs).length wk (K.map Kd.d) (x :: xs ++ [n]) = 0)
    (h6 : ∀ z, VC Tryz.prog (rest 1 (rest 1 (rest 4 body11))) (gS6 no nc N wk co cc C o c K go gc (x :: xs) n w y z) (endΦ env Tryz.f11 fun s σ => (∀ β, s.c β = .bool true) ∧ ∀ w', σ.h w' → Below w.heap.size w w')) : VC Tryz.prog (rest 1 (rest 4 body11)) (gS5 no nc N wk co cc C o c K go gc (x :: xs) n w y) (endΦ env Tryz.f11 fun s σ => (∀ β, s.c β = .bool true) ∧ ∀ w', σ.h w' → Below w.heap.size w w') := by
  have h30 := fun w' hb => Course_nr ⟨no, nc, N, wk, co, cc, C⟩ w' (hX.below hb)
  have h49 := fun w' hb => children_ok o c K w' (hK.below hb)
  have hz := KzOk.of hX hK
  have hnl := hX.nl
  have hcl := hX.cl
  have hcm : (C.map Rw.xs).length ≤ 1000000 := by rw [List.length_map]; exact hcl
  have hrl : ∀ l ∈ C.map Rw.xs, l.length ≤ 1000000 := fun l hl => by obtain ⟨r, hr, rfl⟩ := List.mem_map.1 hl; exact hX.rl r hr
  have h47 := fun w2 (hb : Below w.heap.size w w2) => list_own (x :: xs) go gc w2 (hg.below hb) (by simp) (by omega)
  have hxl : xs.length ≤ 44 := by simp at hx45; omega
  have h48 := @Join_nr N wk (C.map Rw.xs) (K.map Kd.d) (x :: xs ++ [n]) hnl hcm hrl hz (by simp <;> omega) hc hj
  dsimp only at h30
  obtain ⟨⟨y1, y2⟩, y3, y4⟩ := y
  refine VC.cutH env mixed 1 1 (fun z : (Addr × Nat) × (Addr × Nat) => [(1, .v (.slice o K.length c)), (2, .v (.slice go (x :: xs).length gc)), (4, .ptr 0 0), (10, .v (.slice (some y1) 1 y2)), (11, .v (iv 0)), (12, .v (.slice (some z.1.1) 1 z.1.2)), (13, .v (iv 0))]) (fun _ => [(0, .cells [.v (.slice no N.length nc), .v (iv wk), .v (.slice co C.length cc)] 56)]) (fun z w2 => (Below w.heap.size w w2 ∧ jyH (jnR N wk (C.map Rw.xs) (K.map Kd.d) (x :: xs)) ((y1, y2), y3, y4) w2) ∧ jyH (jnR N wk (C.map Rw.xs) (K.map Kd.d) (x :: xs ++ [n])) z w2) (fun _ => True) (fun _ _ => ⟨rfl, rfl⟩) ?_ (fun y _ => h6 y)
  clear h6
  repeat'
   conv => whnf
   first
    | refine zA ?_ | refine zB ?_ | refine zC ?_ | refine zD ?_ | refine zE ?_ | refine zF ?_ | refine zG ?_ | refine zH ?_ | refine zJ ?_ | refine zI ?_ | refine splT ?_ | refine splF ?_ | refine splNot ?_
    | ((first | refine splIn (fun hc => ?_) (fun hc => ?_) | refine splD (fun hc => ?_) (fun hc => ?_) | refine splE (fun hc => ?_) (fun hc => ?_) | refine splNE (fun hc => ?_) (fun hc => ?_)) <;> first | (exfalso; omega) | (exfalso; dsimp only at hc; omega) | skip)
    | ((with_reducible show CallEv _ _ 30 _ _ _ _ _); refine callF [] (fun y : (Option Addr × Nat) × Rws (C.map Rw.xs) => .agg #[.slice y.1.1 N.length y.1.2, iv wk, .slice y.2.o y.2.C.length y.2.c]) (fun y => crH N y) (fun β w' _ hbw => h30 w' (by first | exact hbw | exact hbw.1 | exact hbw.1.1 | exact hbw.1.1.1 | exact hbw.1.1.1.1 | exact hbw.1.1.1.1.1 | exact hbw.1.1.1.1.1.1 | exact hbw.1.1.1.1.1.1.1 | exact hbw.1.1.1.1.1.1.1.1 | exact hbw.1.1.1.1.1.1.1.1.1 | exact hbw.1.1.1.1.1.1.1.1.1.1 | exact hbw.1.1.1.1.1.1.1.1.1.1.1 | exact hbw.1.1.1.1.1.1.1.1.1.1.1.1 | exact hbw.1.1.1.1.1.1.1.1.1.1.1.1.1)) ?_; intro y; obtain ⟨⟨n1, n2⟩, ⟨c1, c2, C1, hC1⟩⟩ := y; dsimp only)
    | ((with_reducible show CallEv _ _ 49 _ _ _ _ _); refine callF [] (fun y : KdF (K.map Kd.d) => .slice y.o y.K.length y.c) (fun y => y.In) (fun β w' _ hbw => h49 w' (by first | exact hbw | exact hbw.1 | exact hbw.1.1 | exact hbw.1.1.1 | exact hbw.1.1.1.1 | exact hbw.1.1.1.1.1 | exact hbw.1.1.1.1.1.1 | exact hbw.1.1.1.1.1.1.1 | exact hbw.1.1.1.1.1.1.1.1 | exact hbw.1.1.1.1.1.1.1.1.1 | exact hbw.1.1.1.1.1.1.1.1.1.1 | exact hbw.1.1.1.1.1.1.1.1.1.1.1 | exact hbw.1.1.1.1.1.1.1.1.1.1.1.1 | exact hbw.1.1.1.1.1.1.1.1.1.1.1.1.1)) ?_; intro y; obtain ⟨k1, k2, K1, hK1⟩ := y; dsimp only)
    | ((with_reducible show CallEv _ _ 47 _ _ _ _ _); refine callO 1 [] (.os 1 2 (xs.length + 1)) (xs.length + 1) 1 ((x :: xs).flatMap iF) 3 rfl (fun β w' _ hbw => (h47 w' (by first | exact hbw | exact hbw.1 | exact hbw.1.1 | exact hbw.1.1.1 | exact hbw.1.1.1.1 | exact hbw.1.1.1.1.1 | exact hbw.1.1.1.1.1.1 | exact hbw.1.1.1.1.1.1.1 | exact hbw.1.1.1.1.1.1.1.1 | exact hbw.1.1.1.1.1.1.1.1.1 | exact hbw.1.1.1.1.1.1.1.1.1.1 | exact hbw.1.1.1.1.1.1.1.1.1.1.1 | exact hbw.1.1.1.1.1.1.1.1.1.1.1.1 | exact hbw.1.1.1.1.1.1.1.1.1.1.1.1.1)).mono fun _ _ ⟨b, c, h1, h2, h3, h4⟩ => ⟨b, c, h1, h2, h3, h4⟩) ?_)
    | ((with_reducible show CallEv _ _ 48 _ _ _ _ _); refine callF [6, 4] jyV (jyH (jnR N wk (C.map Rw.xs) (K.map Kd.d) (x :: xs ++ [n]))) (fun β w' hbk hbw => h48 n1 n2 c1 c2 C1 hC1 k1 k2 K1 hK1 (some ⟨β 6, 0, none⟩) 1 (some ⟨β 4, 0, none⟩) (β 5) w' hbw.1.2 hbw.2 (rdc (sz := 1) (f := Rw.cs) (fun _ => rfl) (by simp [SV.cs, SV.c, Rw.cs]) rfl (hbk 6 (by simp) _ rfl)) (own_as (by simp) (by simp) (hbk 4 (by simp) _ rfl))) ?_; intro z; obtain ⟨⟨z1, z2⟩, z3, z4⟩ := z; dsimp only)
  all_goals first | (exfalso; omega) | exact ⟨rfl, ((z1, z2), z3, z4), trivial, Ent.weak rfl ⟨rfl, rfl, rfl, rfl, rfl, rfl, rfl, trivial⟩ ⟨rfl, trivial⟩ fun w2 h => ⟨h.1.1.1, h.2⟩⟩
end Go.Proofs.YtpleibfohjbneaaGreat
