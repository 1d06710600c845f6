/- SchoolAdds: the course in new memory is made, and its hours are made to count 1000. -/
import Derived.Test.YtpleibfohjbneaaGreatS6
namespace Go.Proofs.YtpleibfohjbneaaGreat
open Go Tx Go.RowKit
set_option linter.unusedSimpArgs false
set_option linter.unusedVariables false

abbrev aS7 (no : Option Addr) (nc : Nat) (N : List Int) (wk : Int) (co : Option Addr) (cc : Nat) (C : List Rw) (o : Option Addr) (c : Nat) (S : List Sy) (tn : Int) (w : World) (u : (Addr × Nat) × (Addr × Nat)) (v : Addr × Nat) (x : (Addr × Nat) × (Addr × Nat)) (y : ((Nat × Nat) × RwG (C.map Rw.xs))) : Sg := ⟨248, [(1, .v (.slice o S.length c)), (3, .ptr 0 0), (8, .v (.slice (some u.1.1) N.length u.1.2)), (9, .v (.slice (some u.2.1) N.length u.2.2)), (10, .v (iv 0)), (11, .v (.slice (some v.1) N.length v.2)), (13, .v (iv 0)), (14, .v (.slice (some x.1.1) N.length x.1.2)), (15, .v (.slice (some x.2.1) N.length x.2.2)), (16, .v (iv 0)), (17, .ptr 1 0)], [(0, .cells [.v (.slice no N.length nc), .v (iv wk), .v (.slice co C.length cc)] 56), (1, .cells [.v (.slice (some ⟨y.1.1, 0, none⟩) N.length y.1.2), .v (iv wk), .v (.slice (some y.2.o) y.2.D.length y.2.c)] 63)], 2, fun w2 => hS6 N.length w (aK (C.map Rw.xs) (S.map Sy.d) N.length) (bK N (C.map Rw.xs) (S.map Sy.d) N.length) (aK (C.map Rw.xs) (S.map Sy.d) N.length) (aK (C.map Rw.xs) ((S.map Sy.d).take (S.length - 1)) N.length) (bK N (C.map Rw.xs) ((S.map Sy.d).take (S.length - 1)) N.length) u v x w2 ∧ crG (avS w u v x) N y w2, z0⟩
abbrev aS8 (no : Option Addr) (nc : Nat) (N : List Int) (wk : Int) (co : Option Addr) (cc : Nat) (C : List Rw) (o : Option Addr) (c : Nat) (S : List Sy) (tn : Int) (w : World) (u : (Addr × Nat) × (Addr × Nat)) (v : Addr × Nat) (x : (Addr × Nat) × (Addr × Nat)) (y : ((Nat × Nat) × RwG (C.map Rw.xs))) : Sg := ⟨248, [(1, .v (.slice o S.length c)), (3, .ptr 0 0), (8, .v (.slice (some u.1.1) N.length u.1.2)), (9, .v (.slice (some u.2.1) N.length u.2.2)), (10, .v (iv 0)), (11, .v (.slice (some v.1) N.length v.2)), (13, .v (iv 0)), (14, .v (.slice (some x.1.1) N.length x.1.2)), (15, .v (.slice (some x.2.1) N.length x.2.2)), (16, .v (iv 0)), (17, .ptr 1 0)], [(0, .cells [.v (.slice no N.length nc), .v (iv wk), .v (.slice co C.length cc)] 56), (1, .cells [.v (.slice (some ⟨y.1.1, 0, none⟩) N.length y.1.2), .v (iv wk), .v (.slice (some y.2.o) y.2.D.length y.2.c)] 63)], 2, fun w2 => hS6 N.length w (aK (C.map Rw.xs) (S.map Sy.d) N.length) (bK N (C.map Rw.xs) (S.map Sy.d) N.length) (aK (C.map Rw.xs) (S.map Sy.d) N.length) (aK (C.map Rw.xs) ((S.map Sy.d).take (S.length - 1)) N.length) (bK N (C.map Rw.xs) ((S.map Sy.d).take (S.length - 1)) N.length) u v x w2 ∧ Ro.In ⟨y.1.1, y.1.2, N⟩ w2 ∧ y.2.At (fun b => avS w u v x b ∨ b = y.1.1) (kCC (C.map Rw.xs)) w2, z0⟩
set_option maxHeartbeats 4000000 in
set_option maxRecDepth 100000 in
theorem Ad7 (no : Option Addr) (nc : Nat) (N : List Int) (wk : Int) (co : Option Addr) (cc : Nat) (C : List Rw) (o : Option Addr) (c : Nat) (S : List Sy) (tn : Int) (w : World) (u : (Addr × Nat) × (Addr × Nat)) (v : Addr × Nat) (x : (Addr × Nat) × (Addr × Nat)) (hX : CrIn ⟨no, nc, N, wk, co, cc, C⟩ w) (hE : ckE N wk (C.map Rw.xs) (S.map Sy.d) = 0)
    (h7 : ∀ y, VC Tryz.prog (rest 1 (rest 6 body7)) (aS7 no nc N wk co cc C o c S tn w u v x y) (endΦ env Tryz.f7 fun s σ => (∀ β, s.c β = .bool true) ∧ ∀ w', σ.h w' → Below w.heap.size w w')) : VC Tryz.prog (rest 6 body7) (aS6 no nc N wk co cc C o c S tn w u v x) (endΦ env Tryz.f7 fun s σ => (∀ β, s.c β = .bool true) ∧ ∀ w', σ.h w' → Below w.heap.size w w') := by
  have hy := YrOk.of hE
  have hn6 := hy.n6
  have hc1 := hy.c1
  have hN0 : N ≠ [] := fun e => by rw [e] at hn6; simp at hn6
  have hC1 : 1 ≤ C.length := by rw [List.length_map] at hc1; exact hc1.1
  have hr0 : ∀ r ∈ C, r.xs ≠ [] := fun r hr e => by
    have := (hy.r _ (List.mem_map_of_mem hr)).1
    rw [e] at this; simp at this; omega
  have h30 := fun w' (hh : hS6 N.length w (aK (C.map Rw.xs) (S.map Sy.d) N.length) (bK N (C.map Rw.xs) (S.map Sy.d) N.length) (aK (C.map Rw.xs) (S.map Sy.d) N.length) (aK (C.map Rw.xs) ((S.map Sy.d).take (S.length - 1)) N.length) (bK N (C.map Rw.xs) ((S.map Sy.d).take (S.length - 1)) N.length) u v x w') => CourseG_ok ⟨no, nc, N, wk, co, cc, C⟩ w' (avS w u v x) (av_lt hh hn6.1) (hX.below hh.1.1.1) hC1 hN0 hr0
  dsimp only at h30
  refine VC.cutH env mixed 1 2 (fun y => (aS7 no nc N wk co cc C o c S tn w u v x y).t) (fun y => [(0, .cells [.v (.slice no N.length nc), .v (iv wk), .v (.slice co C.length cc)] 56), (1, .cells [.v (.slice (some ⟨y.1.1, 0, none⟩) N.length y.1.2), .v (iv wk), .v (.slice (some y.2.o) y.2.D.length y.2.c)] 63)]) (fun y => (aS7 no nc N wk co cc C o c S tn w u v x y).h) (fun _ => True) (fun _ _ => ⟨rfl, rfl⟩) ?_ (fun y _ => h7 y)
  clear h7
  repeat'
   conv => whnf
   first
    | refine zA ?_ | refine zB ?_ | refine zC ?_ | refine zD ?_ | refine zE ?_ | refine zF ?_ | refine zG ?_ | refine zH ?_ | refine zJ ?_ | refine zI ?_ | refine splT ?_ | refine splF ?_ | refine splNot ?_
    | ((first | refine splIn (fun hc => ?_) (fun hc => ?_) | refine splD (fun hc => ?_) (fun hc => ?_) | refine splE (fun hc => ?_) (fun hc => ?_) | refine splNE (fun hc => ?_) (fun hc => ?_)) <;> first | (exfalso; omega) | (exfalso; dsimp only at hc; omega) | skip)
    | ((with_reducible show CallEv _ _ 30 _ _ _ _ _); refine callF [] (fun y : ((Nat × Nat) × RwG (C.map Rw.xs)) => .agg #[.slice (some ⟨y.1.1, 0, none⟩) N.length y.1.2, iv wk, .slice (some y.2.o) y.2.D.length y.2.c]) (fun y => crG (avS w u v x) N y) (fun β w' _ hbw => h30 w' hbw) ?_; intro y)
  all_goals first | (exfalso; omega) | exact ⟨rfl, y, trivial, Ent.weak rfl ⟨rfl, rfl, rfl, rfl, rfl, rfl, rfl, rfl, rfl, rfl, rfl, trivial⟩ ⟨rfl, rfl, trivial⟩ fun w2 h => h⟩
set_option maxHeartbeats 4000000 in
set_option maxRecDepth 100000 in
theorem Ad8 (no : Option Addr) (nc : Nat) (N : List Int) (wk : Int) (co : Option Addr) (cc : Nat) (C : List Rw) (o : Option Addr) (c : Nat) (S : List Sy) (tn : Int) (w : World) (u : (Addr × Nat) × (Addr × Nat)) (v : Addr × Nat) (x : (Addr × Nat) × (Addr × Nat)) (y : ((Nat × Nat) × RwG (C.map Rw.xs))) (hX : CrIn ⟨no, nc, N, wk, co, cc, C⟩ w) (hE : ckE N wk (C.map Rw.xs) (S.map Sy.d) = 0)
    (h8 : VC Tryz.prog (rest 1 (rest 1 (rest 6 body7))) (aS8 no nc N wk co cc C o c S tn w u v x y) (endΦ env Tryz.f7 fun s σ => (∀ β, s.c β = .bool true) ∧ ∀ w', σ.h w' → Below w.heap.size w w')) : VC Tryz.prog (rest 1 (rest 6 body7)) (aS7 no nc N wk co cc C o c S tn w u v x y) (endΦ env Tryz.f7 fun s σ => (∀ β, s.c β = .bool true) ∧ ∀ w', σ.h w' → Below w.heap.size w w') := by
  have hy := YrOk.of hE
  have hn6 := hy.n6
  have hcl : C.length ≤ 1000000 := hX.cl
  have hcm : (C.map Rw.xs).length = C.length := List.length_map ..
  have hDC : y.2.D.length = C.length := by have := congrArg List.length y.2.h; simpa using this
  have hro : ∀ l ∈ (C.map Rw.xs), l.length = N.length := fun l hl => (hy.r l hl).1
  have hrow : ∀ (i : Nat) (r : Ro), y.2.D[i]? = some r → r.xs.length = N.length := fun i r hr => hro _ (by
    have := y.2.h
    rw [← this]
    exact List.mem_map_of_mem (List.mem_of_getElem? hr))
  have er : ∀ (i j : Nat) (r : Ro), y.2.D[i]? = some r → ∀ w2, (hS6 N.length w (aK (C.map Rw.xs) (S.map Sy.d) N.length) (bK N (C.map Rw.xs) (S.map Sy.d) N.length) (aK (C.map Rw.xs) (S.map Sy.d) N.length) (aK (C.map Rw.xs) ((S.map Sy.d).take (S.length - 1)) N.length) (bK N (C.map Rw.xs) ((S.map Sy.d).take (S.length - 1)) N.length) u v x w2 ∧ Ro.In ⟨y.1.1, y.1.2, N⟩ w2 ∧ y.2.At (fun b => avS w u v x b ∨ b = y.1.1) (kIJ (C.map Rw.xs) i j) w2) → ∀ q z, [Value.slice (some r.ad) N.length r.c][q]? = some z → w2.cell? ((y.2.o.add ((i : Int).toNat * 1)).add q) = some z := fun i j r hr w2 h => by
    have := rd_ati h.2.2.1.1 (k := i) (b := r.rw) (by rw [List.getElem?_map, hr]; rfl)
    rw [show Rw.cs r.rw = [Value.slice (some r.ad) N.length r.c] from by show [Value.slice (some r.ad) r.xs.length r.c] = _; rw [hrow i r hr]] at this
    exact this
  obtain ⟨⟨ya, yb⟩, oa, oc, D, hD⟩ := y
  dsimp only at er hrow hDC
  refine VC.cutH env mixed 1 2 (fun _ : Unit => (aS8 no nc N wk co cc C o c S tn w u v x ((ya, yb), ⟨oa, oc, D, hD⟩)).t) (fun _ => (aS8 no nc N wk co cc C o c S tn w u v x ((ya, yb), ⟨oa, oc, D, hD⟩)).m) (fun _ => (aS8 no nc N wk co cc C o c S tn w u v x ((ya, yb), ⟨oa, oc, D, hD⟩)).h) (fun _ => True) (fun _ _ => ⟨rfl, rfl⟩) ?_ (fun _ _ => h8)
  clear h8
  obtain ⟨⟨u1, u2⟩, u3, u4⟩ := u
  obtain ⟨v1, v2⟩ := v
  obtain ⟨⟨x1, x2⟩, x3, x4⟩ := x
  repeat'
   conv => whnf
   first
    | refine zA ?_ | refine zB ?_ | refine zC ?_ | refine zD ?_ | refine zE ?_ | refine zF ?_ | refine zG ?_ | refine zH ?_ | refine zJ ?_ | refine zI ?_ | refine splT ?_ | refine splF ?_ | refine splNot ?_
    | ((first | refine splIn (fun hc => ?_) (fun hc => ?_) | refine splD (fun hc => ?_) (fun hc => ?_) | refine splE (fun hc => ?_) (fun hc => ?_) | refine splNE (fun hc => ?_) (fun hc => ?_)) <;> first | (exfalso; omega) | (exfalso; dsimp only at hc; omega) | skip)
  all_goals first | (exfalso; omega) | skip
  refine loopH 2 (fun i : Nat => [(1, .v (.slice o S.length c)), (3, .ptr 0 0), (8, .v (.slice (some u1) N.length u2)), (9, .v (.slice (some u3) N.length u4)), (10, .v (iv 0)), (11, .v (.slice (some v1) N.length v2)), (13, .v (iv 0)), (14, .v (.slice (some x1) N.length x2)), (15, .v (.slice (some x3) N.length x4)), (16, .v (iv 0)), (17, .ptr 1 0), (18, .v (iv i))]) (fun _ => (aS8 no nc N wk co cc C o c S tn w ((u1, u2), u3, u4) (v1, v2) ((x1, x2), x3, x4) ((ya, yb), ⟨oa, oc, D, hD⟩)).m)
    (fun i w2 => hS6 N.length w (aK (C.map Rw.xs) (S.map Sy.d) N.length) (bK N (C.map Rw.xs) (S.map Sy.d) N.length) (aK (C.map Rw.xs) (S.map Sy.d) N.length) (aK (C.map Rw.xs) ((S.map Sy.d).take (S.length - 1)) N.length) (bK N (C.map Rw.xs) ((S.map Sy.d).take (S.length - 1)) N.length) ((u1, u2), u3, u4) (v1, v2) ((x1, x2), x3, x4) w2 ∧ Ro.In ⟨ya, yb, N⟩ w2 ∧ (⟨oa, oc, D, hD⟩ : RwG (C.map Rw.xs)).At (fun b => avS w ((u1, u2), u3, u4) (v1, v2) ((x1, x2), x3, x4) b ∨ b = ya) (kIJ (C.map Rw.xs) i 0) w2)
    (fun i => i ≤ C.length) (fun i => C.length - i) 0 (Nat.zero_le _) ⟨rfl, rfl, rfl, rfl, rfl, rfl, rfl, rfl, rfl, rfl, rfl, rfl, trivial⟩ ⟨rfl, rfl, trivial⟩ (fun w2 h => ⟨h.1, h.2.1.1, by rw [kIJ_zero]; exact RwG.In.at h.2.2⟩) (fun _ _ => ⟨rfl, rfl⟩) ?_
  intro i hi
  rcases Nat.lt_or_ge i C.length with hil | hil
  · obtain ⟨r, hr⟩ : ∃ r, D[i]? = some r := ⟨_, List.getElem?_eq_getElem (by omega)⟩
    have hrl := hrow i r hr
    have er := fun j => er i j r hr
    repeat'
     conv => whnf
     first
      | refine zA ?_ | refine zB ?_ | refine zC ?_ | refine zD ?_ | refine zE ?_ | refine zF ?_ | refine zG ?_ | refine zH ?_ | refine zJ ?_ | refine zI ?_ | refine splT ?_ | refine splF ?_ | refine splNot ?_
      | ((first | refine splIn (fun hc => ?_) (fun hc => ?_) | refine splD (fun hc => ?_) (fun hc => ?_) | refine splE (fun hc => ?_) (fun hc => ?_) | refine splNE (fun hc => ?_) (fun hc => ?_)) <;> first | (exfalso; omega) | (exfalso; dsimp only at hc; omega) | skip)
    all_goals first | (exfalso; omega) | skip
    refine loopH 2 (fun j : Nat => [(1, .v (.slice o S.length c)), (3, .ptr 0 0), (8, .v (.slice (some u1) N.length u2)), (9, .v (.slice (some u3) N.length u4)), (10, .v (iv 0)), (11, .v (.slice (some v1) N.length v2)), (13, .v (iv 0)), (14, .v (.slice (some x1) N.length x2)), (15, .v (.slice (some x3) N.length x4)), (16, .v (iv 0)), (17, .ptr 1 0), (18, .v (iv i)), (19, .v (iv j))]) (fun _ => (aS8 no nc N wk co cc C o c S tn w ((u1, u2), u3, u4) (v1, v2) ((x1, x2), x3, x4) ((ya, yb), ⟨oa, oc, D, hD⟩)).m)
      (fun j w2 => hS6 N.length w (aK (C.map Rw.xs) (S.map Sy.d) N.length) (bK N (C.map Rw.xs) (S.map Sy.d) N.length) (aK (C.map Rw.xs) (S.map Sy.d) N.length) (aK (C.map Rw.xs) ((S.map Sy.d).take (S.length - 1)) N.length) (bK N (C.map Rw.xs) ((S.map Sy.d).take (S.length - 1)) N.length) ((u1, u2), u3, u4) (v1, v2) ((x1, x2), x3, x4) w2 ∧ Ro.In ⟨ya, yb, N⟩ w2 ∧ (⟨oa, oc, D, hD⟩ : RwG (C.map Rw.xs)).At (fun b => avS w ((u1, u2), u3, u4) (v1, v2) ((x1, x2), x3, x4) b ∨ b = ya) (kIJ (C.map Rw.xs) i j) w2)
      (fun j => j ≤ N.length) (fun j => N.length - j) 0 (Nat.zero_le _) ⟨rfl, rfl, rfl, rfl, rfl, rfl, rfl, rfl, rfl, rfl, rfl, rfl, rfl, trivial⟩ ⟨rfl, rfl, trivial⟩ (fun w2 h => h) (fun _ _ => ⟨rfl, rfl⟩) ?_
    intro j hj
    rcases Nat.lt_or_ge j N.length with hjl | hjl
    · have hspt : ∀ q, ((⟨r.b, 0, none⟩ : Addr).add q).spot = none := fun q => by rw [own_add]
      have hset := fun w2 (h : hS6 N.length w (aK (C.map Rw.xs) (S.map Sy.d) N.length) (bK N (C.map Rw.xs) (S.map Sy.d) N.length) (aK (C.map Rw.xs) (S.map Sy.d) N.length) (aK (C.map Rw.xs) ((S.map Sy.d).take (S.length - 1)) N.length) (bK N (C.map Rw.xs) ((S.map Sy.d).take (S.length - 1)) N.length) ((u1, u2), u3, u4) (v1, v2) ((x1, x2), x3, x4) w2 ∧ Ro.In ⟨ya, yb, N⟩ w2 ∧ (⟨oa, oc, D, hD⟩ : RwG (C.map Rw.xs)).At (fun b => avS w ((u1, u2), u3, u4) (v1, v2) ((x1, x2), x3, x4) b ∨ b = ya) (kIJ (C.map Rw.xs) i j) w2) => crK_set (CC := (C.map Rw.xs)) (y := ((ya, yb), ⟨oa, oc, D, hD⟩)) (w2 := w2) (i := i) (j := j) h hr (show (⟨r.b, 0, none⟩ : Addr).add ((j : Int).toNat * 1) = _ from by rw [own_add, Int.toNat_natCast, Nat.mul_one, Nat.zero_add])
      have hat := fun w2 (h : hS6 N.length w (aK (C.map Rw.xs) (S.map Sy.d) N.length) (bK N (C.map Rw.xs) (S.map Sy.d) N.length) (aK (C.map Rw.xs) (S.map Sy.d) N.length) (aK (C.map Rw.xs) ((S.map Sy.d).take (S.length - 1)) N.length) (bK N (C.map Rw.xs) ((S.map Sy.d).take (S.length - 1)) N.length) ((u1, u2), u3, u4) (v1, v2) ((x1, x2), x3, x4) w2 ∧ Ro.In ⟨ya, yb, N⟩ w2 ∧ (⟨oa, oc, D, hD⟩ : RwG (C.map Rw.xs)).At (fun b => avS w ((u1, u2), u3, u4) (v1, v2) ((x1, x2), x3, x4) b ∨ b = ya) (kIJ (C.map Rw.xs) i j) w2) => crK_at (CC := (C.map Rw.xs)) (y := ((ya, yb), ⟨oa, oc, D, hD⟩)) (w2 := w2) (i := i) (j := j) h hr (by omega) (by omega) (show (⟨r.b, 0, none⟩ : Addr).add ((j : Int).toNat * 1) = _ from by rw [own_add, Int.toNat_natCast, Nat.mul_one, Nat.zero_add])
      repeat'
       conv => whnf
       first
        | refine zA ?_ | refine zB ?_ | refine zC ?_ | refine zD ?_ | refine zE ?_ | refine zF ?_ | refine zG ?_ | refine zH ?_ | refine zJ ?_ | refine zI ?_ | refine splT ?_ | refine splF ?_ | refine splNot ?_
        | ((first | refine splIn (fun hc => ?_) (fun hc => ?_) | refine splD (fun hc => ?_) (fun hc => ?_) | refine splE (fun hc => ?_) (fun hc => ?_) | refine splNE (fun hc => ?_) (fun hc => ?_)) <;> first | (exfalso; omega) | (exfalso; dsimp only at hc; omega) | skip)
        | refine Exists.intro (α := List Value) [.slice (some r.ad) N.length r.c] ⟨⟨rfl, fun w' hw' => er j w' hw'⟩, ?_⟩
        | refine stF env rfl rfl rfl rfl rfl rfl (hspt _) (fun w2 => hS6 N.length w (aK (C.map Rw.xs) (S.map Sy.d) N.length) (bK N (C.map Rw.xs) (S.map Sy.d) N.length) (aK (C.map Rw.xs) (S.map Sy.d) N.length) (aK (C.map Rw.xs) ((S.map Sy.d).take (S.length - 1)) N.length) (bK N (C.map Rw.xs) ((S.map Sy.d).take (S.length - 1)) N.length) ((u1, u2), u3, u4) (v1, v2) ((x1, x2), x3, x4) w2 ∧ Ro.In ⟨ya, yb, N⟩ w2 ∧ (⟨oa, oc, D, hD⟩ : RwG (C.map Rw.xs)).At (fun b => avS w ((u1, u2), u3, u4) (v1, v2) ((x1, x2), x3, x4) b ∨ b = ya) (kIJ (C.map Rw.xs) i (j + 1)) w2) (fun w' hw' => hat w' hw') (fun w' hw' => hset w' hw') ?_
      all_goals first | (exfalso; omega) | exact ⟨j + 1, by omega, by omega, Ent.weak rfl ⟨rfl, rfl, rfl, rfl, rfl, rfl, rfl, rfl, rfl, rfl, rfl, rfl, rfl, trivial⟩ ⟨rfl, rfl, trivial⟩ fun _ h => h⟩
    · obtain rfl : j = N.length := by omega
      repeat'
       conv => whnf
       first
        | refine zA ?_ | refine zB ?_ | refine zC ?_ | refine zD ?_ | refine zE ?_ | refine zF ?_ | refine zG ?_ | refine zH ?_ | refine zJ ?_ | refine zI ?_ | refine splT ?_ | refine splF ?_ | refine splNot ?_
        | ((first | refine splIn (fun hc => ?_) (fun hc => ?_) | refine splD (fun hc => ?_) (fun hc => ?_) | refine splE (fun hc => ?_) (fun hc => ?_) | refine splNE (fun hc => ?_) (fun hc => ?_)) <;> first | (exfalso; omega) | (exfalso; dsimp only at hc; omega) | skip)
        | refine Exists.intro (α := List Value) [.slice (some r.ad) N.length r.c] ⟨⟨rfl, fun w' hw' => er N.length w' hw'⟩, ?_⟩
      all_goals first | (exfalso; omega) | exact ⟨i + 1, by omega, by omega, Ent.weak rfl ⟨rfl, rfl, rfl, rfl, rfl, rfl, rfl, rfl, rfl, rfl, rfl, rfl, trivial⟩ ⟨rfl, rfl, trivial⟩ fun _ h => ⟨h.1, h.2.1, by rw [← kIJ_next hro]; exact h.2.2⟩⟩
  · obtain rfl : i = C.length := by omega
    repeat'
     conv => whnf
     first
      | refine zA ?_ | refine zB ?_ | refine zC ?_ | refine zD ?_ | refine zE ?_ | refine zF ?_ | refine zG ?_ | refine zH ?_ | refine zJ ?_ | refine zI ?_ | refine splT ?_ | refine splF ?_ | refine splNot ?_
      | ((first | refine splIn (fun hc => ?_) (fun hc => ?_) | refine splD (fun hc => ?_) (fun hc => ?_) | refine splE (fun hc => ?_) (fun hc => ?_) | refine splNE (fun hc => ?_) (fun hc => ?_)) <;> first | (exfalso; omega) | (exfalso; dsimp only at hc; omega) | skip)
    all_goals first | (exfalso; omega) | exact ⟨rfl, (), trivial, Ent.weak rfl ⟨rfl, rfl, rfl, rfl, rfl, rfl, rfl, rfl, rfl, rfl, rfl, trivial⟩ ⟨rfl, rfl, trivial⟩ fun _ h => ⟨h.1, h.2.1, by rw [← kIJ_full, hcm]; exact h.2.2⟩⟩
end Go.Proofs.YtpleibfohjbneaaGreat
