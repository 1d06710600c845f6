/- SchoolCatches: the guard; the course in new memory, one place of which counts all hours 1000. -/
import Derived.Test.YtpleibfohjbneaaGreatT4
namespace Go.Proofs.YtpleibfohjbneaaGreat
open Go Tx Go.RowKit
set_option linter.unusedSimpArgs false
set_option linter.unusedVariables false

/-- What is known of the course while its place k is written. -/
abbrev hCw {CC : List (List Int)} (N : List Int) (w : World) (y : (Nat × Nat) × RwG CC) (C2 : List (List Int)) (w2 : World) : Prop := Below w.heap.size w w2 ∧ Ro.In ⟨y.1.1, y.1.2, N⟩ w2 ∧ y.2.At (fun b => b < w.heap.size ∨ b = y.1.1) C2 w2
theorem hCw_set {CC C2 : List (List Int)} {N : List Int} {w w2 : World} {y : (Nat × Nat) × RwG CC} {i j : Nat} {r : Ro} {xs0 : List Int} {v : Int} {a : Addr} (h : hCw N w y C2 w2) (hr : y.2.D[i]? = some r) (hx0 : C2[i]? = some xs0) (hj : j < xs0.length) (ha : a = ⟨r.b, j, none⟩) :
    hCw N w y (C2.set i (xs0.set j v)) (w2.setCell a (iv v)) := by
  have h2 := At_set (v := v) h.2.2 hr hx0 hj ha
  subst ha
  have hav := h.2.2.2.1.2 r (List.mem_of_getElem? hr)
  exact ⟨below_set h.1 (Nat.le_of_not_lt fun hlt => hav (.inl hlt)), ownsRow_setCell_other h.2.1 (by simp only [Value.ownBlock, ne_eq, Option.some.injEq]; exact fun e => hav (.inr e.symm)) _, h2⟩
abbrev cS2 (no : Option Addr) (nc : Nat) (N : List Int) (wk : Int) (co : Option Addr) (cc : Nat) (C : List Rw) (o : Option Addr) (c : Nat) (S : List Sy) (pl : Int) (w : World) : Sg := ⟨151, [(1, .v (.slice o S.length c)), (2, .v (.int .u8 pl)), (3, .ptr 0 0)], [(0, .cells [.v (.slice no N.length nc), .v (iv wk), .v (.slice co C.length cc)] 56)], 1, Below w.heap.size w, z0⟩
abbrev cS4 (no : Option Addr) (nc : Nat) (N : List Int) (wk : Int) (co : Option Addr) (cc : Nat) (C : List Rw) (o : Option Addr) (c : Nat) (S : List Sy) (pl : Int) (w : World) (y : ((Nat × Nat) × RwG (C.map Rw.xs))) (k : Nat) : Sg := ⟨151, [(1, .v (.slice o S.length c)), (3, .ptr 0 0), (7, .ptr 1 0), (8, .v (iv k))], [(0, .cells [.v (.slice no N.length nc), .v (iv wk), .v (.slice co C.length cc)] 56), (1, .cells [.v (.slice (some ⟨y.1.1, 0, none⟩) N.length y.1.2), .v (iv wk), .v (.slice (some y.2.o) y.2.D.length y.2.c)] 63)], 2, fun w2 => Below w.heap.size w w2 ∧ crG (fun b => b < w.heap.size) N y w2, z0⟩
abbrev cS5 (no : Option Addr) (nc : Nat) (N : List Int) (wk : Int) (co : Option Addr) (cc : Nat) (C : List Rw) (o : Option Addr) (c : Nat) (S : List Sy) (pl : Int) (w : World) (y : ((Nat × Nat) × RwG (C.map Rw.xs))) (k : Nat) : Sg := ⟨151, [(1, .v (.slice o S.length c)), (3, .ptr 0 0), (7, .ptr 1 0), (8, .v (iv k))], [(0, .cells [.v (.slice no N.length nc), .v (iv wk), .v (.slice co C.length cc)] 56), (1, .cells [.v (.slice (some ⟨y.1.1, 0, none⟩) N.length y.1.2), .v (iv wk), .v (.slice (some y.2.o) y.2.D.length y.2.c)] 63)], 2, hCw N w y ((C.map Rw.xs).set k (List.replicate N.length 1000)), z0⟩
set_option maxHeartbeats 4000000 in
set_option maxRecDepth 100000 in
theorem Ca_bad (no : Option Addr) (nc : Nat) (N : List Int) (wk : Int) (co : Option Addr) (cc : Nat) (C : List Rw) (o : Option Addr) (c : Nat) (S : List Sy) (pl : Int) (w : World) (hX : CrX ⟨no, nc, N, wk, co, cc, C⟩ w) (hY : SyX o c S w) (hb : ¬ (crOk N wk (C.map Rw.xs) = true ∧ shB (S.map Sy.d) = true ∧ stE N.length (C.map Rw.xs).length wk (S.map Sy.d) = 0)) :
    Calls Tryz.prog 8 #[.agg #[.slice no N.length nc, iv wk, .slice co C.length cc], .slice o S.length c, .int .u8 pl] w fun e w' => e = .returned (.bool true) ∧ Below w.heap.size w w' := by
  have h26 := fun w' hb => RightCourseA_ok ⟨no, nc, N, wk, co, cc, C⟩ w' (hX.below hb)
  have h27 := fun w' hb => short_ok o c S w' (hY.below hb)
  have h28 := fun (ht : thB N (C.map Rw.xs) = true) (hs : shB (S.map Sy.d) = true) w' hb => StaysFault_ok ⟨no, nc, N, wk, co, cc, C⟩ o c S w' ((hX.cin ht).below hb) ((hY.sin hs).below hb)
  dsimp only at h26 h28
  refine calls_val env mixed Tryz.func8 has8 Tryz.ntmps8 [.agg #[.slice no N.length nc, iv wk, .slice co C.length cc], .slice o S.length c, .int .u8 pl] (by simp) ?_
  cases hc : crOk N wk (C.map Rw.xs) with
  | false =>
    rw [hc] at h26
    repeat'
     conv => whnf
     first
      | refine zA ?_ | refine zB ?_ | refine zC ?_ | refine zD ?_ | refine zE ?_ | refine zF ?_ | refine zG ?_ | refine zH ?_ | refine zJ ?_ | refine zI ?_ | refine splT ?_ | refine splF ?_ | refine splNot ?_
      | ((first | refine splIn (fun hc => ?_) (fun hc => ?_) | refine splD (fun hc => ?_) (fun hc => ?_) | refine splE (fun hc => ?_) (fun hc => ?_) | refine splNE (fun hc => ?_) (fun hc => ?_)) <;> first | (exfalso; omega) | (exfalso; dsimp only at hc; omega) | skip)
      | ((with_reducible show CallEv _ _ 26 _ _ _ _ _); refine callE (k := 26) (fun β w' hbw => h26 w' hbw) ?_)
      | ((with_reducible show CallEv _ _ 16 _ _ _ _ _); refine callE (k := 16) (fun β w' hbw => awake_calls w') ?_)
    all_goals first | (exfalso; omega) | exact ⟨fun β => rfl, fun w' h => h⟩
  | true =>
    have ht := thB_ofA (wk := wk) hc
    rw [hc] at h26 hb
    cases hs : shB (S.map Sy.d) with
    | false =>
      rw [hs] at h27
      repeat'
       conv => whnf
       first
        | refine zA ?_ | refine zB ?_ | refine zC ?_ | refine zD ?_ | refine zE ?_ | refine zF ?_ | refine zG ?_ | refine zH ?_ | refine zJ ?_ | refine zI ?_ | refine splT ?_ | refine splF ?_ | refine splNot ?_
        | ((first | refine splIn (fun hc => ?_) (fun hc => ?_) | refine splD (fun hc => ?_) (fun hc => ?_) | refine splE (fun hc => ?_) (fun hc => ?_) | refine splNE (fun hc => ?_) (fun hc => ?_)) <;> first | (exfalso; omega) | (exfalso; dsimp only at hc; omega) | skip)
        | ((with_reducible show CallEv _ _ 26 _ _ _ _ _); refine callE (k := 26) (fun β w' hbw => h26 w' hbw) ?_)
        | ((with_reducible show CallEv _ _ 27 _ _ _ _ _); refine callE (k := 27) (fun β w' hbw => h27 w' hbw) ?_)
        | ((with_reducible show CallEv _ _ 16 _ _ _ _ _); refine callE (k := 16) (fun β w' hbw => awake_calls w') ?_)
      all_goals first | (exfalso; omega) | exact ⟨fun β => rfl, fun w' h => h⟩
    | true =>
      replace h28 := h28 ht hs
      rw [hs] at h27 hb
      have hF : stE N.length (C.map Rw.xs).length wk (S.map Sy.d) ≠ 0 := fun h => hb ⟨rfl, rfl, h⟩
      generalize stE N.length (C.map Rw.xs).length wk (S.map Sy.d) = F at *
      repeat'
       conv => whnf
       first
        | refine zA ?_ | refine zB ?_ | refine zC ?_ | refine zD ?_ | refine zE ?_ | refine zF ?_ | refine zG ?_ | refine zH ?_ | refine zJ ?_ | refine zI ?_ | refine splT ?_ | refine splF ?_ | refine splNot ?_
        | ((first | refine splIn (fun hc => ?_) (fun hc => ?_) | refine splD (fun hc => ?_) (fun hc => ?_) | refine splE (fun hc => ?_) (fun hc => ?_) | refine splNE (fun hc => ?_) (fun hc => ?_)) <;> first | (exfalso; omega) | (exfalso; dsimp only at hc; omega) | skip)
        | ((with_reducible show CallEv _ _ 26 _ _ _ _ _); refine callE (k := 26) (fun β w' hbw => h26 w' hbw) ?_)
        | ((with_reducible show CallEv _ _ 27 _ _ _ _ _); refine callE (k := 27) (fun β w' hbw => h27 w' hbw) ?_)
        | ((with_reducible show CallEv _ _ 28 _ _ _ _ _); refine callE (k := 28) (fun β w' hbw => h28 w' hbw) ?_)
        | ((with_reducible show CallEv _ _ 16 _ _ _ _ _); refine callE (k := 16) (fun β w' hbw => awake_calls w') ?_)
      all_goals first | (exfalso; omega) | exact ⟨fun β => rfl, fun w' h => h⟩
set_option maxHeartbeats 4000000 in
set_option maxRecDepth 100000 in
theorem Ca_top (no : Option Addr) (nc : Nat) (N : List Int) (wk : Int) (co : Option Addr) (cc : Nat) (C : List Rw) (o : Option Addr) (c : Nat) (S : List Sy) (pl : Int) (w : World) (hX : CrIn ⟨no, nc, N, wk, co, cc, C⟩ w) (hY : SyIn o c S w) (hY' : SyX o c S w) (hc : crOk N wk (C.map Rw.xs) = true) (hs : shB (S.map Sy.d) = true) (hF : stE N.length (C.map Rw.xs).length wk (S.map Sy.d) = 0)
    (h2 : VC Tryz.prog (rest 2 body8) (cS2 no nc N wk co cc C o c S pl w) (endΦ env Tryz.f8 fun s σ => (∀ β, s.c β = .bool true) ∧ ∀ w', σ.h w' → Below w.heap.size w w')) :
    Calls Tryz.prog 8 #[.agg #[.slice no N.length nc, iv wk, .slice co C.length cc], .slice o S.length c, .int .u8 pl] w fun e w' => e = .returned (.bool true) ∧ Below w.heap.size w w' := by
  have h26 := fun w' hb => RightCourse_ok ⟨no, nc, N, wk, co, cc, C⟩ w' (hX.below hb)
  have h27 := fun w' hb => short_ok o c S w' (hY'.below hb)
  have h28 := fun w' hb => StaysFault_ok ⟨no, nc, N, wk, co, cc, C⟩ o c S w' (hX.below hb) (hY.below hb)
  dsimp only at h26 h28
  rw [hc] at h26
  rw [hs] at h27
  rw [hF] at h28
  refine calls_valV env mixed Tryz.func8 has8 Tryz.ntmps8 [.agg #[.slice no N.length nc, iv wk, .slice co C.length cc], .slice o S.length c, .int .u8 pl] (by simp) ?_
  refine VC.cutH env mixed 2 1 (fun _ : Unit => (cS2 no nc N wk co cc C o c S pl w).t) (fun _ => [(0, .cells [.v (.slice no N.length nc), .v (iv wk), .v (.slice co C.length cc)] 56)]) (fun _ => Below w.heap.size w) (fun _ => True) (fun _ _ => ⟨rfl, rfl⟩) ?_ (fun _ _ => h2)
  clear h2
  repeat'
   conv => whnf
   first
    | refine zA ?_ | refine zB ?_ | refine zC ?_ | refine zD ?_ | refine zE ?_ | refine zF ?_ | refine zG ?_ | refine zH ?_ | refine zJ ?_ | refine zI ?_ | refine splT ?_ | refine splF ?_ | refine splNot ?_
    | ((first | refine splIn (fun hc => ?_) (fun hc => ?_) | refine splD (fun hc => ?_) (fun hc => ?_) | refine splE (fun hc => ?_) (fun hc => ?_) | refine splNE (fun hc => ?_) (fun hc => ?_)) <;> first | (exfalso; omega) | (exfalso; dsimp only at hc; omega) | skip)
    | ((with_reducible show CallEv _ _ 26 _ _ _ _ _); refine callE (k := 26) (fun β w' hbw => h26 w' hbw) ?_)
    | ((with_reducible show CallEv _ _ 27 _ _ _ _ _); refine callE (k := 27) (fun β w' hbw => h27 w' hbw) ?_)
    | ((with_reducible show CallEv _ _ 28 _ _ _ _ _); refine callE (k := 28) (fun β w' hbw => h28 w' hbw) ?_)
    | ((with_reducible show CallEv _ _ 16 _ _ _ _ _); refine callE (k := 16) (fun β w' hbw => awake_calls w') ?_)
  all_goals first | (exfalso; omega) | exact ⟨rfl, (), trivial, Ent.weak rfl ⟨rfl, rfl, rfl, trivial⟩ ⟨rfl, trivial⟩ fun _ h => h⟩
set_option maxHeartbeats 4000000 in
set_option maxRecDepth 100000 in
theorem Ca4 (no : Option Addr) (nc : Nat) (N : List Int) (wk : Int) (co : Option Addr) (cc : Nat) (C : List Rw) (o : Option Addr) (c : Nat) (S : List Sy) (pl : Int) (w : World) (hX : CrIn ⟨no, nc, N, wk, co, cc, C⟩ w) (hE : ckE N wk (C.map Rw.xs) (S.map Sy.d) = 0) (ht : 0 ≤ pl ∧ pl ≤ 255)
    (h4 : ∀ k y, k < C.length → VC Tryz.prog (rest 2 (rest 2 body8)) (cS4 no nc N wk co cc C o c S pl w y k) (endΦ env Tryz.f8 fun s σ => (∀ β, s.c β = .bool true) ∧ ∀ w', σ.h w' → Below w.heap.size w w')) : VC Tryz.prog (rest 2 body8) (cS2 no nc N wk co cc C o c S pl w) (endΦ env Tryz.f8 fun s σ => (∀ β, s.c β = .bool true) ∧ ∀ w', σ.h w' → Below w.heap.size w w') := by
  have hy := YrOk.of hE
  have hn6 := hy.n6
  have hc1 := hy.c1
  have hN0 : N ≠ [] := fun e => by rw [e] at hn6; simp at hn6
  have hC1 : 1 ≤ C.length := by rw [List.length_map] at hc1; exact hc1.1
  have hr0 : ∀ r ∈ C, r.xs ≠ [] := fun r hr e => by
    have := (hy.r _ (List.mem_map_of_mem hr)).1
    rw [e] at this; simp at this; omega
  have h30 := fun w' (hh : Below w.heap.size w w') => CourseG_ok ⟨no, nc, N, wk, co, cc, C⟩ w' (fun b => b < w.heap.size) (fun b hb => Nat.lt_of_lt_of_le hb hh.size) (hX.below hh) hC1 hN0 hr0
  dsimp only at h30
  obtain ⟨k, hk, htk⟩ : ∃ k : Nat, k < C.length ∧ pl.tmod (C.length : Int) = k := by
    have h1 := Int.tmod_nonneg (C.length : Int) ht.1
    have h2 := Int.tmod_lt_of_pos pl (show (0 : Int) < C.length by omega)
    exact ⟨(pl.tmod (C.length : Int)).toNat, by omega, by omega⟩
  have h4 := fun y => h4 k y hk
  have hDC : ∀ y : RwG (C.map Rw.xs), y.D.length = C.length := fun y => by have := congrArg List.length y.h; simpa using this
  refine VC.cutH env mixed 2 2 (fun y => (cS4 no nc N wk co cc C o c S pl w y k).t) (fun y => (cS4 no nc N wk co cc C o c S pl w y k).m) (fun y => (cS4 no nc N wk co cc C o c S pl w y k).h) (fun _ => True) (fun _ _ => ⟨rfl, rfl⟩) ?_ (fun y _ => h4 y)
  clear h4
  repeat'
   conv => whnf
   first
    | refine zA ?_ | refine zB ?_ | refine zC ?_ | refine zD ?_ | refine zE ?_ | refine zF ?_ | refine zG ?_ | refine zH ?_ | refine zJ ?_ | refine zI ?_ | refine splT ?_ | refine splF ?_ | refine splNot ?_
    | ((first | refine splIn (fun hc => ?_) (fun hc => ?_) | refine splD (fun hc => ?_) (fun hc => ?_) | refine splE (fun hc => ?_) (fun hc => ?_) | refine splNE (fun hc => ?_) (fun hc => ?_)) <;> first | (exfalso; omega) | (exfalso; dsimp only at hc; omega) | skip)
    | refine Exists.intro (α := Int) (k : Int) ⟨⟨by have := hDC y.2; omega, by rw [hDC]; exact htk⟩, ?_⟩
    | refine Exists.intro (α := Value) (iv pl) ⟨cv8 pl ht, ?_⟩
    | ((with_reducible show CallEv _ _ 30 _ _ _ _ _); refine callF [] (fun y : ((Nat × Nat) × RwG (C.map Rw.xs)) => .agg #[.slice (some ⟨y.1.1, 0, none⟩) N.length y.1.2, iv wk, .slice (some y.2.o) y.2.D.length y.2.c]) (fun y => crG (fun b => b < w.heap.size) N y) (fun β w' _ hbw => h30 w' hbw) ?_; intro y)
  all_goals first | (exfalso; omega) | exact ⟨rfl, y, trivial, Ent.weak rfl ⟨rfl, rfl, rfl, rfl, trivial⟩ ⟨rfl, rfl, trivial⟩ fun w2 h => h⟩
set_option maxHeartbeats 4000000 in
set_option maxRecDepth 100000 in
theorem Ca5 (no : Option Addr) (nc : Nat) (N : List Int) (wk : Int) (co : Option Addr) (cc : Nat) (C : List Rw) (o : Option Addr) (c : Nat) (S : List Sy) (pl : Int) (w : World) (y : ((Nat × Nat) × RwG (C.map Rw.xs))) (k : Nat) (hX : CrIn ⟨no, nc, N, wk, co, cc, C⟩ w) (hE : ckE N wk (C.map Rw.xs) (S.map Sy.d) = 0) (hk : k < C.length)
    (h5 : VC Tryz.prog (rest 1 (rest 2 (rest 2 body8))) (cS5 no nc N wk co cc C o c S pl w y k) (endΦ env Tryz.f8 fun s σ => (∀ β, s.c β = .bool true) ∧ ∀ w', σ.h w' → Below w.heap.size w w')) : VC Tryz.prog (rest 2 (rest 2 body8)) (cS4 no nc N wk co cc C o c S pl w y k) (endΦ env Tryz.f8 fun s σ => (∀ β, s.c β = .bool true) ∧ ∀ w', σ.h w' → Below w.heap.size w w') := by
  have hy := YrOk.of hE
  have hn6 := hy.n6
  have hcl : C.length ≤ 1000000 := hX.cl
  have hDC : y.2.D.length = C.length := by have := congrArg List.length y.2.h; simpa using this
  obtain ⟨r, hr⟩ : ∃ r, y.2.D[k]? = some r := ⟨_, List.getElem?_eq_getElem (by omega)⟩
  have hrow : (C.map Rw.xs)[k]? = some r.xs := by rw [← y.2.h, List.getElem?_map, hr]; rfl
  have hrl : r.xs.length = N.length := (hy.r _ (List.mem_of_getElem? hrow)).1
  have er : ∀ (C2 : List (List Int)) w2, hCw N w y C2 w2 → ∀ q z, [Value.slice (some r.ad) N.length r.c][q]? = some z → w2.cell? ((y.2.o.add ((k : Int).toNat * 1)).add q) = some z := fun C2 w2 h => by
    have := rd_ati h.2.2.1.1 (k := k) (b := r.rw) (by rw [List.getElem?_map, hr]; rfl)
    rw [show Rw.cs r.rw = [Value.slice (some r.ad) N.length r.c] from by show [Value.slice (some r.ad) r.xs.length r.c] = _; rw [hrl]] at this
    exact this
  refine VC.cutH env mixed 1 2 (fun _ : Unit => (cS5 no nc N wk co cc C o c S pl w y k).t) (fun _ => (cS5 no nc N wk co cc C o c S pl w y k).m) (fun _ => (cS5 no nc N wk co cc C o c S pl w y k).h) (fun _ => True) (fun _ _ => ⟨rfl, rfl⟩) ?_ (fun _ _ => h5)
  clear h5
  repeat'
   conv => whnf
   first
    | refine zA ?_ | refine zB ?_ | refine zC ?_ | refine zD ?_ | refine zE ?_ | refine zF ?_ | refine zG ?_ | refine zH ?_ | refine zJ ?_ | refine zI ?_ | refine splT ?_ | refine splF ?_ | refine splNot ?_
    | ((first | refine splIn (fun hc => ?_) (fun hc => ?_) | refine splD (fun hc => ?_) (fun hc => ?_) | refine splE (fun hc => ?_) (fun hc => ?_) | refine splNE (fun hc => ?_) (fun hc => ?_)) <;> first | (exfalso; omega) | (exfalso; dsimp only at hc; omega) | skip)
  all_goals first | (exfalso; omega) | skip
  refine loopH 2 (fun j : Nat => [(1, .v (.slice o S.length c)), (3, .ptr 0 0), (7, .ptr 1 0), (8, .v (iv k)), (9, .v (iv j))]) (fun _ => [(0, .cells [.v (.slice no N.length nc), .v (iv wk), .v (.slice co C.length cc)] 56), (1, .cells [.v (.slice (some ⟨y.1.1, 0, none⟩) N.length y.1.2), .v (iv wk), .v (.slice (some y.2.o) y.2.D.length y.2.c)] 63)]) (fun j w2 => hCw N w y (cJ (C.map Rw.xs) k j) w2) (fun j => j ≤ N.length) (fun j => N.length - j) 0 (Nat.zero_le _) ⟨rfl, rfl, rfl, rfl, rfl, trivial⟩ ⟨rfl, rfl, trivial⟩ (fun w2 h => ⟨h.1, h.2.1.1, by rw [cJ_zero]; exact RwG.In.at h.2.2⟩) (fun _ _ => ⟨rfl, rfl⟩) ?_
  intro j hj
  rcases Nat.lt_or_ge j N.length with hjl | hjl
  · have hjr : j < r.xs.length := by omega
    have hspt : ∀ q, ((⟨r.b, 0, none⟩ : Addr).add q).spot = none := fun q => by rw [own_add]
    have hax : (⟨r.b, 0, none⟩ : Addr).add ((j : Int).toNat * 1) = ⟨r.b, j, none⟩ := by rw [own_add, Int.toNat_natCast, Nat.mul_one, Nat.zero_add]
    have hset : ∀ w2, hCw N w y (cJ (C.map Rw.xs) k j) w2 → hCw N w y (cJ (C.map Rw.xs) k (j + 1)) (w2.setCell ((⟨r.b, 0, none⟩ : Addr).add ((j : Int).toNat * 1)) (iv 1000)) := fun w2 h => by
      rw [cJ_succ hrow hjr]
      exact hCw_set h hr (cJ_at hrow) (by rw [rJ_len (by omega)]; exact hjr) hax
    have hat : ∀ w2, hCw N w y (cJ (C.map Rw.xs) k j) w2 → _ := fun w2 h => At_at h.2.2 hr (cJ_at hrow) (by rw [rJ_len (by omega)]; exact hjr) hax
    repeat'
     conv => whnf
     first
      | refine zA ?_ | refine zB ?_ | refine zC ?_ | refine zD ?_ | refine zE ?_ | refine zF ?_ | refine zG ?_ | refine zH ?_ | refine zJ ?_ | refine zI ?_ | refine splT ?_ | refine splF ?_ | refine splNot ?_
      | ((first | refine splIn (fun hc => ?_) (fun hc => ?_) | refine splD (fun hc => ?_) (fun hc => ?_) | refine splE (fun hc => ?_) (fun hc => ?_) | refine splNE (fun hc => ?_) (fun hc => ?_)) <;> first | (exfalso; omega) | (exfalso; dsimp only at hc; omega) | skip)
      | refine Exists.intro (α := List Value) [.slice (some r.ad) N.length r.c] ⟨⟨rfl, fun w' hw' => er _ w' hw'⟩, ?_⟩
      | refine stF env rfl rfl rfl rfl rfl rfl (hspt _) (fun w2 => hCw N w y (cJ (C.map Rw.xs) k (j + 1)) w2) (fun w' hw' => hat w' hw') (fun w' hw' => hset w' hw') ?_
    all_goals first | (exfalso; omega) | exact ⟨j + 1, by omega, by omega, Ent.weak rfl ⟨rfl, rfl, rfl, rfl, rfl, trivial⟩ ⟨rfl, rfl, trivial⟩ fun _ h => h⟩
  · obtain rfl : j = N.length := by omega
    have hfull : cJ (C.map Rw.xs) k N.length = ((C.map Rw.xs).set k (List.replicate N.length 1000)) := by
      rw [cJ, hrow, Option.getD_some, ← hrl, rJ_full]
    repeat'
     conv => whnf
     first
      | refine zA ?_ | refine zB ?_ | refine zC ?_ | refine zD ?_ | refine zE ?_ | refine zF ?_ | refine zG ?_ | refine zH ?_ | refine zJ ?_ | refine zI ?_ | refine splT ?_ | refine splF ?_ | refine splNot ?_
      | ((first | refine splIn (fun hc => ?_) (fun hc => ?_) | refine splD (fun hc => ?_) (fun hc => ?_) | refine splE (fun hc => ?_) (fun hc => ?_) | refine splNE (fun hc => ?_) (fun hc => ?_)) <;> first | (exfalso; omega) | (exfalso; dsimp only at hc; omega) | skip)
    all_goals first | (exfalso; omega) | exact ⟨rfl, (), trivial, Ent.weak rfl ⟨rfl, rfl, rfl, rfl, trivial⟩ ⟨rfl, rfl, trivial⟩ fun w2 h => by show hCw N w y _ w2; rw [← hfull]; exact h⟩
end Go.Proofs.YtpleibfohjbneaaGreat
