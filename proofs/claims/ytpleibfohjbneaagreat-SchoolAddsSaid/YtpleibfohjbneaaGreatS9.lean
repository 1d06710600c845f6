/- SchoolAdds: what a child has where all hours count 1000; what is said of all lists. -/
import Derived.Test.YtpleibfohjbneaaGreatS8
namespace Go.Proofs.YtpleibfohjbneaaGreat
open Go Tx Go.RowKit
set_option linter.unusedSimpArgs false
set_option linter.unusedVariables false

theorem c7_8 : rest 1 (rest 1 (rest 6 body7)) = .seq (.region 15 (hdO (rest 8 body7)) true) (rest 9 body7) := by kernel_rfl
abbrev hS9 (n : Nat) (w : World) (A1 B1 A3 A4 B4 A6 : List Int) (u : (Addr × Nat) × (Addr × Nat)) (v : Addr × Nat) (x : (Addr × Nat) × (Addr × Nat)) (z : Addr × Nat) (w2 : World) : Prop := hS6 n w A1 B1 A3 A4 B4 u v x w2 ∧ Lq n A6 z w2
abbrev aS9 (no : Option Addr) (nc : Nat) (N : List Int) (wk : Int) (co : Option Addr) (cc : Nat) (C : List Rw) (o : Option Addr) (c : Nat) (S : List Sy) (tn : Int) (w : World) (u : (Addr × Nat) × (Addr × Nat)) (v : Addr × Nat) (x : (Addr × Nat) × (Addr × Nat)) (z : Addr × Nat) : Sg := ⟨248, [(1, .v (.slice o S.length c)), (3, .ptr 0 0), (8, .v (.slice (some u.1.1) N.length u.1.2)), (9, .v (.slice (some u.2.1) N.length u.2.2)), (10, .v (iv 0)), (11, .v (.slice (some v.1) N.length v.2)), (13, .v (iv 0)), (14, .v (.slice (some x.1.1) N.length x.1.2)), (15, .v (.slice (some x.2.1) N.length x.2.2)), (16, .v (iv 0)), (20, .v (.slice (some z.1) N.length z.2)), (22, .v (iv 0))], [(0, .cells [.v (.slice no N.length nc), .v (iv wk), .v (.slice co C.length cc)] 56)], 1, fun w2 => hS9 N.length w (aK (C.map Rw.xs) (S.map Sy.d) N.length) (bK N (C.map Rw.xs) (S.map Sy.d) N.length) (aK (C.map Rw.xs) (S.map Sy.d) N.length) (aK (C.map Rw.xs) ((S.map Sy.d).take (S.length - 1)) N.length) (bK N (C.map Rw.xs) ((S.map Sy.d).take (S.length - 1)) N.length) (aK (kCC (C.map Rw.xs)) (S.map Sy.d) N.length) u v x z w2, z0⟩
set_option maxHeartbeats 4000000 in
set_option maxRecDepth 100000 in
theorem Ad9 (no : Option Addr) (nc : Nat) (N : List Int) (wk : Int) (co : Option Addr) (cc : Nat) (C : List Rw) (o : Option Addr) (c : Nat) (S : List Sy) (tn : Int) (w : World) (u : (Addr × Nat) × (Addr × Nat)) (v : Addr × Nat) (x : (Addr × Nat) × (Addr × Nat)) (y : ((Nat × Nat) × RwG (C.map Rw.xs))) (hX : CrIn ⟨no, nc, N, wk, co, cc, C⟩ w) (hY : SyIn o c S w) (hE : ckE N wk (C.map Rw.xs) (S.map Sy.d) = 0)
    (h9 : ∀ z, VC Tryz.prog (rest 9 body7) (aS9 no nc N wk co cc C o c S tn w u v x z) (endΦ env Tryz.f7 fun s σ => (∀ β, s.c β = .bool true) ∧ ∀ w', σ.h w' → Below w.heap.size w w')) : VC Tryz.prog (rest 1 (rest 1 (rest 6 body7))) (aS8 no nc N wk co cc C o c S tn w u v x y) (endΦ env Tryz.f7 fun s σ => (∀ β, s.c β = .bool true) ∧ ∀ w', σ.h w' → Below w.heap.size w w') := by
  have hz := SzOk.of hX hY
  have hy := YrOk.of hE
  have hn6 := hy.n6
  have hEk := ckE_k hE
  have hzk : SzOk N (kCC (C.map Rw.xs)) (S.map Sy.d) := ⟨hz.n, by have := hz.c; simpa [kCC] using this, fun l hl => by
    obtain ⟨l0, h0, rfl⟩ := List.mem_map.1 hl
    rw [List.length_map]; exact hz.r l0 h0, hz.s, hz.t⟩
  have h31 := fun w' hb => Stays_ok o c S w' (hY.below hb)
  obtain ⟨⟨ya, yb⟩, oa, oc, D, hD⟩ := y
  have hC1 : (D.map fun r => (⟨some r.ad, r.c, r.xs.map fun _ => 1000⟩ : Rw)).map Rw.xs = (kCC (C.map Rw.xs)) := by
    rw [List.map_map, kCC, ← hD, List.map_map]; rfl
  have h29 := fun (z : SyF (S.map Sy.d)) (w2 : World) (h : hS6 N.length w (aK (C.map Rw.xs) (S.map Sy.d) N.length) (bK N (C.map Rw.xs) (S.map Sy.d) N.length) (aK (C.map Rw.xs) (S.map Sy.d) N.length) (aK (C.map Rw.xs) ((S.map Sy.d).take (S.length - 1)) N.length) (bK N (C.map Rw.xs) ((S.map Sy.d).take (S.length - 1)) N.length) u v x w2 ∧ Ro.In ⟨ya, yb, N⟩ w2 ∧ (⟨oa, oc, D, hD⟩ : RwG (C.map Rw.xs)).At (fun b => avS w u v x b ∨ b = ya) (kCC (C.map Rw.xs)) w2) (h' : z.In w2) => Has_at (wk := wk) hzk hEk hn6.1 ((some ⟨ya, 0, none⟩, yb), ⟨some oa, oc, D.map fun r => (⟨some r.ad, r.c, r.xs.map fun _ => 1000⟩ : Rw), hC1⟩) z w2 ⟨own_now rfl h.2.1, by
      have h3 := h.2.2.1.1
      have e : (D.map fun r => (⟨some r.ad, r.c, r.xs.map fun _ => 1000⟩ : Rw)).map Rw.v = (D.map Ro.rw).map Rw.v := by
        rw [List.map_map, List.map_map]
        refine List.map_congr_left fun r _ => ?_
        show Value.slice _ (r.xs.map _).length _ = _
        rw [List.length_map]; rfl
      rcases h3 with ⟨h4, _⟩ | ⟨ad, c', h4, h5⟩
      · cases h4
      · refine .inr ⟨ad, c', by simp only [List.length_map] at h4 ⊢; exact h4, fun k b hb j v hv => ?_⟩
        have e1 : ((D.map Ro.rw).map Rw.v)[k]? = some b.v := by rw [← e, List.getElem?_map, hb]; rfl
        rw [List.getElem?_map] at e1
        cases hb2 : (D.map Ro.rw)[k]? with
        | none => rw [hb2] at e1; cases e1
        | some b2 =>
          rw [hb2] at e1
          simp only [Option.map_some, Option.some.injEq] at e1
          exact h5 k b2 hb2 j v (by show [b2.v][j]? = _; rw [e1]; exact hv), fun r hr => by
      obtain ⟨r0, hr0, rfl⟩ := List.mem_map.1 hr
      obtain ⟨p, hp⟩ := List.mem_iff_getElem?.1 hr0
      have hk : (kCC (C.map Rw.xs))[p]? = some (r0.xs.map fun _ => 1000) := by rw [← hC1, List.getElem?_map, List.getElem?_map, hp]; rfl
      exact Ro.rd (h.2.2.1.2 p r0 _ hp hk).2⟩ h'
  simp only [List.length_map] at h29
  rw [c7_8]
  refine VC.seq (f := fun σ' => ∃ z, Ent σ' (aS9 no nc N wk co cc C o c S tn w u v x z)) ?_ (fun σ' ⟨z, hz⟩ => VC.ent (h9 z) hz (okB rfl rfl rfl))
  clear h9
  apply VC_reg2 env mixed 2 3 (fun y : SyF (S.map Sy.d) => .slice y.o y.S.length y.c) (fun y => y.In) (hyV N.length) (hyH N (kCC (C.map Rw.xs)) (S.map Sy.d)) ⟨none, 0, S, rfl⟩ ((oa, 0), (oa, 0))
  case h12 => decide
  case h3 => exact Nat.le_of_ble_eq_true (by kernel_rfl)
  case hd12 => kernel_rfl
  case hv =>
    intro y1 y2
    repeat'
     conv => whnf
     first
      | refine zA ?_ | refine zB ?_ | refine zC ?_ | refine zD ?_ | refine zE ?_ | refine zF ?_ | refine zG ?_ | refine zH ?_ | refine zJ ?_ | refine zI ?_ | refine splT ?_ | refine splF ?_ | refine splNot ?_
      | ((first | refine splIn (fun hc => ?_) (fun hc => ?_) | refine splD (fun hc => ?_) (fun hc => ?_) | refine splE (fun hc => ?_) (fun hc => ?_) | refine splNE (fun hc => ?_) (fun hc => ?_)) <;> first | (exfalso; omega) | (exfalso; dsimp only at hc; omega) | skip)
      | refine And.intro (a := (_ : Bool) = true ∧ (_ : List _) = [] ∧ (_ : List _) = []) ⟨rfl, rfl, rfl⟩ ?_
      | (with_reducible show FamEv _ _ _ 31 _ _ _); refine FamEv.mk [] (fun β w' _ hbw => h31 w' hbw.1.1.1.1) ?_
      | (with_reducible show FamEv _ _ _ 29 _ _ _); refine FamEv.mk [] (fun β w' _ hbw => h29 y1 w' hbw.1 hbw.2) ?_
    exact ⟨rfl, y2.1, Ent.weak rfl ⟨rfl, rfl, rfl, rfl, rfl, rfl, rfl, rfl, rfl, rfl, rfl, rfl, trivial⟩ ⟨rfl, trivial⟩ fun w2 h => ⟨h.1.1.1, h.2.1⟩⟩
  case hk1 => intros; rfl
  case hk2 => intros; rfl
  case hi1 => exact fun _ _ _ => ⟨Or.inr rfl, Or.inr rfl, Or.inl (by kernel_rfl), Or.inl (by kernel_rfl), Or.inl (by kernel_rfl), Or.inl (by kernel_rfl), Or.inl (by kernel_rfl), Or.inl (by kernel_rfl), Or.inl (by kernel_rfl), Or.inl (by kernel_rfl), Or.inl (by kernel_rfl), trivial⟩
  case hi2 => exact fun _ _ _ => ⟨Or.inr rfl, Or.inr rfl, Or.inr rfl, Or.inl (by kernel_rfl), Or.inl (by kernel_rfl), Or.inl (by kernel_rfl), Or.inl (by kernel_rfl), Or.inl (by kernel_rfl), Or.inl (by kernel_rfl), Or.inl (by kernel_rfl), Or.inl (by kernel_rfl), trivial⟩
set_option maxHeartbeats 4000000 in
set_option maxRecDepth 100000 in
theorem Ad10 (no : Option Addr) (nc : Nat) (N : List Int) (wk : Int) (co : Option Addr) (cc : Nat) (C : List Rw) (o : Option Addr) (c : Nat) (S : List Sy) (tn : Int) (w : World) (u : (Addr × Nat) × (Addr × Nat)) (v : Addr × Nat) (x : (Addr × Nat) × (Addr × Nat)) (z : Addr × Nat) (hX : CrIn ⟨no, nc, N, wk, co, cc, C⟩ w) (hY : SyIn o c S w) (hE : ckE N wk (C.map Rw.xs) (S.map Sy.d) = 0) (h0 : 1 ≤ S.length) : VC Tryz.prog (rest 9 body7) (aS9 no nc N wk co cc C o c S tn w u v x z) (endΦ env Tryz.f7 fun s σ => (∀ β, s.c β = .bool true) ∧ ∀ w', σ.h w' → Below w.heap.size w w') := by
  have hy := YrOk.of hE
  have hn6 := hy.n6
  have hs60 : S.length ≤ 60 := by have h1 := hy.sl; have h2 := hy.w; rw [List.length_map] at h1; omega
  have hN := hX.n
  dsimp only at hN
  obtain ⟨hY1, hY2, _, _⟩ := hY
  obtain ⟨_, la, rfl, _⟩ := hY1.ptr h0
  obtain ⟨_, na, rfl, _⟩ := hN.ptr hn6.1
  obtain ⟨⟨u1, u2⟩, u3, u4⟩ := u
  obtain ⟨v1, v2⟩ := v
  obtain ⟨⟨x1, x2⟩, x3, x4⟩ := x
  obtain ⟨z1, z2⟩ := z
  have hlA : (aK (C.map Rw.xs) (S.map Sy.d) N.length).length = N.length := rmap_len ..
  have h32 := fun w' (h : hS9 N.length w (aK (C.map Rw.xs) (S.map Sy.d) N.length) (bK N (C.map Rw.xs) (S.map Sy.d) N.length) (aK (C.map Rw.xs) (S.map Sy.d) N.length) (aK (C.map Rw.xs) ((S.map Sy.d).take (S.length - 1)) N.length) (bK N (C.map Rw.xs) ((S.map Sy.d).take (S.length - 1)) N.length) (aK (kCC (C.map Rw.xs)) (S.map Sy.d) N.length) ((u1, u2), u3, u4) (v1, v2) ((x1, x2), x3, x4) (z1, z2) w') => ints_same (aK (C.map Rw.xs) (S.map Sy.d) N.length) (some u1) (some v1) N.length N.length u2 v2 w' hlA.symm hlA.symm h.1.1.1.2.1 h.1.1.2 (by omega)
  have hat : ∀ j, j < N.length → ∃ a b a4 b4 a6 n : Int, (aK (C.map Rw.xs) (S.map Sy.d) N.length)[j]? = some a ∧ (bK N (C.map Rw.xs) (S.map Sy.d) N.length)[j]? = some b ∧ (aK (C.map Rw.xs) ((S.map Sy.d).take (S.length - 1)) N.length)[j]? = some a4 ∧ (bK N (C.map Rw.xs) ((S.map Sy.d).take (S.length - 1)) N.length)[j]? = some b4 ∧ (aK (kCC (C.map Rw.xs)) (S.map Sy.d) N.length)[j]? = some a6 ∧ N[j]? = some n ∧
      a6 = suH (S.map Sy.d) j ∧ a4 ≤ a ∧ b ≤ b4 ∧ b = imax 0 (n - a) ∧ (0 ≤ n ∧ n ≤ 2000) ∧ 0 ≤ a ∧ a ≤ 80000 := fun j hj => by
    have g : ∀ f : Nat → Int, ((List.range N.length).map f)[j]? = some (f j) := fun f => by rw [List.getElem?_map, List.getElem?_range hj]; rfl
    obtain ⟨n, hn⟩ : ∃ n, N[j]? = some n := ⟨_, List.getElem?_eq_getElem hj⟩
    refine ⟨_, _, _, _, _, n, g _, g _, g _, g _, g _, hn, hsV_k hy hj, hsV_less hy, lfV_less hy, ?_, hy.nb n (List.mem_of_getElem? hn), ?_⟩
    · unfold lfV; rw [gt_some hn]
    · have := hy.bd j (S.map Sy.d).length
      rw [List.take_length] at this
      have h60 := hy.sl
      have hw := hy.w
      unfold hsV
      rw [Int.tdiv_eq_ediv_of_nonneg this.1]
      omega
  unfold aS9
  dsimp only
  generalize aK (C.map Rw.xs) (S.map Sy.d) N.length = LA at *
  generalize bK N (C.map Rw.xs) (S.map Sy.d) N.length = LB at *
  generalize aK (C.map Rw.xs) ((S.map Sy.d).take (S.length - 1)) N.length = LD at *
  generalize bK N (C.map Rw.xs) ((S.map Sy.d).take (S.length - 1)) N.length = LE at *
  generalize aK (kCC (C.map Rw.xs)) (S.map Sy.d) N.length = LG at *
  refine VC.of env mixed ?_
  repeat'
   conv => whnf
   first
    | refine zA ?_ | refine zB ?_ | refine zC ?_ | refine zD ?_ | refine zE ?_ | refine zF ?_ | refine zG ?_ | refine zH ?_ | refine zJ ?_ | refine zI ?_ | refine splT ?_ | refine splF ?_ | refine splNot ?_
    | ((first | refine splIn (fun hc => ?_) (fun hc => ?_) | refine splD (fun hc => ?_) (fun hc => ?_) | refine splE (fun hc => ?_) (fun hc => ?_) | refine splNE (fun hc => ?_) (fun hc => ?_)) <;> first | (exfalso; omega) | (exfalso; dsimp only at hc; omega) | skip)
    | ((with_reducible show CallEv _ _ 32 _ _ _ _ _); refine callE (k := 32) (fun β w' hbw => h32 w' hbw) ?_)
    | ((with_reducible show CallEv _ _ 16 _ _ _ _ _); refine callE (k := 16) (fun β w' hbw => awake_calls w') ?_)
  all_goals first | (exfalso; omega) | skip
  refine loopH 1 (fun j : Nat => [(1, .v (.slice (some la) S.length c)), (3, .ptr 0 0), (8, .v (.slice (some u1) N.length u2)), (9, .v (.slice (some u3) N.length u4)), (14, .v (.slice (some x1) N.length x2)), (15, .v (.slice (some x3) N.length x4)), (20, .v (.slice (some z1) N.length z2)), (23, .v (iv j))]) (fun _ => [(0, .cells [.v (.slice (some na) N.length nc), .v (iv wk), .v (.slice co C.length cc)] 56)]) (fun _ w2 => hS9 N.length w LA LB LA LD LE LG ((u1, u2), u3, u4) (v1, v2) ((x1, x2), x3, x4) (z1, z2) w2) (fun j => j ≤ N.length) (fun j => N.length - j) 0 (Nat.zero_le _) ⟨rfl, rfl, rfl, rfl, rfl, rfl, rfl, rfl, trivial⟩ ⟨rfl, trivial⟩ (fun w2 h => h) (fun _ _ => ⟨rfl, rfl⟩) ?_
  intro j hj
  rcases Nat.lt_or_ge j N.length with hjl | hjl
  · obtain ⟨a, b, a4, b4, a6, n, ga, gb, g4, g5, g6, gn, e1, e2, e3, e4, e5, e6⟩ := hat j hjl
    repeat'
     conv => whnf
     first
      | refine zA ?_ | refine zB ?_ | refine zC ?_ | refine zD ?_ | refine zE ?_ | refine zF ?_ | refine zG ?_ | refine zH ?_ | refine zJ ?_ | refine zI ?_ | refine splT ?_ | refine splF ?_ | refine splNot ?_
      | ((first | refine splIn (fun hc => ?_) (fun hc => ?_) | refine splD (fun hc => ?_) (fun hc => ?_) | refine splE (fun hc => ?_) (fun hc => ?_) | refine splNE (fun hc => ?_) (fun hc => ?_)) <;> first | (exfalso; omega) | (exfalso; dsimp only at hc; omega) | skip)
    all_goals first | (exfalso; omega) | skip
    refine loopH 1 (fun i : Nat => [(1, .v (.slice (some la) S.length c)), (3, .ptr 0 0), (8, .v (.slice (some u1) N.length u2)), (9, .v (.slice (some u3) N.length u4)), (14, .v (.slice (some x1) N.length x2)), (15, .v (.slice (some x3) N.length x4)), (20, .v (.slice (some z1) N.length z2)), (23, .v (iv j)), (24, .v (iv (suH ((S.map Sy.d).take i) j))), (25, .v (iv i))]) (fun _ => [(0, .cells [.v (.slice (some na) N.length nc), .v (iv wk), .v (.slice co C.length cc)] 56)]) (fun _ w2 => hS9 N.length w LA LB LA LD LE LG ((u1, u2), u3, u4) (v1, v2) ((x1, x2), x3, x4) (z1, z2) w2) (fun i => i ≤ S.length) (fun i => S.length - i) 0 (Nat.zero_le _) ⟨rfl, rfl, rfl, rfl, rfl, rfl, rfl, rfl, rfl, rfl, trivial⟩ ⟨rfl, trivial⟩ (fun w2 h => h) (fun _ _ => ⟨rfl, rfl⟩) ?_
    intro i hi
    rcases Nat.lt_or_ge i S.length with hil | hil
    · obtain ⟨⟨sp, so, sc, xs⟩, hx⟩ : ∃ s, S[i]? = some s := ⟨_, List.getElem?_eq_getElem hil⟩
      have hm : (S.map Sy.d)[i]? = some (sp, xs) := by rw [List.getElem?_map, hx]; rfl
      have hsu := suH_take (j := j) hm
      have hb := hy.su j i
      have h40 := hy.g40 j (List.mem_of_getElem? hm)
      have hxl : xs.length = N.length := (hy.s _ (List.mem_of_getElem? hm)).2.1
      have hr := hY2 _ (List.mem_of_getElem? hx)
      dsimp only at hr h40 hsu
      obtain ⟨g, hg⟩ : ∃ g, xs[j]? = some g := ⟨_, List.getElem?_eq_getElem (by omega)⟩
      rw [gt_some hg] at hsu h40
      obtain ⟨_, ra, rfl, _⟩ := hr.ptr (by omega)
      have k1 := fun (w' : World) hw' => rd_fld (hY1.below (w' := w') hw') hx 1 (.slice (some ra) xs.length sc) rfl
      have k2 := fun (w' : World) hw' => rd_ati (hr.below (w' := w') hw') hg
      generalize suH ((S.map Sy.d).take i) j = s0 at *
      repeat'
       conv => whnf
       first
        | refine zA ?_ | refine zB ?_ | refine zC ?_ | refine zD ?_ | refine zE ?_ | refine zF ?_ | refine zG ?_ | refine zH ?_ | refine zJ ?_ | refine zI ?_ | refine splT ?_ | refine splF ?_ | refine splNot ?_
        | ((first | refine splIn (fun hc => ?_) (fun hc => ?_) | refine splD (fun hc => ?_) (fun hc => ?_) | refine splE (fun hc => ?_) (fun hc => ?_) | refine splNE (fun hc => ?_) (fun hc => ?_)) <;> first | (exfalso; omega) | (exfalso; dsimp only at hc; omega) | skip)
        | refine Exists.intro (α := List Value) [.slice (some ra) xs.length sc] ⟨⟨rfl, fun w' hw' => k1 w' hw'.1.1.1.1⟩, ?_⟩
        | refine Exists.intro (α := List Value) [iv g] ⟨⟨rfl, fun w' hw' => k2 w' hw'.1.1.1.1⟩, ?_⟩
      all_goals first | (exfalso; omega) | exact ⟨i + 1, by omega, by omega, Ent.weak rfl ⟨rfl, rfl, rfl, rfl, rfl, rfl, rfl, rfl, by rw [hsu]; rfl, rfl, trivial⟩ ⟨rfl, trivial⟩ fun _ h => h⟩
    · obtain rfl : i = S.length := by omega
      have hta : (S.map Sy.d).take S.length = (S.map Sy.d) := List.take_of_length_le (Nat.le_of_eq (List.length_map ..))
      rw [hta]
      have hn : ∀ w2, Below w.heap.size w w2 → ∀ q v, [iv n][q]? = some v → w2.cell? ((na.add ((j : Int).toNat * 1)).add q) = some v := fun w2 hb => rd_ati (hN.below hb) gn
      rw [← e1]
      repeat'
       conv => whnf
       first
        | refine zA ?_ | refine zB ?_ | refine zC ?_ | refine zD ?_ | refine zE ?_ | refine zF ?_ | refine zG ?_ | refine zH ?_ | refine zJ ?_ | refine zI ?_ | refine splT ?_ | refine splF ?_ | refine splNot ?_
        | ((first | refine splIn (fun hc => ?_) (fun hc => ?_) | refine splD (fun hc => ?_) (fun hc => ?_) | refine splE (fun hc => ?_) (fun hc => ?_) | refine splNE (fun hc => ?_) (fun hc => ?_)) <;> first | (exfalso; omega) | (exfalso; dsimp only at hc; omega) | skip)
        | refine Exists.intro (α := List Value) [iv a6] ⟨⟨rfl, fun w' hw' => rd_ati hw'.2 g6⟩, ?_⟩
        | refine Exists.intro (α := List Value) [iv a4] ⟨⟨rfl, fun w' hw' => rd_ati hw'.1.2.1 g4⟩, ?_⟩
        | refine Exists.intro (α := List Value) [iv a] ⟨⟨rfl, fun w' hw' => rd_ati hw'.1.1.1.2.1 ga⟩, ?_⟩
        | refine Exists.intro (α := List Value) [iv b] ⟨⟨rfl, fun w' hw' => rd_ati hw'.1.1.1.2.2 gb⟩, ?_⟩
        | refine Exists.intro (α := List Value) [iv b4] ⟨⟨rfl, fun w' hw' => rd_ati hw'.1.2.2 g5⟩, ?_⟩
        | refine Exists.intro (α := List Value) [iv n] ⟨⟨rfl, fun w' hw' => hn w' hw'.1.1.1.1⟩, ?_⟩
      all_goals first | (exfalso; omega) | exact ⟨j + 1, by omega, by omega, Ent.weak rfl ⟨rfl, rfl, rfl, rfl, rfl, rfl, rfl, rfl, trivial⟩ ⟨rfl, trivial⟩ fun _ h => h⟩ | (exfalso; simp only [imax_eq] at *; omega)
  · skip
    repeat'
     conv => whnf
     first
      | refine zA ?_ | refine zB ?_ | refine zC ?_ | refine zD ?_ | refine zE ?_ | refine zF ?_ | refine zG ?_ | refine zH ?_ | refine zJ ?_ | refine zI ?_ | refine splT ?_ | refine splF ?_ | refine splNot ?_
      | ((first | refine splIn (fun hc => ?_) (fun hc => ?_) | refine splD (fun hc => ?_) (fun hc => ?_) | refine splE (fun hc => ?_) (fun hc => ?_) | refine splNE (fun hc => ?_) (fun hc => ?_)) <;> first | (exfalso; omega) | (exfalso; dsimp only at hc; omega) | skip)
      | ((with_reducible show CallEv _ _ 16 _ _ _ _ _); refine callE (k := 16) (fun β w' hbw => awake_calls w') ?_)
    all_goals first | (exfalso; omega) | exact ⟨fun β => rfl, fun w' h => h.1.1.1.1⟩
end Go.Proofs.YtpleibfohjbneaaGreat
