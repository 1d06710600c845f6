/- SchoolCatches: the weeks that are left. -/
import Derived.Test.YtpleibfohjbneaaGreatT5
namespace Go.Proofs.YtpleibfohjbneaaGreat
open Go Tx Go.RowKit
set_option linter.unusedSimpArgs false
set_option linter.unusedVariables false

def hdD : Code → Code | .seq a _ => a | c => c
def tlD : Code → Code | .seq _ b => b | c => c
def inD : Code → Code | .block _ c => c | .loop c => c | c => c
noncomputable def c7x : Code := rest 7 body8
noncomputable def c7b : Code := inD (inD (hdD c7x))
noncomputable def c7i : Code := inD (tlD c7b)
theorem c7_eq : c7x = .seq (.block 2 (.loop (.seq (hdD c7b) (.block 3 (.seq (.region 12 (hdO c7i) true) (tlD c7i)))))) (tlD c7x) := by kernel_rfl
theorem c7_x : rest 2 (rest 1 (rest 2 (rest 2 body8))) = c7x := by kernel_rfl
theorem EntA {σ σ' : Sg} {X : Cx} {a : Act} {w : World} (h : Sat X σ a w) (e : Ent σ σ') : Sat X σ' a w := e X a w h
abbrev cS7 (no : Option Addr) (nc : Nat) (N : List Int) (wk : Int) (co : Option Addr) (cc : Nat) (C : List Rw) (o : Option Addr) (c : Nat) (S : List Sy) (pl : Int) (w : World) (y : ((Nat × Nat) × RwG (C.map Rw.xs))) (k : Nat) (D : List Sy) (M : List Int) : Sg := ⟨151, [(1, .v (.slice o S.length c)), (3, .ptr 0 0), (7, .ptr 1 0), (8, .v (iv k)), (10, oSV 2 3 D), (11, .os 4 5 N.length)], (0, .cells [.v (.slice no N.length nc), .v (iv wk), .v (.slice co C.length cc)] 56) :: (1, .cells [.v (.slice (some ⟨y.1.1, 0, none⟩) N.length y.1.2), .v (iv wk), .v (.slice (some y.2.o) y.2.D.length y.2.c)] 63) :: (4, .own 5 N.length 1 (M.flatMap iF) 3) :: oM 2 3 2 Sy.cs 73 D, 6, fun w2 => hCw N w y ((C.map Rw.xs).set k (List.replicate N.length 1000)) w2 ∧ ∀ s ∈ D, Rd 1 iF (.slice s.o s.xs.length s.c) s.xs w2, z0⟩
theorem cS7_ok (no : Option Addr) (nc : Nat) (N : List Int) (wk : Int) (co : Option Addr) (cc : Nat) (C : List Rw) (o : Option Addr) (c : Nat) (S : List Sy) (pl : Int) (w : World) (y : ((Nat × Nat) × RwG (C.map Rw.xs))) (k : Nat) (D : List Sy) (M : List Int) : (cS7 no nc N wk co cc C o c S pl w y k D M).Ok := by cases D <;> exact okB rfl rfl rfl
/-- What is so of the stays, and of the greatest number of lessons. -/
structure CaP (N : List Int) (wk : Int) (C2 : List (List Int)) (n0 : Nat) (D : List Sy) (M : List Int) : Prop where
  l : n0 ≤ D.length
  e : ckE N wk C2 (D.map Sy.d) = 0
  m : M.length = N.length
  b : ∀ n ∈ M, 0 ≤ n ∧ n ≤ 20
  h : (n0 : Int) < wk → (D.length : Int) = wk → ∀ j, j < N.length → ∀ m, M[j]? = some m → m < 20 → lfV N C2 (D.map Sy.d) j = 0
/-- Two lists, the greater one of each pair up to a place. -/
def hz (M X : List Int) (j : Nat) : List Int := (List.zipWith imax M X).take j ++ M.drop j
theorem hz_zero (M X : List Int) : hz M X 0 = M := by simp [hz]
theorem hz_full {M X : List Int} (h : X.length = M.length) : hz M X M.length = List.zipWith imax M X := by rw [hz, List.drop_length, List.append_nil, List.take_of_length_le (by simp [List.length_zipWith]; omega)]
theorem hz_len {M X : List Int} {j : Nat} (h : X.length = M.length) (hj : j ≤ M.length) : (hz M X j).length = M.length := by simp [hz, List.length_zipWith]; omega
theorem hz_at {M X : List Int} {j : Nat} {m : Int} (h : X.length = M.length) (hm : M[j]? = some m) : (hz M X j)[j]? = some m := by
  have hj := (List.getElem?_eq_some_iff.1 hm).1
  have hl : ((List.zipWith imax M X).take j).length = j := by simp [List.length_zipWith]; omega
  rw [hz, List.getElem?_append_right (by omega), hl, Nat.sub_self, List.getElem?_drop, Nat.add_zero, hm]
theorem hz_set {M X : List Int} {j : Nat} {m x : Int} (h : X.length = M.length) (hm : M[j]? = some m) (hx : X[j]? = some x) : (hz M X j).set j (imax m x) = hz M X (j + 1) := by
  have hj := (List.getElem?_eq_some_iff.1 hm).1
  have hl : ((List.zipWith imax M X).take j).length = j := by simp [List.length_zipWith]; omega
  rw [hz, List.set_append, if_neg (by omega), hl, Nat.sub_self, List.drop_eq_getElem_cons hj, List.set_cons_zero, hz, List.take_add_one, List.getElem?_zipWith, hm, hx, List.append_assoc]
  rfl
theorem CaP.step {N : List Int} {wk : Int} {C2 : List (List Int)} {n0 k : Nat} {D : List Sy} {M : List Int} (h : CaP N wk C2 n0 D M) (hrow : C2[k]? = some (List.replicate N.length 1000)) (hl : (D.length : Int) < wk) (o : Option Addr) (c : Nat) :
    CaP N wk C2 n0 (D ++ [(⟨k, o, c, (List.range N.length).map (nxV N wk C2 (D.map Sy.d))⟩ : Sy)]) (List.zipWith imax M ((List.range N.length).map (nxV N wk C2 (D.map Sy.d)))) := by
  have hdl : (D.map Sy.d).length = D.length := List.length_map ..
  have hmap : (D ++ [(⟨k, o, c, (List.range N.length).map (nxV N wk C2 (D.map Sy.d))⟩ : Sy)]).map Sy.d = D.map Sy.d ++ [((k : Int), (List.range N.length).map (nxV N wk C2 (D.map Sy.d)))] := by rw [List.map_append]; rfl
  have hXl : ((List.range N.length).map (nxV N wk C2 (D.map Sy.d))).length = M.length := by rw [h.m]; simp
  have hat : ∀ j v, (List.zipWith imax M ((List.range N.length).map (nxV N wk C2 (D.map Sy.d))))[j]? = some v → ∃ m, M[j]? = some m ∧ v = imax m (nxV N wk C2 (D.map Sy.d) j) ∧ j < N.length := fun j v hv => by
    rw [List.getElem?_zipWith] at hv
    cases hm : M[j]? with
    | none => rw [hm] at hv; cases hv
    | some m =>
      have hj : j < N.length := by have := (List.getElem?_eq_some_iff.1 hm).1; rw [h.m] at this; exact this
      rw [hm, List.getElem?_map, List.getElem?_range hj] at hv
      simp only [Option.map_some, Option.some.injEq] at hv
      exact ⟨m, rfl, hv.symm, hj⟩
  refine ⟨by have := h.l; simp; omega, by rw [hmap]; exact nx_next h.e (List.getElem?_eq_some_iff.1 hrow).1 (by omega), by simp [h.m], fun n hn => ?_, fun h0 h1 j hj m hm hlt => ?_⟩
  · obtain ⟨j, hj⟩ := List.mem_iff_getElem?.1 hn
    obtain ⟨m, hm, rfl, hjn⟩ := hat j n hj
    have h1 := h.b m (List.mem_of_getElem? hm)
    have h2 := nx_bd (N := N) (CC := C2) (SS := D.map Sy.d) (j := j) (by omega : ((D.map Sy.d).length : Int) < wk)
    rw [imax_eq]
    omega
  · rw [hmap]
    obtain ⟨m0, hm0, rfl, _⟩ := hat j m hm
    have hl1 : (D.length : Int) + 1 = wk := by simp at h1; omega
    exact catch_last h.e hrow (by omega) hj (by rw [imax_eq] at hlt; omega)
theorem Next_atA {N : List Int} {wk : Int} {CC : List (List Int)} {SS : List (Int × List Int)} (hz : SzOk N CC SS) (h0 : nxE N wk CC SS = 0) (h1 : 1 ≤ N.length) (y : (Option Addr × Nat) × Rws CC) (z : SyF SS) (w : World) (h : crH N y w) (h' : z.In w) :
    Calls Tryz.prog 33 #[.agg #[.slice y.1.1 N.length y.1.2, iv wk, .slice y.2.o y.2.C.length y.2.c], .slice z.o z.S.length z.c] w fun e w' => ∃ u : Addr × Nat, e = .returned (.tuple #[.slice (some u.1) N.length u.2, iv 0]) ∧ Below w.heap.size w w' ∧
    St w.heap.size (Lq N.length ((List.range N.length).map (nxV N wk CC SS)) u) w' := by
  obtain ⟨⟨n1, n2⟩, c1, c2, C1, hC⟩ := y
  obtain ⟨s1, s2, S1, hS⟩ := z
  have hn := Next_nr (wk := wk) hz n1 n2 c1 c2 C1 hC s1 s2 S1 hS w h h'
  have hl : ((List.range N.length).map (nxV N wk CC SS)).length = N.length := by simp
  rw [h0, show nxtL N wk CC SS = (List.range N.length).map (nxV N wk CC SS) from by unfold nxtL; rw [if_pos h0], hl] at hn
  refine hn.mono fun e w' ⟨⟨u1, u2⟩, e1, e2, e3⟩ => ?_
  have h2 := e3 w' (Keep.refl _ _)
  have h2 : Rd 1 iF (.slice u1 ((List.range N.length).map (nxV N wk CC SS)).length u2) ((List.range N.length).map (nxV N wk CC SS)) w' := by rw [hl]; exact h2
  obtain ⟨_, a1, rfl, _⟩ := h2.ptr (by omega)
  exact ⟨(a1, u2), e1, e2, e3⟩
/-- The course, read. -/
theorem hCw_rd {CC C2 : List (List Int)} {N : List Int} {w w2 : World} {y : (Nat × Nat) × RwG CC} (h : hCw N w y C2 w2) (hl : C2.length = CC.length) : ∃ z : (Option Addr × Nat) × Rws C2, crH N z w2 ∧ z.1.1 = some ⟨y.1.1, 0, none⟩ ∧ z.1.2 = y.1.2 ∧ z.2.o = some y.2.o ∧ z.2.C.length = y.2.D.length ∧ z.2.c = y.2.c := by
  obtain ⟨C1, hC1, h1, _, h2⟩ := At_rws h.2.2 hl
  exact ⟨((some ⟨y.1.1, 0, none⟩, y.1.2), ⟨some y.2.o, y.2.c, C1, hC1⟩), ⟨own_now rfl h.2.1, h2⟩, rfl, rfl, rfl, h1, rfl⟩
set_option maxHeartbeats 4000000 in
set_option maxRecDepth 100000 in
theorem Ca6 (no : Option Addr) (nc : Nat) (N : List Int) (wk : Int) (co : Option Addr) (cc : Nat) (C : List Rw) (o : Option Addr) (c : Nat) (S : List Sy) (pl : Int) (w : World) (y : ((Nat × Nat) × RwG (C.map Rw.xs))) (k : Nat) (hX : CrIn ⟨no, nc, N, wk, co, cc, C⟩ w) (hY : SyIn o c S w) (hE : ckE N wk (C.map Rw.xs) (S.map Sy.d) = 0) (hk : k < C.length)
    (h7 : ∀ D M, CaP N wk ((C.map Rw.xs).set k (List.replicate N.length 1000)) S.length D M → VC Tryz.prog c7x (cS7 no nc N wk co cc C o c S pl w y k D M) (endΦ env Tryz.f8 fun s σ => (∀ β, s.c β = .bool true) ∧ ∀ w', σ.h w' → Below w.heap.size w w')) : VC Tryz.prog (rest 1 (rest 2 (rest 2 body8))) (cS5 no nc N wk co cc C o c S pl w y k) (endΦ env Tryz.f8 fun s σ => (∀ β, s.c β = .bool true) ∧ ∀ w', σ.h w' → Below w.heap.size w w') := by
  have hy := YrOk.of hE
  have hn6 := hy.n6
  have hsl := hY.sl
  have hcr := crOk_set (k := k) (ckE_cr hE).1
  have hE2 : ckE N wk ((C.map Rw.xs).set k (List.replicate N.length 1000)) (S.map Sy.d) = 0 := ckE_of hcr (by rw [List.length_set]; exact (ckE_cr hE).2)
  have h7 := fun D M => h7 D M
  rw [← c7_x] at h7
  have hrep : (List.replicate N.length (0 : Int)).length = N.length := List.length_replicate ..
  cases S with
  | nil =>
    have h31 : ∀ w', Below w.heap.size w w' → Calls Tryz.prog 31 #[.slice o 0 c] w' fun e w2 => e = .returned (.slice none 0 0) ∧ Below w'.heap.size w' w2 := fun w' _ => by
      refine calls_val env mixed Tryz.func31 has31 Tryz.ntmps31 [.slice o 0 c] (by simp) ?_
      repeat'
       conv => whnf
       first
        | refine zA ?_ | refine zB ?_ | refine zC ?_ | refine zD ?_ | refine zE ?_ | refine zF ?_ | refine zG ?_ | refine zH ?_ | refine zJ ?_ | refine zI ?_ | refine splT ?_ | refine splF ?_ | refine splNot ?_
        | ((first | refine splIn (fun hc => ?_) (fun hc => ?_) | refine splD (fun hc => ?_) (fun hc => ?_) | refine splE (fun hc => ?_) (fun hc => ?_) | refine splNE (fun hc => ?_) (fun hc => ?_)) <;> first | (exfalso; omega) | (exfalso; dsimp only at hc; omega) | skip)
      refine loopE (fun _ : Nat => [(0, .v (.slice o 0 c)), (3, .v (.slice none 0 0)), (4, .v (iv 0))]) (fun _ => []) (fun _ => True) (fun _ => 0) 0 trivial ⟨rfl, rfl, rfl, trivial⟩ trivial (fun _ => ⟨rfl, rfl⟩) ?_
      intro _ _
      repeat'
       conv => whnf
       first
        | refine zA ?_ | refine zB ?_ | refine zC ?_ | refine zD ?_ | refine zE ?_ | refine zF ?_ | refine zG ?_ | refine zH ?_ | refine zJ ?_ | refine zI ?_ | refine splT ?_ | refine splF ?_ | refine splNot ?_
        | ((first | refine splIn (fun hc => ?_) (fun hc => ?_) | refine splD (fun hc => ?_) (fun hc => ?_) | refine splE (fun hc => ?_) (fun hc => ?_) | refine splNE (fun hc => ?_) (fun hc => ?_)) <;> first | (exfalso; omega) | (exfalso; dsimp only at hc; omega) | skip)
      all_goals first | (exfalso; omega) | exact ⟨fun β => rfl, fun w' h => h⟩
    refine VC.cutH env mixed 2 6 (fun _ : Unit => (cS7 no nc N wk co cc C o c [] pl w y k [] (List.replicate N.length 0)).t) (fun _ => (cS7 no nc N wk co cc C o c [] pl w y k [] (List.replicate N.length 0)).m) (fun _ => (cS7 no nc N wk co cc C o c [] pl w y k [] (List.replicate N.length 0)).h) (fun _ => True) (fun _ _ => ⟨rfl, rfl⟩) ?_ (fun _ _ => h7 [] _ ⟨Nat.le_refl _, hE2, hrep, fun n hn => by rw [List.mem_replicate] at hn; omega, fun h1 h2 => by simp at h1 h2; omega⟩)
    clear h7
    repeat'
     conv => whnf
     first
      | refine zA ?_ | refine zB ?_ | refine zC ?_ | refine zD ?_ | refine zE ?_ | refine zF ?_ | refine zG ?_ | refine zH ?_ | refine zJ ?_ | refine zI ?_ | refine splT ?_ | refine splF ?_ | refine splNot ?_
      | ((first | refine splIn (fun hc => ?_) (fun hc => ?_) | refine splD (fun hc => ?_) (fun hc => ?_) | refine splE (fun hc => ?_) (fun hc => ?_) | refine splNE (fun hc => ?_) (fun hc => ?_)) <;> first | (exfalso; omega) | (exfalso; dsimp only at hc; omega) | skip)
      | ((with_reducible show CallEv _ _ 31 _ _ _ _ _); refine callE (k := 31) (fun β w' hbw => h31 w' hbw.1) ?_)
      | refine mkO env 2 N.length ((List.replicate N.length (0 : Int)).flatMap iF) rfl rfl rfl (by decide) rfl (by omega) (by decide) (by rw [List.flatMap_replicate]; rfl) rfl ?_
    all_goals first | (exfalso; omega) | exact ⟨rfl, (), trivial, Ent.ren (rho [(4, 2), (5, 3)]) rfl rfl ⟨rfl, rfl, rfl, rfl, rfl, rfl, trivial⟩ ⟨rfl, rfl, rfl, trivial⟩ fun w2 h => ⟨h, fun s hs => by cases hs⟩⟩
  | cons s0 S1 =>
    have hr0 : ∀ r ∈ s0 :: S1, r.xs ≠ [] := fun r hr e => by
      have := (hy.s _ (List.mem_map_of_mem hr)).2.1
      rw [show (Sy.d r).2 = r.xs from rfl, e] at this
      simp at this; omega
    have h31 := fun w' (hb : Below w.heap.size w w') => StaysX_ok (s0 :: S1) o c w' (hY.below hb) (by simp) hr0
    refine VC.cutH env mixed 2 6 (fun L : {L : List Sy // L.map Sy.d = (s0 :: S1).map Sy.d} => (cS7 no nc N wk co cc C o c (s0 :: S1) pl w y k L.1 (List.replicate N.length 0)).t) (fun L => (cS7 no nc N wk co cc C o c (s0 :: S1) pl w y k L.1 (List.replicate N.length 0)).m) (fun L => (cS7 no nc N wk co cc C o c (s0 :: S1) pl w y k L.1 (List.replicate N.length 0)).h) (fun _ => True) (fun L _ => by obtain ⟨L, hL⟩ := L; cases L <;> exact ⟨rfl, rfl⟩) ?_ (fun L _ => h7 L.1 _ ⟨by have := congrArg List.length L.2; simp at this ⊢; omega, by rw [L.2]; exact hE2, hrep, fun n hn => by rw [List.mem_replicate] at hn; omega, fun h1 h2 => by have := congrArg List.length L.2; simp at this h1 h2; omega⟩)
    clear h7
    repeat'
     conv => whnf
     first
      | refine zA ?_ | refine zB ?_ | refine zC ?_ | refine zD ?_ | refine zE ?_ | refine zF ?_ | refine zG ?_ | refine zH ?_ | refine zJ ?_ | refine zI ?_ | refine splT ?_ | refine splF ?_ | refine splNot ?_
      | ((first | refine splIn (fun hc => ?_) (fun hc => ?_) | refine splD (fun hc => ?_) (fun hc => ?_) | refine splE (fun hc => ?_) (fun hc => ?_) | refine splNE (fun hc => ?_) (fun hc => ?_)) <;> first | (exfalso; omega) | (exfalso; dsimp only at hc; omega) | skip)
      | ((with_reducible show CallEv _ _ 31 _ _ _ _ _); refine callRF [] (s0 :: S1).length 2 73 (fun L : {L : List Sy // L.map Sy.d = (s0 :: S1).map Sy.d} => L.1.flatMap Sy.cs) (fun L w2 => ∀ s ∈ L.1, Rd 1 iF (.slice s.o s.xs.length s.c) s.xs w2) (fun β w' _ hbw => h31 w' hbw.1) ?_; intro L)
      | refine mkO env 4 N.length ((List.replicate N.length (0 : Int)).flatMap iF) rfl rfl rfl (by decide) rfl (by omega) (by decide) (by rw [List.flatMap_replicate]; rfl) rfl ?_
    obtain ⟨L, hL⟩ := L
    have hLl : L.length = S1.length + 1 := by have := congrArg List.length hL; simpa using this
    cases L with
    | nil => simp at hLl
    | cons a l =>
      have hll : S1.length = l.length := by simp at hLl; omega
      all_goals first | (exfalso; omega) | exact ⟨rfl, ⟨a :: l, hL⟩, trivial, Ent.weak rfl ⟨rfl, rfl, rfl, rfl, by show _ = some (SV.os 2 3 (l.length + 1)); rw [← hll]; rfl, rfl, trivial⟩ ⟨rfl, rfl, rfl, by show _ = some (Blk.own 3 (l.length + 1) 2 _ 73); rw [← hll]; rfl, trivial⟩ fun w2 h => h⟩
theorem c7i_eq : c7i = .seq (.region 12 (hdO c7i) true) (tlD c7i) := by kernel_rfl
abbrev cS8 (no : Option Addr) (nc : Nat) (N : List Int) (wk : Int) (co : Option Addr) (cc : Nat) (C : List Rw) (o : Option Addr) (c : Nat) (S : List Sy) (pl : Int) (w : World) (y : ((Nat × Nat) × RwG (C.map Rw.xs))) (k : Nat) (D : List Sy) (M : List Int) (u : Addr × Nat) : Sg := ⟨151, [(1, .v (.slice o S.length c)), (3, .ptr 0 0), (7, .ptr 1 0), (8, .v (iv k)), (10, oSV 2 3 D), (11, .os 4 5 N.length), (12, .v (.slice (some u.1) N.length u.2)), (13, .v (iv 0))], (0, .cells [.v (.slice no N.length nc), .v (iv wk), .v (.slice co C.length cc)] 56) :: (1, .cells [.v (.slice (some ⟨y.1.1, 0, none⟩) N.length y.1.2), .v (iv wk), .v (.slice (some y.2.o) y.2.D.length y.2.c)] 63) :: (4, .own 5 N.length 1 (M.flatMap iF) 3) :: oM 2 3 2 Sy.cs 73 D, 6, fun w2 => (hCw N w y ((C.map Rw.xs).set k (List.replicate N.length 1000)) w2 ∧ ∀ s ∈ D, Rd 1 iF (.slice s.o s.xs.length s.c) s.xs w2) ∧ Lq N.length ((List.range N.length).map (nxV N wk ((C.map Rw.xs).set k (List.replicate N.length 1000)) (D.map Sy.d))) u w2, z0⟩
set_option maxHeartbeats 4000000 in
set_option maxRecDepth 100000 in
theorem Ca7r (no : Option Addr) (nc : Nat) (N : List Int) (wk : Int) (co : Option Addr) (cc : Nat) (C : List Rw) (o : Option Addr) (c : Nat) (S : List Sy) (pl : Int) (w : World) (y : ((Nat × Nat) × RwG (C.map Rw.xs))) (k : Nat) (D : List Sy) (M : List Int) {Φ : Exit → Sg → Prop} (hE : ckE N wk ((C.map Rw.xs).set k (List.replicate N.length 1000)) (D.map Sy.d) = 0) (hz : SzOk N ((C.map Rw.xs).set k (List.replicate N.length 1000)) (D.map Sy.d)) (hl : (D.length : Int) < wk) (hn6 : 1 ≤ N.length ∧ N.length ≤ 6)
    (hT : ∀ u, VC Tryz.prog (tlD c7i) (cS8 no nc N wk co cc C o c S pl w y k D M u) Φ) : VC Tryz.prog c7i (cS7 no nc N wk co cc C o c S pl w y k D M) Φ := by
  have hnx : nxE N wk ((C.map Rw.xs).set k (List.replicate N.length 1000)) (D.map Sy.d) = 0 := by
    unfold nxE; rw [if_pos hE, if_neg (by rw [List.length_map]; omega)]
  have hwk := (YrOk.of hE).w
  cases D with
  | nil =>
    have h33 : ∀ w' (hh : hCw N w y ((C.map Rw.xs).set k (List.replicate N.length 1000)) w' ∧ ∀ s ∈ ([] : List Sy), Rd 1 iF (.slice s.o s.xs.length s.c) s.xs w'), Calls Tryz.prog 33 #[.agg #[.slice (some ⟨y.1.1, 0, none⟩) N.length y.1.2, iv wk, .slice (some y.2.o) y.2.D.length y.2.c], .slice none 0 0] w' fun e w2 => ∃ u : Addr × Nat, e = .returned (.tuple #[.slice (some u.1) N.length u.2, iv 0]) ∧ Below w'.heap.size w' w2 ∧ St w'.heap.size (Lq N.length ((List.range N.length).map (nxV N wk ((C.map Rw.xs).set k (List.replicate N.length 1000)) (([] : List Sy).map Sy.d))) u) w2 := fun w' hh => by
      skip
      obtain ⟨⟨⟨z1, z2⟩, z3, z4, z5, z6⟩, q0, q1, q2, q3, q4, q5⟩ := hCw_rd hh.1 (List.length_set ..)
      dsimp only at q1 q2 q3 q4 q5
      subst q1 q2 q3 q5
      have := Next_atA (wk := wk) hz hnx hn6.1 _ ⟨none, 0, [], rfl⟩ w' q0 ⟨.inl ⟨rfl, rfl⟩, hh.2⟩
      dsimp only at this
      rw [q4] at this
      exact this
    rw [show (c7i) = .seq (.region 12 (hdO c7i) true) (tlD c7i) from c7i_eq]
    refine VC.seq (f := fun σ' => ∃ u, Ent σ' (cS8 no nc N wk co cc C o c S pl w y k ([] : List Sy) M u)) ?_ (fun σ' ⟨u, hu⟩ => VC.ent (hT u) hu (by exact okB rfl rfl rfl))
    clear hT
    apply VC_reg1 env mixed 3 (fun u : Addr × Nat => .tuple #[.slice (some u.1) N.length u.2, iv 0]) (fun u w2 => Lq N.length ((List.range N.length).map (nxV N wk ((C.map Rw.xs).set k (List.replicate N.length 1000)) (([] : List Sy).map Sy.d))) u w2) (y.2.o, 0)
    case h3 => exact Nat.le_of_ble_eq_true (by kernel_rfl)
    case hv =>
      intro u
      repeat'
       conv => whnf
       first
        | refine zA ?_ | refine zB ?_ | refine zC ?_ | refine zD ?_ | refine zE ?_ | refine zF ?_ | refine zG ?_ | refine zH ?_ | refine zJ ?_ | refine zI ?_ | refine splT ?_ | refine splF ?_ | refine splNot ?_
        | ((first | refine splIn (fun hc => ?_) (fun hc => ?_) | refine splD (fun hc => ?_) (fun hc => ?_) | refine splE (fun hc => ?_) (fun hc => ?_) | refine splNE (fun hc => ?_) (fun hc => ?_)) <;> first | (exfalso; omega) | (exfalso; dsimp only at hc; omega) | skip)
        | refine And.intro (a := (_ : Bool) = true ∧ _ ∧ _) ⟨Nat.beq_refl _, lenSy _, oneSy _⟩ ?_
        | refine And.intro (a := (_ : Bool) = true ∧ (_ : List _) = [] ∧ (_ : List _) = []) ⟨rfl, rfl, rfl⟩ ?_
        | (with_reducible show FamEv _ _ _ 33 _ _ _); refine FamEv.mk [] (fun β w' hbk hbw => h33 w' hbw) ?_
      refine ⟨?_, u, Ent.weak rfl ⟨rfl, rfl, rfl, rfl, rfl, rfl, rfl, rfl, trivial⟩ ⟨rfl, rfl, rfl, trivial⟩ fun w2 h => h⟩
      simp only [List.nil_append, List.cons_append, List.append_assoc]
      exact rfl
    case hk1 => intros; rfl
    case hi1 => exact fun _ _ => ⟨Or.inr rfl, Or.inr rfl, Or.inr rfl, Or.inl (by kernel_rfl), Or.inl (by kernel_rfl), Or.inl (by kernel_rfl), Or.inl (by kernel_rfl), Or.inl (by kernel_rfl), Or.inl (by kernel_rfl), trivial⟩
  | cons a l =>
    simp only [List.length_cons] at hl
    have h33 : ∀ w' (hh : hCw N w y ((C.map Rw.xs).set k (List.replicate N.length 1000)) w' ∧ ∀ s ∈ (a :: l), Rd 1 iF (.slice s.o s.xs.length s.c) s.xs w') (b0 b1 m : Nat) (hm : m = l.length + 1) (Z : List Value) (hZ : Z = (a :: l).flatMap Sy.cs) (hr : w'.ownsRow 0 73 2 (.slice (some ⟨b0, 0, none⟩) m b1) m Z), Calls Tryz.prog 33 #[.agg #[.slice (some ⟨y.1.1, 0, none⟩) N.length y.1.2, iv wk, .slice (some y.2.o) y.2.D.length y.2.c], .slice (some ⟨b0, 0, none⟩) m b1] w' fun e w2 => ∃ u : Addr × Nat, e = .returned (.tuple #[.slice (some u.1) N.length u.2, iv 0]) ∧ Below w'.heap.size w' w2 ∧ St w'.heap.size (Lq N.length ((List.range N.length).map (nxV N wk ((C.map Rw.xs).set k (List.replicate N.length 1000)) ((a :: l).map Sy.d))) u) w2 := fun w' hh b0 b1 m hm Z hZ hr => by
      subst hm
      obtain ⟨⟨⟨z1, z2⟩, z3, z4, z5, z6⟩, q0, q1, q2, q3, q4, q5⟩ := hCw_rd hh.1 (List.length_set ..)
      dsimp only at q1 q2 q3 q4 q5
      subst q1 q2 q3 q5
      have := Next_atA (wk := wk) hz hnx hn6.1 _ ⟨some ⟨b0, 0, none⟩, b1, a :: l, rfl⟩ w' q0 ⟨Rd.of_owns (sz := 2) (f := Sy.cs) (fun _ => rfl) hZ rfl hr, hh.2⟩
      dsimp only at this
      rw [q4] at this
      exact this
    rw [show (c7i) = .seq (.region 12 (hdO c7i) true) (tlD c7i) from c7i_eq]
    refine VC.seq (f := fun σ' => ∃ u, Ent σ' (cS8 no nc N wk co cc C o c S pl w y k (a :: l) M u)) ?_ (fun σ' ⟨u, hu⟩ => VC.ent (hT u) hu (by exact okB rfl rfl rfl))
    clear hT
    apply VC_reg1 env mixed 3 (fun u : Addr × Nat => .tuple #[.slice (some u.1) N.length u.2, iv 0]) (fun u w2 => Lq N.length ((List.range N.length).map (nxV N wk ((C.map Rw.xs).set k (List.replicate N.length 1000)) ((a :: l).map Sy.d))) u w2) (y.2.o, 0)
    case h3 => exact Nat.le_of_ble_eq_true (by kernel_rfl)
    case hv =>
      intro u
      repeat'
       conv => whnf
       first
        | refine zA ?_ | refine zB ?_ | refine zC ?_ | refine zD ?_ | refine zE ?_ | refine zF ?_ | refine zG ?_ | refine zH ?_ | refine zJ ?_ | refine zI ?_ | refine splT ?_ | refine splF ?_ | refine splNot ?_
        | ((first | refine splIn (fun hc => ?_) (fun hc => ?_) | refine splD (fun hc => ?_) (fun hc => ?_) | refine splE (fun hc => ?_) (fun hc => ?_) | refine splNE (fun hc => ?_) (fun hc => ?_)) <;> first | (exfalso; omega) | (exfalso; dsimp only at hc; omega) | skip)
        | refine And.intro (a := (_ : Bool) = true ∧ _ ∧ _) ⟨Nat.beq_refl _, lenSy _, oneSy _⟩ ?_
        | refine And.intro (a := (_ : Bool) = true ∧ (_ : List _) = [] ∧ (_ : List _) = []) ⟨rfl, rfl, rfl⟩ ?_
        | (with_reducible show FamEv _ _ _ 33 _ _ _); refine FamEv.mk [6] (fun β w' hbk hbw => h33 w' hbw (β 6) (β 7) _ (by simp) _ (by simp) (hbk 6 (by simp) _ rfl)) ?_
      refine ⟨?_, u, Ent.weak rfl ⟨rfl, rfl, rfl, rfl, rfl, rfl, rfl, rfl, trivial⟩ ⟨rfl, rfl, rfl, rfl, trivial⟩ fun w2 h => h⟩
      simp only [List.nil_append, List.cons_append, List.append_assoc]
      exact rfl
    case hk1 => intros; rfl
    case hi1 => exact fun _ _ => ⟨Or.inr rfl, Or.inr rfl, Or.inr rfl, Or.inl (by kernel_rfl), Or.inl (by kernel_rfl), Or.inl (by kernel_rfl), Or.inl (by kernel_rfl), Or.inl (by kernel_rfl), Or.inl (by kernel_rfl), trivial⟩
end Go.Proofs.YtpleibfohjbneaaGreat
