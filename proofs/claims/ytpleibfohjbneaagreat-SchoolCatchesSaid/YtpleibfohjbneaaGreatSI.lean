/- What a child has and what is left, what it should do, in what it is behind, or the error: what these functions return. -/
import Derived.Test.YtpleibfohjbneaaGreatSH
namespace Go.Proofs.YtpleibfohjbneaaGreat
open Go Tx Go.RowKit
set_option linter.unusedSimpArgs false
set_option linter.unusedVariables false

def hasL (N : List Int) (wk : Int) (CC : List (List Int)) (SS : List (Int × List Int)) : List Int := if ckE N wk CC SS = 0 then (List.range N.length).map (hsV CC SS) else []
def lefL (N : List Int) (wk : Int) (CC : List (List Int)) (SS : List (Int × List Int)) : List Int := if ckE N wk CC SS = 0 then (List.range N.length).map (lfV N CC SS) else []
/-- The error of the next week. -/
def nxE (N : List Int) (wk : Int) (CC : List (List Int)) (SS : List (Int × List Int)) : Int := if ckE N wk CC SS = 0 then (if (SS.length : Int) = wk then 7 else 0) else ckE N wk CC SS
def nxtL (N : List Int) (wk : Int) (CC : List (List Int)) (SS : List (Int × List Int)) : List Int := if nxE N wk CC SS = 0 then (List.range N.length).map (nxV N wk CC SS) else []
/-- The subjects in which a child is behind, of the first k. -/
def bhK (N : List Int) (wk : Int) (CC : List (List Int)) (SS : List (Int × List Int)) (k : Nat) : List Int := ((List.range k).filter (bhB N wk CC SS)).map (fun (j : Nat) => (j : Int))
def behL (N : List Int) (wk : Int) (CC : List (List Int)) (SS : List (Int × List Int)) : List Int := if ckE N wk CC SS = 0 then bhK N wk CC SS N.length else []
theorem bhK_succ (N : List Int) (wk : Int) (CC : List (List Int)) (SS : List (Int × List Int)) (k : Nat) : bhK N wk CC SS (k + 1) = bhK N wk CC SS k ++ (if bhB N wk CC SS k = true then [(k : Int)] else []) := by
  rw [bhK, List.range_succ, List.filter_append, List.map_append, bhK]
  congr 1
  cases h : bhB N wk CC SS k <;> simp [h]
theorem bhK_len (N : List Int) (wk : Int) (CC : List (List Int)) (SS : List (Int × List Int)) (k : Nat) : (bhK N wk CC SS k).length ≤ k := by
  rw [bhK, List.length_map]
  exact Nat.le_trans (List.length_filter_le _ _) (Nat.le_of_eq List.length_range)
theorem below_tr {w0 w1 w2 : World} (h : Below w0.heap.size w0 w1) (k : Below w1.heap.size w1 w2) : Below w0.heap.size w0 w2 := h.trans (k.mono h.size)
theorem own_rd {n m : Nat} {L : List Int} {β : Nat → Nat} {b : Nat} {j : Nat} {w : World} (hn : m = L.length) (h : St n (fun w2 => (Blk.own j m 1 (L.flatMap iF) 3).ok β w2 b) w) : St n (Rd 1 iF (.slice (some ⟨b, 0, none⟩) m (β j)) L) w :=
  h.imp fun _ q => Rd.of_owns (sz := 1) (f := iF) (fun _ => rfl) rfl hn q

set_option maxHeartbeats 2000000 in
set_option maxRecDepth 100000 in
theorem Has_ok (x : Cr) (o : Option Addr) (c : Nat) (S : List Sy) (w : World) (h : CrIn x w) (hS : SyIn o c S w) :
    Calls Tryz.prog 29 #[x.v, .slice o S.length c] w fun e w' => ∃ y : (Option Addr × Nat) × (Option Addr × Nat), e = .returned (.tuple #[sV (hasL x.N x.wk x.CC (S.map Sy.d)).length y.1, sV (lefL x.N x.wk x.CC (S.map Sy.d)).length y.2, iv (ckE x.N x.wk x.CC (S.map Sy.d))]) ∧ Below w.heap.size w w' ∧
      St w.heap.size (fun w2 => Rd 1 iF (sV (hasL x.N x.wk x.CC (S.map Sy.d)).length y.1) (hasL x.N x.wk x.CC (S.map Sy.d)) w2 ∧ Rd 1 iF (sV (lefL x.N x.wk x.CC (S.map Sy.d)).length y.2) (lefL x.N x.wk x.CC (S.map Sy.d)) w2) w' := by
  have hck := fun w' hb => check_ok x o c S w' (h.below hb) (hS.below hb)
  have hsm : (S.map Sy.d).length = S.length := List.length_map ..
  unfold hasL lefL
  by_cases h0 : ckE x.N x.wk x.CC (S.map Sy.d) = 0
  · have hy := YrOk.of h0
    have h79 := fun j hj w' hb => hasC_ok x o c S j w' (h.below hb) (hS.below hb) hy hj
    have h80 := fun j hj w' hb => leftC_ok x o c S j w' (h.below hb) (hS.below hb) hy hj
    have e79 := fun w' hb => each79_own x.no x.nc x.N x.wk x.co x.C.length x.cc (.slice o S.length c) (hsV x.CC (S.map Sy.d)) w' hy.n6 (fun j hj w2 hb2 => h79 j hj w2 (below_tr hb hb2))
    have e80 := fun w' hb => each80_own x.no x.nc x.N x.wk x.co x.C.length x.cc (.slice o S.length c) (lfV x.N x.CC (S.map Sy.d)) w' hy.n6 (fun j hj w2 hb2 => h80 j hj w2 (below_tr hb hb2))
    rw [if_pos h0, if_pos h0, h0]
    rw [h0] at hck
    have hl1 : ((List.range x.N.length).map (hsV x.CC (S.map Sy.d))).length = x.N.length := by simp
    have hl2 : ((List.range x.N.length).map (lfV x.N x.CC (S.map Sy.d))).length = x.N.length := by simp
    generalize (List.range x.N.length).map (hsV x.CC (S.map Sy.d)) = A at *
    generalize (List.range x.N.length).map (lfV x.N x.CC (S.map Sy.d)) = B at *
    clear h79 h80 hy h0
    obtain ⟨no, nc, N, wk, co, cc, C⟩ := x
    dsimp only at hck e79 e80 hl1 hl2 ⊢
    refine calls_fam env mixed Tryz.func29 has29 Tryz.ntmps29 [.agg #[.slice no N.length nc, iv wk, .slice co C.length cc], .slice o S.length c] (by simp) ?_
    repeat'
     conv => whnf
     first
      | refine zA ?_ | refine zB ?_ | refine zC ?_ | refine zD ?_ | refine zE ?_ | refine zF ?_ | refine zG ?_ | refine zH ?_ | refine zJ ?_ | refine zI ?_ | refine splT ?_ | refine splF ?_ | refine splNot ?_
      | ((first | refine splIn (fun hc => ?_) (fun hc => ?_) | refine splD (fun hc => ?_) (fun hc => ?_) | refine splE (fun hc => ?_) (fun hc => ?_) | refine splNE (fun hc => ?_) (fun hc => ?_)) <;> first | (exfalso; omega) | (exfalso; dsimp only at hc; omega) | skip)
      | ((with_reducible show CallEv _ _ 77 _ _ _ _ _); refine callE (k := 77) (fun β w' hbw => hck _ hbw) ?_)
      | refine mkMv (.agg #[.slice no N.length nc, iv wk, .slice co C.length cc, .slice o S.length c]) rfl (fun _ => rfl) rfl ?_
      | ((with_reducible show CallEv _ _ 78 [_, .v (.func (.func 79) _ _)] _ _ _ _); refine callO 2 [] (.os 2 3 N.length) N.length 1 (A.flatMap iF) 3 rfl (fun β w' _ hbw => (e79 w' hbw).mono fun _ _ ⟨b, c, h1, h2, h3, h4⟩ => ⟨b, c, h1, h2, h3, h4⟩) ?_)
      | ((with_reducible show CallEv _ _ 78 [_, .v (.func (.func 80) _ _)] _ _ _ _); refine callO 4 [] (.os 4 5 N.length) N.length 1 (B.flatMap iF) 3 rfl (fun β w' _ hbw => (e80 w' hbw).mono fun _ _ ⟨b, c, h1, h2, h3, h4⟩ => ⟨b, c, h1, h2, h3, h4⟩) ?_)
    all_goals first
      | (exfalso; omega)
      | exact ⟨fun w' h => h, fun β w' hB hblk => ⟨((some ⟨β 2, 0, none⟩, β 3), (some ⟨β 4, 0, none⟩, β 5)), by rw [hl1, hl2]; rfl, by rw [hl1, hl2]; exact (own_rd hl1.symm (hblk 2 _ rfl rfl)).and (own_rd hl2.symm (hblk 4 _ rfl rfl))⟩⟩
  · rw [if_neg h0, if_neg h0]
    generalize ckE x.N x.wk x.CC (S.map Sy.d) = E at *
    obtain ⟨no, nc, N, wk, co, cc, C⟩ := x
    try dsimp only at hck ⊢
    refine calls_fam env mixed Tryz.func29 has29 Tryz.ntmps29 [.agg #[.slice no N.length nc, iv wk, .slice co C.length cc], .slice o S.length c] (by simp) ?_
    repeat'
     conv => whnf
     first
      | refine zA ?_ | refine zB ?_ | refine zC ?_ | refine zD ?_ | refine zE ?_ | refine zF ?_ | refine zG ?_ | refine zH ?_ | refine zJ ?_ | refine zI ?_ | refine splT ?_ | refine splF ?_ | refine splNot ?_
      | ((first | refine splIn (fun hc => ?_) (fun hc => ?_) | refine splD (fun hc => ?_) (fun hc => ?_) | refine splE (fun hc => ?_) (fun hc => ?_) | refine splNE (fun hc => ?_) (fun hc => ?_)) <;> first | (exfalso; omega) | (exfalso; dsimp only at hc; omega) | skip)
      | ((with_reducible show CallEv _ _ 77 _ _ _ _ _); refine callE (k := 77) (fun β w' hbw => hck _ hbw) ?_)
    all_goals first | (exfalso; omega) | exact ⟨fun w' h => h, fun β w' hB hblk => ⟨((none, 0), (none, 0)), rfl, fun w2 k2 => ⟨.inl ⟨rfl, rfl⟩, .inl ⟨rfl, rfl⟩⟩⟩⟩

set_option maxHeartbeats 2000000 in
set_option maxRecDepth 100000 in
theorem Next_ok (x : Cr) (o : Option Addr) (c : Nat) (S : List Sy) (w : World) (h : CrIn x w) (hS : SyIn o c S w) :
    Calls Tryz.prog 33 #[x.v, .slice o S.length c] w fun e w' => ∃ y : Option Addr × Nat, e = .returned (.tuple #[sV (nxtL x.N x.wk x.CC (S.map Sy.d)).length y, iv (nxE x.N x.wk x.CC (S.map Sy.d))]) ∧ Below w.heap.size w w' ∧
      St w.heap.size (Rd 1 iF (sV (nxtL x.N x.wk x.CC (S.map Sy.d)).length y) (nxtL x.N x.wk x.CC (S.map Sy.d))) w' := by
  have hck := fun w' hb => check_ok x o c S w' (h.below hb) (hS.below hb)
  have hsm : (S.map Sy.d).length = S.length := List.length_map ..
  unfold nxtL nxE
  by_cases h0 : ckE x.N x.wk x.CC (S.map Sy.d) = 0
  · have hy := YrOk.of h0
    have hsl := hS.sl
    have hwk := hy.w
    rw [if_pos h0, hsm]
    rw [h0] at hck
    by_cases h1 : (S.length : Int) = x.wk
    · rw [if_pos h1]
      obtain ⟨no, nc, N, wk, co, cc, C⟩ := x
      dsimp only at hck h1 hwk ⊢
      refine calls_fam env mixed Tryz.func33 has33 Tryz.ntmps33 [.agg #[.slice no N.length nc, iv wk, .slice co C.length cc], .slice o S.length c] (by simp) ?_
      repeat'
       conv => whnf
       first
        | refine zA ?_ | refine zB ?_ | refine zC ?_ | refine zD ?_ | refine zE ?_ | refine zF ?_ | refine zG ?_ | refine zH ?_ | refine zJ ?_ | refine zI ?_ | refine splT ?_ | refine splF ?_ | refine splNot ?_
        | ((first | refine splIn (fun hc => ?_) (fun hc => ?_) | refine splD (fun hc => ?_) (fun hc => ?_) | refine splE (fun hc => ?_) (fun hc => ?_) | refine splNE (fun hc => ?_) (fun hc => ?_)) <;> first | (exfalso; omega) | (exfalso; dsimp only at hc; omega) | skip)
        | ((with_reducible show CallEv _ _ 77 _ _ _ _ _); refine callE (k := 77) (fun β w' hbw => hck _ hbw) ?_)
      all_goals first | (exfalso; omega) | exact ⟨fun w' h => h, fun β w' hB hblk => ⟨(none, 0), rfl, fun w2 k2 => .inl ⟨rfl, rfl⟩⟩⟩
    · rw [if_neg h1]
      have hlt : (S.length : Int) < x.wk := by have := hy.sl; rw [hsm] at this; omega
      have h81 := fun j hj w' hb => nextC_ok x o c S j w' (h.below hb) (hS.below hb) hy hj hlt
      have e81 := fun w' hb => each81_own x.no x.nc x.N x.wk x.co x.C.length x.cc (.slice o S.length c) (nxV x.N x.wk x.CC (S.map Sy.d)) w' hy.n6 (fun j hj w2 hb2 => h81 j hj w2 (below_tr hb hb2))
      rw [if_pos rfl]
      have hl1 : ((List.range x.N.length).map (nxV x.N x.wk x.CC (S.map Sy.d))).length = x.N.length := by simp
      generalize (List.range x.N.length).map (nxV x.N x.wk x.CC (S.map Sy.d)) = A at *
      clear h81 hy h0
      obtain ⟨no, nc, N, wk, co, cc, C⟩ := x
      dsimp only at hck e81 hl1 h1 hlt hwk ⊢
      refine calls_fam env mixed Tryz.func33 has33 Tryz.ntmps33 [.agg #[.slice no N.length nc, iv wk, .slice co C.length cc], .slice o S.length c] (by simp) ?_
      repeat'
       conv => whnf
       first
        | refine zA ?_ | refine zB ?_ | refine zC ?_ | refine zD ?_ | refine zE ?_ | refine zF ?_ | refine zG ?_ | refine zH ?_ | refine zJ ?_ | refine zI ?_ | refine splT ?_ | refine splF ?_ | refine splNot ?_
        | ((first | refine splIn (fun hc => ?_) (fun hc => ?_) | refine splD (fun hc => ?_) (fun hc => ?_) | refine splE (fun hc => ?_) (fun hc => ?_) | refine splNE (fun hc => ?_) (fun hc => ?_)) <;> first | (exfalso; omega) | (exfalso; dsimp only at hc; omega) | skip)
        | ((with_reducible show CallEv _ _ 77 _ _ _ _ _); refine callE (k := 77) (fun β w' hbw => hck _ hbw) ?_)
        | refine mkMv (.agg #[.slice no N.length nc, iv wk, .slice co C.length cc, .slice o S.length c]) rfl (fun _ => rfl) rfl ?_
        | ((with_reducible show CallEv _ _ 78 [_, .v (.func (.func 81) _ _)] _ _ _ _); refine callO 2 [] (.os 2 3 N.length) N.length 1 (A.flatMap iF) 3 rfl (fun β w' _ hbw => (e81 w' hbw).mono fun _ _ ⟨b, c, h1, h2, h3, h4⟩ => ⟨b, c, h1, h2, h3, h4⟩) ?_)
      all_goals first
        | (exfalso; omega)
        | exact ⟨fun w' h => h, fun β w' hB hblk => ⟨(some ⟨β 2, 0, none⟩, β 3), by rw [hl1]; rfl, by rw [hl1]; exact own_rd hl1.symm (hblk 2 _ rfl rfl)⟩⟩
  · rw [if_neg h0, if_neg h0]
    generalize ckE x.N x.wk x.CC (S.map Sy.d) = E at *
    obtain ⟨no, nc, N, wk, co, cc, C⟩ := x
    try dsimp only at hck ⊢
    refine calls_fam env mixed Tryz.func33 has33 Tryz.ntmps33 [.agg #[.slice no N.length nc, iv wk, .slice co C.length cc], .slice o S.length c] (by simp) ?_
    repeat'
     conv => whnf
     first
      | refine zA ?_ | refine zB ?_ | refine zC ?_ | refine zD ?_ | refine zE ?_ | refine zF ?_ | refine zG ?_ | refine zH ?_ | refine zJ ?_ | refine zI ?_ | refine splT ?_ | refine splF ?_ | refine splNot ?_
      | ((first | refine splIn (fun hc => ?_) (fun hc => ?_) | refine splD (fun hc => ?_) (fun hc => ?_) | refine splE (fun hc => ?_) (fun hc => ?_) | refine splNE (fun hc => ?_) (fun hc => ?_)) <;> first | (exfalso; omega) | (exfalso; dsimp only at hc; omega) | skip)
      | ((with_reducible show CallEv _ _ 77 _ _ _ _ _); refine callE (k := 77) (fun β w' hbw => hck _ hbw) ?_)
    all_goals first | (exfalso; omega) | exact ⟨fun w' h => h, fun β w' hB hblk => ⟨(none, 0), rfl, fun w2 k2 => .inl ⟨rfl, rfl⟩⟩⟩

set_option maxHeartbeats 2000000 in
set_option maxRecDepth 100000 in
theorem Behind_ok (x : Cr) (o : Option Addr) (c : Nat) (S : List Sy) (w : World) (h : CrIn x w) (hS : SyIn o c S w) :
    Calls Tryz.prog 35 #[x.v, .slice o S.length c] w fun e w' => ∃ y : Option Addr × Nat, e = .returned (.tuple #[sV (behL x.N x.wk x.CC (S.map Sy.d)).length y, iv (ckE x.N x.wk x.CC (S.map Sy.d))]) ∧ Below w.heap.size w w' ∧
      St w.heap.size (Rd 1 iF (sV (behL x.N x.wk x.CC (S.map Sy.d)).length y) (behL x.N x.wk x.CC (S.map Sy.d))) w' := by
  have hck := fun w' hb => check_ok x o c S w' (h.below hb) (hS.below hb)
  have hsm : (S.map Sy.d).length = S.length := List.length_map ..
  unfold behL
  by_cases h0 : ckE x.N x.wk x.CC (S.map Sy.d) = 0
  · have hy := YrOk.of h0
    have hsl := hS.sl
    have hwk := hy.w
    have hs60 := hy.sl
    rw [hsm] at hs60
    have h79 := fun j hj w' hb => hasC_ok x o c S j w' (h.below hb) (hS.below hb) hy hj
    have hhv := hy.hv
    have hgn := hy.gn
    have hn6 := hy.n6
    have hN := h.n
    rw [if_pos h0, h0]
    rw [h0] at hck
    obtain ⟨no, nc, N, wk, co, cc, C⟩ := x
    dsimp only at hck hwk hs60 hn6 hN ⊢
    refine calls_fam env mixed Tryz.func35 has35 Tryz.ntmps35 [.agg #[.slice no N.length nc, iv wk, .slice co C.length cc], .slice o S.length c] (by simp) ?_
    have h79b : ∀ j, j < N.length → ∀ w', Below w.heap.size w w' → Calls Tryz.prog 79 #[.agg #[.slice no N.length nc, iv wk, .slice co C.length cc, .slice o S.length c], iv j] w' fun e w1 => e = .returned (iv (hsV (C.map Rw.xs) (S.map Sy.d) j)) ∧ Below w'.heap.size w' w1 := h79
    clear h79
    change ∀ j, 0 ≤ hsV (C.map Rw.xs) (S.map Sy.d) j ∧ hsV (C.map Rw.xs) (S.map Sy.d) j ≤ 4800000 at hhv
    change ∀ j, 0 ≤ gt N j ∧ gt N j ≤ 2000 at hgn
    show vc _ _ _ (endΦ _ _ fun s σ => (∀ w', σ.h w' → _) ∧ ∀ β w', σ.h w' → _ → ∃ y : Option Addr × Nat, s.c β = .tuple #[sV (bhK N wk (C.map Rw.xs) (S.map Sy.d) N.length).length y, iv 0] ∧ St w.heap.size (Rd 1 iF (sV (bhK N wk (C.map Rw.xs) (S.map Sy.d) N.length).length y) (bhK N wk (C.map Rw.xs) (S.map Sy.d) N.length)) w')
    repeat'
     conv => whnf
     first
      | refine zA ?_ | refine zB ?_ | refine zC ?_ | refine zD ?_ | refine zE ?_ | refine zF ?_ | refine zG ?_ | refine zH ?_ | refine zJ ?_ | refine zI ?_ | refine splT ?_ | refine splF ?_ | refine splNot ?_
      | ((first | refine splIn (fun hc => ?_) (fun hc => ?_) | refine splD (fun hc => ?_) (fun hc => ?_) | refine splE (fun hc => ?_) (fun hc => ?_) | refine splNE (fun hc => ?_) (fun hc => ?_)) <;> first | (exfalso; omega) | (exfalso; dsimp only at hc; omega) | skip)
      | ((with_reducible show CallEv _ _ 77 _ _ _ _ _); refine callE (k := 77) (fun β w' hbw => hck _ hbw) ?_)
    all_goals first | (exfalso; omega) | skip
    refine loopN 4 (fun k : Nat => [(1, .v (.slice o S.length c)), (2, .ptr 0 0), (7, .ptr 1 0), (8, oSV 2 3 (bhK N wk (C.map Rw.xs) (S.map Sy.d) k)), (21, .v (.slice no N.length nc)), (22, .v (iv N.length)), (23, .v (iv k))])
      (fun k => (0, .cells [.v (.slice no N.length nc), .v (iv wk), .v (.slice co C.length cc)] 63) :: (1, .cells [.v (.slice no N.length nc), .v (iv wk), .v (.slice co C.length cc), .v (.slice o S.length c)] 129) :: oM 2 3 1 iF 3 (bhK N wk (C.map Rw.xs) (S.map Sy.d) k))
      (fun k => k ≤ N.length) (fun k => N.length - k) 0 (Nat.zero_le _) ⟨rfl, rfl, rfl, rfl, rfl, rfl, rfl, trivial⟩ ⟨rfl, rfl, trivial⟩ (fun k _ => by cases bhK N wk (C.map Rw.xs) (S.map Sy.d) k <;> exact ⟨rfl, rfl⟩) ?_
    intro k hk
    rcases Nat.lt_or_ge k N.length with hkl | hkl
    · obtain ⟨n, hn⟩ : ∃ b, N[k]? = some b := ⟨_, List.getElem?_eq_getElem hkl⟩
      obtain ⟨_, ad, rfl, _⟩ := hN.ptr (by omega)
      have e0 := fun (w' : World) hw' => rd_ati (hN.below (w' := w') hw') hn
      have hT := bhK_succ N wk (C.map Rw.xs) (S.map Sy.d) k
      have hlen := bhK_len N wk (C.map Rw.xs) (S.map Sy.d) k
      have hgk := hgn k
      have hvk := hhv k
      have hbd : bhB N wk (C.map Rw.xs) (S.map Sy.d) k = decide (hsV (C.map Rw.xs) (S.map Sy.d) k < (n * (S.length : Int)).tdiv wk) := by rw [bhB, gt_some hn, hsm]
      rw [gt_some hn] at hgk
      have hm1 : 0 ≤ n * (S.length : Int) ∧ n * (S.length : Int) ≤ 120000 := ⟨Int.mul_nonneg hgk.1 (by omega), by
        have := Int.mul_le_mul hgk.2 (show (S.length : Int) ≤ 60 by omega) (by omega) (by omega : (0 : Int) ≤ 2000)
        omega⟩
      have hm2 := tdiv_bd hm1.1 (show 0 < wk by omega)
      rw [hbd] at hT
      generalize hT' : bhK N wk (C.map Rw.xs) (S.map Sy.d) k = T at *
      by_cases hcmp : hsV (C.map Rw.xs) (S.map Sy.d) k < (n * (S.length : Int)).tdiv wk
      · rw [decide_eq_true hcmp, if_pos rfl] at hT
        cases T with
        | nil =>
          repeat'
           conv => whnf
           first
            | refine zA ?_ | refine zB ?_ | refine zC ?_ | refine zD ?_ | refine zE ?_ | refine zF ?_ | refine zG ?_ | refine zH ?_ | refine zJ ?_ | refine zI ?_ | refine splT ?_ | refine splF ?_ | refine splNot ?_
            | ((first | refine splIn (fun hc => ?_) (fun hc => ?_) | refine splD (fun hc => ?_) (fun hc => ?_) | refine splE (fun hc => ?_) (fun hc => ?_) | refine splNE (fun hc => ?_) (fun hc => ?_)) <;> first | (exfalso; omega) | (exfalso; dsimp only at hc; omega) | skip)
            | refine Exists.intro (α := List Value) [iv n] ⟨⟨rfl, fun w' hw' => e0 w' hw'⟩, ?_⟩
            | ((with_reducible show CallEv _ _ 79 _ _ _ _ _); refine callE (k := 79) (fun β w' hbw => h79b k hkl _ hbw) ?_)
            | refine quoT (by omega) (And.intro (by omega) (by omega)) ?_
          all_goals first
            | (exfalso; omega)
            | exact ⟨k + 1, by omega, by omega, Ent.ren (rho [(2, 5), (3, 6)]) rfl (by rw [hT]; rfl) ⟨rfl, rfl, rfl, by rw [hT]; rfl, rfl, rfl, rfl, trivial⟩ (by rw [hT]; exact ⟨rfl, rfl, rfl, trivial⟩) fun _ h => h⟩
        | cons a T =>
          simp only [List.length_cons] at hlen
          repeat'
           conv => whnf
           first
            | refine zA ?_ | refine zB ?_ | refine zC ?_ | refine zD ?_ | refine zE ?_ | refine zF ?_ | refine zG ?_ | refine zH ?_ | refine zJ ?_ | refine zI ?_ | refine splT ?_ | refine splF ?_ | refine splNot ?_
            | ((first | refine splIn (fun hc => ?_) (fun hc => ?_) | refine splD (fun hc => ?_) (fun hc => ?_) | refine splE (fun hc => ?_) (fun hc => ?_) | refine splNE (fun hc => ?_) (fun hc => ?_)) <;> first | (exfalso; omega) | (exfalso; dsimp only at hc; omega) | skip)
            | refine Exists.intro (α := List Value) [iv n] ⟨⟨rfl, fun w' hw' => e0 w' hw'⟩, ?_⟩
            | ((with_reducible show CallEv _ _ 79 _ _ _ _ _); refine callE (k := 79) (fun β w' hbw => h79b k hkl _ hbw) ?_)
            | refine quoT (by omega) (And.intro (by omega) (by omega)) ?_
          all_goals first
            | (exfalso; omega)
            | exact ⟨k + 1, by omega, by omega, Ent.ren (rho [(2, 5), (3, 6)]) rfl (by rw [hT]; rfl) ⟨rfl, rfl, rfl, by rw [hT]; simp [oSV]; rfl, rfl, rfl, rfl, trivial⟩ (by rw [hT]; exact ⟨rfl, rfl, by simp [oM]; rfl, trivial⟩) fun _ h => h⟩
      · rw [decide_eq_false hcmp, if_neg (by decide), List.append_nil] at hT
        cases T with
        | nil =>
          repeat'
           conv => whnf
           first
            | refine zA ?_ | refine zB ?_ | refine zC ?_ | refine zD ?_ | refine zE ?_ | refine zF ?_ | refine zG ?_ | refine zH ?_ | refine zJ ?_ | refine zI ?_ | refine splT ?_ | refine splF ?_ | refine splNot ?_
            | ((first | refine splIn (fun hc => ?_) (fun hc => ?_) | refine splD (fun hc => ?_) (fun hc => ?_) | refine splE (fun hc => ?_) (fun hc => ?_) | refine splNE (fun hc => ?_) (fun hc => ?_)) <;> first | (exfalso; omega) | (exfalso; dsimp only at hc; omega) | skip)
            | refine Exists.intro (α := List Value) [iv n] ⟨⟨rfl, fun w' hw' => e0 w' hw'⟩, ?_⟩
            | ((with_reducible show CallEv _ _ 79 _ _ _ _ _); refine callE (k := 79) (fun β w' hbw => h79b k hkl _ hbw) ?_)
            | refine quoT (by omega) (And.intro (by omega) (by omega)) ?_
          all_goals first
            | (exfalso; omega)
            | exact ⟨k + 1, by omega, by omega, Ent.weak rfl ⟨rfl, rfl, rfl, by rw [hT]; rfl, rfl, rfl, rfl, trivial⟩ (by rw [hT]; exact ⟨rfl, rfl, trivial⟩) fun _ h => h⟩
        | cons a T =>
          repeat'
           conv => whnf
           first
            | refine zA ?_ | refine zB ?_ | refine zC ?_ | refine zD ?_ | refine zE ?_ | refine zF ?_ | refine zG ?_ | refine zH ?_ | refine zJ ?_ | refine zI ?_ | refine splT ?_ | refine splF ?_ | refine splNot ?_
            | ((first | refine splIn (fun hc => ?_) (fun hc => ?_) | refine splD (fun hc => ?_) (fun hc => ?_) | refine splE (fun hc => ?_) (fun hc => ?_) | refine splNE (fun hc => ?_) (fun hc => ?_)) <;> first | (exfalso; omega) | (exfalso; dsimp only at hc; omega) | skip)
            | refine Exists.intro (α := List Value) [iv n] ⟨⟨rfl, fun w' hw' => e0 w' hw'⟩, ?_⟩
            | ((with_reducible show CallEv _ _ 79 _ _ _ _ _); refine callE (k := 79) (fun β w' hbw => h79b k hkl _ hbw) ?_)
            | refine quoT (by omega) (And.intro (by omega) (by omega)) ?_
          all_goals first
            | (exfalso; omega)
            | exact ⟨k + 1, by omega, by omega, Ent.weak rfl ⟨rfl, rfl, rfl, by rw [hT]; rfl, rfl, rfl, rfl, trivial⟩ (by rw [hT]; exact ⟨rfl, rfl, rfl, trivial⟩) fun _ h => h⟩
    · have hkn : k = N.length := by omega
      subst hkn
      generalize bhK N wk (C.map Rw.xs) (S.map Sy.d) N.length = T at *
      cases T with
      | nil =>
        repeat'
         conv => whnf
         first
          | refine zA ?_ | refine zB ?_ | refine zC ?_ | refine zD ?_ | refine zE ?_ | refine zF ?_ | refine zG ?_ | refine zH ?_ | refine zJ ?_ | refine zI ?_ | refine splT ?_ | refine splF ?_ | refine splNot ?_
          | ((first | refine splIn (fun hc => ?_) (fun hc => ?_) | refine splD (fun hc => ?_) (fun hc => ?_) | refine splE (fun hc => ?_) (fun hc => ?_) | refine splNE (fun hc => ?_) (fun hc => ?_)) <;> first | (exfalso; omega) | (exfalso; dsimp only at hc; omega) | skip)
        all_goals first | (exfalso; omega) | exact ⟨fun w' h => h, fun β w' hB hblk => ⟨(none, 0), rfl, fun w2 k2 => .inl ⟨rfl, rfl⟩⟩⟩
      | cons a T =>
        repeat'
         conv => whnf
         first
          | refine zA ?_ | refine zB ?_ | refine zC ?_ | refine zD ?_ | refine zE ?_ | refine zF ?_ | refine zG ?_ | refine zH ?_ | refine zJ ?_ | refine zI ?_ | refine splT ?_ | refine splF ?_ | refine splNot ?_
          | ((first | refine splIn (fun hc => ?_) (fun hc => ?_) | refine splD (fun hc => ?_) (fun hc => ?_) | refine splE (fun hc => ?_) (fun hc => ?_) | refine splNE (fun hc => ?_) (fun hc => ?_)) <;> first | (exfalso; omega) | (exfalso; dsimp only at hc; omega) | skip)
        all_goals first | (exfalso; omega) | exact ⟨fun w' h => h, fun β w' hB hblk => ⟨(some ⟨β 2, 0, none⟩, β 3), rfl, own_rd rfl (hblk 2 _ rfl rfl)⟩⟩
  · rw [if_neg h0]
    generalize ckE x.N x.wk x.CC (S.map Sy.d) = E at *
    obtain ⟨no, nc, N, wk, co, cc, C⟩ := x
    try dsimp only at hck ⊢
    refine calls_fam env mixed Tryz.func35 has35 Tryz.ntmps35 [.agg #[.slice no N.length nc, iv wk, .slice co C.length cc], .slice o S.length c] (by simp) ?_
    repeat'
     conv => whnf
     first
      | refine zA ?_ | refine zB ?_ | refine zC ?_ | refine zD ?_ | refine zE ?_ | refine zF ?_ | refine zG ?_ | refine zH ?_ | refine zJ ?_ | refine zI ?_ | refine splT ?_ | refine splF ?_ | refine splNot ?_
      | ((first | refine splIn (fun hc => ?_) (fun hc => ?_) | refine splD (fun hc => ?_) (fun hc => ?_) | refine splE (fun hc => ?_) (fun hc => ?_) | refine splNE (fun hc => ?_) (fun hc => ?_)) <;> first | (exfalso; omega) | (exfalso; dsimp only at hc; omega) | skip)
      | ((with_reducible show CallEv _ _ 77 _ _ _ _ _); refine callE (k := 77) (fun β w' hbw => hck _ hbw) ?_)
    all_goals first | (exfalso; omega) | exact ⟨fun w' h => h, fun β w' hB hblk => ⟨(none, 0), rfl, fun w2 k2 => .inl ⟨rfl, rfl⟩⟩⟩
end Go.Proofs.YtpleibfohjbneaaGreat
