/- SchoolCatches: the loop of the weeks that are left; what is left at the end; the law. -/
import Derived.Test.YtpleibfohjbneaaGreatT6
import Derived.Test.YtpleibfohjbneaaGreatSP
namespace Go.Proofs.YtpleibfohjbneaaGreat
open Go Tx Go.RowKit
set_option linter.unusedSimpArgs false
set_option linter.unusedVariables false

/-- What a round of the weeks leads to. -/
def seqB (no : Option Addr) (nc : Nat) (N : List Int) (wk : Int) (co : Option Addr) (cc : Nat) (C : List Rw) (o : Option Addr) (c : Nat) (S : List Sy) (pl : Int) (w : World) (y : ((Nat × Nat) × RwG (C.map Rw.xs))) (k : Nat) (D : List Sy) (Φ : Exit → Sg → Prop) : Exit → Sg → Prop := (blockΦ 3 (seqΦ (fun σ' => ∀ (X : Cx) (a : Act) (w1 : World), Sat X σ' a w1 → ∃ x' : List Sy × List Int, (CaP N wk ((C.map Rw.xs).set k (List.replicate N.length 1000)) S.length x'.1 x'.2 ∧ wk.toNat - x'.1.length < wk.toNat - D.length) ∧ Sat X (cS7 no nc N wk co cc C o c S pl w y k x'.1 x'.2) a w1) Φ))
set_option maxHeartbeats 4000000 in
set_option maxRecDepth 100000 in
theorem Ca7t (no : Option Addr) (nc : Nat) (N : List Int) (wk : Int) (co : Option Addr) (cc : Nat) (C : List Rw) (o : Option Addr) (c : Nat) (S : List Sy) (pl : Int) (w : World) (y : ((Nat × Nat) × RwG (C.map Rw.xs))) (k : Nat) (D : List Sy) (M : List Int) (u1 : Addr) (u2 : Nat) {Φ : Exit → Sg → Prop} (hp : CaP N wk ((C.map Rw.xs).set k (List.replicate N.length 1000)) S.length D M) (hrow : ((C.map Rw.xs).set k (List.replicate N.length 1000))[k]? = some (List.replicate N.length 1000)) (hl : (D.length : Int) < wk) (hw : wk ≤ 60) (hn6 : 1 ≤ N.length ∧ N.length ≤ 6) : VC Tryz.prog (tlD c7i) (cS8 no nc N wk co cc C o c S pl w y k D M (u1, u2)) (seqB no nc N wk co cc C o c S pl w y k D Φ) := by
  unfold seqB cS8
  dsimp only
  refine VC.of env mixed ?_
  cases D with
  | nil =>
    have hXl : ((List.range N.length).map (nxV N wk ((C.map Rw.xs).set k (List.replicate N.length 1000)) (([] : List Sy).map Sy.d))).length = N.length := by simp
    have hXM : ((List.range N.length).map (nxV N wk ((C.map Rw.xs).set k (List.replicate N.length 1000)) (([] : List Sy).map Sy.d))).length = M.length := by rw [hXl, hp.m]
    have hstep := fun o c => hp.step hrow hl o c
    generalize ((List.range N.length).map (nxV N wk ((C.map Rw.xs).set k (List.replicate N.length 1000)) (([] : List Sy).map Sy.d))) = Z at *
    repeat'
     conv => whnf
     first
      | refine zA ?_ | refine zB ?_ | refine zC ?_ | refine zD ?_ | refine zE ?_ | refine zF ?_ | refine zG ?_ | refine zH ?_ | refine zJ ?_ | refine zI ?_ | refine splT ?_ | refine splF ?_ | refine splNot ?_
      | ((first | refine splIn (fun hc => ?_) (fun hc => ?_) | refine splD (fun hc => ?_) (fun hc => ?_) | refine splE (fun hc => ?_) (fun hc => ?_) | refine splNE (fun hc => ?_) (fun hc => ?_)) <;> first | (exfalso; omega) | (exfalso; dsimp only at hc; omega) | skip)
    all_goals first | (exfalso; omega) | skip
    refine loopH 6 (fun j : Nat => [(1, .v (.slice o S.length c)), (3, .ptr 0 0), (7, .ptr 1 0), (8, .v (iv k)), (10, oSV 2 3 ([] : List Sy)), (11, .os 4 5 N.length), (12, .v (.slice (some u1) N.length u2)), (14, .v (iv j))]) (fun j => (0, .cells [.v (.slice no N.length nc), .v (iv wk), .v (.slice co C.length cc)] 56) :: (1, .cells [.v (.slice (some ⟨y.1.1, 0, none⟩) N.length y.1.2), .v (iv wk), .v (.slice (some y.2.o) y.2.D.length y.2.c)] 63) :: (4, .own 5 N.length 1 ((hz M Z j).flatMap iF) 3) :: oM 2 3 2 Sy.cs 73 ([] : List Sy)) (fun _ w2 => (hCw N w y ((C.map Rw.xs).set k (List.replicate N.length 1000)) w2 ∧ ∀ s ∈ ([] : List Sy), Rd 1 iF (.slice s.o s.xs.length s.c) s.xs w2) ∧ Lq N.length Z (u1, u2) w2) (fun j => j ≤ N.length) (fun j => N.length - j) 0 (Nat.zero_le _) ⟨rfl, rfl, rfl, rfl, rfl, rfl, rfl, rfl, trivial⟩ ⟨rfl, rfl, by rw [hz_zero]; rfl, trivial⟩ (fun w2 h => h) (fun _ _ => ⟨rfl, rfl⟩) ?_
    intro j hj
    rcases Nat.lt_or_ge j N.length with hjl | hjl
    · obtain ⟨m, hm⟩ : ∃ m, M[j]? = some m := ⟨_, List.getElem?_eq_getElem (by rw [hp.m]; exact hjl)⟩
      obtain ⟨x, hx⟩ : ∃ x, Z[j]? = some x := ⟨_, List.getElem?_eq_getElem (by omega)⟩
      have hat := hz_at hXM hm
      have hset := hz_set hXM hm hx
      have hln : j < (hz M Z j).length := by rw [hz_len hXM (by rw [hp.m]; omega), hp.m]; exact hjl
      generalize hz M Z j = R0 at *
      repeat'
       conv => whnf
       first
        | refine zA ?_ | refine zB ?_ | refine zC ?_ | refine zD ?_ | refine zE ?_ | refine zF ?_ | refine zG ?_ | refine zH ?_ | refine zJ ?_ | refine zI ?_ | refine splT ?_ | refine splF ?_ | refine splNot ?_
        | ((first | refine splIn (fun hc => ?_) (fun hc => ?_) | refine splD (fun hc => ?_) (fun hc => ?_) | refine splE (fun hc => ?_) (fun hc => ?_) | refine splNE (fun hc => ?_) (fun hc => ?_)) <;> first | (exfalso; omega) | (exfalso; dsimp only at hc; omega) | skip)
        | refine Exists.intro (α := List Value) [iv m] ⟨⟨rfl, atA' hat⟩, ?_⟩
        | refine Exists.intro (α := List Value) [iv x] ⟨⟨rfl, fun w' hw' => rd_ati hw'.2 hx⟩, ?_⟩
        | (refine And.intro (a := _ + _ ≤ List.length _) (stS' hln _) ?_; rw [stE' hln])
      all_goals first | (exfalso; omega) | exact ⟨j + 1, by omega, by omega, Ent.weak rfl ⟨rfl, rfl, rfl, rfl, rfl, rfl, rfl, rfl, trivial⟩ ⟨rfl, rfl, by rw [← hset]; rfl, trivial⟩ fun _ h => h⟩
    · obtain rfl : j = N.length := by omega
      have hfull : hz M Z N.length = List.zipWith imax M Z := by rw [← hp.m]; exact hz_full hXM
      rw [hfull]
      have hh : ∀ w2, ((hCw N w y ((C.map Rw.xs).set k (List.replicate N.length 1000)) w2 ∧ ∀ s ∈ ([] : List Sy), Rd 1 iF (.slice s.o s.xs.length s.c) s.xs w2) ∧ Lq N.length Z (u1, u2) w2) → hCw N w y ((C.map Rw.xs).set k (List.replicate N.length 1000)) w2 ∧ ∀ s ∈ ([] : List Sy) ++ [(⟨k, some u1, u2, Z⟩ : Sy)], Rd 1 iF (.slice s.o s.xs.length s.c) s.xs w2 := fun w2 h => ⟨h.1.1, fun s hs => by
        rcases List.mem_append.1 hs with hs | hs
        · exact h.1.2 s hs
        · rw [List.mem_singleton] at hs; subst hs
          show Rd 1 iF (.slice (some u1) Z.length u2) Z w2
          rw [hXl]; exact h.2⟩
      repeat'
       conv => whnf
       first
        | refine zA ?_ | refine zB ?_ | refine zC ?_ | refine zD ?_ | refine zE ?_ | refine zF ?_ | refine zG ?_ | refine zH ?_ | refine zJ ?_ | refine zI ?_ | refine splT ?_ | refine splF ?_ | refine splNot ?_
        | ((first | refine splIn (fun hc => ?_) (fun hc => ?_) | refine splD (fun hc => ?_) (fun hc => ?_) | refine splE (fun hc => ?_) (fun hc => ?_) | refine splNE (fun hc => ?_) (fun hc => ?_)) <;> first | (exfalso; omega) | (exfalso; dsimp only at hc; omega) | skip)
      all_goals first | (exfalso; omega) | exact fun X a1 w1 h => ⟨(([] : List Sy) ++ [(⟨k, some u1, u2, Z⟩ : Sy)], List.zipWith imax M Z), ⟨hstep _ _, by simp; omega⟩, EntA h (Ent.ren (rho [(2, 7), (3, 8)]) rfl rfl ⟨rfl, rfl, rfl, rfl, rfl, rfl, trivial⟩ ⟨rfl, rfl, rfl, by show _ = some (Blk.ren _ (Blk.own 3 1 2 (Sy.cs ⟨k, some u1, u2, Z⟩ ++ []) 73)); rw [show Sy.cs (⟨k, some u1, u2, Z⟩ : Sy) = [iv k, .slice (some u1) N.length u2] from by show [iv _, Value.slice _ Z.length _] = _; rw [hXl]]; rfl, trivial⟩ hh)⟩
  | cons a l =>
    have hl2 : ((l.length + 1 : Nat) : Int) < wk := hl
    have hXl : ((List.range N.length).map (nxV N wk ((C.map Rw.xs).set k (List.replicate N.length 1000)) ((a :: l).map Sy.d))).length = N.length := by simp
    have hXM : ((List.range N.length).map (nxV N wk ((C.map Rw.xs).set k (List.replicate N.length 1000)) ((a :: l).map Sy.d))).length = M.length := by rw [hXl, hp.m]
    have hstep := fun o c => hp.step hrow hl o c
    generalize ((List.range N.length).map (nxV N wk ((C.map Rw.xs).set k (List.replicate N.length 1000)) ((a :: l).map Sy.d))) = Z at *
    repeat'
     conv => whnf
     first
      | refine zA ?_ | refine zB ?_ | refine zC ?_ | refine zD ?_ | refine zE ?_ | refine zF ?_ | refine zG ?_ | refine zH ?_ | refine zJ ?_ | refine zI ?_ | refine splT ?_ | refine splF ?_ | refine splNot ?_
      | ((first | refine splIn (fun hc => ?_) (fun hc => ?_) | refine splD (fun hc => ?_) (fun hc => ?_) | refine splE (fun hc => ?_) (fun hc => ?_) | refine splNE (fun hc => ?_) (fun hc => ?_)) <;> first | (exfalso; omega) | (exfalso; dsimp only at hc; omega) | skip)
    all_goals first | (exfalso; omega) | skip
    refine loopH 6 (fun j : Nat => [(1, .v (.slice o S.length c)), (3, .ptr 0 0), (7, .ptr 1 0), (8, .v (iv k)), (10, oSV 2 3 (a :: l)), (11, .os 4 5 N.length), (12, .v (.slice (some u1) N.length u2)), (14, .v (iv j))]) (fun j => (0, .cells [.v (.slice no N.length nc), .v (iv wk), .v (.slice co C.length cc)] 56) :: (1, .cells [.v (.slice (some ⟨y.1.1, 0, none⟩) N.length y.1.2), .v (iv wk), .v (.slice (some y.2.o) y.2.D.length y.2.c)] 63) :: (4, .own 5 N.length 1 ((hz M Z j).flatMap iF) 3) :: oM 2 3 2 Sy.cs 73 (a :: l)) (fun _ w2 => (hCw N w y ((C.map Rw.xs).set k (List.replicate N.length 1000)) w2 ∧ ∀ s ∈ (a :: l), Rd 1 iF (.slice s.o s.xs.length s.c) s.xs w2) ∧ Lq N.length Z (u1, u2) w2) (fun j => j ≤ N.length) (fun j => N.length - j) 0 (Nat.zero_le _) ⟨rfl, rfl, rfl, rfl, rfl, rfl, rfl, rfl, trivial⟩ ⟨rfl, rfl, by rw [hz_zero]; rfl, rfl, trivial⟩ (fun w2 h => h) (fun _ _ => ⟨rfl, rfl⟩) ?_
    intro j hj
    rcases Nat.lt_or_ge j N.length with hjl | hjl
    · obtain ⟨m, hm⟩ : ∃ m, M[j]? = some m := ⟨_, List.getElem?_eq_getElem (by rw [hp.m]; exact hjl)⟩
      obtain ⟨x, hx⟩ : ∃ x, Z[j]? = some x := ⟨_, List.getElem?_eq_getElem (by omega)⟩
      have hat := hz_at hXM hm
      have hset := hz_set hXM hm hx
      have hln : j < (hz M Z j).length := by rw [hz_len hXM (by rw [hp.m]; omega), hp.m]; exact hjl
      generalize hz M Z j = R0 at *
      repeat'
       conv => whnf
       first
        | refine zA ?_ | refine zB ?_ | refine zC ?_ | refine zD ?_ | refine zE ?_ | refine zF ?_ | refine zG ?_ | refine zH ?_ | refine zJ ?_ | refine zI ?_ | refine splT ?_ | refine splF ?_ | refine splNot ?_
        | ((first | refine splIn (fun hc => ?_) (fun hc => ?_) | refine splD (fun hc => ?_) (fun hc => ?_) | refine splE (fun hc => ?_) (fun hc => ?_) | refine splNE (fun hc => ?_) (fun hc => ?_)) <;> first | (exfalso; omega) | (exfalso; dsimp only at hc; omega) | skip)
        | refine Exists.intro (α := List Value) [iv m] ⟨⟨rfl, atA' hat⟩, ?_⟩
        | refine Exists.intro (α := List Value) [iv x] ⟨⟨rfl, fun w' hw' => rd_ati hw'.2 hx⟩, ?_⟩
        | (refine And.intro (a := _ + _ ≤ List.length _) (stS' hln _) ?_; rw [stE' hln])
      all_goals first | (exfalso; omega) | exact ⟨j + 1, by omega, by omega, Ent.weak rfl ⟨rfl, rfl, rfl, rfl, rfl, rfl, rfl, rfl, trivial⟩ ⟨rfl, rfl, by rw [← hset]; rfl, rfl, trivial⟩ fun _ h => h⟩
    · obtain rfl : j = N.length := by omega
      have hfull : hz M Z N.length = List.zipWith imax M Z := by rw [← hp.m]; exact hz_full hXM
      rw [hfull]
      have hh : ∀ w2, ((hCw N w y ((C.map Rw.xs).set k (List.replicate N.length 1000)) w2 ∧ ∀ s ∈ (a :: l), Rd 1 iF (.slice s.o s.xs.length s.c) s.xs w2) ∧ Lq N.length Z (u1, u2) w2) → hCw N w y ((C.map Rw.xs).set k (List.replicate N.length 1000)) w2 ∧ ∀ s ∈ (a :: l) ++ [(⟨k, some u1, u2, Z⟩ : Sy)], Rd 1 iF (.slice s.o s.xs.length s.c) s.xs w2 := fun w2 h => ⟨h.1.1, fun s hs => by
        rcases List.mem_append.1 hs with hs | hs
        · exact h.1.2 s hs
        · rw [List.mem_singleton] at hs; subst hs
          show Rd 1 iF (.slice (some u1) Z.length u2) Z w2
          rw [hXl]; exact h.2⟩
      repeat'
       conv => whnf
       first
        | refine zA ?_ | refine zB ?_ | refine zC ?_ | refine zD ?_ | refine zE ?_ | refine zF ?_ | refine zG ?_ | refine zH ?_ | refine zJ ?_ | refine zI ?_ | refine splT ?_ | refine splF ?_ | refine splNot ?_
        | ((first | refine splIn (fun hc => ?_) (fun hc => ?_) | refine splD (fun hc => ?_) (fun hc => ?_) | refine splE (fun hc => ?_) (fun hc => ?_) | refine splNE (fun hc => ?_) (fun hc => ?_)) <;> first | (exfalso; omega) | (exfalso; dsimp only at hc; omega) | skip)
      all_goals first | (exfalso; omega) | exact fun X a1 w1 h => ⟨((a :: l) ++ [(⟨k, some u1, u2, Z⟩ : Sy)], List.zipWith imax M Z), ⟨hstep _ _, by simp; omega⟩, EntA h (Ent.ren (rho [(2, 7), (3, 8)]) rfl rfl ⟨rfl, rfl, rfl, rfl, by simp [oSV]; rfl, rfl, trivial⟩ ⟨rfl, rfl, rfl, by simp [oM, Sy.cs, hXl]; rfl, trivial⟩ hh)⟩
set_option maxHeartbeats 4000000 in
set_option maxRecDepth 100000 in
theorem Ca7 (no : Option Addr) (nc : Nat) (N : List Int) (wk : Int) (co : Option Addr) (cc : Nat) (C : List Rw) (o : Option Addr) (c : Nat) (S : List Sy) (pl : Int) (w : World) (y : ((Nat × Nat) × RwG (C.map Rw.xs))) (k : Nat) (hX : CrIn ⟨no, nc, N, wk, co, cc, C⟩ w) (hE : ckE N wk (C.map Rw.xs) (S.map Sy.d) = 0) (hk : k < C.length) (hsl : S.length ≤ 1000000)
    (h8 : ∀ D M, CaP N wk ((C.map Rw.xs).set k (List.replicate N.length 1000)) S.length D M → (D.length : Int) = wk → VC Tryz.prog (tlD c7x) (cS7 no nc N wk co cc C o c S pl w y k D M) (endΦ env Tryz.f8 fun s σ => (∀ β, s.c β = .bool true) ∧ ∀ w', σ.h w' → Below w.heap.size w w')) (D0 : List Sy) (M0 : List Int) (hp0 : CaP N wk ((C.map Rw.xs).set k (List.replicate N.length 1000)) S.length D0 M0) : VC Tryz.prog c7x (cS7 no nc N wk co cc C o c S pl w y k D0 M0) (endΦ env Tryz.f8 fun s σ => (∀ β, s.c β = .bool true) ∧ ∀ w', σ.h w' → Below w.heap.size w w') := by
  have hy := YrOk.of hE
  have hn6 := hy.n6
  have hw := hy.w
  have hrow : ((C.map Rw.xs).set k (List.replicate N.length 1000))[k]? = some (List.replicate N.length 1000) := by rw [List.getElem?_set, if_pos rfl, if_pos (by simp; exact hk)]
  have hzz : ∀ D : List Sy, ckE N wk ((C.map Rw.xs).set k (List.replicate N.length 1000)) (D.map Sy.d) = 0 → SzOk N ((C.map Rw.xs).set k (List.replicate N.length 1000)) (D.map Sy.d) := fun D hD => by
    have h := YrOk.of hD
    have h1 := h.n6
    have h2 := h.c1
    have h3 := h.sl
    have h4 := h.w
    exact ⟨by omega, by omega, fun l hl => by have := (h.r l hl).1; omega, by omega, fun s hs => by have := (h.s s hs).2.1; omega⟩
  rw [c7_eq]
  refine VC.seq (f := fun σ' => ∃ D M, (CaP N wk ((C.map Rw.xs).set k (List.replicate N.length 1000)) S.length D M ∧ (D.length : Int) = wk) ∧ Ent σ' (cS7 no nc N wk co cc C o c S pl w y k D M)) ?_ (fun σ' ⟨D, M, hp, hσ⟩ => VC.ent (h8 D M hp.1 hp.2) hσ (cS7_ok no nc N wk co cc C o c S pl w y k D M))
  refine VC.block (VC.loop (List Sy × List Int) (fun x => cS7 no nc N wk co cc C o c S pl w y k x.1 x.2) (fun x => CaP N wk ((C.map Rw.xs).set k (List.replicate N.length 1000)) S.length x.1 x.2) (fun x => wk.toNat - x.1.length) (fun X a w1 h => ⟨(D0, M0), hp0, h⟩) ?_)
  intro ⟨D, M⟩ hp
  refine ⟨cS7_ok no nc N wk co cc C o c S pl w y k D M, ?_⟩
  dsimp only at hp ⊢
  have hDl : (D.length : Int) ≤ wk := by have := (YrOk.of hp.e).sl; rwa [List.length_map] at this
  by_cases hl : (D.length : Int) < wk
  · refine VC.seq (f := fun σ' => Ent σ' (cS7 no nc N wk co cc C o c S pl w y k D M)) (VC.of env mixed ?_) (fun σ' hσ' => VC.ent (VC.block ?_) hσ' (cS7_ok no nc N wk co cc C o c S pl w y k D M))
    · cases D with
      | nil =>
        have hl2 : (0 : Int) < wk := hl
        repeat'
         conv => whnf
         first
          | refine zA ?_ | refine zB ?_ | refine zC ?_ | refine zD ?_ | refine zE ?_ | refine zF ?_ | refine zG ?_ | refine zH ?_ | refine zJ ?_ | refine zI ?_ | refine splT ?_ | refine splF ?_ | refine splNot ?_
          | ((first | refine splIn (fun hc => ?_) (fun hc => ?_) | refine splD (fun hc => ?_) (fun hc => ?_) | refine splE (fun hc => ?_) (fun hc => ?_) | refine splNE (fun hc => ?_) (fun hc => ?_)) <;> first | (exfalso; omega) | (exfalso; dsimp only at hc; omega) | skip)
        all_goals first | (exfalso; omega) | exact Ent.weak rfl ⟨rfl, rfl, rfl, rfl, rfl, rfl, trivial⟩ ⟨rfl, rfl, rfl, trivial⟩ fun _ h => h
      | cons a l =>
        have hl2 : ((l.length + 1 : Nat) : Int) < wk := hl
        repeat'
         conv => whnf
         first
          | refine zA ?_ | refine zB ?_ | refine zC ?_ | refine zD ?_ | refine zE ?_ | refine zF ?_ | refine zG ?_ | refine zH ?_ | refine zJ ?_ | refine zI ?_ | refine splT ?_ | refine splF ?_ | refine splNot ?_
          | ((first | refine splIn (fun hc => ?_) (fun hc => ?_) | refine splD (fun hc => ?_) (fun hc => ?_) | refine splE (fun hc => ?_) (fun hc => ?_) | refine splNE (fun hc => ?_) (fun hc => ?_)) <;> first | (exfalso; omega) | (exfalso; dsimp only at hc; omega) | skip)
        all_goals first | (exfalso; omega) | exact Ent.weak rfl ⟨rfl, rfl, rfl, rfl, rfl, rfl, trivial⟩ ⟨rfl, rfl, rfl, rfl, trivial⟩ fun _ h => h
    · exact Ca7r no nc N wk co cc C o c S pl w y k D M hp.e (hzz D hp.e) hl hn6 fun u => Ca7t no nc N wk co cc C o c S pl w y k D M u.1 u.2 hp hrow hl hw.2 hn6
  · have hl3 : (D.length : Int) = wk := by omega
    refine VC.seq (f := fun _ => False) (VC.of env mixed ?_) (fun _ h => h.elim)
    cases D with
    | nil => simp at hl3; omega
    | cons a l =>
      have hl2 : ((l.length + 1 : Nat) : Int) = wk := hl3
      repeat'
       conv => whnf
       first
        | refine zA ?_ | refine zB ?_ | refine zC ?_ | refine zD ?_ | refine zE ?_ | refine zF ?_ | refine zG ?_ | refine zH ?_ | refine zJ ?_ | refine zI ?_ | refine splT ?_ | refine splF ?_ | refine splNot ?_
        | ((first | refine splIn (fun hc => ?_) (fun hc => ?_) | refine splD (fun hc => ?_) (fun hc => ?_) | refine splE (fun hc => ?_) (fun hc => ?_) | refine splNE (fun hc => ?_) (fun hc => ?_)) <;> first | (exfalso; omega) | (exfalso; dsimp only at hc; omega) | skip)
      all_goals first | (exfalso; omega) | exact ⟨a :: l, M, ⟨hp, hl3⟩, Ent.weak rfl ⟨rfl, rfl, rfl, rfl, rfl, rfl, trivial⟩ ⟨rfl, rfl, rfl, rfl, trivial⟩ fun _ h => h⟩
set_option maxHeartbeats 4000000 in
set_option maxRecDepth 100000 in
theorem Ca8 (no : Option Addr) (nc : Nat) (N : List Int) (wk : Int) (co : Option Addr) (cc : Nat) (C : List Rw) (o : Option Addr) (c : Nat) (S : List Sy) (pl : Int) (w : World) (y : ((Nat × Nat) × RwG (C.map Rw.xs))) (k : Nat) (D : List Sy) (M : List Int) (hX : CrIn ⟨no, nc, N, wk, co, cc, C⟩ w) (hE : ckE N wk (C.map Rw.xs) (S.map Sy.d) = 0) (hs62 : S.length ≤ 62) (hp : CaP N wk ((C.map Rw.xs).set k (List.replicate N.length 1000)) S.length D M) (hw : (D.length : Int) = wk) : VC Tryz.prog (tlD c7x) (cS7 no nc N wk co cc C o c S pl w y k D M) (endΦ env Tryz.f8 fun s σ => (∀ β, s.c β = .bool true) ∧ ∀ w', σ.h w' → Below w.heap.size w w') := by
  have hyD := YrOk.of hp.e
  have hn6 := hyD.n6
  have hw60 := hyD.w
  have hM := hp.m
  have hz : SzOk N ((C.map Rw.xs).set k (List.replicate N.length 1000)) (D.map Sy.d) := by
    have h2 := hyD.c1
    have h3 := hyD.sl
    exact ⟨by omega, by omega, fun l hl => by have := (hyD.r l hl).1; omega, by omega, fun s hs => by have := (hyD.s s hs).2.1; omega⟩
  have hB := fun j (hj : j < N.length) => show (bK N ((C.map Rw.xs).set k (List.replicate N.length 1000)) (D.map Sy.d) N.length)[j]? = some (lfV N ((C.map Rw.xs).set k (List.replicate N.length 1000)) (D.map Sy.d) j) from by unfold bK; rw [List.getElem?_map, List.getElem?_range hj]; rfl
  have hlaw : ∀ j, j < N.length → ∃ m, M[j]? = some m ∧ (0 ≤ m ∧ m ≤ 20) ∧ (S.length < wk → m < 20 → lfV N ((C.map Rw.xs).set k (List.replicate N.length 1000)) (D.map Sy.d) j = 0) := fun j hj => by
    obtain ⟨m, hm⟩ : ∃ m, M[j]? = some m := ⟨_, List.getElem?_eq_getElem (by omega)⟩
    exact ⟨m, hm, hp.b m (List.mem_of_getElem? hm), fun h1 h2 => hp.h h1 hw j hj m hm h2⟩
  cases D with
  | nil => simp at hw; omega
  | cons a l =>
    have h29 : ∀ w' (hh : hCw N w y ((C.map Rw.xs).set k (List.replicate N.length 1000)) w' ∧ ∀ s ∈ a :: l, Rd 1 iF (.slice s.o s.xs.length s.c) s.xs w') (b0 b1 : Nat) (hr : w'.ownsRow 0 73 2 (.slice (some ⟨b0, 0, none⟩) (l.length + 1) b1) (l.length + 1) ((a :: l).flatMap Sy.cs)), Calls Tryz.prog 29 #[.agg #[.slice (some ⟨y.1.1, 0, none⟩) N.length y.1.2, iv wk, .slice (some y.2.o) y.2.D.length y.2.c], .slice (some ⟨b0, 0, none⟩) (l.length + 1) b1] w' fun e w2 => ∃ u : (Addr × Nat) × (Addr × Nat), e = .returned (hyV N.length u) ∧ Below w'.heap.size w' w2 ∧ St w'.heap.size (hyH N ((C.map Rw.xs).set k (List.replicate N.length 1000)) ((a :: l).map Sy.d) u) w2 := fun w' hh b0 b1 hr => by
      obtain ⟨⟨⟨z1, z2⟩, z3, z4, z5, z6⟩, q0, q1, q2, q3, q4, q5⟩ := hCw_rd hh.1 (List.length_set ..)
      dsimp only at q1 q2 q3 q4 q5
      subst q1 q2 q3 q5
      have := Has_at (wk := wk) hz hp.e hn6.1 _ ⟨some ⟨b0, 0, none⟩, b1, a :: l, rfl⟩ w' q0 ⟨Rd.of_owns (sz := 2) (f := Sy.cs) (fun _ => rfl) rfl rfl hr, hh.2⟩
      dsimp only at this
      rw [q4] at this
      exact this
    refine VC.of env mixed ?_
    repeat'
     conv => whnf
     first
      | refine zA ?_ | refine zB ?_ | refine zC ?_ | refine zD ?_ | refine zE ?_ | refine zF ?_ | refine zG ?_ | refine zH ?_ | refine zJ ?_ | refine zI ?_ | refine splT ?_ | refine splF ?_ | refine splNot ?_
      | ((first | refine splIn (fun hc => ?_) (fun hc => ?_) | refine splD (fun hc => ?_) (fun hc => ?_) | refine splE (fun hc => ?_) (fun hc => ?_) | refine splNE (fun hc => ?_) (fun hc => ?_)) <;> first | (exfalso; omega) | (exfalso; dsimp only at hc; omega) | skip)
      | ((with_reducible show CallEv _ _ 29 _ _ _ _ _); refine callF [2] (hyV N.length) (hyH N ((C.map Rw.xs).set k (List.replicate N.length 1000)) ((a :: l).map Sy.d)) (fun β w' hbk hbw => h29 w' hbw (β 2) (β 3) (hbk 2 (by simp) _ rfl)) ?_; intro u; obtain ⟨⟨u1, u2⟩, u3, u4⟩ := u; dsimp only)
    all_goals first | (exfalso; omega) | skip
    refine loopH 6 (fun j : Nat => [(1, .v (.slice o S.length c)), (3, .ptr 0 0), (11, .os 4 5 N.length), (16, .v (.slice (some u3) N.length u4)), (18, .v (iv j))]) (fun j => (0, .cells [.v (.slice no N.length nc), .v (iv wk), .v (.slice co C.length cc)] 56) :: [(4, .own 5 N.length 1 (M.flatMap iF) 3)]) (fun _ w2 => (hCw N w y ((C.map Rw.xs).set k (List.replicate N.length 1000)) w2 ∧ ∀ s ∈ a :: l, Rd 1 iF (.slice s.o s.xs.length s.c) s.xs w2) ∧ hyH N ((C.map Rw.xs).set k (List.replicate N.length 1000)) ((a :: l).map Sy.d) ((u1, u2), u3, u4) w2) (fun j => j ≤ N.length) (fun j => N.length - j) 0 (Nat.zero_le _) ⟨rfl, rfl, rfl, rfl, rfl, trivial⟩ ⟨rfl, rfl, trivial⟩ (fun w2 h => h) (fun _ _ => ⟨rfl, rfl⟩) ?_
    intro j hj
    rcases Nat.lt_or_ge j N.length with hjl | hjl
    · obtain ⟨m, hm, hmb, hlw⟩ := hlaw j hjl
      have hb := hB j hjl
      generalize lfV N ((C.map Rw.xs).set k (List.replicate N.length 1000)) ((a :: l).map Sy.d) j = b at *
      by_cases h1 : (S.length : Int) < wk
      · by_cases h2 : m < 20
        · have hb0 := hlw h1 h2
          repeat'
           conv => whnf
           first
            | refine zA ?_ | refine zB ?_ | refine zC ?_ | refine zD ?_ | refine zE ?_ | refine zF ?_ | refine zG ?_ | refine zH ?_ | refine zJ ?_ | refine zI ?_ | refine splT ?_ | refine splF ?_ | refine splNot ?_
            | ((first | refine splIn (fun hc => ?_) (fun hc => ?_) | refine splD (fun hc => ?_) (fun hc => ?_) | refine splE (fun hc => ?_) (fun hc => ?_) | refine splNE (fun hc => ?_) (fun hc => ?_)) <;> first | (exfalso; omega) | (exfalso; dsimp only at hc; omega) | skip)
            | refine Exists.intro (α := List Value) [iv m] ⟨⟨rfl, atA' hm⟩, ?_⟩
            | refine Exists.intro (α := List Value) [iv b] ⟨⟨rfl, fun w' hw' => rd_ati hw'.2.2 hb⟩, ?_⟩
          all_goals first | (exfalso; omega) | exact ⟨j + 1, by omega, by omega, Ent.weak rfl ⟨rfl, rfl, rfl, rfl, rfl, trivial⟩ ⟨rfl, rfl, trivial⟩ fun _ h => h⟩
        · skip
          repeat'
           conv => whnf
           first
            | refine zA ?_ | refine zB ?_ | refine zC ?_ | refine zD ?_ | refine zE ?_ | refine zF ?_ | refine zG ?_ | refine zH ?_ | refine zJ ?_ | refine zI ?_ | refine splT ?_ | refine splF ?_ | refine splNot ?_
            | ((first | refine splIn (fun hc => ?_) (fun hc => ?_) | refine splD (fun hc => ?_) (fun hc => ?_) | refine splE (fun hc => ?_) (fun hc => ?_) | refine splNE (fun hc => ?_) (fun hc => ?_)) <;> first | (exfalso; omega) | (exfalso; dsimp only at hc; omega) | skip)
            | refine Exists.intro (α := List Value) [iv m] ⟨⟨rfl, atA' hm⟩, ?_⟩
            | refine Exists.intro (α := List Value) [iv b] ⟨⟨rfl, fun w' hw' => rd_ati hw'.2.2 hb⟩, ?_⟩
          all_goals first | (exfalso; omega) | exact ⟨j + 1, by omega, by omega, Ent.weak rfl ⟨rfl, rfl, rfl, rfl, rfl, trivial⟩ ⟨rfl, rfl, trivial⟩ fun _ h => h⟩
      · skip
        repeat'
         conv => whnf
         first
          | refine zA ?_ | refine zB ?_ | refine zC ?_ | refine zD ?_ | refine zE ?_ | refine zF ?_ | refine zG ?_ | refine zH ?_ | refine zJ ?_ | refine zI ?_ | refine splT ?_ | refine splF ?_ | refine splNot ?_
          | ((first | refine splIn (fun hc => ?_) (fun hc => ?_) | refine splD (fun hc => ?_) (fun hc => ?_) | refine splE (fun hc => ?_) (fun hc => ?_) | refine splNE (fun hc => ?_) (fun hc => ?_)) <;> first | (exfalso; omega) | (exfalso; dsimp only at hc; omega) | skip)
          | refine Exists.intro (α := List Value) [iv m] ⟨⟨rfl, atA' hm⟩, ?_⟩
          | refine Exists.intro (α := List Value) [iv b] ⟨⟨rfl, fun w' hw' => rd_ati hw'.2.2 hb⟩, ?_⟩
        all_goals first | (exfalso; omega) | exact ⟨j + 1, by omega, by omega, Ent.weak rfl ⟨rfl, rfl, rfl, rfl, rfl, trivial⟩ ⟨rfl, rfl, trivial⟩ fun _ h => h⟩
    · skip
      repeat'
       conv => whnf
       first
        | refine zA ?_ | refine zB ?_ | refine zC ?_ | refine zD ?_ | refine zE ?_ | refine zF ?_ | refine zG ?_ | refine zH ?_ | refine zJ ?_ | refine zI ?_ | refine splT ?_ | refine splF ?_ | refine splNot ?_
        | ((first | refine splIn (fun hc => ?_) (fun hc => ?_) | refine splD (fun hc => ?_) (fun hc => ?_) | refine splE (fun hc => ?_) (fun hc => ?_) | refine splNE (fun hc => ?_) (fun hc => ?_)) <;> first | (exfalso; omega) | (exfalso; dsimp only at hc; omega) | skip)
        | ((with_reducible show CallEv _ _ 16 _ _ _ _ _); refine callE (k := 16) (fun β w' hbw => awake_calls w') ?_)
      all_goals first | (exfalso; omega) | exact ⟨fun β => rfl, fun w' h => h.1.1.1⟩
theorem SchoolCatches_ok (x : Cr) (o : Option Addr) (c : Nat) (S : List Sy) (pl : Int) (w : World) (hX : CrX x w) (hY : SyX o c S w) (ht : 0 ≤ pl ∧ pl ≤ 255) :
    Calls Tryz.prog 8 #[x.v, .slice o S.length c, .int .u8 pl] w fun e w' => e = .returned (.bool true) ∧ Below w.heap.size w w' := by
  obtain ⟨no, nc, N, wk, co, cc, C⟩ := x
  by_cases hb : crOk N wk (C.map Rw.xs) = true ∧ shB (S.map Sy.d) = true ∧ stE N.length (C.map Rw.xs).length wk (S.map Sy.d) = 0
  · obtain ⟨hc, hs, hF⟩ := hb
    have hI : CrIn ⟨no, nc, N, wk, co, cc, C⟩ w := hX.cin (thB_ofA (wk := wk) hc)
    have hJ := hY.sin hs
    have hE : ckE N wk (C.map Rw.xs) (S.map Sy.d) = 0 := ckE_of hc hF
    have hy := YrOk.of hE
    have h62 : S.length ≤ 62 := by have h1 := hy.sl; have h2 := hy.w; rw [List.length_map] at h1; omega
    exact Ca_top no nc N wk co cc C o c S pl w hI hJ hY hc hs hF <| Ca4 no nc N wk co cc C o c S pl w hI hE ht fun k y hk => Ca5 no nc N wk co cc C o c S pl w y k hI hE hk <| Ca6 no nc N wk co cc C o c S pl w y k hI hJ hE hk fun D0 M0 hp0 =>
      Ca7 no nc N wk co cc C o c S pl w y k hI hE hk hJ.sl (fun D M hp hw => Ca8 no nc N wk co cc C o c S pl w y k D M hI hE h62 hp hw) D0 M0 hp0
  · exact Ca_bad no nc N wk co cc C o c S pl w hX hY hb
end Go.Proofs.YtpleibfohjbneaaGreat
