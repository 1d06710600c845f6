/- Best: what it returns. -/
import Derived.Test.YthfabodamhdhaaaRU
namespace Go.Proofs.Ythfabodamhdhaaa
open Go Tx Go.RowKit
set_option linter.unusedSimpArgs false
set_option linter.unusedVariables false
def bsV (x : To) : List (Int × Int × Int) × Int × Int := if toB x = true then (bsS x, hmO x (ALO x) 0 0 0, 0) else ([], 0, 1)
set_option maxHeartbeats 4000000 in
set_option maxRecDepth 100000 in
theorem Best_ok (x : Tr) (w : World) (h : TrIn x w) :
 Calls Try.prog 20 #[x.v] w fun e w' => ∃ y : Option Addr × Nat, e = .returned (.tuple #[sV (bsV x.d).1.length y, iv (bsV x.d).2.1, iv (bsV x.d).2.2]) ∧ Below w.heap.size w w' ∧ St w.heap.size (Rd 3 spF (sV (bsV x.d).1.length y) (bsV x.d).1) w' := by
 have hv := fun w' hb => valid_ok x w' (h.below hb)
 refine calls_fam env mixed Try.func20 has20 Try.ntmps20 [.agg #[iv x.days, iv x.shift, iv x.size, .slice x.to x.T.length x.tc, .slice x.lo x.L.length x.lc]] (by simp) ?_
 unfold bsV
 cases hb : toB x.d with
 | false =>
  rw [hb] at hv
  clear h hb
  obtain ⟨days, shift, size, to, tc, T, lo, lc, L⟩ := x
  repeat'
   conv => whnf
   first
    | refine zA ?_ | refine zB ?_ | refine zC ?_ | refine zD ?_ | refine zE ?_ | refine zF ?_ | refine zG ?_ | refine zH ?_ | refine zJ ?_ | refine zI ?_ | refine splT ?_ | refine splF ?_ | refine splNot ?_
    | ((first | refine splIn ?_ ?_ | refine splD ?_ ?_ | refine splE ?_ ?_ | refine splNE ?_ ?_) <;> intro hc <;> first | (exfalso; omega) | (exfalso; dsimp only at hc; omega) | skip)
    | ((with_reducible show CallEv _ _ 56 _ _ _ _ _); refine callE (k := 56) (fun β w' hbw => hv w' hbw) ?_)
  exact ⟨fun w' h => h, fun β w' hB hblk => ⟨(none, 0), rfl, fun _ _ => .inl ⟨rfl, rfl⟩⟩⟩
 | true =>
  rw [hb] at hv
  have hn := toB_n hb
  have hpl := fun β w' hb => plan_F x w' (h.below hb) hn β
  rw [if_pos rfl]
  dsimp only
  obtain ⟨days, shift, size, to, tc, T, lo, lc, L⟩ := x
  have hnT := hn.n
  simp only [Tr.d, List.length_map] at hnT
  have hH : ∀ p : Alp × Nat × Nat × Nat × Nat, p.2.1 = T.length → HomeC ⟨days, shift, size, to, tc, T, lo, lc, L⟩ (ALO (Tr.d ⟨days, shift, size, to, tc, T, lo, lc, L⟩)) p.1 p.2.1 p.2.2.1 p.2.2.2.1 p.2.2.2.2 0 0 0 := fun p hp => (plan_all (x := ⟨days, shift, size, to, tc, T, lo, lc, L⟩) (AL := ALO (Tr.d ⟨days, shift, size, to, tc, T, lo, lc, L⟩)) hp hn (ALO_ok hn) (ALO_len hn) _ 0 (by decide) rfl).1 0 0 (by show 0 < T.length; omega) (by decide)
  have hPp : ∀ (p : Alp × Nat × Nat × Nat × Nat) w2, (Below w.heap.size w w2 ∧ p.2.1 = T.length ∧ AlIn (Tr.d ⟨days, shift, size, to, tc, T, lo, lc, L⟩) (ALO (Tr.d ⟨days, shift, size, to, tc, T, lo, lc, L⟩)) p.1 w2) → Hp ⟨days, shift, size, to, tc, T, lo, lc, L⟩ (ALO (Tr.d ⟨days, shift, size, to, tc, T, lo, lc, L⟩)) p.1 w2 := fun p w2 hh => ⟨h.below hh.1, hh.2.2⟩
  have hm1 : ∀ (p : Alp × Nat × Nat × Nat × Nat) i b, lk (MB1 ⟨days, shift, size, to, tc, T, lo, lc, L⟩ (ALO (Tr.d ⟨days, shift, size, to, tc, T, lo, lc, L⟩)) p.1 p.2.1 p.2.2.1 p.2.2.2.1 p.2.2.2.2) i = some b → 1 ≤ i ∧ i < 1 + 6 ∧ b.lt (1 + 6) = true ∧ b.live = true := fun p i b hi => by
   have hm := lk_mem hi
   simp only [MB1, List.mem_cons, Prod.mk.injEq, List.not_mem_nil, or_false] at hm
   rcases hm with ⟨rfl, rfl⟩ | ⟨rfl, rfl⟩ | ⟨rfl, rfl⟩ | ⟨rfl, rfl⟩ | ⟨rfl, rfl⟩ | ⟨rfl, rfl⟩ <;> exact ⟨by decide, by decide, rfl, rfl⟩
  repeat'
   conv => whnf
   first
    | refine zA ?_ | refine zB ?_ | refine zC ?_ | refine zD ?_ | refine zE ?_ | refine zF ?_ | refine zG ?_ | refine zH ?_ | refine zJ ?_ | refine zI ?_ | refine splT ?_ | refine splF ?_ | refine splNot ?_
    | ((first | refine splIn ?_ ?_ | refine splD ?_ ?_ | refine splE ?_ ?_ | refine splNE ?_ ?_) <;> intro hc <;> first | (exfalso; omega) | (exfalso; dsimp only at hc; omega) | skip)
    | ((with_reducible show CallEv _ _ 56 _ _ _ _ _); refine callE (k := 56) (fun β w' hbw => hv w' hbw) ?_)
    | ((with_reducible show CallEv _ _ 57 _ _ _ _ _); refine callFR [] 6 (.ptr 3 0) (fun p : Alp × Nat × Nat × Nat × Nat => MB1 ⟨days, shift, size, to, tc, T, lo, lc, L⟩ (ALO (Tr.d ⟨days, shift, size, to, tc, T, lo, lc, L⟩)) p.1 p.2.1 p.2.2.1 p.2.2.2.1 p.2.2.2.2) (fun p w2 => p.2.1 = T.length ∧ AlIn (Tr.d ⟨days, shift, size, to, tc, T, lo, lc, L⟩) (ALO (Tr.d ⟨days, shift, size, to, tc, T, lo, lc, L⟩)) p.1 w2) hm1 rfl (fun β w' _ hbw => hpl β w' hbw) ?_; intro p)
  repeat'
   conv => whnf
   first
    | refine zA ?_ | refine zB ?_ | refine zC ?_ | refine zD ?_ | refine zE ?_ | refine zF ?_ | refine zG ?_ | refine zH ?_ | refine zJ ?_ | refine zI ?_ | refine splT ?_ | refine splF ?_ | refine splNot ?_
    | ((first | refine splIn ?_ ?_ | refine splD ?_ ?_ | refine splE ?_ ?_ | refine splNE ?_ ?_) <;> intro hc <;> first | (exfalso; omega) | (exfalso; dsimp only at hc; omega) | skip)
    | refine nilE rfl rfl ?_
    | ((with_reducible show CallEv _ _ 97 _ _ _ _ _); refine callWR [1, 2, 3, 4, 5, 6] [(5, .obj p.2.2.2.1 (MpOk Try.prog 118 (stD (hmO (Tr.d ⟨days, shift, size, to, tc, T, lo, lc, L⟩) (ALO (Tr.d ⟨days, shift, size, to, tc, T, lo, lc, L⟩)))))), (6, .obj p.2.2.2.2 (MpOk Try.prog 118 (stD (bgO (Tr.d ⟨days, shift, size, to, tc, T, lo, lc, L⟩) (ALO (Tr.d ⟨days, shift, size, to, tc, T, lo, lc, L⟩))))))] (iv (hmO (Tr.d ⟨days, shift, size, to, tc, T, lo, lc, L⟩) (ALO (Tr.d ⟨days, shift, size, to, tc, T, lo, lc, L⟩)) 0 0 0)) rfl (fun β w' h1 h2 hs2 => (hH p (hs2 w' (Chg.refl _ _)).2.1 (fun i => β (i + 1)) w' (PS.of1 (x := ⟨days, shift, size, to, tc, T, lo, lc, L⟩) (AL := ALO (Tr.d ⟨days, shift, size, to, tc, T, lo, lc, L⟩)) (aa := p.1) (an := p.2.1) (ac := p.2.2.1) (b1 := p.2.2.2.1) (b2 := p.2.2.2.2) (lk6 rfl rfl rfl rfl rfl rfl) h1 h2) (fun w2 hc => hPp p w2 (hs2 w2 (chg_six1 (x := ⟨days, shift, size, to, tc, T, lo, lc, L⟩) (AL := ALO (Tr.d ⟨days, shift, size, to, tc, T, lo, lc, L⟩)) (aa := p.1) (an := p.2.1) (ac := p.2.2.1) (b1 := p.2.2.2.1) (b2 := p.2.2.2.2) (lk6 rfl rfl rfl rfl rfl rfl) hc)))).mono fun e w2 ⟨e1, e2, e3⟩ => ⟨e1, (PS.of1 (x := ⟨days, shift, size, to, tc, T, lo, lc, L⟩) (AL := ALO (Tr.d ⟨days, shift, size, to, tc, T, lo, lc, L⟩)) (aa := p.1) (an := p.2.1) (ac := p.2.2.1) (b1 := p.2.2.2.1) (b2 := p.2.2.2.2) (lk6 rfl rfl rfl rfl rfl rfl) h1 h2).chg1 e2, e3.out1⟩) ?_)
  refine loopN 10 (fun y : Nat × Nat × Nat × Nat × List (Int × Int × Int) => [(2, oSV 8 9 y.2.2.2.2), (3, .v (iv (hmO (Tr.d ⟨days, shift, size, to, tc, T, lo, lc, L⟩) (ALO (Tr.d ⟨days, shift, size, to, tc, T, lo, lc, L⟩)) 0 0 0))), (4, .v (iv 0)), (5, .ptr 3 0), (6, .ptr 7 0)]) (fun y => (0, .cells [.v (iv days), .v (iv shift), .v (iv size), .v (.slice to T.length tc), .v (.slice lo L.length lc)] 35) :: (5, .obj p.2.2.2.1 (MpOk Try.prog 118 (stD (hmO (Tr.d ⟨days, shift, size, to, tc, T, lo, lc, L⟩) (ALO (Tr.d ⟨days, shift, size, to, tc, T, lo, lc, L⟩)))))) :: (6, .obj p.2.2.2.2 (MpOk Try.prog 118 (stD (bgO (Tr.d ⟨days, shift, size, to, tc, T, lo, lc, L⟩) (ALO (Tr.d ⟨days, shift, size, to, tc, T, lo, lc, L⟩)))))) :: (1, .cells [.ptr 3 0] 114) :: (2, .cells [.v (.map (some p.2.2.2.1))] 169) :: (3, .cells [.v (iv days), .v (iv shift), .v (iv size), .v (.slice to T.length tc), .v (.slice lo L.length lc), .v (.slice (some p.1.aa) p.2.1 p.2.2.1), .fn (.func 97) [.ptr 2 0, .ptr 1 0], .fn (.func 100) [.ptr 1 0, .ptr 4 0]] 122) :: (4, .cells [.v (.map (some p.2.2.2.2))] 169) :: (7, .cells [.v (.int .u64 y.1), .v (iv y.2.1), .v (iv y.2.2.1)] 118) :: oM 8 9 3 spF 96 y.2.2.2.2)
   (fun y => (y.1 < 512 ∧ y.2.1 < T.length ∧ y.2.2.1 ≤ 100) ∧ unp (T.length - 1) y.1 < y.2.2.2.1 ∧ y.2.2.2.2.length + y.2.2.2.1 ≤ T.length ∧ y.2.2.2.2 ++ seqO (Tr.d ⟨days, shift, size, to, tc, T, lo, lc, L⟩) y.2.2.2.1 y.1 y.2.1 y.2.2.1 = bsS (Tr.d ⟨days, shift, size, to, tc, T, lo, lc, L⟩)) (fun y => y.2.2.2.1) (0, 0, 0, T.length, []) ⟨⟨by show 0 < 512; decide, by show 0 < T.length; omega, by show 0 ≤ 100; decide⟩, by show unp (T.length - 1) 0 < T.length; have := unp_le (T.length - 1) 0; omega, by show 0 + T.length ≤ T.length; omega, by unfold bsS; rw [show (Tr.d ⟨days, shift, size, to, tc, T, lo, lc, L⟩).T.length = T.length from List.length_map ..]; rfl⟩ ⟨rfl, rfl, rfl, rfl, rfl, trivial⟩ ⟨rfl, rfl, rfl, rfl, rfl, rfl, rfl, rfl, trivial⟩ (fun y _ => by cases y.2.2.2.2 <;> exact ⟨rfl, rfl⟩) ?_
  rintro ⟨S, a, d, k, C⟩ ⟨⟨hS, ha, hd⟩, hk, hl, hC⟩
  dsimp only at hS ha hd hk hl hC ⊢
  have h58 := fun (p : Alp × Nat × Nat × Nat × Nat) (hp : p.2.1 = T.length) β w' h1 h2 => step_ok ⟨days, shift, size, to, tc, T, lo, lc, L⟩ p.1 p.2.1 p.2.2.1 p.2.2.2.1 p.2.2.2.2 S a d hp hn hS ha hd β w' h1 h2
  obtain ⟨k, rfl⟩ : ∃ k', k = k' + 1 := ⟨k - 1, by omega⟩
  have hseq : seqO (Tr.d ⟨days, shift, size, to, tc, T, lo, lc, L⟩) (k + 1) S a d = match spO (Tr.d ⟨days, shift, size, to, tc, T, lo, lc, L⟩) S a d with | some (t, f, l) => ((t : Int), (f : Int), (l : Int)) :: seqO (Tr.d ⟨days, shift, size, to, tc, T, lo, lc, L⟩) k (S ||| 2 ^ t) t (l + 1) | none => [] := rfl
  cases hsp : spO (Tr.d ⟨days, shift, size, to, tc, T, lo, lc, L⟩) S a d with
  | none =>
   rw [hsp] at h58 hseq
   rw [hseq, List.append_nil] at hC
   rw [← hC]
   cases C with
   | nil =>
    repeat'
     conv => whnf
     first
      | refine zA ?_ | refine zB ?_ | refine zC ?_ | refine zD ?_ | refine zE ?_ | refine zF ?_ | refine zG ?_ | refine zH ?_ | refine zJ ?_ | refine zI ?_ | refine splT ?_ | refine splF ?_ | refine splNot ?_
      | ((first | refine splIn ?_ ?_ | refine splD ?_ ?_ | refine splE ?_ ?_ | refine splNE ?_ ?_) <;> intro hc <;> first | (exfalso; omega) | (exfalso; dsimp only at hc; omega) | skip)
      | ((with_reducible show CallEv _ _ 58 _ _ _ _ _); refine callWR [1, 2, 3, 4, 5, 6] [(5, .obj p.2.2.2.1 (MpOk Try.prog 118 (stD (hmO (Tr.d ⟨days, shift, size, to, tc, T, lo, lc, L⟩) (ALO (Tr.d ⟨days, shift, size, to, tc, T, lo, lc, L⟩)))))), (6, .obj p.2.2.2.2 (MpOk Try.prog 118 (stD (bgO (Tr.d ⟨days, shift, size, to, tc, T, lo, lc, L⟩) (ALO (Tr.d ⟨days, shift, size, to, tc, T, lo, lc, L⟩))))))] (spV none) rfl (fun β w' h1 h2 hs2 => (h58 p (hs2 w' (Chg.refl _ _)).2.1 (fun i => β (i + 1)) w' (PS.of1 (x := ⟨days, shift, size, to, tc, T, lo, lc, L⟩) (AL := ALO (Tr.d ⟨days, shift, size, to, tc, T, lo, lc, L⟩)) (aa := p.1) (an := p.2.1) (ac := p.2.2.1) (b1 := p.2.2.2.1) (b2 := p.2.2.2.2) (lk6 rfl rfl rfl rfl rfl rfl) h1 h2) (fun w2 hc => hPp p w2 (hs2 w2 (chg_six1 (x := ⟨days, shift, size, to, tc, T, lo, lc, L⟩) (AL := ALO (Tr.d ⟨days, shift, size, to, tc, T, lo, lc, L⟩)) (aa := p.1) (an := p.2.1) (ac := p.2.2.1) (b1 := p.2.2.2.1) (b2 := p.2.2.2.2) (lk6 rfl rfl rfl rfl rfl rfl) hc)))).mono fun e w2 ⟨e1, e2, e3⟩ => ⟨e1, (PS.of1 (x := ⟨days, shift, size, to, tc, T, lo, lc, L⟩) (AL := ALO (Tr.d ⟨days, shift, size, to, tc, T, lo, lc, L⟩)) (aa := p.1) (an := p.2.1) (ac := p.2.2.1) (b1 := p.2.2.2.1) (b2 := p.2.2.2.2) (lk6 rfl rfl rfl rfl rfl rfl) h1 h2).chg1 e2, e3.out1⟩) ?_)
    exact ⟨fun w' h => h.1, fun β w' hB hblk => ⟨(none, 0), rfl, fun _ _ => .inl ⟨rfl, rfl⟩⟩⟩
   | cons c C =>
    repeat'
     conv => whnf
     first
      | refine zA ?_ | refine zB ?_ | refine zC ?_ | refine zD ?_ | refine zE ?_ | refine zF ?_ | refine zG ?_ | refine zH ?_ | refine zJ ?_ | refine zI ?_ | refine splT ?_ | refine splF ?_ | refine splNot ?_
      | ((first | refine splIn ?_ ?_ | refine splD ?_ ?_ | refine splE ?_ ?_ | refine splNE ?_ ?_) <;> intro hc <;> first | (exfalso; omega) | (exfalso; dsimp only at hc; omega) | skip)
      | ((with_reducible show CallEv _ _ 58 _ _ _ _ _); refine callWR [1, 2, 3, 4, 5, 6] [(5, .obj p.2.2.2.1 (MpOk Try.prog 118 (stD (hmO (Tr.d ⟨days, shift, size, to, tc, T, lo, lc, L⟩) (ALO (Tr.d ⟨days, shift, size, to, tc, T, lo, lc, L⟩)))))), (6, .obj p.2.2.2.2 (MpOk Try.prog 118 (stD (bgO (Tr.d ⟨days, shift, size, to, tc, T, lo, lc, L⟩) (ALO (Tr.d ⟨days, shift, size, to, tc, T, lo, lc, L⟩))))))] (spV none) rfl (fun β w' h1 h2 hs2 => (h58 p (hs2 w' (Chg.refl _ _)).2.1 (fun i => β (i + 1)) w' (PS.of1 (x := ⟨days, shift, size, to, tc, T, lo, lc, L⟩) (AL := ALO (Tr.d ⟨days, shift, size, to, tc, T, lo, lc, L⟩)) (aa := p.1) (an := p.2.1) (ac := p.2.2.1) (b1 := p.2.2.2.1) (b2 := p.2.2.2.2) (lk6 rfl rfl rfl rfl rfl rfl) h1 h2) (fun w2 hc => hPp p w2 (hs2 w2 (chg_six1 (x := ⟨days, shift, size, to, tc, T, lo, lc, L⟩) (AL := ALO (Tr.d ⟨days, shift, size, to, tc, T, lo, lc, L⟩)) (aa := p.1) (an := p.2.1) (ac := p.2.2.1) (b1 := p.2.2.2.1) (b2 := p.2.2.2.2) (lk6 rfl rfl rfl rfl rfl rfl) hc)))).mono fun e w2 ⟨e1, e2, e3⟩ => ⟨e1, (PS.of1 (x := ⟨days, shift, size, to, tc, T, lo, lc, L⟩) (AL := ALO (Tr.d ⟨days, shift, size, to, tc, T, lo, lc, L⟩)) (aa := p.1) (an := p.2.1) (ac := p.2.2.1) (b1 := p.2.2.2.1) (b2 := p.2.2.2.2) (lk6 rfl rfl rfl rfl rfl rfl) h1 h2).chg1 e2, e3.out1⟩) ?_)
    refine ⟨fun w' h => h.1, fun β w' hB hblk => ?_⟩
    obtain ⟨y, e1, e2⟩ := oEnd (sz := 3) (f := spF) (fun _ => rfl) c C (hblk 8 _ rfl rfl)
    exact ⟨y, by (show Value.tuple #[(oSV 8 9 (c :: C)).c β, _, _] = _); rw [e1]; rfl, e2⟩
  | some z =>
   obtain ⟨t, f, l⟩ := z
   rw [hsp] at h58 hseq
   have hz := spO_some hn hsp
   simp only [Tr.d, List.length_map] at hz
   have hdy := hn.d
   simp only [Tr.d] at hdy
   have hu := unp_or (n := T.length - 1) (t := t - 1) (S := S) (by omega) (by rw [show t - 1 + 1 = t from by omega]; exact hz.2.2.1)
   rw [show t - 1 + 1 = t from by omega] at hu
   have h59 := fun w' => after_ok S a d t f l w' hS (by omega) (by omega)
   have hC2 : (C ++ [((t : Int), (f : Int), (l : Int))]) ++ seqO (Tr.d ⟨days, shift, size, to, tc, T, lo, lc, L⟩) k (S ||| 2 ^ t) t (l + 1) = bsS (Tr.d ⟨days, shift, size, to, tc, T, lo, lc, L⟩) := by rw [← hC, hseq, List.append_assoc]; rfl
   have hCl : (C ++ [((t : Int), (f : Int), (l : Int))]).length + k ≤ T.length := by rw [List.length_append, List.length_singleton]; omega
   cases C with
   | nil =>
    repeat'
     conv => whnf
     first
      | refine zA ?_ | refine zB ?_ | refine zC ?_ | refine zD ?_ | refine zE ?_ | refine zF ?_ | refine zG ?_ | refine zH ?_ | refine zJ ?_ | refine zI ?_ | refine splT ?_ | refine splF ?_ | refine splNot ?_
      | ((first | refine splIn ?_ ?_ | refine splD ?_ ?_ | refine splE ?_ ?_ | refine splNE ?_ ?_) <;> intro hc <;> first | (exfalso; omega) | (exfalso; dsimp only at hc; omega) | skip)
      | ((with_reducible show CallEv _ _ 58 _ _ _ _ _); refine callWR [1, 2, 3, 4, 5, 6] [(5, .obj p.2.2.2.1 (MpOk Try.prog 118 (stD (hmO (Tr.d ⟨days, shift, size, to, tc, T, lo, lc, L⟩) (ALO (Tr.d ⟨days, shift, size, to, tc, T, lo, lc, L⟩)))))), (6, .obj p.2.2.2.2 (MpOk Try.prog 118 (stD (bgO (Tr.d ⟨days, shift, size, to, tc, T, lo, lc, L⟩) (ALO (Tr.d ⟨days, shift, size, to, tc, T, lo, lc, L⟩))))))] (spV (some (t, f, l))) rfl (fun β w' h1 h2 hs2 => (h58 p (hs2 w' (Chg.refl _ _)).2.1 (fun i => β (i + 1)) w' (PS.of1 (x := ⟨days, shift, size, to, tc, T, lo, lc, L⟩) (AL := ALO (Tr.d ⟨days, shift, size, to, tc, T, lo, lc, L⟩)) (aa := p.1) (an := p.2.1) (ac := p.2.2.1) (b1 := p.2.2.2.1) (b2 := p.2.2.2.2) (lk6 rfl rfl rfl rfl rfl rfl) h1 h2) (fun w2 hc => hPp p w2 (hs2 w2 (chg_six1 (x := ⟨days, shift, size, to, tc, T, lo, lc, L⟩) (AL := ALO (Tr.d ⟨days, shift, size, to, tc, T, lo, lc, L⟩)) (aa := p.1) (an := p.2.1) (ac := p.2.2.1) (b1 := p.2.2.2.1) (b2 := p.2.2.2.2) (lk6 rfl rfl rfl rfl rfl rfl) hc)))).mono fun e w2 ⟨e1, e2, e3⟩ => ⟨e1, (PS.of1 (x := ⟨days, shift, size, to, tc, T, lo, lc, L⟩) (AL := ALO (Tr.d ⟨days, shift, size, to, tc, T, lo, lc, L⟩)) (aa := p.1) (an := p.2.1) (ac := p.2.2.1) (b1 := p.2.2.2.1) (b2 := p.2.2.2.2) (lk6 rfl rfl rfl rfl rfl rfl) h1 h2).chg1 e2, e3.out1⟩) ?_)
      | ((with_reducible show CallEv _ _ 59 _ _ _ _ _); refine callE (k := 59) (fun β w' hbw => h59 w') ?_)
    all_goals first | (exfalso; omega) | exact ⟨(S ||| 2 ^ t, t, l + 1, k, [((t : Int), (f : Int), (l : Int))]), ⟨⟨or_512 hS (by omega), hz.2.1, by show l + 1 ≤ 100; omega⟩, by show unp (T.length - 1) (S ||| 2 ^ t) < k; omega, hCl, hC2⟩, Nat.lt_succ_self k, Ent.ren (rho [(8, 12), (9, 13)]) rfl rfl ⟨rfl, rfl, rfl, rfl, rfl, trivial⟩ ⟨rfl, rfl, rfl, rfl, rfl, rfl, rfl, rfl, rfl, trivial⟩ fun _ h => h⟩
   | cons c C =>
    simp only [List.length_cons] at hl
    repeat'
     conv => whnf
     first
      | refine zA ?_ | refine zB ?_ | refine zC ?_ | refine zD ?_ | refine zE ?_ | refine zF ?_ | refine zG ?_ | refine zH ?_ | refine zJ ?_ | refine zI ?_ | refine splT ?_ | refine splF ?_ | refine splNot ?_
      | ((first | refine splIn ?_ ?_ | refine splD ?_ ?_ | refine splE ?_ ?_ | refine splNE ?_ ?_) <;> intro hc <;> first | (exfalso; omega) | (exfalso; dsimp only at hc; omega) | skip)
      | ((with_reducible show CallEv _ _ 58 _ _ _ _ _); refine callWR [1, 2, 3, 4, 5, 6] [(5, .obj p.2.2.2.1 (MpOk Try.prog 118 (stD (hmO (Tr.d ⟨days, shift, size, to, tc, T, lo, lc, L⟩) (ALO (Tr.d ⟨days, shift, size, to, tc, T, lo, lc, L⟩)))))), (6, .obj p.2.2.2.2 (MpOk Try.prog 118 (stD (bgO (Tr.d ⟨days, shift, size, to, tc, T, lo, lc, L⟩) (ALO (Tr.d ⟨days, shift, size, to, tc, T, lo, lc, L⟩))))))] (spV (some (t, f, l))) rfl (fun β w' h1 h2 hs2 => (h58 p (hs2 w' (Chg.refl _ _)).2.1 (fun i => β (i + 1)) w' (PS.of1 (x := ⟨days, shift, size, to, tc, T, lo, lc, L⟩) (AL := ALO (Tr.d ⟨days, shift, size, to, tc, T, lo, lc, L⟩)) (aa := p.1) (an := p.2.1) (ac := p.2.2.1) (b1 := p.2.2.2.1) (b2 := p.2.2.2.2) (lk6 rfl rfl rfl rfl rfl rfl) h1 h2) (fun w2 hc => hPp p w2 (hs2 w2 (chg_six1 (x := ⟨days, shift, size, to, tc, T, lo, lc, L⟩) (AL := ALO (Tr.d ⟨days, shift, size, to, tc, T, lo, lc, L⟩)) (aa := p.1) (an := p.2.1) (ac := p.2.2.1) (b1 := p.2.2.2.1) (b2 := p.2.2.2.2) (lk6 rfl rfl rfl rfl rfl rfl) hc)))).mono fun e w2 ⟨e1, e2, e3⟩ => ⟨e1, (PS.of1 (x := ⟨days, shift, size, to, tc, T, lo, lc, L⟩) (AL := ALO (Tr.d ⟨days, shift, size, to, tc, T, lo, lc, L⟩)) (aa := p.1) (an := p.2.1) (ac := p.2.2.1) (b1 := p.2.2.2.1) (b2 := p.2.2.2.2) (lk6 rfl rfl rfl rfl rfl rfl) h1 h2).chg1 e2, e3.out1⟩) ?_)
      | ((with_reducible show CallEv _ _ 59 _ _ _ _ _); refine callE (k := 59) (fun β w' hbw => h59 w') ?_)
    all_goals first | (exfalso; omega) | exact ⟨(S ||| 2 ^ t, t, l + 1, k, c :: C ++ [((t : Int), (f : Int), (l : Int))]), ⟨⟨or_512 hS (by omega), hz.2.1, by show l + 1 ≤ 100; omega⟩, by show unp (T.length - 1) (S ||| 2 ^ t) < k; omega, hCl, hC2⟩, Nat.lt_succ_self k, Ent.ren (rho [(8, 12), (9, 13)]) rfl rfl ⟨by simp [oSV]; rfl, rfl, rfl, rfl, rfl, trivial⟩ ⟨rfl, rfl, rfl, rfl, rfl, rfl, rfl, rfl, by simp [oM]; rfl, trivial⟩ fun _ h => h⟩
end Go.Proofs.Ythfabodamhdhaaa
