/- The faults of a season, its profit: what these functions return. -/
import Derived.Test.YthfabodamhdhaaaRN
namespace Go.Proofs.Ythfabodamhdhaaa
open Go Tx Go.RowKit
set_option linter.unusedSimpArgs false
set_option linter.unusedVariables false
abbrev flF (p : Nat × Nat) : List Value := [iv p.1, .int .u8 p.2]
def fsP (x : To) (S : List (Int × Int × Int)) : Nat → List (Nat × Nat)
 | 0 => []
 | k + 1 => match S[k]? with
  | some (a, f, l) => if fltO x S k a f l 7 = 0 then fsP x S k else fsP x S k ++ [(k, fltO x S k a f l 7)]
  | none => fsP x S k
def fsO (x : To) (S : List (Int × Int × Int)) : List (Nat × Nat) := fsP x S S.length
theorem fsP_len (x : To) (S : List (Int × Int × Int)) : ∀ k, (fsP x S k).length ≤ k
 | 0 => Nat.le_refl _
 | k + 1 => by
  have ih := fsP_len x S k
  simp only [fsP]
  split
  · split
    · omega
    · simp; omega
  · omega
set_option maxHeartbeats 4000000 in
set_option maxRecDepth 100000 in
theorem faults_ok (x : Tr) (o : Option Addr) (c : Nat) (S : List (Int × Int × Int)) (w : World) (h : TrIn x w) (hn : ToN x.d) (hS : SpIn o c S w) :
 Calls Try.prog 74 #[x.v, .slice o S.length c] w fun e w' => ∃ y : Option Addr × Nat, e = .returned (sV (fsO x.d S).length y) ∧ Below w.heap.size w w' ∧ St w.heap.size (Rd 2 flF (sV (fsO x.d S).length y) (fsO x.d S)) w' := by
 have hsl := hS.l
 have h108' := fun (k : Nat) (a f l : Int) (hi : S[k]? = some (a, f, l)) (w' : World) (hw' : Below w.heap.size w w') (bt : Nat) (β : Nat → Nat) (h2 : (Blk.cells tsL 192).ok β w' bt) =>
  fault_ok x o c S k a f l ⟨bt, 0, none⟩ 7 7 w' (h.below hw') hn (hS.below hw') hi (by decide) (ts_hr h2)
 refine calls_fam env mixed Try.func74 has74 Try.ntmps74 [.agg #[iv x.days, iv x.shift, iv x.size, .slice x.to x.T.length x.tc, .slice x.lo x.L.length x.lc], .slice o S.length c] (by simp) ?_
 repeat'
  conv => whnf
  first
   | refine zA ?_ | refine zB ?_ | refine zC ?_ | refine zD ?_ | refine zE ?_ | refine zF ?_ | refine zG ?_ | refine zH ?_ | refine zJ ?_ | refine zI ?_ | refine splT ?_ | refine splF ?_ | refine splNot ?_
   | ((first | refine splIn ?_ ?_ | refine splD ?_ ?_ | refine splE ?_ ?_ | refine splNE ?_ ?_) <;> intro hc <;> first | (exfalso; omega) | (exfalso; dsimp only at hc; omega) | skip)
 refine loopN 3 (fun k : Nat => [(1, .v (.slice o S.length c)), (2, .ptr 0 0), (5, oSV 1 2 (fsP x.d S k)), (8, .v (.slice o S.length c)), (9, .v (iv S.length)), (10, .v (iv k))]) (fun k => (0, .cells [.v (iv x.days), .v (iv x.shift), .v (iv x.size), .v (.slice x.to x.T.length x.tc), .v (.slice x.lo x.L.length x.lc)] 35) :: oM 1 2 2 flF 81 (fsP x.d S k))
  (fun k => k ≤ S.length) (fun k => S.length - k) 0 (Nat.zero_le _) ⟨rfl, rfl, rfl, rfl, rfl, rfl, trivial⟩ ⟨rfl, trivial⟩ (fun k _ => by cases fsP x.d S k <;> exact ⟨rfl, rfl⟩) ?_
 intro k hk
 rcases Nat.lt_or_ge k S.length with hkl | hkl
 · obtain ⟨⟨a, f, l⟩, hx⟩ : ∃ b, S[k]? = some b := ⟨_, List.getElem?_eq_getElem hkl⟩
   have ht : fsP x.d S (k + 1) = if fltO x.d S k a f l 7 = 0 then fsP x.d S k else fsP x.d S k ++ [(k, fltO x.d S k a f l 7)] := by simp only [fsP, hx]
   have hlen := fsP_len x.d S k
   have h108 := h108' k a f l hx
   have hfl := fltO_le x.d S k a f l 7
   generalize fltO x.d S k a f l 7 = F at *
   generalize fsP x.d S k = D at *
   clear h108' hn h
   obtain ⟨days, shift, size, to, tc, T, lo, lc, L⟩ := x
   cases D with
   | nil =>
    skip
    by_cases hF0 : F = 0
    · rw [if_pos hF0] at ht
      subst hF0
      repeat'
       conv => whnf
       first
        | refine zA ?_ | refine zB ?_ | refine zC ?_ | refine zD ?_ | refine zE ?_ | refine zF ?_ | refine zG ?_ | refine zH ?_ | refine zJ ?_ | refine zI ?_ | refine splT ?_ | refine splF ?_ | refine splNot ?_
        | ((first | refine splIn ?_ ?_ | refine splD ?_ ?_ | refine splE ?_ ?_ | refine splNE ?_ ?_) <;> intro hc <;> first | (exfalso; omega) | (exfalso; dsimp only at hc; omega) | skip)
        | ((with_reducible show CallEv _ _ 109 _ _ _ _ _); refine callN 3 [] (.sl 3 0 7 7) tsL 192 rfl (fun β w' _ hbw => (tests_ok w').mono fun e w2 ⟨b, h1, h2, h3, h4⟩ => ⟨b, h1, h2, h3, h4 _⟩) ?_)
        | ((with_reducible show CallEv _ _ 108 _ _ _ _ _); refine callM [3] (fun β w' hbk hbw => h108 w' hbw (β 3) β (hbk 3 (by simp) _ rfl)) ?_)
      all_goals first | (exfalso; omega) | exact ⟨k + 1, by omega, by omega, Ent.weak rfl ⟨rfl, rfl, by rw [ht]; rfl, rfl, rfl, rfl, trivial⟩ (by rw [ht]; exact ⟨rfl, trivial⟩) fun _ h => h⟩
    · rw [if_neg hF0] at ht
      repeat'
       conv => whnf
       first
        | refine zA ?_ | refine zB ?_ | refine zC ?_ | refine zD ?_ | refine zE ?_ | refine zF ?_ | refine zG ?_ | refine zH ?_ | refine zJ ?_ | refine zI ?_ | refine splT ?_ | refine splF ?_ | refine splNot ?_
        | ((first | refine splIn ?_ ?_ | refine splD ?_ ?_ | refine splE ?_ ?_ | refine splNE ?_ ?_) <;> intro hc <;> first | (exfalso; omega) | (exfalso; dsimp only at hc; omega) | skip)
        | ((with_reducible show CallEv _ _ 109 _ _ _ _ _); refine callN 3 [] (.sl 3 0 7 7) tsL 192 rfl (fun β w' _ hbw => (tests_ok w').mono fun e w2 ⟨b, h1, h2, h3, h4⟩ => ⟨b, h1, h2, h3, h4 _⟩) ?_)
        | ((with_reducible show CallEv _ _ 108 _ _ _ _ _); refine callM [3] (fun β w' hbk hbw => h108 w' hbw (β 3) β (hbk 3 (by simp) _ rfl)) ?_)
      all_goals first | (exfalso; omega) | exact ⟨k + 1, by omega, by omega, Ent.ren (rho [(1, 5), (2, 6)]) rfl (by rw [ht]; rfl) ⟨rfl, rfl, by rw [ht]; rfl, rfl, rfl, rfl, trivial⟩ (by rw [ht]; exact ⟨rfl, rfl, trivial⟩) fun _ h => h⟩
   | cons a0 D =>
    simp only [List.length_cons] at hlen
    by_cases hF0 : F = 0
    · rw [if_pos hF0] at ht
      subst hF0
      repeat'
       conv => whnf
       first
        | refine zA ?_ | refine zB ?_ | refine zC ?_ | refine zD ?_ | refine zE ?_ | refine zF ?_ | refine zG ?_ | refine zH ?_ | refine zJ ?_ | refine zI ?_ | refine splT ?_ | refine splF ?_ | refine splNot ?_
        | ((first | refine splIn ?_ ?_ | refine splD ?_ ?_ | refine splE ?_ ?_ | refine splNE ?_ ?_) <;> intro hc <;> first | (exfalso; omega) | (exfalso; dsimp only at hc; omega) | skip)
        | ((with_reducible show CallEv _ _ 109 _ _ _ _ _); refine callN 3 [] (.sl 3 0 7 7) tsL 192 rfl (fun β w' _ hbw => (tests_ok w').mono fun e w2 ⟨b, h1, h2, h3, h4⟩ => ⟨b, h1, h2, h3, h4 _⟩) ?_)
        | ((with_reducible show CallEv _ _ 108 _ _ _ _ _); refine callM [3] (fun β w' hbk hbw => h108 w' hbw (β 3) β (hbk 3 (by simp) _ rfl)) ?_)
      all_goals first | (exfalso; omega) | exact ⟨k + 1, by omega, by omega, Ent.weak rfl ⟨rfl, rfl, by rw [ht]; rfl, rfl, rfl, rfl, trivial⟩ (by rw [ht]; exact ⟨rfl, rfl, trivial⟩) fun _ h => h⟩
    · rw [if_neg hF0] at ht
      repeat'
       conv => whnf
       first
        | refine zA ?_ | refine zB ?_ | refine zC ?_ | refine zD ?_ | refine zE ?_ | refine zF ?_ | refine zG ?_ | refine zH ?_ | refine zJ ?_ | refine zI ?_ | refine splT ?_ | refine splF ?_ | refine splNot ?_
        | ((first | refine splIn ?_ ?_ | refine splD ?_ ?_ | refine splE ?_ ?_ | refine splNE ?_ ?_) <;> intro hc <;> first | (exfalso; omega) | (exfalso; dsimp only at hc; omega) | skip)
        | ((with_reducible show CallEv _ _ 109 _ _ _ _ _); refine callN 3 [] (.sl 3 0 7 7) tsL 192 rfl (fun β w' _ hbw => (tests_ok w').mono fun e w2 ⟨b, h1, h2, h3, h4⟩ => ⟨b, h1, h2, h3, h4 _⟩) ?_)
        | ((with_reducible show CallEv _ _ 108 _ _ _ _ _); refine callM [3] (fun β w' hbk hbw => h108 w' hbw (β 3) β (hbk 3 (by simp) _ rfl)) ?_)
      all_goals first | (exfalso; omega) | exact ⟨k + 1, by omega, by omega, Ent.ren (rho [(1, 5), (2, 6)]) rfl (by rw [ht]; rfl) ⟨rfl, rfl, by rw [ht]; simp [oSV]; rfl, rfl, rfl, rfl, trivial⟩ (by rw [ht]; exact ⟨rfl, by simp [oM]; rfl, trivial⟩) fun _ h => h⟩
 · obtain rfl : k = S.length := by omega
   show vc _ _ _ _
   unfold fsO
   generalize fsP x.d S S.length = D at *
   clear h108' hn h
   obtain ⟨days, shift, size, to, tc, T, lo, lc, L⟩ := x
   cases D with
   | nil =>
    repeat'
     conv => whnf
     first
      | refine zA ?_ | refine zB ?_ | refine zC ?_ | refine zD ?_ | refine zE ?_ | refine zF ?_ | refine zG ?_ | refine zH ?_ | refine zJ ?_ | refine zI ?_ | refine splT ?_ | refine splF ?_ | refine splNot ?_
      | ((first | refine splIn ?_ ?_ | refine splD ?_ ?_ | refine splE ?_ ?_ | refine splNE ?_ ?_) <;> intro hc <;> first | (exfalso; omega) | (exfalso; dsimp only at hc; omega) | skip)
    exact ⟨fun w' h => h, fun β w' hB hblk => oNil (i := 1) (j := 2) (f := flF) (sz := 2)⟩
   | cons a0 D =>
    repeat'
     conv => whnf
     first
      | refine zA ?_ | refine zB ?_ | refine zC ?_ | refine zD ?_ | refine zE ?_ | refine zF ?_ | refine zG ?_ | refine zH ?_ | refine zJ ?_ | refine zI ?_ | refine splT ?_ | refine splF ?_ | refine splNot ?_
      | ((first | refine splIn ?_ ?_ | refine splD ?_ ?_ | refine splE ?_ ?_ | refine splNE ?_ ?_) <;> intro hc <;> first | (exfalso; omega) | (exfalso; dsimp only at hc; omega) | skip)
    exact ⟨fun w' h => h, fun β w' hB hblk => oEnd (sz := 2) (f := flF) (fun _ => rfl) a0 D (hblk 1 _ rfl rfl)⟩
theorem check_ok (x : Tr) (o : Option Addr) (c : Nat) (S : List (Int × Int × Int)) (w : World) (h : TrIn x w) (hl : S.length ≤ 1000000) :
 Calls Try.prog 73 #[x.v, .slice o S.length c] w fun e w' => e = .returned (iv (if toB x.d = true then (if S.length ≤ 20 then 0 else 3) else 1)) ∧ Below w.heap.size w w' := by
 have hv := fun w' hb => valid_ok x w' (h.below hb)
 refine calls_val env mixed Try.func73 has73 Try.ntmps73 [.agg #[iv x.days, iv x.shift, iv x.size, .slice x.to x.T.length x.tc, .slice x.lo x.L.length x.lc], .slice o S.length c] (by simp) ?_
 obtain ⟨b, hb⟩ : ∃ b, toB x.d = b := ⟨_, rfl⟩
 rw [hb] at hv ⊢
 clear h
 obtain ⟨days, shift, size, to, tc, T, lo, lc, L⟩ := x
 by_cases hs : S.length ≤ 20
 · rw [if_pos hs]
   cases b
   all_goals skip
   repeat'
    conv => whnf
    first
     | refine zA ?_ | refine zB ?_ | refine zC ?_ | refine zD ?_ | refine zE ?_ | refine zF ?_ | refine zG ?_ | refine zH ?_ | refine zJ ?_ | refine zI ?_ | refine splT ?_ | refine splF ?_ | refine splNot ?_
     | ((first | refine splIn ?_ ?_ | refine splD ?_ ?_ | refine splE ?_ ?_ | refine splNE ?_ ?_) <;> intro hc <;> first | (exfalso; omega) | (exfalso; dsimp only at hc; omega) | skip)
     | ((with_reducible show CallEv _ _ 56 _ _ _ _ _); refine callE (k := 56) (fun β w' hbw => hv _ hbw) ?_)
   all_goals first | (exfalso; omega) | exact ⟨fun β => rfl, fun w' h => h⟩
 · rw [if_neg hs]
   cases b
   all_goals skip
   repeat'
    conv => whnf
    first
     | refine zA ?_ | refine zB ?_ | refine zC ?_ | refine zD ?_ | refine zE ?_ | refine zF ?_ | refine zG ?_ | refine zH ?_ | refine zJ ?_ | refine zI ?_ | refine splT ?_ | refine splF ?_ | refine splNot ?_
     | ((first | refine splIn ?_ ?_ | refine splD ?_ ?_ | refine splE ?_ ?_ | refine splNE ?_ ?_) <;> intro hc <;> first | (exfalso; omega) | (exfalso; dsimp only at hc; omega) | skip)
     | ((with_reducible show CallEv _ _ 56 _ _ _ _ _); refine callE (k := 56) (fun β w' hbw => hv _ hbw) ?_)
   all_goals first | (exfalso; omega) | exact ⟨fun β => rfl, fun w' h => h⟩
def flV (x : To) (S : List (Int × Int × Int)) : List (Nat × Nat) × Int := if toB x = true then (if S.length ≤ 20 then (fsO x S, 0) else ([], 3)) else ([], 1)
theorem Faults_ok (x : Tr) (o : Option Addr) (c : Nat) (S : List (Int × Int × Int)) (w : World) (h : TrIn x w) (hS : SpIn o c S w) :
 Calls Try.prog 40 #[x.v, .slice o S.length c] w fun e w' => ∃ y : Option Addr × Nat, e = .returned (.tuple #[sV (flV x.d S).1.length y, iv (flV x.d S).2]) ∧ Below w.heap.size w w' ∧ St w.heap.size (Rd 2 flF (sV (flV x.d S).1.length y) (flV x.d S).1) w' := by
 have h73 := fun w' hb => check_ok x o c S w' (h.below hb) hS.l
 have h74 := fun (hn : ToN x.d) w' hb => faults_ok x o c S w' (h.below hb) hn (hS.below hb)
 have hsl := hS.l
 unfold flV
 refine calls_fam env mixed Try.func40 has40 Try.ntmps40 [.agg #[iv x.days, iv x.shift, iv x.size, .slice x.to x.T.length x.tc, .slice x.lo x.L.length x.lc], .slice o S.length c] (by simp) ?_
 cases hb : toB x.d with
 | false =>
  rw [hb] at h73
  clear h74 h hb
  obtain ⟨days, shift, size, to, tc, T, lo, lc, L⟩ := x
  repeat'
   conv => whnf
   first
    | refine zA ?_ | refine zB ?_ | refine zC ?_ | refine zD ?_ | refine zE ?_ | refine zF ?_ | refine zG ?_ | refine zH ?_ | refine zJ ?_ | refine zI ?_ | refine splT ?_ | refine splF ?_ | refine splNot ?_
    | ((first | refine splIn ?_ ?_ | refine splD ?_ ?_ | refine splE ?_ ?_ | refine splNE ?_ ?_) <;> intro hc <;> first | (exfalso; omega) | (exfalso; dsimp only at hc; omega) | skip)
    | ((with_reducible show CallEv _ _ 73 _ _ _ _ _); refine callE (k := 73) (fun β w' hbw => h73 _ hbw) ?_)
  exact ⟨fun w' h => h, fun β w' hB hblk => ⟨(none, 0), rfl, fun _ _ => .inl ⟨rfl, rfl⟩⟩⟩
 | true =>
  rw [hb] at h73
  by_cases hs : S.length ≤ 20
  · rw [if_pos rfl, if_pos hs] at h73
    rw [if_pos rfl, if_pos hs]
    have h74' := h74 (toB_n hb)
    dsimp only
    generalize fsO x.d S = F at *
    clear h74 h hb
    obtain ⟨days, shift, size, to, tc, T, lo, lc, L⟩ := x
    repeat'
     conv => whnf
     first
      | refine zA ?_ | refine zB ?_ | refine zC ?_ | refine zD ?_ | refine zE ?_ | refine zF ?_ | refine zG ?_ | refine zH ?_ | refine zJ ?_ | refine zI ?_ | refine splT ?_ | refine splF ?_ | refine splNot ?_
      | ((first | refine splIn ?_ ?_ | refine splD ?_ ?_ | refine splE ?_ ?_ | refine splNE ?_ ?_) <;> intro hc <;> first | (exfalso; omega) | (exfalso; dsimp only at hc; omega) | skip)
      | ((with_reducible show CallEv _ _ 73 _ _ _ _ _); refine callE (k := 73) (fun β w' hbw => h73 _ hbw) ?_)
      | ((with_reducible show CallEv _ _ 74 _ _ _ _ _); refine callF [] (fun y : Option Addr × Nat => sV F.length y) (fun y => St w.heap.size (Rd 2 flF (sV F.length y) F)) (fun β w' _ hbw => famS hbw (h74' w' hbw)) ?_; intro y)
    exact ⟨fun w' h => h.1, fun β w' hB hblk => ⟨y, rfl, hB.2⟩⟩
  · rw [if_pos rfl, if_neg hs] at h73
    rw [if_pos rfl, if_neg hs]
    clear h74 h hb
    obtain ⟨days, shift, size, to, tc, T, lo, lc, L⟩ := x
    repeat'
     conv => whnf
     first
      | refine zA ?_ | refine zB ?_ | refine zC ?_ | refine zD ?_ | refine zE ?_ | refine zF ?_ | refine zG ?_ | refine zH ?_ | refine zJ ?_ | refine zI ?_ | refine splT ?_ | refine splF ?_ | refine splNot ?_
      | ((first | refine splIn ?_ ?_ | refine splD ?_ ?_ | refine splE ?_ ?_ | refine splNE ?_ ?_) <;> intro hc <;> first | (exfalso; omega) | (exfalso; dsimp only at hc; omega) | skip)
      | ((with_reducible show CallEv _ _ 73 _ _ _ _ _); refine callE (k := 73) (fun β w' hbw => h73 _ hbw) ?_)
    exact ⟨fun w' h => h, fun β w' hB hblk => ⟨(none, 0), rfl, fun _ _ => .inl ⟨rfl, rfl⟩⟩⟩
end Go.Proofs.Ythfabodamhdhaaa
