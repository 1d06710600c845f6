/- The faults of a season and its profit, by the reference: what Faults, Gain, Profit return. -/
import Derived.Test.YthfabodamhdhaaaTS
import Derived.Test.YthfabodamhdhaaaTI
namespace Go.Proofs.Ythfabodamhdhaaa
open Go Tx Go.RowKit
set_option linter.unusedSimpArgs false
set_option linter.unusedVariables false
set_option maxHeartbeats 4000000 in
set_option maxRecDepth 100000 in
theorem rfaults_ok (x : Tr) (o : Option Addr) (c : Nat) (S : List (Int × Int × Int)) (w : World) (h : TrIn x w) (hn : ToN x.d) (hS : SpIn o c S w) (hN : neB S = true) :
 Calls Try.prog 25 #[x.v, .slice o S.length c] w fun e w' => ∃ y : Option Addr × Nat, e = .returned (sV (fsO x.d S).length y) ∧ Below w.heap.size w w' ∧ St w.heap.size (Rd 2 flF (sV (fsO x.d S).length y) (fsO x.d S)) w' := by
 have hsl := hS.l
 have h63' := fun (k : Nat) (a f l : Int) (hi : S[k]? = some (a, f, l)) (w' : World) (hw' : Below w.heap.size w w') => rfault_ok x o c S k a f l w' (h.below hw') hn (hS.below hw') hN hi
 refine calls_fam env mixed Try.func25 has25 Try.ntmps25 [.agg #[iv x.days, iv x.shift, iv x.size, .slice x.to x.T.length x.tc, .slice x.lo x.L.length x.lc], .slice o S.length c] (by simp) ?_
 repeat'
  conv => whnf
  first
   | refine zA ?_ | refine zB ?_ | refine zC ?_ | refine zD ?_ | refine zE ?_ | refine zF ?_ | refine zG ?_ | refine zH ?_ | refine zJ ?_ | refine zI ?_ | refine splT ?_ | refine splF ?_ | refine splNot ?_
   | ((first | refine splIn ?_ ?_ | refine splD ?_ ?_ | refine splE ?_ ?_ | refine splNE ?_ ?_) <;> intro hc <;> first | (exfalso; omega) | (exfalso; dsimp only at hc; omega) | skip)
 refine loopN 3 (fun k : Nat => [(1, .v (.slice o S.length c)), (2, .ptr 0 0), (5, oSV 1 2 (fsP x.d S k)), (6, .v (iv k))]) (fun k => (0, .cells [.v (iv x.days), .v (iv x.shift), .v (iv x.size), .v (.slice x.to x.T.length x.tc), .v (.slice x.lo x.L.length x.lc)] 25) :: oM 1 2 2 flF 82 (fsP x.d S k))
  (fun k => k ≤ S.length) (fun k => S.length - k) 0 (Nat.zero_le _) ⟨rfl, rfl, rfl, rfl, trivial⟩ ⟨rfl, trivial⟩ (fun k _ => by cases fsP x.d S k <;> exact ⟨rfl, rfl⟩) ?_
 intro k hk
 rcases Nat.lt_or_ge k S.length with hkl | hkl
 · obtain ⟨⟨a, f, l⟩, hx⟩ : ∃ b, S[k]? = some b := ⟨_, List.getElem?_eq_getElem hkl⟩
   have ht : fsP x.d S (k + 1) = if fltO x.d S k a f l 7 = 0 then fsP x.d S k else fsP x.d S k ++ [(k, fltO x.d S k a f l 7)] := by simp only [fsP, hx]
   have hlen := fsP_len x.d S k
   have h63 := h63' k a f l hx
   have hfl := fltO_le x.d S k a f l 7
   generalize fltO x.d S k a f l 7 = F at *
   generalize fsP x.d S k = D at *
   clear h63' hn h
   obtain ⟨days, shift, size, to, tc, T, lo, lc, L⟩ := x
   cases D with
   | nil =>
    skip
    by_cases hF0 : F = 0
    · rw [if_pos hF0] at ht
      subst hF0
      repeat'
       conv => whnf
       first
        | refine zA ?_ | refine zB ?_ | refine zC ?_ | refine zD ?_ | refine zE ?_ | refine zF ?_ | refine zG ?_ | refine zH ?_ | refine zJ ?_ | refine zI ?_ | refine splT ?_ | refine splF ?_ | refine splNot ?_
        | ((first | refine splIn ?_ ?_ | refine splD ?_ ?_ | refine splE ?_ ?_ | refine splNE ?_ ?_) <;> intro hc <;> first | (exfalso; omega) | (exfalso; dsimp only at hc; omega) | skip)
        | ((with_reducible show CallEv _ _ 63 _ _ _ _ _); refine callE (k := 63) (fun β w' hbw => h63 w' hbw) ?_)
      all_goals first | (exfalso; omega) | exact ⟨k + 1, by omega, by omega, Ent.weak rfl ⟨rfl, rfl, by rw [ht]; rfl, rfl, trivial⟩ (by rw [ht]; exact ⟨rfl, trivial⟩) fun _ h => h⟩
    · rw [if_neg hF0] at ht
      repeat'
       conv => whnf
       first
        | refine zA ?_ | refine zB ?_ | refine zC ?_ | refine zD ?_ | refine zE ?_ | refine zF ?_ | refine zG ?_ | refine zH ?_ | refine zJ ?_ | refine zI ?_ | refine splT ?_ | refine splF ?_ | refine splNot ?_
        | ((first | refine splIn ?_ ?_ | refine splD ?_ ?_ | refine splE ?_ ?_ | refine splNE ?_ ?_) <;> intro hc <;> first | (exfalso; omega) | (exfalso; dsimp only at hc; omega) | skip)
        | ((with_reducible show CallEv _ _ 63 _ _ _ _ _); refine callE (k := 63) (fun β w' hbw => h63 w' hbw) ?_)
      all_goals first | (exfalso; omega) | exact ⟨k + 1, by omega, by omega, Ent.ren (rho [(1, 4), (2, 5)]) rfl (by rw [ht]; rfl) ⟨rfl, rfl, by rw [ht]; rfl, rfl, trivial⟩ (by rw [ht]; exact ⟨rfl, rfl, trivial⟩) fun _ h => h⟩
   | cons a0 D =>
    simp only [List.length_cons] at hlen
    by_cases hF0 : F = 0
    · rw [if_pos hF0] at ht
      subst hF0
      repeat'
       conv => whnf
       first
        | refine zA ?_ | refine zB ?_ | refine zC ?_ | refine zD ?_ | refine zE ?_ | refine zF ?_ | refine zG ?_ | refine zH ?_ | refine zJ ?_ | refine zI ?_ | refine splT ?_ | refine splF ?_ | refine splNot ?_
        | ((first | refine splIn ?_ ?_ | refine splD ?_ ?_ | refine splE ?_ ?_ | refine splNE ?_ ?_) <;> intro hc <;> first | (exfalso; omega) | (exfalso; dsimp only at hc; omega) | skip)
        | ((with_reducible show CallEv _ _ 63 _ _ _ _ _); refine callE (k := 63) (fun β w' hbw => h63 w' hbw) ?_)
      all_goals first | (exfalso; omega) | exact ⟨k + 1, by omega, by omega, Ent.weak rfl ⟨rfl, rfl, by rw [ht]; rfl, rfl, trivial⟩ (by rw [ht]; exact ⟨rfl, rfl, trivial⟩) fun _ h => h⟩
    · rw [if_neg hF0] at ht
      repeat'
       conv => whnf
       first
        | refine zA ?_ | refine zB ?_ | refine zC ?_ | refine zD ?_ | refine zE ?_ | refine zF ?_ | refine zG ?_ | refine zH ?_ | refine zJ ?_ | refine zI ?_ | refine splT ?_ | refine splF ?_ | refine splNot ?_
        | ((first | refine splIn ?_ ?_ | refine splD ?_ ?_ | refine splE ?_ ?_ | refine splNE ?_ ?_) <;> intro hc <;> first | (exfalso; omega) | (exfalso; dsimp only at hc; omega) | skip)
        | ((with_reducible show CallEv _ _ 63 _ _ _ _ _); refine callE (k := 63) (fun β w' hbw => h63 w' hbw) ?_)
      all_goals first | (exfalso; omega) | exact ⟨k + 1, by omega, by omega, Ent.ren (rho [(1, 4), (2, 5)]) rfl (by rw [ht]; rfl) ⟨rfl, rfl, by rw [ht]; simp [oSV]; rfl, rfl, trivial⟩ (by rw [ht]; exact ⟨rfl, by simp [oM]; rfl, trivial⟩) fun _ h => h⟩
 · obtain rfl : k = S.length := by omega
   show vc _ _ _ _
   unfold fsO
   generalize fsP x.d S S.length = D at *
   clear h63' hn h
   obtain ⟨days, shift, size, to, tc, T, lo, lc, L⟩ := x
   cases D with
   | nil =>
    repeat'
     conv => whnf
     first
      | refine zA ?_ | refine zB ?_ | refine zC ?_ | refine zD ?_ | refine zE ?_ | refine zF ?_ | refine zG ?_ | refine zH ?_ | refine zJ ?_ | refine zI ?_ | refine splT ?_ | refine splF ?_ | refine splNot ?_
      | ((first | refine splIn ?_ ?_ | refine splD ?_ ?_ | refine splE ?_ ?_ | refine splNE ?_ ?_) <;> intro hc <;> first | (exfalso; omega) | (exfalso; dsimp only at hc; omega) | skip)
    exact ⟨fun w' h => h, fun β w' hB hblk => oNil (i := 1) (j := 2) (f := flF) (sz := 2)⟩
   | cons a0 D =>
    repeat'
     conv => whnf
     first
      | refine zA ?_ | refine zB ?_ | refine zC ?_ | refine zD ?_ | refine zE ?_ | refine zF ?_ | refine zG ?_ | refine zH ?_ | refine zJ ?_ | refine zI ?_ | refine splT ?_ | refine splF ?_ | refine splNot ?_
      | ((first | refine splIn ?_ ?_ | refine splD ?_ ?_ | refine splE ?_ ?_ | refine splNE ?_ ?_) <;> intro hc <;> first | (exfalso; omega) | (exfalso; dsimp only at hc; omega) | skip)
    exact ⟨fun w' h => h, fun β w' hB hblk => oEnd (sz := 2) (f := flF) (fun _ => rfl) a0 D (hblk 1 _ rfl rfl)⟩
set_option maxHeartbeats 4000000 in
set_option maxRecDepth 100000 in
theorem rprofit_ok (x : Tr) (o : Option Addr) (c : Nat) (S : List (Int × Int × Int)) (w : World) (h : TrIn x w) (hn : ToN x.d) (hr : Rd 3 spF (.slice o S.length c) S w) (hl : S.length ≤ 20) (hS : SpN x.T.length S) :
 Calls Try.prog 26 #[x.v, .slice o S.length c] w fun e w' => e = .returned (iv (pfO x.d S)) ∧ Below w.heap.size w w' := by
 have hlen : x.d.T.length = x.T.length := List.length_map ..
 have hbd := pfK_bd hn (S := S) (by rw [hlen]; exact hS)
 rw [hlen] at hbd
 have h64 := fun (k f l : Nat) w' (hb : Below w.heap.size w w') => rgain_ok x k f l w' (h.below hb) hn
 have hlg := hn.leg
 have hnT := hn.n
 have hlT := hn.l
 have hlr := hn.lr
 obtain ⟨days, shift, size, to, tc, T, lo, lc, L⟩ := x
 dsimp only [Tr.d] at hnT hlT hlr
 dsimp only at hS hbd
 simp only [List.length_map] at hnT hlT hlr
 obtain ⟨_, la, rfl, _⟩ := h.l.ptr (show 1 ≤ L.length by omega)
 have hrow : ∀ a, a < T.length → ∃ ra rc row, L[a]? = some ⟨some ra, rc, row⟩ ∧ row.length = T.length ∧ Rd 2 prF (.slice (some ra) row.length rc) row w := fun a ha => by
  obtain ⟨⟨ro, rc, row⟩, hr⟩ : ∃ r, L[a]? = some r := ⟨_, List.getElem?_eq_getElem (by omega)⟩
  have hrl := (hlr row (List.mem_of_getElem? (i := a) (by rw [List.getElem?_map, hr]; rfl))).1
  have h1 := h.li _ (List.mem_of_getElem? hr)
  dsimp only at h1
  obtain ⟨_, ra, rfl, _⟩ := h1.ptr (show 1 ≤ row.length by omega)
  exact ⟨ra, rc, row, hr, hrl, h1⟩
 have hlgo : ∀ a t ra rc row c, L[a]? = some ⟨some ra, rc, row⟩ → row[t]? = some c → lgO (Tr.d ⟨days, shift, size, to, tc, T, some la, lc, L⟩) a t = c := fun a t ra rc row c h1 h2 => by
  simp only [lgO, Tr.d, List.getElem?_map, h1, Option.map_some, Option.getD_some, h2]
 refine calls_val env mixed Try.func26 has26 Try.ntmps26 [.agg #[iv days, iv shift, iv size, .slice to T.length tc, .slice (some la) L.length lc], .slice o S.length c] (by simp) ?_
 repeat'
  conv => whnf
  first
   | refine zA ?_ | refine zB ?_ | refine zC ?_ | refine zD ?_ | refine zE ?_ | refine zF ?_ | refine zG ?_ | refine zH ?_ | refine zJ ?_ | refine zI ?_ | refine splT ?_ | refine splF ?_ | refine splNot ?_
   | ((first | refine splIn ?_ ?_ | refine splD ?_ ?_ | refine splE ?_ ?_ | refine splNE ?_ ?_) <;> intro hc <;> first | (exfalso; omega) | (exfalso; dsimp only at hc; omega) | skip)
 refine loopE (fun k : Nat => [(1, .v (.slice o S.length c)), (2, .ptr 0 0), (5, .v (iv (pfK (Tr.d ⟨days, shift, size, to, tc, T, some la, lc, L⟩) S k).1)), (6, .v (iv (pfK (Tr.d ⟨days, shift, size, to, tc, T, some la, lc, L⟩) S k).2)), (7, .v (iv k))]) (fun _ => [(0, .cells [.v (iv days), .v (iv shift), .v (iv size), .v (.slice to T.length tc), .v (.slice (some la) L.length lc)] 25)])
  (fun k => k ≤ S.length) (fun k => S.length - k) 0 (Nat.zero_le _) ⟨rfl, rfl, rfl, rfl, rfl, trivial⟩ ⟨rfl, trivial⟩ (fun _ => ⟨rfl, rfl⟩) ?_
 intro k hk
 have hb := hbd k hk
 obtain ⟨ra, rc, row, hr1, hr2, hr3⟩ := hrow (pfK (Tr.d ⟨days, shift, size, to, tc, T, some la, lc, L⟩) S k).2 hb.2
 have e1 := fun (w' : World) hw' => rd_ati ((h.l).below (w' := w') hw') hr1
 rcases Nat.lt_or_ge k S.length with hkl | hkl
 · obtain ⟨s, hs⟩ : ∃ s, S[k]? = some s := ⟨_, List.getElem?_eq_getElem hkl⟩
   obtain ⟨t, f, l, rfl, g1, g2, g3⟩ := hS s (List.mem_of_getElem? hs)
   obtain ⟨_, ad, rfl, _⟩ := hr.ptr (by omega)
   have e0 := fun (w' : World) hw' => rd_ati (hr.below (w' := w') hw') hs
   obtain ⟨⟨p1, p2⟩, hp⟩ : ∃ p, row[t]? = some p := ⟨_, List.getElem?_eq_getElem (by omega)⟩
   have e2 := fun (w' : World) hw' => rd_fldz (hr3.below (w' := w') hw') hp ((t : Nat) : Int) rfl 1 (iv p2) rfl
   have hst : pfK (Tr.d ⟨days, shift, size, to, tc, T, some la, lc, L⟩) S (k + 1) = ((pfK (Tr.d ⟨days, shift, size, to, tc, T, some la, lc, L⟩) S k).1 + (gnO (Tr.d ⟨days, shift, size, to, tc, T, some la, lc, L⟩) t f l - p2), t) := by
    simp only [pfK, hs, Int.toNat_natCast, csO, hlgo _ _ _ _ _ _ hr1 hp]
   have hg := gn_bd hn (a := t) (d := f) (l := l) g1.1 g2
   have hcs := hlg (pfK (Tr.d ⟨days, shift, size, to, tc, T, some la, lc, L⟩) S k).2 t
   rw [hlgo _ _ _ _ _ _ hr1 hp] at hcs
   have h64' := fun w' hb => h64 t f l w' hb g1.1 (show t < T.length by omega) ⟨by omega, by omega, by omega⟩
   have e5 := fun (w' : World) hw' => rd_fldz (hr.below (w' := w') hw') hs _ rfl 0 (iv t) rfl
   generalize gnO (Tr.d ⟨days, shift, size, to, tc, T, some la, lc, L⟩) t f l = G at *
   generalize pfK (Tr.d ⟨days, shift, size, to, tc, T, some la, lc, L⟩) S k = PK at *
   obtain ⟨P, a⟩ := PK
   dsimp only at hb hr1 e1 hst ⊢
   repeat'
    conv => whnf
    first
     | refine zA ?_ | refine zB ?_ | refine zC ?_ | refine zD ?_ | refine zE ?_ | refine zF ?_ | refine zG ?_ | refine zH ?_ | refine zJ ?_ | refine zI ?_ | refine splT ?_ | refine splF ?_ | refine splNot ?_
     | ((first | refine splIn ?_ ?_ | refine splD ?_ ?_ | refine splE ?_ ?_ | refine splNE ?_ ?_) <;> intro hc <;> first | (exfalso; omega) | (exfalso; dsimp only at hc; omega) | skip)
     | refine Exists.intro (α := List Value) [iv t, iv f, iv l] ⟨⟨rfl, fun w' hw' => e0 w' hw'⟩, ?_⟩
     | ((with_reducible show CallEv _ _ 64 _ _ _ _ _); refine callE (k := 64) (fun β w' hbw => h64' w' hbw) ?_)
     | refine Exists.intro (α := List Value) [iv t] ⟨⟨rfl, fun w' hw' => e5 w' hw'⟩, ?_⟩
     | refine Exists.intro (α := List Value) [.slice (some ra) row.length rc] ⟨⟨rfl, fun w' hw' => e1 w' hw'⟩, ?_⟩
     | refine Exists.intro (α := List Value) [iv p2] ⟨⟨rfl, fun w' hw' => e2 w' hw'⟩, ?_⟩
   all_goals first | (exfalso; omega) | exact ⟨k + 1, by omega, by omega, Ent.weak rfl ⟨rfl, rfl, by rw [hst]; rfl, by rw [hst]; rfl, rfl, trivial⟩ ⟨rfl, trivial⟩ fun _ h => h⟩
 · obtain rfl : k = S.length := by omega
   obtain ⟨⟨p1, p2⟩, hp⟩ : ∃ p, row[0]? = some p := ⟨_, List.getElem?_eq_getElem (by omega)⟩
   have e2 := fun (w' : World) hw' => rd_fldz (hr3.below (w' := w') hw') hp (0 : Int) rfl 1 (iv p2) rfl
   have hcs := hlg (pfK (Tr.d ⟨days, shift, size, to, tc, T, some la, lc, L⟩) S S.length).2 0
   rw [hlgo _ _ _ _ _ _ hr1 hp] at hcs
   have hpf : pfO (Tr.d ⟨days, shift, size, to, tc, T, some la, lc, L⟩) S = (pfK (Tr.d ⟨days, shift, size, to, tc, T, some la, lc, L⟩) S S.length).1 - p2 := by
    simp only [pfO, csO, hlgo _ _ _ _ _ _ hr1 hp]
   rw [hpf]
   generalize pfK (Tr.d ⟨days, shift, size, to, tc, T, some la, lc, L⟩) S S.length = PK at *
   obtain ⟨P, a⟩ := PK
   dsimp only at hb hr1 e1 ⊢
   repeat'
    conv => whnf
    first
     | refine zA ?_ | refine zB ?_ | refine zC ?_ | refine zD ?_ | refine zE ?_ | refine zF ?_ | refine zG ?_ | refine zH ?_ | refine zJ ?_ | refine zI ?_ | refine splT ?_ | refine splF ?_ | refine splNot ?_
     | ((first | refine splIn ?_ ?_ | refine splD ?_ ?_ | refine splE ?_ ?_ | refine splNE ?_ ?_) <;> intro hc <;> first | (exfalso; omega) | (exfalso; dsimp only at hc; omega) | skip)
     | refine Exists.intro (α := List Value) [.slice (some ra) row.length rc] ⟨⟨rfl, fun w' hw' => e1 w' hw'⟩, ?_⟩
     | refine Exists.intro (α := List Value) [iv p2] ⟨⟨rfl, fun w' hw' => e2 w' hw'⟩, ?_⟩
   all_goals first | (exfalso; omega) | exact ⟨fun β => rfl, fun w' h => h⟩
end Go.Proofs.Ythfabodamhdhaaa
