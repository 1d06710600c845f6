/- The tests of a stop: what they return. -/
import Derived.Test.YthfabodamhdhaaaRL
namespace Go.Proofs.Ythfabodamhdhaaa
open Go Tx Go.RowKit
set_option linter.unusedSimpArgs false
set_option linter.unusedVariables false
abbrev spF (s : Int × Int × Int) : List Value := [iv s.1, iv s.2.1, iv s.2.2]
structure SpIn (o : Option Addr) (c : Nat) (S : List (Int × Int × Int)) (w : World) : Prop where
 r : Rd 3 spF (.slice o S.length c) S w
 l : S.length ≤ 1000000
 c : S.length ≤ c
 n : ∀ s ∈ S, (-9223372036854775808 ≤ s.2.1 ∧ s.2.1 ≤ 9223372036854775807) ∧ -9223372036854775808 ≤ s.2.2 ∧ s.2.2 ≤ 9223372036854775807
theorem SpIn.below {o : Option Addr} {c : Nat} {S : List (Int × Int × Int)} {w w' : World} (h : SpIn o c S w) (hb : Below w.heap.size w w') : SpIn o c S w' := ⟨h.r.below hb, h.l, h.c, h.n⟩
def twO (x : To) (k : Int) : Tw := (x.T[k.toNat]?).getD ⟨[], 0, 0, 0, 0, 0, [], 0, 0⟩
def ts1 (x : To) (k : Int) : Bool := !(inB k 1 ((x.T.length : Int) - 1))
def ts2 (x : To) (k : Int) : Bool := decide ((twO x k).lot < x.size)
def ts3 (x : To) (k f l : Int) : Bool := !(fitB (twO x k).s1 (twO x k).s2 f l)
def ts4 (x : To) (k f l : Int) : Bool := !(licB (twO x k).O f l)
def ts5 (S : List (Int × Int × Int)) (i : Nat) (k : Int) : Bool := (S.take i).any fun s => s.1 == k
def ts6 (x : To) (S : List (Int × Int × Int)) (i : Nat) (k f : Int) : Bool := match i with
 | 0 => decide (-1 > f - 1 - lsO x 0 k.toNat)
 | j + 1 => match S[j]? with
  | some p => inB p.1 1 ((x.T.length : Int) - 1) && decide (p.2.2 > f - 1 - lsO x p.1.toNat k.toNat)
  | none => false
def ts7 (x : To) (S : List (Int × Int × Int)) (i : Nat) (k l : Int) : Bool := decide (i + 1 = S.length) && decide (l + lsO x k.toNat 0 > x.days - 1)
theorem rd_flds {α : Type} {sz : Nat} {f : α → List Value} {ad : Addr} {n c : Nat} {L : List α} {w : World} (h : Rd sz f (.slice (some ad) n c) L w) {k : Nat} {b : α} (hk : L[k]? = some b) (z : Int) (hz : z = k) (o : Nat) (vs : List Value) (hv : ∀ j v, vs[j]? = some v → (f b)[o + j]? = some v) :
 ∀ j u, vs[j]? = some u → w.cell? (((ad.add (z.toNat * sz)).add o).add j) = some u := fun j u hu => by
 subst hz
 rw [Addr.add_add]
 exact rd_ati h hk _ _ (hv j u hu)
theorem twO_eq {x : Tr} {k : Int} {t : Tn} (h : x.T[k.toNat]? = some t) : twO x.d k = t.d := by
 simp only [twO, Tr.d, List.getElem?_map, h, Option.map_some, Option.getD_some]
section
variable (x : Tr) (o : Option Addr) (c : Nat) (S : List (Int × Int × Int)) (i : Nat) (k f l : Int) (w : World) (h : TrIn x w) (hn : ToN x.d) (hS : SpIn o c S w) (hi : S[i]? = some (k, f, l))
include h hn hS hi
set_option maxRecDepth 100000 in
theorem test1_ok : Calls Try.prog 144 #[x.v, .slice o S.length c, iv i] w fun e w' => e = .returned (.bool (ts1 x.d k)) ∧ Below w.heap.size w w' := by
 have hp := fun w' => played_ok x k w' h.tl
 have hlen : x.d.T.length = x.T.length := List.length_map ..
 unfold ts1
 rw [hlen]
 obtain ⟨days, shift, size, to, tc, T, lo, lc, L⟩ := x
 have hil : i < S.length := (List.getElem?_eq_some_iff.1 hi).1
 have hsl := hS.l
 obtain ⟨_, ad, rfl, _⟩ := hS.r.ptr (by omega)
 have e0 := fun (w' : World) hw' => rd_fld (hS.r.below (w' := w') hw') hi 0 (iv k) rfl
 obtain ⟨b, hb⟩ : ∃ b, inB k 1 ((T.length : Int) - 1) = b := ⟨_, rfl⟩
 dsimp only at hp ⊢
 rw [hb] at hp ⊢
 refine calls_val env mixed Try.func144 has144 Try.ntmps144 [.agg #[iv days, iv shift, iv size, .slice to T.length tc, .slice lo L.length lc], .slice (some ad) S.length c, iv i] (by simp) ?_
 cases b
 all_goals skip
 repeat'
  conv => whnf
  first
   | refine zA ?_ | refine zB ?_ | refine zC ?_ | refine zD ?_ | refine zE ?_ | refine zF ?_ | refine zG ?_ | refine zH ?_ | refine zJ ?_ | refine zI ?_ | refine splT ?_ | refine splF ?_ | refine splNot ?_
   | ((first | refine splIn ?_ ?_ | refine splD ?_ ?_ | refine splE ?_ ?_ | refine splNE ?_ ?_) <;> intro hc <;> first | (exfalso; omega) | (exfalso; dsimp only at hc; omega) | skip)
   | refine Exists.intro (α := List Value) [iv k] ⟨⟨rfl, fun w' hw' => e0 w' hw'⟩, ?_⟩
   | ((with_reducible show CallEv _ _ 69 _ _ _ _ _); refine callE (k := 69) (fun β w' hbw => hp _) ?_)
 all_goals first | (exfalso; omega) | exact ⟨fun β => rfl, fun w' h => h⟩
set_option maxHeartbeats 1000000 in
set_option maxRecDepth 100000 in
theorem test2_ok (hk : 1 ≤ k ∧ k < x.T.length) : Calls Try.prog 145 #[x.v, .slice o S.length c, iv i] w fun e w' => e = .returned (.bool (ts2 x.d k)) ∧ Below w.heap.size w w' := by
 obtain ⟨t, ht⟩ : ∃ t, x.T[k.toNat]? = some t := ⟨_, List.getElem?_eq_getElem (by omega)⟩
 have htw := twO_eq (x := x) ht
 have hti := h.ti t (List.mem_of_getElem? ht)
 have hkz : k = k.toNat := by omega
 unfold ts2
 rw [htw]
 obtain ⟨days, shift, size, to, tc, T, lo, lc, L⟩ := x
 have hT := h.t
 obtain ⟨oo, oc, ro, rc, O, s1, s2, pay, lot, rent, R, cold, cut⟩ := t
 have hil : i < S.length := (List.getElem?_eq_some_iff.1 hi).1
 have hsl := hS.l
 have htl := h.tl
 dsimp only at hT htl hk ht ⊢
 obtain ⟨_, ad, rfl, _⟩ := hS.r.ptr (by omega)
 obtain ⟨_, ta, rfl, _⟩ := hT.ptr (by omega)
 have e0 := fun (w' : World) hw' => rd_fld (hS.r.below (w' := w') hw') hi 0 (iv k) rfl
 have e1 := fun (w' : World) hw' => rd_fldz (hT.below (w' := w') hw') ht k hkz 4 (iv lot) rfl
 have e2 := fun (w' : World) hw' => rd_ati (hS.r.below (w' := w') hw') hi
 have e3 := fun (w' : World) hw' => rd_flds (hT.below (w' := w') hw') ht k hkz 1 [iv s1, iv s2] (fun j v hj => by
  match j, hj with
  | 0, hj => exact hj
  | 1, hj => exact hj)
 have e4 := fun (w' : World) hw' => rd_atz (hT.below (w' := w') hw') ht k hkz
 refine calls_val env mixed Try.func145 has145 Try.ntmps145 [.agg #[iv days, iv shift, iv size, .slice (some ta) T.length tc, .slice lo L.length lc], .slice (some ad) S.length c, iv i] (by simp) ?_
 repeat'
  conv => whnf
  first
   | refine zA ?_ | refine zB ?_ | refine zC ?_ | refine zD ?_ | refine zE ?_ | refine zF ?_ | refine zG ?_ | refine zH ?_ | refine zJ ?_ | refine zI ?_ | refine splT ?_ | refine splF ?_ | refine splNot ?_
   | ((first | refine splIn ?_ ?_ | refine splD ?_ ?_ | refine splE ?_ ?_ | refine splNE ?_ ?_) <;> intro hc <;> first | (exfalso; omega) | (exfalso; dsimp only at hc; omega) | skip)
   | refine Exists.intro (α := List Value) [iv k] ⟨⟨rfl, fun w' hw' => e0 w' hw'⟩, ?_⟩
   | refine Exists.intro (α := List Value) [iv lot] ⟨⟨rfl, fun w' hw' => e1 w' hw'⟩, ?_⟩
 all_goals first | (exfalso; omega) | exact ⟨fun β => rfl, fun w' h => h⟩
set_option maxHeartbeats 1000000 in
set_option maxRecDepth 100000 in
theorem test3_ok (hk : 1 ≤ k ∧ k < x.T.length) : Calls Try.prog 146 #[x.v, .slice o S.length c, iv i] w fun e w' => e = .returned (.bool (ts3 x.d k f l)) ∧ Below w.heap.size w w' := by
 obtain ⟨t, ht⟩ : ∃ t, x.T[k.toNat]? = some t := ⟨_, List.getElem?_eq_getElem (by omega)⟩
 have htw := twO_eq (x := x) ht
 have hti := h.ti t (List.mem_of_getElem? ht)
 have hkz : k = k.toNat := by omega
 unfold ts3
 rw [htw]
 have hnb := hS.n _ (List.mem_of_getElem? hi)
 have h147 := fun w' => fits_ok k f l t.d.s1 t.d.s2 w' (by have := hnb.1; dsimp only at this; omega) (by have := hnb.2; dsimp only at this; omega)
 obtain ⟨b, hb⟩ : ∃ b, fitB t.d.s1 t.d.s2 f l = b := ⟨_, rfl⟩
 rw [hb] at h147 ⊢
 obtain ⟨days, shift, size, to, tc, T, lo, lc, L⟩ := x
 have hT := h.t
 obtain ⟨oo, oc, ro, rc, O, s1, s2, pay, lot, rent, R, cold, cut⟩ := t
 have hil : i < S.length := (List.getElem?_eq_some_iff.1 hi).1
 have hsl := hS.l
 have htl := h.tl
 dsimp only at hT htl hk ht ⊢
 obtain ⟨_, ad, rfl, _⟩ := hS.r.ptr (by omega)
 obtain ⟨_, ta, rfl, _⟩ := hT.ptr (by omega)
 have e0 := fun (w' : World) hw' => rd_fld (hS.r.below (w' := w') hw') hi 0 (iv k) rfl
 have e1 := fun (w' : World) hw' => rd_fldz (hT.below (w' := w') hw') ht k hkz 4 (iv lot) rfl
 have e2 := fun (w' : World) hw' => rd_ati (hS.r.below (w' := w') hw') hi
 have e3 := fun (w' : World) hw' => rd_flds (hT.below (w' := w') hw') ht k hkz 1 [iv s1, iv s2] (fun j v hj => by
  match j, hj with
  | 0, hj => exact hj
  | 1, hj => exact hj)
 have e4 := fun (w' : World) hw' => rd_atz (hT.below (w' := w') hw') ht k hkz
 refine calls_val env mixed Try.func146 has146 Try.ntmps146 [.agg #[iv days, iv shift, iv size, .slice (some ta) T.length tc, .slice lo L.length lc], .slice (some ad) S.length c, iv i] (by simp) ?_
 cases b
 all_goals skip
 repeat'
  conv => whnf
  first
   | refine zA ?_ | refine zB ?_ | refine zC ?_ | refine zD ?_ | refine zE ?_ | refine zF ?_ | refine zG ?_ | refine zH ?_ | refine zJ ?_ | refine zI ?_ | refine splT ?_ | refine splF ?_ | refine splNot ?_
   | ((first | refine splIn ?_ ?_ | refine splD ?_ ?_ | refine splE ?_ ?_ | refine splNE ?_ ?_) <;> intro hc <;> first | (exfalso; omega) | (exfalso; dsimp only at hc; omega) | skip)
   | refine Exists.intro (α := List Value) [iv k] ⟨⟨rfl, fun w' hw' => e0 w' hw'⟩, ?_⟩
   | refine Exists.intro (α := List Value) [iv k, iv f, iv l] ⟨⟨rfl, fun w' hw' => e2 w' hw'⟩, ?_⟩
   | refine Exists.intro (α := List Value) [iv s1, iv s2] ⟨⟨rfl, fun w' hw' => e3 w' hw'⟩, ?_⟩
   | ((with_reducible show CallEv _ _ 147 _ _ _ _ _); refine callE (k := 147) (fun β w' hbw => h147 _) ?_)
 all_goals first | (exfalso; omega) | exact ⟨fun β => rfl, fun w' h => h⟩
set_option maxHeartbeats 1000000 in
set_option maxRecDepth 100000 in
theorem test4_ok (hk : 1 ≤ k ∧ k < x.T.length) : Calls Try.prog 148 #[x.v, .slice o S.length c, iv i] w fun e w' => e = .returned (.bool (ts4 x.d k f l)) ∧ Below w.heap.size w w' := by
 obtain ⟨t, ht⟩ : ∃ t, x.T[k.toNat]? = some t := ⟨_, List.getElem?_eq_getElem (by omega)⟩
 have htw := twO_eq (x := x) ht
 have hti := h.ti t (List.mem_of_getElem? ht)
 have hkz : k = k.toNat := by omega
 unfold ts4
 rw [htw]
 have h149 := fun w' hb => licensed_ok t k f l w' (hti.below hb)
 obtain ⟨b, hb⟩ : ∃ b, licB t.d.O f l = b := ⟨_, rfl⟩
 rw [hb] at h149 ⊢
 obtain ⟨days, shift, size, to, tc, T, lo, lc, L⟩ := x
 have hT := h.t
 obtain ⟨oo, oc, ro, rc, O, s1, s2, pay, lot, rent, R, cold, cut⟩ := t
 have hil : i < S.length := (List.getElem?_eq_some_iff.1 hi).1
 have hsl := hS.l
 have htl := h.tl
 dsimp only at hT htl hk ht ⊢
 obtain ⟨_, ad, rfl, _⟩ := hS.r.ptr (by omega)
 obtain ⟨_, ta, rfl, _⟩ := hT.ptr (by omega)
 have e0 := fun (w' : World) hw' => rd_fld (hS.r.below (w' := w') hw') hi 0 (iv k) rfl
 have e1 := fun (w' : World) hw' => rd_fldz (hT.below (w' := w') hw') ht k hkz 4 (iv lot) rfl
 have e2 := fun (w' : World) hw' => rd_ati (hS.r.below (w' := w') hw') hi
 have e3 := fun (w' : World) hw' => rd_flds (hT.below (w' := w') hw') ht k hkz 1 [iv s1, iv s2] (fun j v hj => by
  match j, hj with
  | 0, hj => exact hj
  | 1, hj => exact hj)
 have e4 := fun (w' : World) hw' => rd_atz (hT.below (w' := w') hw') ht k hkz
 refine calls_val env mixed Try.func148 has148 Try.ntmps148 [.agg #[iv days, iv shift, iv size, .slice (some ta) T.length tc, .slice lo L.length lc], .slice (some ad) S.length c, iv i] (by simp) ?_
 cases b
 all_goals skip
 repeat'
  conv => whnf
  first
   | refine zA ?_ | refine zB ?_ | refine zC ?_ | refine zD ?_ | refine zE ?_ | refine zF ?_ | refine zG ?_ | refine zH ?_ | refine zJ ?_ | refine zI ?_ | refine splT ?_ | refine splF ?_ | refine splNot ?_
   | ((first | refine splIn ?_ ?_ | refine splD ?_ ?_ | refine splE ?_ ?_ | refine splNE ?_ ?_) <;> intro hc <;> first | (exfalso; omega) | (exfalso; dsimp only at hc; omega) | skip)
   | refine Exists.intro (α := List Value) [iv k] ⟨⟨rfl, fun w' hw' => e0 w' hw'⟩, ?_⟩
   | refine Exists.intro (α := List Value) [iv k, iv f, iv l] ⟨⟨rfl, fun w' hw' => e2 w' hw'⟩, ?_⟩
   | refine Exists.intro (α := List Value) [.slice oo O.length oc, iv s1, iv s2, iv pay, iv lot, iv rent, .slice ro R.length rc, iv cold, iv cut] ⟨⟨rfl, fun w' hw' => e4 w' hw'⟩, ?_⟩
   | ((with_reducible show CallEv _ _ 149 _ _ _ _ _); refine callE (k := 149) (fun β w' hbw => h149 _ hbw) ?_)
 all_goals first | (exfalso; omega) | exact ⟨fun β => rfl, fun w' h => h⟩
set_option maxHeartbeats 1000000 in
set_option maxRecDepth 100000 in
theorem test5_ok : Calls Try.prog 150 #[x.v, .slice o S.length c, iv i] w fun e w' => e = .returned (.bool (ts5 S i k)) ∧ Below w.heap.size w w' := by
 obtain ⟨days, shift, size, to, tc, T, lo, lc, L⟩ := x
 have hil : i < S.length := (List.getElem?_eq_some_iff.1 hi).1
 have hsl := hS.l
 have hsc := hS.c
 obtain ⟨_, ad, rfl, _⟩ := hS.r.ptr (by omega)
 have e0 := fun (w' : World) hw' => rd_fld (hS.r.below (w' := w') hw') hi 0 (iv k) rfl
 refine calls_val env mixed Try.func150 has150 Try.ntmps150 [.agg #[iv days, iv shift, iv size, .slice to T.length tc, .slice lo L.length lc], .slice (some ad) S.length c, iv i] (by simp) ?_
 repeat'
  conv => whnf
  first
   | refine zA ?_ | refine zB ?_ | refine zC ?_ | refine zD ?_ | refine zE ?_ | refine zF ?_ | refine zG ?_ | refine zH ?_ | refine zJ ?_ | refine zI ?_ | refine splT ?_ | refine splF ?_ | refine splNot ?_
   | ((first | refine splIn ?_ ?_ | refine splD ?_ ?_ | refine splE ?_ ?_ | refine splNE ?_ ?_) <;> intro hc <;> first | (exfalso; omega) | (exfalso; dsimp only at hc; omega) | skip)
   | refine slHi env (z := i) rfl rfl rfl rfl (by omega) rfl ?_
   | ((with_reducible show CallEv _ _ 151 _ _ _ _ _); refine callI env mixed 1000 [] Try.func151 has151 Try.ntmps151 (Nat.le_of_ble_eq_true rfl) rfl rfl rfl ?_)
   | ((with_reducible show CallEv _ _ 167 _ _ _ _ _); refine callI env mixed 2000 [] Try.func167 has167 Try.ntmps167 (Nat.le_of_ble_eq_true rfl) rfl rfl rfl ?_)
 all_goals first | (exfalso; omega) | skip
 refine loopE (fun j : Nat => [(0, .v (.slice (some ad) i c)), (1, .fn (.func 152) [.ptr 1 0, .ptr 2 0]), (7, .v (iv i)), (8, .v (iv j))]) (fun _ => [(0, .cells [.v (iv days), .v (iv shift), .v (iv size), .v (.slice to T.length tc), .v (.slice lo L.length lc)] 35), (1, .cells [.v (.slice (some ad) S.length c)] 28), (2, .cells [.v (iv i)] 3)]) (fun j => j ≤ i ∧ ((S.take j).any fun s => s.1 == k) = false) (fun j => i - j) 0 ⟨Nat.zero_le _, rfl⟩ ⟨rfl, rfl, rfl, rfl, trivial⟩ ⟨rfl, rfl, rfl, trivial⟩ (fun _ => ⟨rfl, rfl⟩) ?_
 intro j ⟨hj, hall⟩
 rcases Nat.lt_or_ge j i with hji | hji
 · obtain ⟨⟨k', f', l'⟩, hx⟩ : ∃ s, S[j]? = some s := ⟨_, List.getElem?_eq_getElem (by omega)⟩
   have e1 := fun (w' : World) hw' => rd_ati (hS.r.below (w' := w') hw') hx
   have ht := any_take (p := fun s : Int × Int × Int => s.1 == k) hx
   rw [hall, Bool.false_or] at ht
   dsimp only at ht
   by_cases hkk : k' = k
   · have hyes : ts5 S i k = true := by
      unfold ts5
      rw [List.any_eq_true]
      exact ⟨(k', f', l'), List.mem_of_getElem? (i := j) (by rw [List.getElem?_take, if_pos hji]; exact hx), by simp [hkk]⟩
     rw [hyes]
     repeat'
      conv => whnf
      first
       | refine zA ?_ | refine zB ?_ | refine zC ?_ | refine zD ?_ | refine zE ?_ | refine zF ?_ | refine zG ?_ | refine zH ?_ | refine zJ ?_ | refine zI ?_ | refine splT ?_ | refine splF ?_ | refine splNot ?_
       | ((first | refine splIn ?_ ?_ | refine splD ?_ ?_ | refine splE ?_ ?_ | refine splNE ?_ ?_) <;> intro hc <;> first | (exfalso; omega) | (exfalso; dsimp only at hc; omega) | skip)
       | refine Exists.intro (α := List Value) [iv k', iv f', iv l'] ⟨⟨rfl, fun w' hw' => e1 w' hw'⟩, ?_⟩
       | ((with_reducible show CallEv _ _ 152 _ _ _ _ _); refine callI env mixed 4000 [0,1,5,7,8] Try.func152 has152 Try.ntmps152 (Nat.le_of_ble_eq_true rfl) rfl rfl rfl ?_)
       | refine Exists.intro (α := List Value) [iv k] ⟨⟨rfl, fun w' hw' => e0 w' hw'⟩, ?_⟩
     all_goals first | (exfalso; omega) | exact ⟨fun β => rfl, fun w' h => h⟩
   · rw [show (k' == k) = false from by simp [hkk]] at ht
     repeat'
      conv => whnf
      first
       | refine zA ?_ | refine zB ?_ | refine zC ?_ | refine zD ?_ | refine zE ?_ | refine zF ?_ | refine zG ?_ | refine zH ?_ | refine zJ ?_ | refine zI ?_ | refine splT ?_ | refine splF ?_ | refine splNot ?_
       | ((first | refine splIn ?_ ?_ | refine splD ?_ ?_ | refine splE ?_ ?_ | refine splNE ?_ ?_) <;> intro hc <;> first | (exfalso; omega) | (exfalso; dsimp only at hc; omega) | skip)
       | refine Exists.intro (α := List Value) [iv k', iv f', iv l'] ⟨⟨rfl, fun w' hw' => e1 w' hw'⟩, ?_⟩
       | ((with_reducible show CallEv _ _ 152 _ _ _ _ _); refine callI env mixed 4000 [0,1,5,7,8] Try.func152 has152 Try.ntmps152 (Nat.le_of_ble_eq_true rfl) rfl rfl rfl ?_)
       | refine Exists.intro (α := List Value) [iv k] ⟨⟨rfl, fun w' hw' => e0 w' hw'⟩, ?_⟩
     all_goals first | (exfalso; omega) | exact ⟨j + 1, ⟨by omega, ht⟩, by omega, Ent.weak rfl ⟨rfl, rfl, rfl, rfl, trivial⟩ ⟨rfl, rfl, rfl, trivial⟩ fun _ h => h⟩
 · obtain rfl : j = i := by omega
   rw [show ts5 S j k = false from hall]
   repeat'
    conv => whnf
    first
     | refine zA ?_ | refine zB ?_ | refine zC ?_ | refine zD ?_ | refine zE ?_ | refine zF ?_ | refine zG ?_ | refine zH ?_ | refine zJ ?_ | refine zI ?_ | refine splT ?_ | refine splF ?_ | refine splNot ?_
     | ((first | refine splIn ?_ ?_ | refine splD ?_ ?_ | refine splE ?_ ?_ | refine splNE ?_ ?_) <;> intro hc <;> first | (exfalso; omega) | (exfalso; dsimp only at hc; omega) | skip)
   all_goals first | (exfalso; omega) | exact ⟨fun β => rfl, fun w' h => h⟩
set_option maxHeartbeats 1000000 in
set_option maxRecDepth 100000 in
theorem test6_ok (hk : 1 ≤ k ∧ k < x.T.length) (hf : 0 ≤ f ∧ f ≤ 59) : Calls Try.prog 153 #[x.v, .slice o S.length c, iv i] w fun e w' => e = .returned (.bool (ts6 x.d S i k f)) ∧ Below w.heap.size w w' := by
 have hnb := hS.n _ (List.mem_of_getElem? hi)
 have hil : i < S.length := (List.getElem?_eq_some_iff.1 hi).1
 have hsl := hS.l
 have htl := h.tl
 have hlen : x.d.T.length = x.T.length := List.length_map ..
 have h72 := fun (p : Int) (hp : 0 ≤ p ∧ p < x.T.length) w' hb => lost_ok x p.toNat k.toNat w' (h.below hb) hn (by omega) (by omega)
 have hls := fun p => hn.lost p k.toNat
 have hp := fun p w' => played_ok x p w' h.tl
 have hkz : (k.toNat : Int) = k := by omega
 rw [hkz] at h72
 obtain ⟨_, ad, rfl, _⟩ := hS.r.ptr (by omega)
 have e0 := fun (w' : World) hw' => rd_fld (hS.r.below (w' := w') hw') hi 0 (iv k) rfl
 have e1 := fun (w' : World) hw' => rd_fld (hS.r.below (w' := w') hw') hi 1 (iv f) rfl
 dsimp only at hnb
 cases i with
 | zero =>
  have h72' := h72 0 (by omega)
  have hl0 := hls (0 : Int).toNat
  show Calls Try.prog 153 _ w fun e w' => e = .returned (.bool (decide (-1 > f - 1 - lsO x.d (0 : Int).toNat k.toNat))) ∧ _
  generalize lsO x.d (0 : Int).toNat k.toNat = g at *
  clear h72 hls
  obtain ⟨days, shift, size, to, tc, T, lo, lc, L⟩ := x
  have hd : ∀ v, v = decide (-1 > f - 1 - g) → decide (-1 > f - 1 - g) = v := fun v h => h.symm
  refine calls_val env mixed Try.func153 has153 Try.ntmps153 [.agg #[iv days, iv shift, iv size, .slice to T.length tc, .slice lo L.length lc], .slice (some ad) S.length c, iv (0 : Nat)] (by simp) ?_
  repeat'
   conv => whnf
   first
    | refine zA ?_ | refine zB ?_ | refine zC ?_ | refine zD ?_ | refine zE ?_ | refine zF ?_ | refine zG ?_ | refine zH ?_ | refine zJ ?_ | refine zI ?_ | refine splT ?_ | refine splF ?_ | refine splNot ?_
    | ((first | refine splIn ?_ ?_ | refine splD ?_ ?_ | refine splE ?_ ?_ | refine splNE ?_ ?_) <;> intro hc <;> first | (exfalso; omega) | (exfalso; dsimp only at hc; omega) | skip)
    | refine Exists.intro (α := List Value) [iv k] ⟨⟨rfl, fun w' hw' => e0 w' hw'⟩, ?_⟩
    | refine Exists.intro (α := List Value) [iv f] ⟨⟨rfl, fun w' hw' => e1 w' hw'⟩, ?_⟩
    | ((with_reducible show CallEv _ _ 72 _ _ _ _ _); refine callE (k := 72) (fun β w' hbw => h72' _ hbw) ?_)
  all_goals first | (exfalso; omega) | exact ⟨fun β => rfl, fun w' h => h⟩
 | succ j =>
  obtain ⟨⟨p, q, r⟩, hx⟩ : ∃ s, S[j]? = some s := ⟨_, List.getElem?_eq_getElem (by omega)⟩
  have hnp := (hS.n _ (List.mem_of_getElem? hx)).2
  dsimp only at hnp
  have e2 := fun (w' : World) hw' => rd_atz (hS.r.below (w' := w') hw') hx (((j + 1 : Nat) : Int) - 1) (by omega)
  simp only [ts6, hx, hlen]
  have hpp := hp p
  obtain ⟨b, hb⟩ : ∃ b, inB p 1 ((x.T.length : Int) - 1) = b := ⟨_, rfl⟩
  rw [hb] at hpp ⊢
  cases b with
  | false =>
   clear h72 hls hp
   obtain ⟨days, shift, size, to, tc, T, lo, lc, L⟩ := x
   refine calls_val env mixed Try.func153 has153 Try.ntmps153 [.agg #[iv days, iv shift, iv size, .slice to T.length tc, .slice lo L.length lc], .slice (some ad) S.length c, iv (j + 1 : Nat)] (by simp) ?_
   repeat'
    conv => whnf
    first
     | refine zA ?_ | refine zB ?_ | refine zC ?_ | refine zD ?_ | refine zE ?_ | refine zF ?_ | refine zG ?_ | refine zH ?_ | refine zJ ?_ | refine zI ?_ | refine splT ?_ | refine splF ?_ | refine splNot ?_
     | ((first | refine splIn ?_ ?_ | refine splD ?_ ?_ | refine splE ?_ ?_ | refine splNE ?_ ?_) <;> intro hc <;> first | (exfalso; omega) | (exfalso; dsimp only at hc; omega) | skip)
     | refine Exists.intro (α := List Value) [iv p, iv q, iv r] ⟨⟨rfl, fun w' hw' => e2 w' hw'⟩, ?_⟩
     | ((with_reducible show CallEv _ _ 69 _ _ _ _ _); refine callE (k := 69) (fun β w' hbw => hpp _) ?_)
   all_goals first | (exfalso; omega) | exact ⟨fun β => rfl, fun w' h => h⟩
  | true =>
   simp only [inB, Bool.and_eq_true, decide_eq_true_eq] at hb
   have h72' := h72 p (by omega)
   have hl0 := hls p.toNat
   have hpz : (p.toNat : Int) = p := by omega
   rw [hpz] at h72'
   generalize lsO x.d p.toNat k.toNat = g at *
   clear h72 hls hp
   obtain ⟨days, shift, size, to, tc, T, lo, lc, L⟩ := x
   refine calls_val env mixed Try.func153 has153 Try.ntmps153 [.agg #[iv days, iv shift, iv size, .slice to T.length tc, .slice lo L.length lc], .slice (some ad) S.length c, iv (j + 1 : Nat)] (by simp) ?_
   repeat'
    conv => whnf
    first
     | refine zA ?_ | refine zB ?_ | refine zC ?_ | refine zD ?_ | refine zE ?_ | refine zF ?_ | refine zG ?_ | refine zH ?_ | refine zJ ?_ | refine zI ?_ | refine splT ?_ | refine splF ?_ | refine splNot ?_
     | ((first | refine splIn ?_ ?_ | refine splD ?_ ?_ | refine splE ?_ ?_ | refine splNE ?_ ?_) <;> intro hc <;> first | (exfalso; omega) | (exfalso; dsimp only at hc; omega) | skip)
     | refine Exists.intro (α := List Value) [iv p, iv q, iv r] ⟨⟨rfl, fun w' hw' => e2 w' hw'⟩, ?_⟩
     | ((with_reducible show CallEv _ _ 69 _ _ _ _ _); refine callE (k := 69) (fun β w' hbw => hpp _) ?_)
     | refine Exists.intro (α := List Value) [iv k] ⟨⟨rfl, fun w' hw' => e0 w' hw'⟩, ?_⟩
     | refine Exists.intro (α := List Value) [iv f] ⟨⟨rfl, fun w' hw' => e1 w' hw'⟩, ?_⟩
     | ((with_reducible show CallEv _ _ 72 _ _ _ _ _); refine callE (k := 72) (fun β w' hbw => h72' _ hbw) ?_)
   all_goals first | (exfalso; omega) | exact ⟨fun β => rfl, fun w' h => h⟩
set_option maxHeartbeats 1000000 in
set_option maxRecDepth 100000 in
theorem test7_ok (hk : 1 ≤ k ∧ k < x.T.length) (hl : 0 ≤ l ∧ l ≤ 59) : Calls Try.prog 154 #[x.v, .slice o S.length c, iv i] w fun e w' => e = .returned (.bool (ts7 x.d S i k l)) ∧ Below w.heap.size w w' := by
 have hnb := hS.n _ (List.mem_of_getElem? hi)
 have hil : i < S.length := (List.getElem?_eq_some_iff.1 hi).1
 have hsl := hS.l
 have htl := h.tl
 have hd := hn.d
 have h72 := fun w' hb => lost_ok x k.toNat 0 w' (h.below hb) hn (by omega) (by omega)
 have hls := hn.lost k.toNat 0
 have hkz : (k.toNat : Int) = k := by omega
 rw [hkz] at h72
 obtain ⟨_, ad, rfl, _⟩ := hS.r.ptr (by omega)
 have e0 := fun (w' : World) hw' => rd_fld (hS.r.below (w' := w') hw') hi 0 (iv k) rfl
 have e1 := fun (w' : World) hw' => rd_fld (hS.r.below (w' := w') hw') hi 2 (iv l) rfl
 dsimp only at hnb
 unfold ts7
 generalize lsO x.d k.toNat 0 = g at *
 have hdx : x.d.days = x.days := rfl
 rw [hdx] at hd ⊢
 obtain ⟨days, shift, size, to, tc, T, lo, lc, L⟩ := x
 dsimp only at hd ⊢
 refine calls_val env mixed Try.func154 has154 Try.ntmps154 [.agg #[iv days, iv shift, iv size, .slice to T.length tc, .slice lo L.length lc], .slice (some ad) S.length c, iv i] (by simp) ?_
 by_cases hq : i + 1 = S.length
 · rw [decide_eq_true hq, Bool.true_and]
   repeat'
    conv => whnf
    first
     | refine zA ?_ | refine zB ?_ | refine zC ?_ | refine zD ?_ | refine zE ?_ | refine zF ?_ | refine zG ?_ | refine zH ?_ | refine zJ ?_ | refine zI ?_ | refine splT ?_ | refine splF ?_ | refine splNot ?_
     | ((first | refine splIn ?_ ?_ | refine splD ?_ ?_ | refine splE ?_ ?_ | refine splNE ?_ ?_) <;> intro hc <;> first | (exfalso; omega) | (exfalso; dsimp only at hc; omega) | skip)
     | refine Exists.intro (α := List Value) [iv k] ⟨⟨rfl, fun w' hw' => e0 w' hw'⟩, ?_⟩
     | refine Exists.intro (α := List Value) [iv l] ⟨⟨rfl, fun w' hw' => e1 w' hw'⟩, ?_⟩
     | ((with_reducible show CallEv _ _ 72 _ _ _ _ _); refine callE (k := 72) (fun β w' hbw => h72 _ hbw) ?_)
   all_goals first | (exfalso; omega) | exact ⟨fun β => rfl, fun w' h => h⟩
 · rw [decide_eq_false hq, Bool.false_and]
   repeat'
    conv => whnf
    first
     | refine zA ?_ | refine zB ?_ | refine zC ?_ | refine zD ?_ | refine zE ?_ | refine zF ?_ | refine zG ?_ | refine zH ?_ | refine zJ ?_ | refine zI ?_ | refine splT ?_ | refine splF ?_ | refine splNot ?_
     | ((first | refine splIn ?_ ?_ | refine splD ?_ ?_ | refine splE ?_ ?_ | refine splNE ?_ ?_) <;> intro hc <;> first | (exfalso; omega) | (exfalso; dsimp only at hc; omega) | skip)
     | refine Exists.intro (α := List Value) [iv k] ⟨⟨rfl, fun w' hw' => e0 w' hw'⟩, ?_⟩
     | refine Exists.intro (α := List Value) [iv l] ⟨⟨rfl, fun w' hw' => e1 w' hw'⟩, ?_⟩
     | ((with_reducible show CallEv _ _ 72 _ _ _ _ _); refine callE (k := 72) (fun β w' hbw => h72 _ hbw) ?_)
   all_goals first | (exfalso; omega) | exact ⟨fun β => rfl, fun w' h => h⟩
end
end Go.Proofs.Ythfabodamhdhaaa
