/- A season's profit; seasons said in the program's types: what profit, Profit and Season return. -/
import Derived.Test.YthfabodamhdhaaaTC
namespace Go.Proofs.Ythfabodamhdhaaa
open Go Tx Go.RowKit
set_option linter.unusedSimpArgs false
set_option linter.unusedVariables false
def pfK (x : To) (S : List (Int × Int × Int)) : Nat → Int × Nat
 | 0 => (0, 0)
 | k + 1 => match S[k]? with
  | some (t, f, l) => ((pfK x S k).1 + (gnO x t.toNat f l - csO x (pfK x S k).2 t.toNat), t.toNat)
  | none => pfK x S k
def pfO (x : To) (S : List (Int × Int × Int)) : Int := (pfK x S S.length).1 - csO x (pfK x S S.length).2 0
def SpN (n : Nat) (S : List (Int × Int × Int)) : Prop := ∀ s ∈ S, ∃ k f l : Nat, s = ((k : Int), (f : Int), (l : Int)) ∧ (1 ≤ k ∧ k < n) ∧ (f ≤ l ∧ l < f + 10) ∧ l < 60
theorem pfK_bd {x : To} (hn : ToN x) {S : List (Int × Int × Int)} (hS : SpN x.T.length S) : ∀ k, k ≤ S.length → (-12000000 * (k : Int) ≤ (pfK x S k).1 ∧ (pfK x S k).1 ≤ 12000000 * (k : Int)) ∧ (pfK x S k).2 < x.T.length
 | 0, _ => by have := hn.n; simp [pfK]; omega
 | k + 1, hk => by
  obtain ⟨s, hs⟩ : ∃ s, S[k]? = some s := ⟨_, List.getElem?_eq_getElem (by omega)⟩
  obtain ⟨a, f, l, rfl, h1, h2, _⟩ := hS s (List.mem_of_getElem? hs)
  have ih := pfK_bd hn hS k (by omega)
  have hg := gn_bd hn (a := a) (d := f) (l := l) h1.1 h2
  have hc := hn.leg (pfK x S k).2 a
  simp only [pfK, hs, Int.toNat_natCast]
  unfold csO
  omega
theorem fstT_zero2 {x : To} {S : List (Int × Int × Int)} {i : Nat} {k f l : Int} (h : fltO x S i k f l 7 = 0) : ts1 x k = false ∧ ts2 x k = false ∧ ts3 x k f l = false ∧ ts4 x k f l = false ∧ ts5 S i k = false ∧ ts6 x S i k f = false ∧ ts7 x S i k l = false := by
 unfold fltO at h
 have := fstT_zero h
 simp only [tsA, List.take, List.mem_cons, List.not_mem_nil, or_false, forall_eq_or_imp, forall_eq] at this
 exact this
theorem fsP_nil {x : To} {S : List (Int × Int × Int)} : ∀ {m : Nat}, fsP x S m = [] → ∀ k, k < m → ∀ a f l, S[k]? = some (a, f, l) → fltO x S k a f l 7 = 0
 | 0, _, k, hk, _, _, _, _ => by omega
 | m + 1, h, k, hk, a, f, l, hs => by
  rcases (by omega : k < m ∨ k = m) with hk | rfl
  · refine fsP_nil (m := m) ?_ k hk a f l hs
    simp only [fsP] at h
    split at h
    · split at h
      · exact h
      · simp at h
    · exact h
  · simp only [fsP, hs] at h
    split at h
    · assumption
    · simp at h
theorem fs_spn {x : To} (hn : ToN x) {S : List (Int × Int × Int)} (h : fsO x S = []) : SpN x.T.length S := fun s hs => by
 obtain ⟨k, hk⟩ := List.mem_iff_getElem?.1 hs
 obtain ⟨a, f, l⟩ := s
 have hz := fstT_zero2 (fsP_nil (m := S.length) h k (List.getElem?_eq_some_iff.1 hk).1 a f l hk)
 obtain ⟨h1, _, h3, h4, _⟩ := hz
 simp only [ts1, Bool.not_eq_false', inB, Bool.and_eq_true, decide_eq_true_eq] at h1
 have hT := twN_of hn (a := a.toNat) (by omega) (by omega)
 have hto : twO x (a.toNat : Int) = twO x a := by rw [Int.toNat_of_nonneg (by omega)]
 rw [hto] at hT
 have hs2 := hT.s
 simp only [ts3, Bool.not_eq_false', fitB, inB, Bool.and_eq_true, decide_eq_true_eq] at h3
 simp only [ts4, Bool.not_eq_false', licB, List.any_eq_true, inB, Bool.and_eq_true, decide_eq_true_eq] at h4
 obtain ⟨r, hr, h5⟩ := h4
 obtain ⟨t, ht⟩ : ∃ t, x.T[a.toNat]? = some t := ⟨_, List.getElem?_eq_getElem (by omega)⟩
 have htw : twO x a = t := by simp [twO, ht]
 rw [htw] at hr
 have hb := hn.t a.toNat (by omega) t ht
 have hd := hn.d
 have hop : ∀ (O : List (Int × Int)) (last : Int), apB x.days last O = true → -1 ≤ last → ∀ r ∈ O, 0 ≤ r.1 ∧ r.2 ≤ x.days - 1 := by
  intro O
  induction O with
  | nil => intro _ _ _ r hr; cases hr
  | cons q O ih =>
   intro last h hl r hr
   simp only [apB, Bool.and_eq_true, decide_eq_true_eq] at h
   rcases List.mem_cons.1 hr with rfl | hr
   · omega
   · exact ih q.2 h.2 (by omega) r hr
 simp only [twB, Bool.and_eq_true] at hb
 have h6 := hop t.O (-1) hb.2.1 (by omega) r hr
 refine ⟨a.toNat, f.toNat, l.toNat, ?_, by omega, by omega, by omega⟩
 rw [Int.toNat_of_nonneg (by omega), Int.toNat_of_nonneg (by omega), Int.toNat_of_nonneg (by omega)]
set_option maxHeartbeats 4000000 in
set_option maxRecDepth 100000 in
theorem profit_ok (x : Tr) (o : Option Addr) (c : Nat) (S : List (Int × Int × Int)) (w : World) (h : TrIn x w) (hn : ToN x.d) (hr : Rd 3 spF (.slice o S.length c) S w) (hl : S.length ≤ 20) (hS : SpN x.T.length S) :
 Calls Try.prog 75 #[x.v, .slice o S.length c] w fun e w' => e = .returned (iv (pfO x.d S)) ∧ Below w.heap.size w w' := by
 have hlen : x.d.T.length = x.T.length := List.length_map ..
 have hbd := pfK_bd hn (S := S) (by rw [hlen]; exact hS)
 rw [hlen] at hbd
 have h101 := fun (k : Nat) (f l : Int) w' (hb : Below w.heap.size w w') => gain_ok x k f l w' (h.below hb) hn
 have hlg := hn.leg
 have hnT := hn.n
 have hlT := hn.l
 have hlr := hn.lr
 obtain ⟨days, shift, size, to, tc, T, lo, lc, L⟩ := x
 dsimp only [Tr.d] at hnT hlT hlr
 dsimp only at hS hbd
 simp only [List.length_map] at hnT hlT hlr
 obtain ⟨_, la, rfl, _⟩ := h.l.ptr (show 1 ≤ L.length by omega)
 have hrow : ∀ a, a < T.length → ∃ ra rc row, L[a]? = some ⟨some ra, rc, row⟩ ∧ row.length = T.length ∧ Rd 2 prF (.slice (some ra) row.length rc) row w := fun a ha => by
  obtain ⟨⟨ro, rc, row⟩, hr⟩ : ∃ r, L[a]? = some r := ⟨_, List.getElem?_eq_getElem (by omega)⟩
  have hrl := (hlr row (List.mem_of_getElem? (i := a) (by rw [List.getElem?_map, hr]; rfl))).1
  have h1 := h.li _ (List.mem_of_getElem? hr)
  dsimp only at h1
  obtain ⟨_, ra, rfl, _⟩ := h1.ptr (show 1 ≤ row.length by omega)
  exact ⟨ra, rc, row, hr, hrl, h1⟩
 have hlgo : ∀ a t ra rc row c, L[a]? = some ⟨some ra, rc, row⟩ → row[t]? = some c → lgO (Tr.d ⟨days, shift, size, to, tc, T, some la, lc, L⟩) a t = c := fun a t ra rc row c h1 h2 => by
  simp only [lgO, Tr.d, List.getElem?_map, h1, Option.map_some, Option.getD_some, h2]
 refine calls_val env mixed Try.func75 has75 Try.ntmps75 [.agg #[iv days, iv shift, iv size, .slice to T.length tc, .slice (some la) L.length lc], .slice o S.length c] (by simp) ?_
 repeat'
  conv => whnf
  first
   | refine zA ?_ | refine zB ?_ | refine zC ?_ | refine zD ?_ | refine zE ?_ | refine zF ?_ | refine zG ?_ | refine zH ?_ | refine zJ ?_ | refine zI ?_ | refine splT ?_ | refine splF ?_ | refine splNot ?_
   | ((first | refine splIn ?_ ?_ | refine splD ?_ ?_ | refine splE ?_ ?_ | refine splNE ?_ ?_) <;> intro hc <;> first | (exfalso; omega) | (exfalso; dsimp only at hc; omega) | skip)
 refine loopE (fun k : Nat => [(2, .ptr 0 0), (4, .v (iv (pfK (Tr.d ⟨days, shift, size, to, tc, T, some la, lc, L⟩) S k).1)), (5, .v (iv (pfK (Tr.d ⟨days, shift, size, to, tc, T, some la, lc, L⟩) S k).2)), (8, .v (.slice o S.length c)), (9, .v (iv S.length)), (10, .v (iv k))]) (fun _ => [(0, .cells [.v (iv days), .v (iv shift), .v (iv size), .v (.slice to T.length tc), .v (.slice (some la) L.length lc)] 35)])
  (fun k => k ≤ S.length) (fun k => S.length - k) 0 (Nat.zero_le _) ⟨rfl, rfl, rfl, rfl, rfl, rfl, trivial⟩ ⟨rfl, trivial⟩ (fun _ => ⟨rfl, rfl⟩) ?_
 intro k hk
 have hb := hbd k hk
 obtain ⟨ra, rc, row, hr1, hr2, hr3⟩ := hrow (pfK (Tr.d ⟨days, shift, size, to, tc, T, some la, lc, L⟩) S k).2 hb.2
 have e1 := fun (w' : World) hw' => rd_ati ((h.l).below (w' := w') hw') hr1
 rcases Nat.lt_or_ge k S.length with hkl | hkl
 · obtain ⟨s, hs⟩ : ∃ s, S[k]? = some s := ⟨_, List.getElem?_eq_getElem hkl⟩
   obtain ⟨t, f, l, rfl, g1, g2, g3⟩ := hS s (List.mem_of_getElem? hs)
   obtain ⟨_, ad, rfl, _⟩ := hr.ptr (by omega)
   have e0 := fun (w' : World) hw' => rd_ati (hr.below (w' := w') hw') hs
   obtain ⟨⟨p1, p2⟩, hp⟩ : ∃ p, row[t]? = some p := ⟨_, List.getElem?_eq_getElem (by omega)⟩
   have e2 := fun (w' : World) hw' => rd_fldz (hr3.below (w' := w') hw') hp ((t : Nat) : Int) rfl 1 (iv p2) rfl
   have hst : pfK (Tr.d ⟨days, shift, size, to, tc, T, some la, lc, L⟩) S (k + 1) = ((pfK (Tr.d ⟨days, shift, size, to, tc, T, some la, lc, L⟩) S k).1 + (gnO (Tr.d ⟨days, shift, size, to, tc, T, some la, lc, L⟩) t f l - p2), t) := by
    simp only [pfK, hs, Int.toNat_natCast, csO, hlgo _ _ _ _ _ _ hr1 hp]
   have hg := gn_bd hn (a := t) (d := f) (l := l) g1.1 g2
   have hcs := hlg (pfK (Tr.d ⟨days, shift, size, to, tc, T, some la, lc, L⟩) S k).2 t
   rw [hlgo _ _ _ _ _ _ hr1 hp] at hcs
   have h101' := fun w' hb => h101 t f l w' hb g1.1 (show t < T.length by omega) ⟨by omega, by omega, by omega, by omega⟩
   generalize gnO (Tr.d ⟨days, shift, size, to, tc, T, some la, lc, L⟩) t f l = G at *
   generalize pfK (Tr.d ⟨days, shift, size, to, tc, T, some la, lc, L⟩) S k = PK at *
   obtain ⟨P, a⟩ := PK
   dsimp only at hb hr1 e1 hst ⊢
   repeat'
    conv => whnf
    first
     | refine zA ?_ | refine zB ?_ | refine zC ?_ | refine zD ?_ | refine zE ?_ | refine zF ?_ | refine zG ?_ | refine zH ?_ | refine zJ ?_ | refine zI ?_ | refine splT ?_ | refine splF ?_ | refine splNot ?_
     | ((first | refine splIn ?_ ?_ | refine splD ?_ ?_ | refine splE ?_ ?_ | refine splNE ?_ ?_) <;> intro hc <;> first | (exfalso; omega) | (exfalso; dsimp only at hc; omega) | skip)
     | refine Exists.intro (α := List Value) [iv t, iv f, iv l] ⟨⟨rfl, fun w' hw' => e0 w' hw'⟩, ?_⟩
     | ((with_reducible show CallEv _ _ 101 _ _ _ _ _); refine callE (k := 101) (fun β w' hbw => h101' w' hbw) ?_)
     | refine Exists.intro (α := List Value) [.slice (some ra) row.length rc] ⟨⟨rfl, fun w' hw' => e1 w' hw'⟩, ?_⟩
     | refine Exists.intro (α := List Value) [iv p2] ⟨⟨rfl, fun w' hw' => e2 w' hw'⟩, ?_⟩
   all_goals first | (exfalso; omega) | exact ⟨k + 1, by omega, by omega, Ent.weak rfl ⟨rfl, by rw [hst]; rfl, by rw [hst]; rfl, rfl, rfl, rfl, trivial⟩ ⟨rfl, trivial⟩ fun _ h => h⟩
 · obtain rfl : k = S.length := by omega
   obtain ⟨⟨p1, p2⟩, hp⟩ : ∃ p, row[0]? = some p := ⟨_, List.getElem?_eq_getElem (by omega)⟩
   have e2 := fun (w' : World) hw' => rd_fldz (hr3.below (w' := w') hw') hp (0 : Int) rfl 1 (iv p2) rfl
   have hcs := hlg (pfK (Tr.d ⟨days, shift, size, to, tc, T, some la, lc, L⟩) S S.length).2 0
   rw [hlgo _ _ _ _ _ _ hr1 hp] at hcs
   have hpf : pfO (Tr.d ⟨days, shift, size, to, tc, T, some la, lc, L⟩) S = (pfK (Tr.d ⟨days, shift, size, to, tc, T, some la, lc, L⟩) S S.length).1 - p2 := by
    simp only [pfO, csO, hlgo _ _ _ _ _ _ hr1 hp]
   rw [hpf]
   generalize pfK (Tr.d ⟨days, shift, size, to, tc, T, some la, lc, L⟩) S S.length = PK at *
   obtain ⟨P, a⟩ := PK
   dsimp only at hb hr1 e1 ⊢
   repeat'
    conv => whnf
    first
     | refine zA ?_ | refine zB ?_ | refine zC ?_ | refine zD ?_ | refine zE ?_ | refine zF ?_ | refine zG ?_ | refine zH ?_ | refine zJ ?_ | refine zI ?_ | refine splT ?_ | refine splF ?_ | refine splNot ?_
     | ((first | refine splIn ?_ ?_ | refine splD ?_ ?_ | refine splE ?_ ?_ | refine splNE ?_ ?_) <;> intro hc <;> first | (exfalso; omega) | (exfalso; dsimp only at hc; omega) | skip)
     | refine Exists.intro (α := List Value) [.slice (some ra) row.length rc] ⟨⟨rfl, fun w' hw' => e1 w' hw'⟩, ?_⟩
     | refine Exists.intro (α := List Value) [iv p2] ⟨⟨rfl, fun w' hw' => e2 w' hw'⟩, ?_⟩
   all_goals first | (exfalso; omega) | exact ⟨fun β => rfl, fun w' h => h⟩
def pfV (x : To) (S : List (Int × Int × Int)) : Int × Int := if toB x = true then (if S.length ≤ 20 then (if fsO x S = [] then (pfO x S, 0) else (0, 9)) else (0, 3)) else (0, 1)
set_option maxHeartbeats 1000000 in
set_option maxRecDepth 100000 in
theorem Profit_ok (x : Tr) (o : Option Addr) (c : Nat) (S : List (Int × Int × Int)) (w : World) (h : TrIn x w) (hS : SpIn o c S w) :
 Calls Try.prog 42 #[x.v, .slice o S.length c] w fun e w' => e = .returned (.tuple #[iv (pfV x.d S).1, iv (pfV x.d S).2]) ∧ Below w.heap.size w w' := by
 have h73 := fun w' hb => check_ok x o c S w' (h.below hb) hS.l
 have h74 := fun (hn : ToN x.d) w' hb => faults_ok x o c S w' (h.below hb) hn (hS.below hb)
 have h75 := fun (hn : ToN x.d) (hl : S.length ≤ 20) (hp : SpN x.T.length S) w' hb => profit_ok x o c S w' (h.below hb) hn (hS.r.below hb) hl hp
 have hsl := hS.l
 have hlen : x.d.T.length = x.T.length := List.length_map ..
 unfold pfV
 refine calls_val env mixed Try.func42 has42 Try.ntmps42 [.agg #[iv x.days, iv x.shift, iv x.size, .slice x.to x.T.length x.tc, .slice x.lo x.L.length x.lc], .slice o S.length c] (by simp) ?_
 cases hb : toB x.d with
 | false =>
  rw [hb] at h73
  clear h74 h75 h hb hlen
  obtain ⟨days, shift, size, to, tc, T, lo, lc, L⟩ := x
  repeat'
   conv => whnf
   first
    | refine zA ?_ | refine zB ?_ | refine zC ?_ | refine zD ?_ | refine zE ?_ | refine zF ?_ | refine zG ?_ | refine zH ?_ | refine zJ ?_ | refine zI ?_ | refine splT ?_ | refine splF ?_ | refine splNot ?_
    | ((first | refine splIn ?_ ?_ | refine splD ?_ ?_ | refine splE ?_ ?_ | refine splNE ?_ ?_) <;> intro hc <;> first | (exfalso; omega) | (exfalso; dsimp only at hc; omega) | skip)
    | ((with_reducible show CallEv _ _ 73 _ _ _ _ _); refine callE (k := 73) (fun β w' hbw => h73 _ hbw) ?_)
  all_goals first | (exfalso; omega) | exact ⟨fun β => rfl, fun w' h => h⟩
 | true =>
  rw [hb] at h73
  by_cases hs : S.length ≤ 20
  · rw [if_pos rfl, if_pos hs] at h73
    rw [if_pos rfl, if_pos hs]
    have hn := toB_n hb
    have h74' := h74 hn
    by_cases hf : fsO x.d S = []
    · rw [if_pos hf]
      rw [hf] at h74'
      have hsp := fs_spn hn hf
      rw [hlen] at hsp
      have h75' := h75 hn hs hsp
      clear h74 h75 h hb hlen hf hn hsp
      generalize pfO x.d S = P at *
      obtain ⟨days, shift, size, to, tc, T, lo, lc, L⟩ := x
      repeat'
       conv => whnf
       first
        | refine zA ?_ | refine zB ?_ | refine zC ?_ | refine zD ?_ | refine zE ?_ | refine zF ?_ | refine zG ?_ | refine zH ?_ | refine zJ ?_ | refine zI ?_ | refine splT ?_ | refine splF ?_ | refine splNot ?_
        | ((first | refine splIn ?_ ?_ | refine splD ?_ ?_ | refine splE ?_ ?_ | refine splNE ?_ ?_) <;> intro hc <;> first | (exfalso; omega) | (exfalso; dsimp only at hc; omega) | skip)
        | ((with_reducible show CallEv _ _ 73 _ _ _ _ _); refine callE (k := 73) (fun β w' hbw => h73 _ (by first | exact hbw | exact hbw.1 | exact hbw.1.1 | exact hbw.1.1.1 | exact hbw.1.1.1.1 | exact hbw.1.1.1.1.1 | exact hbw.1.1.1.1.1.1 | exact hbw.1.1.1.1.1.1.1 | exact hbw.1.1.1.1.1.1.1.1 | exact hbw.1.1.1.1.1.1.1.1.1 | exact hbw.1.1.1.1.1.1.1.1.1.1 | exact hbw.1.1.1.1.1.1.1.1.1.1.1 | exact hbw.1.1.1.1.1.1.1.1.1.1.1.1 | exact hbw.1.1.1.1.1.1.1.1.1.1.1.1.1)) ?_)
        | ((with_reducible show CallEv _ _ 74 _ _ _ _ _); refine callF [] (fun y : Option Addr × Nat => sV 0 y) (fun _ _ => True) (fun β w' _ hbw => (h74' w' (by first | exact hbw | exact hbw.1 | exact hbw.1.1 | exact hbw.1.1.1 | exact hbw.1.1.1.1 | exact hbw.1.1.1.1.1 | exact hbw.1.1.1.1.1.1 | exact hbw.1.1.1.1.1.1.1 | exact hbw.1.1.1.1.1.1.1.1 | exact hbw.1.1.1.1.1.1.1.1.1 | exact hbw.1.1.1.1.1.1.1.1.1.1 | exact hbw.1.1.1.1.1.1.1.1.1.1.1 | exact hbw.1.1.1.1.1.1.1.1.1.1.1.1 | exact hbw.1.1.1.1.1.1.1.1.1.1.1.1.1)).mono fun e w2 ⟨y, h1, h2, _⟩ => ⟨y, h1, h2, fun _ _ => trivial⟩) ?_; intro y)
        | ((with_reducible show CallEv _ _ 75 _ _ _ _ _); refine callE (k := 75) (fun β w' hbw => h75' _ (by first | exact hbw | exact hbw.1 | exact hbw.1.1 | exact hbw.1.1.1 | exact hbw.1.1.1.1 | exact hbw.1.1.1.1.1 | exact hbw.1.1.1.1.1.1 | exact hbw.1.1.1.1.1.1.1 | exact hbw.1.1.1.1.1.1.1.1 | exact hbw.1.1.1.1.1.1.1.1.1 | exact hbw.1.1.1.1.1.1.1.1.1.1 | exact hbw.1.1.1.1.1.1.1.1.1.1.1 | exact hbw.1.1.1.1.1.1.1.1.1.1.1.1 | exact hbw.1.1.1.1.1.1.1.1.1.1.1.1.1)) ?_)
      all_goals first | (exfalso; omega) | exact ⟨fun β => rfl, fun w' h => (by first | exact h | exact h.1 | exact h.1.1 | exact h.1.1.1 | exact h.1.1.1.1 | exact h.1.1.1.1.1 | exact h.1.1.1.1.1.1 | exact h.1.1.1.1.1.1.1 | exact h.1.1.1.1.1.1.1.1 | exact h.1.1.1.1.1.1.1.1.1 | exact h.1.1.1.1.1.1.1.1.1.1 | exact h.1.1.1.1.1.1.1.1.1.1.1 | exact h.1.1.1.1.1.1.1.1.1.1.1.1 | exact h.1.1.1.1.1.1.1.1.1.1.1.1.1)⟩
    · rw [if_neg hf]
      have hfl : 1 ≤ (fsO x.d S).length := by
       cases hc : fsO x.d S with
       | nil => exact absurd hc hf
       | cons a l => simp
      have hfl2 := fsP_len x.d S S.length
      change (fsO x.d S).length ≤ _ at hfl2
      generalize fsO x.d S = F at *
      clear h74 h75 h hb hlen hf hn
      obtain ⟨days, shift, size, to, tc, T, lo, lc, L⟩ := x
      repeat'
       conv => whnf
       first
        | refine zA ?_ | refine zB ?_ | refine zC ?_ | refine zD ?_ | refine zE ?_ | refine zF ?_ | refine zG ?_ | refine zH ?_ | refine zJ ?_ | refine zI ?_ | refine splT ?_ | refine splF ?_ | refine splNot ?_
        | ((first | refine splIn ?_ ?_ | refine splD ?_ ?_ | refine splE ?_ ?_ | refine splNE ?_ ?_) <;> intro hc <;> first | (exfalso; omega) | (exfalso; dsimp only at hc; omega) | skip)
        | ((with_reducible show CallEv _ _ 73 _ _ _ _ _); refine callE (k := 73) (fun β w' hbw => h73 _ (by first | exact hbw | exact hbw.1 | exact hbw.1.1 | exact hbw.1.1.1 | exact hbw.1.1.1.1 | exact hbw.1.1.1.1.1 | exact hbw.1.1.1.1.1.1 | exact hbw.1.1.1.1.1.1.1 | exact hbw.1.1.1.1.1.1.1.1 | exact hbw.1.1.1.1.1.1.1.1.1 | exact hbw.1.1.1.1.1.1.1.1.1.1 | exact hbw.1.1.1.1.1.1.1.1.1.1.1 | exact hbw.1.1.1.1.1.1.1.1.1.1.1.1 | exact hbw.1.1.1.1.1.1.1.1.1.1.1.1.1)) ?_)
        | ((with_reducible show CallEv _ _ 74 _ _ _ _ _); refine callF [] (fun y : Option Addr × Nat => sV F.length y) (fun _ _ => True) (fun β w' _ hbw => (h74' w' (by first | exact hbw | exact hbw.1 | exact hbw.1.1 | exact hbw.1.1.1 | exact hbw.1.1.1.1 | exact hbw.1.1.1.1.1 | exact hbw.1.1.1.1.1.1 | exact hbw.1.1.1.1.1.1.1 | exact hbw.1.1.1.1.1.1.1.1 | exact hbw.1.1.1.1.1.1.1.1.1 | exact hbw.1.1.1.1.1.1.1.1.1.1 | exact hbw.1.1.1.1.1.1.1.1.1.1.1 | exact hbw.1.1.1.1.1.1.1.1.1.1.1.1 | exact hbw.1.1.1.1.1.1.1.1.1.1.1.1.1)).mono fun e w2 ⟨y, h1, h2, _⟩ => ⟨y, h1, h2, fun _ _ => trivial⟩) ?_; intro y)
      all_goals first | (exfalso; omega) | exact ⟨fun β => rfl, fun w' h => (by first | exact h | exact h.1 | exact h.1.1 | exact h.1.1.1 | exact h.1.1.1.1 | exact h.1.1.1.1.1 | exact h.1.1.1.1.1.1 | exact h.1.1.1.1.1.1.1 | exact h.1.1.1.1.1.1.1.1 | exact h.1.1.1.1.1.1.1.1.1 | exact h.1.1.1.1.1.1.1.1.1.1 | exact h.1.1.1.1.1.1.1.1.1.1.1 | exact h.1.1.1.1.1.1.1.1.1.1.1.1 | exact h.1.1.1.1.1.1.1.1.1.1.1.1.1)⟩
  · rw [if_pos rfl, if_neg hs] at h73
    rw [if_pos rfl, if_neg hs]
    clear h74 h75 h hb hlen
    obtain ⟨days, shift, size, to, tc, T, lo, lc, L⟩ := x
    repeat'
     conv => whnf
     first
      | refine zA ?_ | refine zB ?_ | refine zC ?_ | refine zD ?_ | refine zE ?_ | refine zF ?_ | refine zG ?_ | refine zH ?_ | refine zJ ?_ | refine zI ?_ | refine splT ?_ | refine splF ?_ | refine splNot ?_
      | ((first | refine splIn ?_ ?_ | refine splD ?_ ?_ | refine splE ?_ ?_ | refine splNE ?_ ?_) <;> intro hc <;> first | (exfalso; omega) | (exfalso; dsimp only at hc; omega) | skip)
      | ((with_reducible show CallEv _ _ 73 _ _ _ _ _); refine callE (k := 73) (fun β w' hbw => h73 _ hbw) ?_)
    all_goals first | (exfalso; omega) | exact ⟨fun β => rfl, fun w' h => h⟩
set_option maxHeartbeats 4000000 in
set_option maxRecDepth 100000 in
theorem Season_ok (L : List (Int × Int × Int)) (o : Option Addr) (c : Nat) (w : World) (hrd : Rd 3 spF (.slice o L.length c) L w) (hl : L.length ≤ 1000) :
 Calls Try.prog 41 #[.slice o L.length c] w fun e w' => ∃ y : Option Addr × Nat, e = .returned (sV L.length y) ∧ Below w.heap.size w w' ∧ St w.heap.size (fun w2 => Rd 3 spF (sV L.length y) L w2 ∧ L.length ≤ y.2) w' := by
 refine calls_fam env mixed Try.func41 has41 Try.ntmps41 [.slice o L.length c] (by simp) ?_
 repeat'
  conv => whnf
  first
   | refine zA ?_ | refine zB ?_ | refine zC ?_ | refine zD ?_ | refine zE ?_ | refine zF ?_ | refine zG ?_ | refine zH ?_ | refine zJ ?_ | refine zI ?_ | refine splT ?_ | refine splF ?_ | refine splNot ?_
   | ((first | refine splIn ?_ ?_ | refine splD ?_ ?_ | refine splE ?_ ?_ | refine splNE ?_ ?_) <;> intro hc <;> first | (exfalso; omega) | (exfalso; dsimp only at hc; omega) | skip)
 refine loopN 2 (fun k : Nat => [(0, .v (.slice o L.length c)), (3, oSV 0 1 (L.take k)), (4, .v (iv k))]) (fun k => oM 0 1 3 spF 96 (L.take k)) (fun k => k ≤ L.length) (fun k => L.length - k) 0 (Nat.zero_le _) ⟨rfl, rfl, rfl, trivial⟩ trivial (fun k _ => by cases L.take k <;> exact ⟨rfl, rfl⟩) ?_
 intro k hk
 rcases Nat.lt_or_ge k L.length with hkl | hkl
 · obtain ⟨⟨p1, p2, p3⟩, hx⟩ : ∃ b, L[k]? = some b := ⟨_, List.getElem?_eq_getElem hkl⟩
   obtain ⟨_, ad, rfl, _⟩ := hrd.ptr (by omega)
   have e0 := fun (w' : World) hw' => rd_fldz (hrd.below (w' := w') hw') hx _ rfl 0 (iv p1) rfl
   have e1 := fun (w' : World) hw' => rd_fldz (hrd.below (w' := w') hw') hx _ rfl 1 (iv p2) rfl
   have e2 := fun (w' : World) hw' => rd_fldz (hrd.below (w' := w') hw') hx _ rfl 2 (iv p3) rfl
   have ht : L.take (k + 1) = L.take k ++ [(p1, p2, p3)] := by rw [List.take_add_one, hx]; rfl
   have hlen : (L.take k).length = k := by rw [List.length_take]; omega
   generalize L.take k = D at *
   cases D with
   | nil =>
    repeat'
     conv => whnf
     first
      | refine zA ?_ | refine zB ?_ | refine zC ?_ | refine zD ?_ | refine zE ?_ | refine zF ?_ | refine zG ?_ | refine zH ?_ | refine zJ ?_ | refine zI ?_ | refine splT ?_ | refine splF ?_ | refine splNot ?_
      | ((first | refine splIn ?_ ?_ | refine splD ?_ ?_ | refine splE ?_ ?_ | refine splNE ?_ ?_) <;> intro hc <;> first | (exfalso; omega) | (exfalso; dsimp only at hc; omega) | skip)
      | refine Exists.intro (α := List Value) [iv p1] ⟨⟨rfl, fun w' hw' => e0 w' hw'⟩, ?_⟩
      | refine Exists.intro (α := List Value) [iv p2] ⟨⟨rfl, fun w' hw' => e1 w' hw'⟩, ?_⟩
      | refine Exists.intro (α := List Value) [iv p3] ⟨⟨rfl, fun w' hw' => e2 w' hw'⟩, ?_⟩
    all_goals first | (exfalso; omega) | exact ⟨k + 1, by omega, by omega, Ent.ren (rho [(0, 3), (1, 4)]) rfl (by rw [ht]; rfl) ⟨rfl, by rw [ht]; rfl, rfl, trivial⟩ (by rw [ht]; exact ⟨rfl, trivial⟩) fun _ h => h⟩
   | cons a D =>
    simp only [List.length_cons] at hlen
    repeat'
     conv => whnf
     first
      | refine zA ?_ | refine zB ?_ | refine zC ?_ | refine zD ?_ | refine zE ?_ | refine zF ?_ | refine zG ?_ | refine zH ?_ | refine zJ ?_ | refine zI ?_ | refine splT ?_ | refine splF ?_ | refine splNot ?_
      | ((first | refine splIn ?_ ?_ | refine splD ?_ ?_ | refine splE ?_ ?_ | refine splNE ?_ ?_) <;> intro hc <;> first | (exfalso; omega) | (exfalso; dsimp only at hc; omega) | skip)
      | refine Exists.intro (α := List Value) [iv p1] ⟨⟨rfl, fun w' hw' => e0 w' hw'⟩, ?_⟩
      | refine Exists.intro (α := List Value) [iv p2] ⟨⟨rfl, fun w' hw' => e1 w' hw'⟩, ?_⟩
      | refine Exists.intro (α := List Value) [iv p3] ⟨⟨rfl, fun w' hw' => e2 w' hw'⟩, ?_⟩
    all_goals first | (exfalso; omega) | exact ⟨k + 1, by omega, by omega, Ent.ren (rho [(0, 3), (1, 4)]) rfl (by rw [ht]; rfl) ⟨rfl, by rw [ht]; simp [oSV]; rfl, rfl, trivial⟩ (by rw [ht]; exact ⟨by simp [oM]; rfl, trivial⟩) fun _ h => h⟩
 · obtain rfl : k = L.length := by omega
   rw [List.take_length]
   cases L with
   | nil =>
    repeat'
     conv => whnf
     first
      | refine zA ?_ | refine zB ?_ | refine zC ?_ | refine zD ?_ | refine zE ?_ | refine zF ?_ | refine zG ?_ | refine zH ?_ | refine zJ ?_ | refine zI ?_ | refine splT ?_ | refine splF ?_ | refine splNot ?_
      | ((first | refine splIn ?_ ?_ | refine splD ?_ ?_ | refine splE ?_ ?_ | refine splNE ?_ ?_) <;> intro hc <;> first | (exfalso; omega) | (exfalso; dsimp only at hc; omega) | skip)
    exact ⟨fun w' h => h, fun β w' hB hblk => ⟨(none, 0), rfl, fun _ _ => ⟨.inl ⟨rfl, rfl⟩, Nat.le_refl _⟩⟩⟩
   | cons a D =>
    repeat'
     conv => whnf
     first
      | refine zA ?_ | refine zB ?_ | refine zC ?_ | refine zD ?_ | refine zE ?_ | refine zF ?_ | refine zG ?_ | refine zH ?_ | refine zJ ?_ | refine zI ?_ | refine splT ?_ | refine splF ?_ | refine splNot ?_
      | ((first | refine splIn ?_ ?_ | refine splD ?_ ?_ | refine splE ?_ ?_ | refine splNE ?_ ?_) <;> intro hc <;> first | (exfalso; omega) | (exfalso; dsimp only at hc; omega) | skip)
    exact ⟨fun w' h => h, fun β w' hB hblk => ⟨(some ⟨β 0, 0, none⟩, β 1), rfl, fun w2 k2 => ⟨Rd.of_owns (sz := 3) (f := spF) (fun _ => rfl) rfl rfl (hblk 0 _ rfl rfl w2 k2), by
     rcases (hblk 0 _ rfl rfl w2 k2).2 with ⟨h', _⟩ | ⟨g, cap, cur, q0, q1, q2, q3, _⟩
     · cases h'
     · simp only [Value.slice.injEq] at q0
       obtain ⟨_, _, rfl⟩ := q0
       exact q3⟩⟩⟩
end Go.Proofs.Ythfabodamhdhaaa
