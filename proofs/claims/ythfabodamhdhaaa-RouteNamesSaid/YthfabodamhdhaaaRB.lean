/- What a day brings, what a stop brings, the greatest of some numbers, sets of towns: what these functions return. -/
import Derived.Test.YthfabodamhdhaaaRA
namespace Go.Proofs.Ythfabodamhdhaaa
open Go Tx Go.RowKit
set_option linter.unusedSimpArgs false
set_option linter.unusedVariables false
def rvB (x : Tw) (n : Int) : Bool := x.R.any fun r => inB n r.1 (r.2 + x.cold)
def dyO (x : Tw) (n : Int) : Int := if rvB x n = true then (x.pay * (1000 - x.cut)).tdiv 1000 else x.pay
structure TwN (x : Tw) : Prop where
 p : 0 ≤ x.pay ∧ x.pay ≤ 1000000
 t : 0 ≤ x.rent ∧ x.rent ≤ 1000000
 c : 0 ≤ x.cut ∧ x.cut ≤ 1000
 k : 0 ≤ x.cold ∧ x.cold ≤ 60
 l : 0 ≤ x.lot ∧ x.lot ≤ 100000
 s : 1 ≤ x.s1 ∧ x.s1 ≤ x.s2 ∧ x.s2 ≤ 10
 r : x.R.length ≤ 3 ∧ ∀ r ∈ x.R, -60 ≤ r.1 ∧ r.1 ≤ r.2 ∧ r.2 ≤ 60
 o : x.O.length ≤ 3
theorem TwN.of {days : Int} {x : Tw} (h : twB days x = true) : TwN x := by
 simp only [twB, inB, Bool.and_eq_true, decide_eq_true_eq, List.all_eq_true] at h
 obtain ⟨h1, h2, h3, h4, h5, h6, h7, h8, h9, h10⟩ := h
 exact ⟨by omega, by omega, by omega, by omega, by omega, by omega, ⟨h7, fun r hr => by have := h8 r hr; omega⟩, by omega⟩
theorem TwN.pc {x : Tw} (h : TwN x) : 0 ≤ x.pay * (1000 - x.cut) ∧ x.pay * (1000 - x.cut) ≤ 1000 * x.pay := by
 have h1 := h.p
 have h2 := h.c
 refine ⟨Int.mul_nonneg h1.1 (by omega), ?_⟩
 have := Int.mul_le_mul_of_nonneg_left (show 1000 - x.cut ≤ 1000 by omega) h1.1
 omega
theorem TwN.day {x : Tw} (h : TwN x) (n : Int) : 0 ≤ dyO x n ∧ dyO x n ≤ x.pay := by
 have h1 := h.p
 have h2 := h.pc
 unfold dyO
 split
 · rw [Int.tdiv_eq_ediv_of_nonneg h2.1]
   omega
 · omega
theorem any_take {α : Type} {p : α → Bool} {L : List α} {k : Nat} {x : α} (h : L[k]? = some x) : (L.take (k + 1)).any p = ((L.take k).any p || p x) := by
 rw [List.take_add_one, h]; simp
theorem any_yes {α : Type} {p : α → Bool} {L : List α} {k : Nat} {x : α} (h : L[k]? = some x) (hp : p x = true) : L.any p = true := List.any_eq_true.2 ⟨x, List.mem_of_getElem? h, hp⟩
set_option maxHeartbeats 2000000 in
set_option maxRecDepth 100000 in
theorem day_ok (t : Tn) (n : Int) (w : World) (h : TnIn t w) (hn : TwN t.d) (hb : -9000000000000 ≤ n ∧ n ≤ 9000000000000) :
 Calls Try.prog 71 #[.agg t.cs.toArray, iv n] w fun e w' => e = .returned (iv (dyO t.d n)) ∧ Below w.heap.size w w' := by
 obtain ⟨oo, oc, ro, rc, O, s1, s2, pay, lot, rent, R, cold, cut⟩ := t
 obtain ⟨-, h2, -, h4⟩ := h
 have hp := hn.p
 have hc := hn.c
 have hk := hn.k
 have hr := hn.r.2
 have hpc := hn.pc
 dsimp only at h2 h4 hp hc hk hr hpc ⊢
 refine calls_val env mixed Try.func71 has71 Try.ntmps71 [.agg #[.slice oo O.length oc, iv s1, iv s2, iv pay, iv lot, iv rent, .slice ro R.length rc, iv cold, iv cut], iv n] (by simp) ?_
 unfold dyO
 obtain ⟨q, hq⟩ : ∃ q, (pay * (1000 - cut)).tdiv 1000 = q := ⟨_, rfl⟩
 have hqb : 0 ≤ q ∧ q ≤ 1000000 := by
  rw [Int.tdiv_eq_ediv_of_nonneg hpc.1] at hq
  omega
 dsimp only
 rw [hq]
 generalize hpp : pay * (1000 - cut) = pp at *
 repeat'
  conv => whnf
  first
   | refine zA ?_ | refine zB ?_ | refine zC ?_ | refine zD ?_ | refine zE ?_ | refine zF ?_ | refine zG ?_ | refine zH ?_ | refine zJ ?_ | refine zI ?_ | refine splT ?_ | refine splF ?_ | refine splNot ?_
   | ((first | refine splIn ?_ ?_ | refine splD ?_ ?_ | refine splE ?_ ?_ | refine splNE ?_ ?_) <;> intro hc <;> first | (exfalso; omega) | (exfalso; dsimp only at hc; omega) | skip)
   | ((with_reducible show CallEv _ _ 106 _ _ _ _ _); refine callI env mixed 1000 [2] Try.func106 has106 Try.ntmps106 (Nat.le_of_ble_eq_true rfl) rfl rfl rfl ?_)
   | ((with_reducible show CallEv _ _ 143 _ _ _ _ _); refine callI env mixed 2000 [] Try.func143 has143 Try.ntmps143 (Nat.le_of_ble_eq_true rfl) rfl rfl rfl ?_)
 refine loopE (fun k : Nat => [(0, .v (.slice ro R.length rc)), (1, .fn (.func 107) [.ptr 1 0, .ptr 0 0]), (7, .v (iv R.length)), (8, .v (iv k))]) (fun _ => [(0, .cells [.v (.slice oo O.length oc), .v (iv s1), .v (iv s2), .v (iv pay), .v (iv lot), .v (iv rent), .v (.slice ro R.length rc), .v (iv cold), .v (iv cut)] 57), (1, .cells [.v (iv n)] 3)]) (fun k => k ≤ R.length ∧ ((R.take k).any fun r => inB n r.1 (r.2 + cold)) = false) (fun k => R.length - k) 0 ⟨Nat.zero_le _, rfl⟩ ⟨rfl, rfl, rfl, rfl, trivial⟩ ⟨rfl, rfl, trivial⟩ (fun _ => ⟨rfl, rfl⟩) ?_
 intro k ⟨hk, hall⟩
 rcases Nat.lt_or_ge k R.length with hkl | hkl
 · obtain ⟨⟨r1, r2⟩, hx⟩ : ∃ b, R[k]? = some b := ⟨_, List.getElem?_eq_getElem hkl⟩
   obtain ⟨_, ad, rfl, _⟩ := h2.ptr (by omega)
   have e0 := fun (w' : World) hw' => rd_ati (h2.below (w' := w') hw') hx
   have ht := any_take (p := fun r : Int × Int => inB n r.1 (r.2 + cold)) hx
   rw [hall, Bool.false_or] at ht
   have hrb := hr _ (List.mem_of_getElem? hx)
   dsimp only at hrb ht
   have hv := fun w' => within_ok n r1 (r2 + cold) w'
   cases hg : inB n r1 (r2 + cold) with
   | false =>
    rw [hg] at hv ht
    repeat'
     conv => whnf
     first
      | refine zA ?_ | refine zB ?_ | refine zC ?_ | refine zD ?_ | refine zE ?_ | refine zF ?_ | refine zG ?_ | refine zH ?_ | refine zJ ?_ | refine zI ?_ | refine splT ?_ | refine splF ?_ | refine splNot ?_
      | ((first | refine splIn ?_ ?_ | refine splD ?_ ?_ | refine splE ?_ ?_ | refine splNE ?_ ?_) <;> intro hc <;> first | (exfalso; omega) | (exfalso; dsimp only at hc; omega) | skip)
      | refine Exists.intro (α := List Value) [iv r1, iv r2] ⟨⟨rfl, fun w' hw' => e0 w' hw'⟩, ?_⟩
      | ((with_reducible show CallEv _ _ 107 _ _ _ _ _); refine callI env mixed 4000 [0,1,5,7,8] Try.func107 has107 Try.ntmps107 (Nat.le_of_ble_eq_true rfl) rfl rfl rfl ?_)
      | ((with_reducible show CallEv _ _ 70 _ _ _ _ _); refine callE (k := 70) (fun β w' hbw => hv _) ?_)
    all_goals first | (exfalso; omega) | exact ⟨k + 1, ⟨by omega, ht⟩, by omega, Ent.weak rfl ⟨rfl, rfl, rfl, rfl, trivial⟩ ⟨rfl, rfl, trivial⟩ fun _ h => h⟩
   | true =>
    rw [hg] at hv
    have hwr : pp = IntKind.i64.wrap (pay * (1000 - cut)) := by rw [hpp]; exact (IR.wrap (k := .i64) ⟨by omega, by omega⟩).symm
    rw [show rvB ⟨O, s1, s2, pay, lot, rent, R, cold, cut⟩ n = true from any_yes (p := fun r : Int × Int => inB n r.1 (r.2 + cold)) hx hg, if_pos rfl]
    repeat'
     conv => whnf
     first
      | refine zA ?_ | refine zB ?_ | refine zC ?_ | refine zD ?_ | refine zE ?_ | refine zF ?_ | refine zG ?_ | refine zH ?_ | refine zJ ?_ | refine zI ?_ | refine splT ?_ | refine splF ?_ | refine splNot ?_
      | ((first | refine splIn ?_ ?_ | refine splD ?_ ?_ | refine splE ?_ ?_ | refine splNE ?_ ?_) <;> intro hc <;> first | (exfalso; omega) | (exfalso; dsimp only at hc; omega) | skip)
      | refine Exists.intro (α := List Value) [iv r1, iv r2] ⟨⟨rfl, fun w' hw' => e0 w' hw'⟩, ?_⟩
      | ((with_reducible show CallEv _ _ 107 _ _ _ _ _); refine callI env mixed 4000 [0,1,5,7,8] Try.func107 has107 Try.ntmps107 (Nat.le_of_ble_eq_true rfl) rfl rfl rfl ?_)
      | ((with_reducible show CallEv _ _ 70 _ _ _ _ _); refine callE (k := 70) (fun β w' hbw => hv _) ?_)
      | refine Exists.intro (α := Int) q ⟨⟨by decide, by rw [hpp]; exact hq, by constructor <;> omega⟩, ?_⟩
    all_goals first | (exfalso; omega) | exact ⟨fun β => rfl, fun w' h => h⟩
 · rw [List.take_of_length_le hkl] at hall
   rw [show rvB ⟨O, s1, s2, pay, lot, rent, R, cold, cut⟩ n = false from hall, if_neg (by decide)]
   repeat'
    conv => whnf
    first
     | refine zA ?_ | refine zB ?_ | refine zC ?_ | refine zD ?_ | refine zE ?_ | refine zF ?_ | refine zG ?_ | refine zH ?_ | refine zJ ?_ | refine zI ?_ | refine splT ?_ | refine splF ?_ | refine splNot ?_
     | ((first | refine splIn ?_ ?_ | refine splD ?_ ?_ | refine splE ?_ ?_ | refine splNE ?_ ?_) <;> intro hc <;> first | (exfalso; omega) | (exfalso; dsimp only at hc; omega) | skip)
   all_goals first | (exfalso; omega) | exact ⟨fun β => rfl, fun w' h => h⟩
def gnS (x : Tw) (first : Int) : Nat → Int
 | 0 => 0
 | n + 1 => gnS x first n + (dyO x (first + n) - x.rent)
theorem TwN.gn {x : Tw} (h : TwN x) (first : Int) : ∀ n : Nat, -1000000 * (n : Int) ≤ gnS x first n ∧ gnS x first n ≤ 1000000 * (n : Int)
 | 0 => by simp [gnS]
 | n + 1 => by
  have ih := h.gn first n
  have h1 := h.day (first + n)
  have h2 := h.p
  have h3 := h.t
  simp only [gnS]
  omega
def gnO (x : To) (k : Nat) (first last : Int) : Int := match x.T[k]? with | some t => gnS t first (last + 1 - first).toNat | none => 0
set_option maxHeartbeats 2000000 in
set_option maxRecDepth 100000 in
theorem gain_ok (x : Tr) (k : Nat) (first last : Int) (w : World) (h : TrIn x w) (hn : ToN x.d) (hk1 : 1 ≤ k) (hk : k < x.T.length) (hf : -2000000000 ≤ first ∧ last ≤ 2000000000 ∧ first ≤ last + 1 ∧ last - first ≤ 1000) :
 Calls Try.prog 101 #[x.v, .agg #[iv k, iv first, iv last]] w fun e w' => e = .returned (iv (gnO x.d k first last)) ∧ Below w.heap.size w w' := by
 obtain ⟨t, ht⟩ : ∃ t, x.T[k]? = some t := ⟨_, List.getElem?_eq_getElem hk⟩
 have htd : x.d.T[k]? = some t.d := by simp only [Tr.d, List.getElem?_map, ht, Option.map_some]
 have htn := TwN.of (hn.t k hk1 _ htd)
 have hti := h.ti t (List.mem_of_getElem? ht)
 have h71 := fun d hd w' hb => day_ok t d w' (hti.below hb) htn hd
 have hgo : gnO x.d k first last = gnS t.d first (last + 1 - first).toNat := by unfold gnO; rw [htd]
 rw [hgo]
 have h1 := h.t
 have htl := h.tl
 obtain ⟨days, shift, size, to, tc, T, lo, lc, L⟩ := x
 dsimp only at h1 ht htl hk ⊢
 obtain ⟨oo, oc, ro, rc, O, s1, s2, pay, lot, rent, R, cold, cut⟩ := t
 have hgb := htn.gn first
 have hdb := htn.day
 have hpb := htn.p
 have hrb := htn.t
 dsimp only at h71 hgb hdb hpb hrb ⊢
 refine calls_val env mixed Try.func101 has101 Try.ntmps101 [.agg #[iv days, iv shift, iv size, .slice to T.length tc, .slice lo L.length lc], .agg #[iv k, iv first, iv last]] (by simp) ?_
 obtain ⟨_, ad, rfl, _⟩ := h1.ptr (by omega)
 have e0 := fun (w' : World) hw' => rd_ati (h1.below (w' := w') hw') ht
 obtain ⟨m, hm⟩ : ∃ m, (last + 1 - first).toNat = m := ⟨_, rfl⟩
 rw [hm]
 repeat'
  conv => whnf
  first
   | refine zA ?_ | refine zB ?_ | refine zC ?_ | refine zD ?_ | refine zE ?_ | refine zF ?_ | refine zG ?_ | refine zH ?_ | refine zJ ?_ | refine zI ?_ | refine splT ?_ | refine splF ?_ | refine splNot ?_
   | ((first | refine splIn ?_ ?_ | refine splD ?_ ?_ | refine splE ?_ ?_ | refine splNE ?_ ?_) <;> intro hc <;> first | (exfalso; omega) | (exfalso; dsimp only at hc; omega) | skip)
   | refine Exists.intro (α := List Value) [.slice oo O.length oc, iv s1, iv s2, iv pay, iv lot, iv rent, .slice ro R.length rc, iv cold, iv cut] ⟨⟨rfl, fun w' hw' => e0 w' hw'⟩, ?_⟩
 all_goals first | (exfalso; omega) | skip
 refine loopE (fun i : Nat => [(2, .ptr 0 0), (3, .ptr 1 0), (4, .v (iv (gnS ⟨O, s1, s2, pay, lot, rent, R, cold, cut⟩ first i))), (5, .ptr 2 0), (6, .v (iv (first + i)))]) (fun _ => [(0, .cells [.v (iv days), .v (iv shift), .v (iv size), .v (.slice (some ad) T.length tc), .v (.slice lo L.length lc)] 35), (1, .cells [.v (iv k), .v (iv first), .v (iv last)] 96), (2, .cells [.v (.slice oo O.length oc), .v (iv s1), .v (iv s2), .v (iv pay), .v (iv lot), .v (iv rent), .v (.slice ro R.length rc), .v (iv cold), .v (iv cut)] 57)]) (fun i => i ≤ m) (fun i => m - i) 0 (Nat.zero_le _) ⟨rfl, rfl, rfl, rfl, by simp; rfl, trivial⟩ ⟨rfl, rfl, rfl, trivial⟩ (fun _ => ⟨rfl, rfl⟩) ?_
 intro i hi
 have hgi := hgb i
 rcases Nat.lt_or_ge i m with hil | hil
 · have hs : gnS ⟨O, s1, s2, pay, lot, rent, R, cold, cut⟩ first (i + 1) = gnS ⟨O, s1, s2, pay, lot, rent, R, cold, cut⟩ first i + (dyO ⟨O, s1, s2, pay, lot, rent, R, cold, cut⟩ (first + i) - rent) := rfl
   have hdi := hdb (first + i)
   have hcl := h71 (first + i) (by omega)
   generalize gnS ⟨O, s1, s2, pay, lot, rent, R, cold, cut⟩ first i = A at *
   generalize dyO ⟨O, s1, s2, pay, lot, rent, R, cold, cut⟩ (first + i) = B at *
   repeat'
    conv => whnf
    first
     | refine zA ?_ | refine zB ?_ | refine zC ?_ | refine zD ?_ | refine zE ?_ | refine zF ?_ | refine zG ?_ | refine zH ?_ | refine zJ ?_ | refine zI ?_ | refine splT ?_ | refine splF ?_ | refine splNot ?_
     | ((first | refine splIn ?_ ?_ | refine splD ?_ ?_ | refine splE ?_ ?_ | refine splNE ?_ ?_) <;> intro hc <;> first | (exfalso; omega) | (exfalso; dsimp only at hc; omega) | skip)
     | ((with_reducible show CallEv _ _ 71 _ _ _ _ _); refine callE (k := 71) (fun β w' hbw => hcl w' hbw) ?_)
   all_goals first | (exfalso; omega) | exact ⟨i + 1, by omega, by omega, Ent.weak rfl ⟨rfl, rfl, by rw [hs]; rfl, rfl, by rw [Int.natCast_add, ← Int.add_assoc]; rfl, trivial⟩ ⟨rfl, rfl, rfl, trivial⟩ fun _ h => h⟩
 · obtain rfl : i = m := by omega
   repeat'
    conv => whnf
    first
     | refine zA ?_ | refine zB ?_ | refine zC ?_ | refine zD ?_ | refine zE ?_ | refine zF ?_ | refine zG ?_ | refine zH ?_ | refine zJ ?_ | refine zI ?_ | refine splT ?_ | refine splF ?_ | refine splNot ?_
     | ((first | refine splIn ?_ ?_ | refine splD ?_ ?_ | refine splE ?_ ?_ | refine splNE ?_ ?_) <;> intro hc <;> first | (exfalso; omega) | (exfalso; dsimp only at hc; omega) | skip)
   all_goals first | (exfalso; omega) | exact ⟨fun β => rfl, fun w' h => h⟩
theorem w64 (n : Nat) (h : n < 2 ^ 64) : IntKind.u64.wrap (n : Int) = n := IR.wrap (k := .u64) ⟨by omega, by omega⟩
theorem bv64 (n : Nat) : BitVec.ofInt 64 (n : Int) = BitVec.ofNat 64 n := by simp
theorem sh_l {t : Nat} (ht : t < 9) : IntKind.u64.wrap (1 * 2 ^ (min (t : Int).toNat IntKind.u64.bits)) = ((2 ^ t : Nat) : Int) := by
 have e : min (t : Int).toNat IntKind.u64.bits = t := by show min (t : Int).toNat 64 = t; omega
 rw [e, Int.one_mul, show (2 : Int) ^ t = ((2 ^ t : Nat) : Int) from by simp]
 exact w64 _ (Nat.pow_lt_pow_right (by decide) (by omega))
theorem or_l {S t : Nat} (hS : S < 512) (ht : t < 9) : IntKind.u64.wrap ((BitVec.ofInt IntKind.u64.bits (S : Int) ||| BitVec.ofInt IntKind.u64.bits ((2 ^ t : Nat) : Int)).toNat : Int) = ((S ||| 2 ^ t : Nat) : Int) := by
 have h1 : 2 ^ t < 2 ^ 9 := Nat.pow_lt_pow_right (by decide) ht
 have h2 : S ||| 2 ^ t < 2 ^ 9 := Nat.or_lt_two_pow (by omega) h1
 show IntKind.u64.wrap ((BitVec.ofInt 64 (S : Int) ||| BitVec.ofInt 64 ((2 ^ t : Nat) : Int)).toNat : Int) = _
 rw [bv64, bv64, BitVec.toNat_or, BitVec.toNat_ofNat, BitVec.toNat_ofNat, Nat.mod_eq_of_lt (by omega), Nat.mod_eq_of_lt (by omega)]
 exact w64 _ (by omega)
theorem or_lt {S t : Nat} (hS : S < 512) (ht : t < 9) : S ||| 2 ^ t < 512 := Nat.or_lt_two_pow (n := 9) (by omega) (Nat.pow_lt_pow_right (by decide) ht)
def btI (S t : Nat) : Int := if S.testBit t = true then 1 else 0
theorem sh_r {S t : Nat} (hS : S < 512) (ht : t < 9) : ((S : Int).fdiv (2 ^ (min (t : Int).toNat IntKind.u64.bits))) = ((S >>> t : Nat) : Int) := by
 have e : min (t : Int).toNat IntKind.u64.bits = t := by show min (t : Int).toNat 64 = t; omega
 rw [e, show (2 : Int) ^ t = ((2 ^ t : Nat) : Int) from by simp, Nat.shiftRight_eq_div_pow]
 rw [Int.fdiv_eq_ediv_of_nonneg _ (Int.natCast_nonneg _)]
 exact (Int.natCast_ediv S (2 ^ t)).symm
theorem and_l {S t : Nat} (hS : S < 512) : IntKind.u64.wrap ((BitVec.ofInt IntKind.u64.bits ((S >>> t : Nat) : Int) &&& BitVec.ofInt IntKind.u64.bits 1).toNat : Int) = btI S t := by
 have h1 : S >>> t ≤ S := Nat.shiftRight_le _ _
 show IntKind.u64.wrap ((BitVec.ofInt 64 ((S >>> t : Nat) : Int) &&& BitVec.ofInt 64 ((1 : Nat) : Int)).toNat : Int) = _
 rw [bv64, bv64, BitVec.toNat_and, BitVec.toNat_ofNat, BitVec.toNat_ofNat, Nat.mod_eq_of_lt (by omega), Nat.mod_eq_of_lt (by omega), Nat.and_one_is_mod]
 have h2 : S.testBit t = decide ((S >>> t) % 2 = 1) := by
  rw [Nat.testBit, Nat.one_and_eq_mod_two]
  rcases Nat.mod_two_eq_zero_or_one (S >>> t) with h | h <;> simp [h]
 unfold btI
 rw [h2, w64 _ (by omega)]
 rcases Nat.mod_two_eq_zero_or_one (S >>> t) with h | h <;> simp [h]
theorem cvU (t : Nat) (h : t < 1000000) : RunIs Try.prog (convert 3 116 (.int .i64 t)) (.int .u64 t) := fun w => by
 have h3 : IntKind.u64.wrap (t : Int) = t := w64 t (by omega)
 simp [convert, Conv.intToInt, Go.run_underlying under116 w, Go.run_underlying under3 w, h3]
set_option maxRecDepth 100000 in
theorem after_ok (S a d t f l : Nat) (w : World) (hS : S < 512) (ht : t < 9) (hl : l < 1000000) :
 Calls Try.prog 59 #[.agg #[.int .u64 S, iv a, iv d], .agg #[iv t, iv f, iv l]] w fun e w' => e = .returned (.agg #[.int .u64 ((S ||| 2 ^ t : Nat) : Int), iv t, iv (l + 1 : Nat)]) ∧ Below w.heap.size w w' := by
 refine calls_val env mixed Try.func59 has59 Try.ntmps59 [.agg #[.int .u64 S, iv a, iv d], .agg #[iv t, iv f, iv l]] (by simp) ?_
 have h1 := sh_l ht
 have h2 := or_l hS ht
 generalize hg : ((2 ^ t : Nat) : Int) = P at *
 generalize hg2 : ((S ||| 2 ^ t : Nat) : Int) = R at *
 repeat'
  conv => whnf
  first
   | refine zA ?_ | refine zB ?_ | refine zC ?_ | refine zD ?_ | refine zE ?_ | refine zF ?_ | refine zG ?_ | refine zH ?_ | refine zJ ?_ | refine zI ?_ | refine splT ?_ | refine splF ?_ | refine splNot ?_
   | ((first | refine splIn ?_ ?_ | refine splD ?_ ?_ | refine splE ?_ ?_ | refine splNE ?_ ?_) <;> intro hc <;> first | (exfalso; omega) | (exfalso; dsimp only at hc; omega) | skip)
   | refine Exists.intro (α := Value) (.int .u64 t) ⟨cvU t (by omega), ?_⟩
   | refine Exists.intro (α := Int) P ⟨⟨by omega, h1.symm⟩, ?_⟩
   | refine Exists.intro (α := Int) R ⟨h2.symm, ?_⟩
 all_goals first | (exfalso; omega) | exact ⟨fun β => rfl, fun w' h => h⟩
end Go.Proofs.Ythfabodamhdhaaa
