/- Part 6 of the proof: texts merged. -/
import Derived.Test.YtkbfcofifhngfaaGreatXVe
set_option maxHeartbeats 8000000
set_option maxRecDepth 100000
set_option linter.unusedSectionVars false
set_option linter.unusedSimpArgs false
set_option linter.unusedVariables false
namespace Go.Proofs.YtkbfcofifhngfaaGreat
open Go Tx Go.RowKit
structure Cr where
  no : Option Addr
  nc : Nat
  N : List Int
  wk : Int
  co : Option Addr
  cc : Nat
  C : List Rw
abbrev Cr.v (x : Cr) : Value := .agg #[.slice x.no x.N.length x.nc, iv x.wk, .slice x.co x.C.length x.cc]
structure CrIn (x : Cr) (w : World) : Prop where
  n : Rd 1 iF (.slice x.no x.N.length x.nc) x.N w
  c : Rd 1 Rw.cs (.slice x.co x.C.length x.cc) x.C w
  r : RR x.C w
  nl : x.N.length ≤ 1000000
  cl : x.C.length ≤ 1000000
  rl : ∀ r ∈ x.C, r.xs.length ≤ 1000000
theorem CrIn.below {x : Cr} {w w' : World} (h : CrIn x w) (hb : Below w.heap.size w w') : CrIn x w' := ⟨h.n.below hb, h.c.below hb, h.r.below hb, h.nl, h.cl, h.rl⟩
abbrev Cr.CC (x : Cr) : List (List Int) := x.C.map Rw.xs
def rowOk (n : Nat) (l : List Int) : Bool := decide (l.length = n) && evB l 0 2000
def crOk (N : List Int) (wk : Int) (CC : List (List Int)) : Bool :=
  inB N.length 1 6 && evB N 0 2000 && inB wk 1 60 && inB CC.length 1 20 && CC.all (rowOk N.length)
theorem cvalid_ok (x : Cr) (w : World) (h : CrIn x w) : Calls Tryz.prog 111 #[x.v] w fun e w' => e = .returned (.bool (crOk x.N x.wk x.CC)) ∧ Below w.heap.size w w' := by
  obtain ⟨no, nc, N, wk, co, cc, C⟩ := x
  obtain ⟨hN, hC, hR, hnl, hcl, hrl⟩ := h
  dsimp only at hN hC hR hnl hcl hrl ⊢
  refine calls_val env mixed Tryz.func111 has111 Tryz.ntmps111 [.agg #[.slice no N.length nc, iv wk, .slice co C.length cc]] (by simp) ?_
  have hcm : (C.map Rw.xs).length = C.length := List.length_map ..
  repeat'
   conv => whnf
   first
    |refine zB ?_|refine zD ?_|refine splF ?_
    |refine splIn (fun hc => ?_) (fun hc => ?_)
    |((with_reducible show CallEv _ _ 61 ..); refine callE (fun β w' hbw => within_ok _ _ _ _) ?_)
    |((with_reducible show CallEv _ _ 82 ..); refine callE (fun β w' hbw => every_ok N no nc 0 2000 _ (hN.below hbw) hnl) ?_)
    |refine splB (fun hb => ?_) (fun hb => ?_)
    |((with_reducible show CallEv _ _ 80 ..); refine callI env mixed 1000 [23] Tryz.func80 has80 Tryz.ntmps80 (Nat.le_of_ble_eq_true rfl) rfl rfl rfl ?_)
    |((with_reducible show CallEv _ _ 113 ..); refine callI env mixed 2000 [] Tryz.func113 has113 Tryz.ntmps113 (Nat.le_of_ble_eq_true rfl) rfl rfl rfl ?_)
    |((with_reducible show CallEv _ _ 146 ..); refine callI env mixed 3000 [] Tryz.func146 has146 Tryz.ntmps146 (Nat.le_of_ble_eq_true rfl) rfl rfl rfl ?_)
  all_goals first|exact ⟨fun β => congrArg Value.bool (by simp [crOk, inB, *]; done), fun w' h => h⟩|skip
  have hn : crOk N wk (C.map Rw.xs) = (C.map Rw.xs).all (rowOk N.length) := by
    simp only [crOk, inB, hcm, hb]
    rw [decide_eq_true (by omega), decide_eq_true (by omega), decide_eq_true (by omega), decide_eq_true (by omega), decide_eq_true (by omega), decide_eq_true (by omega)]
    rfl
  conv => whnf
  refine loopE (fun k : Nat => [(0, .v (.slice co C.length cc)), (1, .fn (.func 114) [.ptr 1 0]), (7, .v (iv C.length)), (8, .v (iv k))]) (fun _ => [(1, .cells [.fn (.func 143) [.ptr 0 0]] 111), (0, .cells [.v (.slice no N.length nc), .v (iv wk), .v (.slice co C.length cc)] 77)]) (fun k => k ≤ C.length ∧ ((C.map Rw.xs).take k).all (rowOk N.length) = true) (fun k => C.length - k) 0 ⟨Nat.zero_le _, rfl⟩ ⟨rfl, rfl, rfl, rfl, trivial⟩ ⟨rfl, rfl, trivial⟩ (fun _ => ⟨rfl, rfl⟩) ?_
  intro k ⟨hk, hall⟩
  rcases Nat.lt_or_ge k C.length with hkl | hkl
  · obtain ⟨⟨ro, rc, xs⟩, hx⟩ : ∃ b, C[k]? = some b := ⟨_, List.getElem?_eq_getElem hkl⟩
    obtain ⟨_, ad, rfl, _⟩ := hC.ptr (by omega)
    have e0 := fun (w' : World) hw' => rd_ati (hC.below (w' := w') hw') hx
    have hm : (C.map Rw.xs)[k]? = some xs := by rw [List.getElem?_map, hx]; rfl
    have ht := all_take (p := rowOk N.length) hm
    rw [hall, Bool.true_and] at ht
    have hr := hR _ (List.mem_of_getElem? hx)
    have hrb := hrl _ (List.mem_of_getElem? hx)
    dsimp only at hr hrb
    repeat'
     conv => whnf
     first
      |refine zB ?_|refine zD ?_|refine zF ?_|refine zG ?_|refine splT ?_|refine splNot ?_
      |(refine splD ?_ ?_ <;> intro hc <;> first|(exfalso; omega)|skip)
      |refine eL [.slice ro xs.length rc] ⟨⟨rfl, fun w' hw' => e0 w' hw'⟩, ?_⟩
      |((with_reducible show CallEv _ _ 114 ..); refine callI env mixed 4000 [0,1,5,7,8] Tryz.func114 has114 Tryz.ntmps114 (Nat.le_of_ble_eq_true rfl) rfl rfl rfl ?_)
      |((with_reducible show CallEv _ _ 143 ..); refine callI env mixed 5000 [] Tryz.func143 has143 Tryz.ntmps143 (Nat.le_of_ble_eq_true rfl) rfl rfl rfl ?_)
      |((with_reducible show CallEv _ _ 82 ..); refine callE (fun β w' hbw => every_ok xs ro rc 0 2000 _ (hr.below hbw) hrb) ?_)
      |refine splB (fun hb2 => ?_) (fun hb2 => ?_)
    all_goals first
      | (exfalso; omega)
      | (have hg : rowOk N.length xs = true := by simp only [rowOk, Bool.and_eq_true, decide_eq_true_eq]; exact ⟨by omega, by assumption⟩
         exact ⟨k + 1, ⟨by omega, by rw [ht, hg]⟩, by omega, Ent.weak rfl ⟨rfl, rfl, rfl, rfl, trivial⟩ ⟨rfl, rfl, trivial⟩ fun _ h => h⟩)
      | (have hg : rowOk N.length xs = false := by
           rw [Bool.eq_false_iff]; intro hc2; simp only [rowOk, Bool.and_eq_true, decide_eq_true_eq] at hc2; first | omega | (rw [hb2] at hc2; cases hc2.2)
         rw [hn, all_no hm hg]
         exact ⟨fun β => rfl, fun w' h => h⟩)
      | skip
  · rw [List.take_of_length_le (by rw [hcm]; exact hkl)] at hall
    rw [hn, hall]
    repeat'
     conv => whnf
     first
      |(refine splD ?_ ?_ <;> intro hc <;> first|(exfalso; omega)|skip)
    all_goals exact ⟨fun β => rfl, fun w' h => h⟩
structure Sy where
  p : Int
  o : Option Addr
  c : Nat
  xs : List Int
abbrev Sy.cs (s : Sy) : List Value := [iv s.p, .slice s.o s.xs.length s.c]
abbrev Sy.d (s : Sy) : Int × List Int := (s.p, s.xs)
structure SyIn (o : Option Addr) (c : Nat) (S : List Sy) (w : World) : Prop where
  s : Rd 2 Sy.cs (.slice o S.length c) S w
  r : ∀ s ∈ S, Rd 1 iF (.slice s.o s.xs.length s.c) s.xs w
  sl : S.length ≤ 1000000
  rl : ∀ s ∈ S, s.xs.length ≤ 1000000
theorem SyIn.below {o : Option Addr} {c : Nat} {S : List Sy} {w w' : World} (h : SyIn o c S w) (hb : Below w.heap.size w w') : SyIn o c S w' := ⟨h.s.below hb, fun s hs => (h.r s hs).below hb, h.sl, h.rl⟩
def stOk (n m : Nat) (s : Int × List Int) : Bool := inB s.1 0 (m - 1) && (decide (s.2.length = n) && evB s.2 0 40)
def stE (n m : Nat) (wk : Int) (SS : List (Int × List Int)) : Int := if (SS.length : Int) > wk then 3 else if SS.all (stOk n m) = true then 0 else 1
theorem cstays_ok (x : Cr) (o : Option Addr) (c : Nat) (S : List Sy) (w : World) (h : CrIn x w) (hS : SyIn o c S w) :
    Calls Tryz.prog 112 #[x.v, .slice o S.length c] w fun e w' => e = .returned (iv (stE x.N.length x.CC.length x.wk (S.map Sy.d))) ∧ Below w.heap.size w w' := by
  obtain ⟨no, nc, N, wk, co, cc, C⟩ := x
  obtain ⟨hN, hC, hR, hnl, hcl, hrl⟩ := h
  obtain ⟨hS1, hS2, hsl, hsr⟩ := hS
  dsimp only at hN hC hR hnl hcl hrl ⊢
  refine calls_val env mixed Tryz.func112 has112 Tryz.ntmps112 [.agg #[.slice no N.length nc, iv wk, .slice co C.length cc], .slice o S.length c] (by simp) ?_
  have hcm : (C.map Rw.xs).length = C.length := List.length_map ..
  have hsm : (S.map Sy.d).length = S.length := List.length_map ..
  rw [stE, hsm, hcm]
  by_cases h0 : (S.length : Int) > wk
  · rw [if_pos h0]
    repeat'
     conv => whnf
     first
      |refine zB ?_
      |(refine splD ?_ ?_ <;> intro hc <;> first|(exfalso; omega)|skip)
    all_goals exact ⟨fun β => rfl, fun w' h => h⟩
  rw [if_neg h0]
  repeat'
   conv => whnf
   first
    |refine zB ?_|refine zD ?_
    |(refine splD ?_ ?_ <;> intro hc <;> first|(exfalso; omega)|skip)
    |((with_reducible show CallEv _ _ 145 ..); refine callI env mixed 1000 [] Tryz.func145 has145 Tryz.ntmps145 (Nat.le_of_ble_eq_true rfl) rfl rfl rfl ?_)
    |((with_reducible show CallEv _ _ 164 ..); refine callI env mixed 2000 [] Tryz.func164 has164 Tryz.ntmps164 (Nat.le_of_ble_eq_true rfl) rfl rfl rfl ?_)
    |((with_reducible show CallEv _ _ 172 ..); refine callI env mixed 3000 [] Tryz.func172 has172 Tryz.ntmps172 (Nat.le_of_ble_eq_true rfl) rfl rfl rfl ?_)
  conv => whnf
  refine loopE (fun k : Nat => [(0, .v (.slice o S.length c)), (1, .fn (.func 165) [.ptr 1 0]), (7, .v (iv S.length)), (8, .v (iv k))]) (fun _ => [(1, .cells [.fn (.func 144) [.ptr 0 0]] 178), (0, .cells [.v (.slice no N.length nc), .v (iv wk), .v (.slice co C.length cc)] 77)]) (fun k => k ≤ S.length ∧ ((S.map Sy.d).take k).all (stOk N.length C.length) = true) (fun k => S.length - k) 0 ⟨Nat.zero_le _, rfl⟩ ⟨rfl, rfl, rfl, rfl, trivial⟩ ⟨rfl, rfl, trivial⟩ (fun _ => ⟨rfl, rfl⟩) ?_
  intro k ⟨hk, hall⟩
  rcases Nat.lt_or_ge k S.length with hkl | hkl
  · obtain ⟨⟨sp, so, sc, xs⟩, hx⟩ : ∃ b, S[k]? = some b := ⟨_, List.getElem?_eq_getElem hkl⟩
    obtain ⟨_, ad, rfl, _⟩ := hS1.ptr (by omega)
    have e0 := fun (w' : World) hw' => rd_ati (hS1.below (w' := w') hw') hx
    have hm : (S.map Sy.d)[k]? = some (sp, xs) := by rw [List.getElem?_map, hx]; rfl
    have ht := all_take (p := stOk N.length C.length) hm
    rw [hall, Bool.true_and] at ht
    have hr := hS2 _ (List.mem_of_getElem? hx)
    have hrb := hsr _ (List.mem_of_getElem? hx)
    dsimp only at hr hrb
    repeat'
     conv => whnf
     first
      |refine zB ?_|refine zD ?_|refine zF ?_|refine zG ?_|refine splT ?_|refine splF ?_|refine splNot ?_
      |((first|refine splIn ?_ ?_|refine splD ?_ ?_) <;> intro hc <;> first|(exfalso; omega)|skip)
      |refine eL [iv sp, .slice so xs.length sc] ⟨⟨rfl, fun w' hw' => e0 w' hw'⟩, ?_⟩
      |((with_reducible show CallEv _ _ 165 ..); refine callI env mixed 4000 [0,1,5,7,8] Tryz.func165 has165 Tryz.ntmps165 (Nat.le_of_ble_eq_true rfl) rfl rfl rfl ?_)
      |((with_reducible show CallEv _ _ 144 ..); refine callI env mixed 5000 [] Tryz.func144 has144 Tryz.ntmps144 (Nat.le_of_ble_eq_true rfl) rfl rfl rfl ?_)
      |((with_reducible show CallEv _ _ 61 ..); refine callE (fun β w' hbw => within_ok _ _ _ _) ?_)
      |((with_reducible show CallEv _ _ 82 ..); refine callE (fun β w' hbw => every_ok xs so sc 0 40 _ (hr.below hbw) hrb) ?_)
      |refine splB (fun hb2 => ?_) (fun hb2 => ?_)
    all_goals first
      | (exfalso; omega)
      | (have hg : stOk N.length C.length (sp, xs) = true := by simp only [stOk, inB, Bool.and_eq_true, decide_eq_true_eq]; exact ⟨by omega, by omega, by assumption⟩
         exact ⟨k + 1, ⟨by omega, by rw [ht, hg]⟩, by omega, Ent.weak rfl ⟨rfl, rfl, rfl, rfl, trivial⟩ ⟨rfl, rfl, trivial⟩ fun _ h => h⟩)
      | (have hg : stOk N.length C.length (sp, xs) = false := by
           rw [Bool.eq_false_iff]; intro hc2; simp only [stOk, inB, Bool.and_eq_true, decide_eq_true_eq] at hc2; first | omega | (rw [hb2] at hc2; cases hc2.2.2)
         rw [all_no hm hg]
         exact ⟨fun β => rfl, fun w' h => h⟩)
      | skip
  · rw [List.take_of_length_le (by rw [hsm]; exact hkl)] at hall
    rw [hall]
    repeat'
     conv => whnf
     first
      |refine splF ?_
      |(refine splD ?_ ?_ <;> intro hc <;> first|(exfalso; omega)|skip)
    all_goals exact ⟨fun β => rfl, fun w' h => h⟩
def ckE (N : List Int) (wk : Int) (CC : List (List Int)) (SS : List (Int × List Int)) : Int := if crOk N wk CC = true then stE N.length CC.length wk SS else 1
theorem ccheck_ok (x : Cr) (o : Option Addr) (c : Nat) (S : List Sy) (w : World) (h : CrIn x w) (hS : SyIn o c S w) :
    Calls Tryz.prog 75 #[x.v, .slice o S.length c] w fun e w' => e = .returned (iv (ckE x.N x.wk x.CC (S.map Sy.d))) ∧ Below w.heap.size w w' := by
  refine calls_val env mixed Tryz.func75 has75 Tryz.ntmps75 [x.v, .slice o S.length c] (by simp) ?_
  have hv := fun w' hb => cvalid_ok x w' (h.below hb)
  have hs := fun w' hb => cstays_ok x o c S w' (h.below hb) (hS.below hb)
  obtain ⟨no, nc, N, wk, co, cc, C⟩ := x
  dsimp only at hv hs ⊢
  rw [ckE]
  cases hc : crOk N wk (C.map Rw.xs) with
  | true =>
    rw [hc] at hv
    rw [if_pos rfl]
    repeat'
     conv => whnf
     first
      |refine zD ?_|refine splF ?_
      |((with_reducible show CallEv _ _ 111 ..); refine callE (fun β w' hbw => hv _ hbw) ?_)
      |((with_reducible show CallEv _ _ 112 ..); refine callE (fun β w' hbw => hs _ hbw) ?_)
    all_goals exact ⟨fun β => rfl, fun w' h => h⟩
  | false =>
    rw [hc] at hv
    rw [if_neg (by decide)]
    repeat'
     conv => whnf
     first
      |refine zD ?_|refine splT ?_
      |((with_reducible show CallEv _ _ 111 ..); refine callE (fun β w' hbw => hv _ hbw) ?_)
    all_goals exact ⟨fun β => rfl, fun w' h => h⟩
def gt (L : List Int) (j : Nat) : Int := (L[j]?).getD 0
def rwA (CC : List (List Int)) (p : Int) : List Int := (CC[p.toNat]?).getD []
def tmS (CC : List (List Int)) (j : Nat) (s : Int × List Int) : Int := gt s.2 j * gt (rwA CC s.1) j
def hsS (CC : List (List Int)) (SS : List (Int × List Int)) (j : Nat) : Int := (SS.map (tmS CC j)).sum
def hsV (CC : List (List Int)) (SS : List (Int × List Int)) (j : Nat) : Int := (hsS CC SS j).tdiv 1000
def lfV (N : List Int) (CC : List (List Int)) (SS : List (Int × List Int)) (j : Nat) : Int := imax 0 (gt N j - hsV CC SS j)
def nxV (N : List Int) (wk : Int) (CC : List (List Int)) (SS : List (Int × List Int)) (j : Nat) : Int := imin 20 ((lfV N CC SS j + (wk - (SS.length : Int)) - 1).tdiv (wk - (SS.length : Int)))
theorem hsS_take {CC : List (List Int)} {SS : List (Int × List Int)} {j k : Nat} {s : Int × List Int} (h : SS[k]? = some s) : hsS CC (SS.take (k + 1)) j = hsS CC (SS.take k) j + tmS CC j s := by
  rw [hsS, List.take_add_one, h]; simp [hsS]
theorem quoT {k : IntKind} {a b : Int} {K : Int → Prop} (h1 : b ≠ 0) (h2 : IR k (a.tdiv b)) (h : K (a.tdiv b)) : ∃ q : Int, (b ≠ 0 ∧ a.tdiv b = q ∧ IR k q) ∧ K q := ⟨_, ⟨h1, rfl, h2⟩, h⟩
structure YrOk (N : List Int) (wk : Int) (CC : List (List Int)) (SS : List (Int × List Int)) : Prop where
  n6 : 1 ≤ N.length ∧ N.length ≤ 6
  nb : ∀ n ∈ N, 0 ≤ n ∧ n ≤ 2000
  w : 1 ≤ wk ∧ wk ≤ 60
  c1 : 1 ≤ CC.length ∧ CC.length ≤ 20
  r : ∀ l ∈ CC, l.length = N.length ∧ ∀ n ∈ l, 0 ≤ n ∧ n ≤ 2000
  sl : (SS.length : Int) ≤ wk
  s : ∀ s ∈ SS, (0 ≤ s.1 ∧ s.1 < CC.length) ∧ s.2.length = N.length ∧ ∀ n ∈ s.2, 0 ≤ n ∧ n ≤ 40
theorem evB_iff {L : List Int} {lo hi : Int} (h : evB L lo hi = true) : ∀ n ∈ L, lo ≤ n ∧ n ≤ hi := fun n hn => by
  have := List.all_eq_true.1 h n hn
  simpa [inB] using this
theorem YrOk.of {N : List Int} {wk : Int} {CC : List (List Int)} {SS : List (Int × List Int)} (h : ckE N wk CC SS = 0) : YrOk N wk CC SS := by
  unfold ckE at h
  split at h
  case isFalse => cases h
  rename_i h1
  unfold stE at h
  split at h
  case isTrue => cases h
  rename_i h2
  split at h
  case isFalse => cases h
  rename_i h3
  simp only [crOk, inB, Bool.and_eq_true, decide_eq_true_eq] at h1
  obtain ⟨⟨⟨⟨h4, h5⟩, h6⟩, h7⟩, h8⟩ := h1
  refine ⟨by omega, evB_iff h5, h6, by omega, fun l hl => ?_, by omega, fun s hs => ?_⟩
  · have := List.all_eq_true.1 h8 l hl
    simp only [rowOk, Bool.and_eq_true, decide_eq_true_eq] at this
    exact ⟨this.1, evB_iff this.2⟩
  · have := List.all_eq_true.1 h3 s hs
    simp only [stOk, inB, Bool.and_eq_true, decide_eq_true_eq] at this
    exact ⟨by omega, this.2.1, evB_iff this.2.2⟩
theorem gt_some {L : List Int} {j : Nat} {n : Int} (h : L[j]? = some n) : gt L j = n := by simp [gt, h]
theorem YrOk.tm {N : List Int} {wk : Int} {CC : List (List Int)} {SS : List (Int × List Int)} (h : YrOk N wk CC SS) (j : Nat) {s : Int × List Int} (hs : s ∈ SS) : 0 ≤ tmS CC j s ∧ tmS CC j s ≤ 80000 := by
  obtain ⟨h1, h2, h3⟩ := h.s s hs
  have a : 0 ≤ gt s.2 j ∧ gt s.2 j ≤ 40 := by
    unfold gt
    cases hj : s.2[j]? with
    | none => simp
    | some n => exact h3 n (List.mem_of_getElem? hj)
  have b : 0 ≤ gt (rwA CC s.1) j ∧ gt (rwA CC s.1) j ≤ 2000 := by
    unfold gt rwA
    cases hc : CC[s.1.toNat]? with
    | none => simp
    | some l =>
      simp only [Option.getD_some]
      cases hj : l[j]? with
      | none => simp
      | some n => exact (h.r l (List.mem_of_getElem? hc)).2 n (List.mem_of_getElem? hj)
  unfold tmS
  refine ⟨Int.mul_nonneg a.1 b.1, ?_⟩
  have := Int.mul_le_mul a.2 b.2 b.1 (by omega : (0 : Int) ≤ 40)
  omega
theorem YrOk.bd {N : List Int} {wk : Int} {CC : List (List Int)} {SS : List (Int × List Int)} (h : YrOk N wk CC SS) (j : Nat) : ∀ k, 0 ≤ hsS CC (SS.take k) j ∧ hsS CC (SS.take k) j ≤ 80000 * k
  | 0 => by simp [hsS]
  | k + 1 => by
    have ih := h.bd j k
    cases hx : SS[k]? with
    | none =>
      rw [List.getElem?_eq_none_iff] at hx
      rw [List.take_of_length_le (show SS.length ≤ k + 1 by omega)]
      rw [List.take_of_length_le hx] at ih
      omega
    | some s =>
      have := h.tm j (List.mem_of_getElem? hx)
      rw [hsS_take hx]
      omega
theorem YrOk.bdl {N : List Int} {wk : Int} {CC : List (List Int)} {SS : List (Int × List Int)} (h : YrOk N wk CC SS) (j : Nat) : 0 ≤ hsS CC SS j ∧ hsS CC SS j ≤ 4800000 := by
  have := h.bd j SS.length
  rw [List.take_of_length_le (Nat.le_refl _)] at this
  have := h.sl
  have := h.w
  omega
theorem tdiv_b0 {a b : Int} (h : 0 ≤ a) (hb : 0 < b) : 0 ≤ a.tdiv b ∧ a.tdiv b ≤ a := by
  rw [Int.tdiv_eq_ediv_of_nonneg h]
  exact ⟨Int.ediv_nonneg h (by omega), Int.ediv_le_self _ h⟩
theorem YrOk.hv {N : List Int} {wk : Int} {CC : List (List Int)} {SS : List (Int × List Int)} (h : YrOk N wk CC SS) (j : Nat) : 0 ≤ hsV CC SS j ∧ hsV CC SS j ≤ 4800000 := by
  have := h.bdl j
  have := tdiv_b0 this.1 (show (0 : Int) < 1000 by omega)
  unfold hsV; omega
theorem YrOk.gn {N : List Int} {wk : Int} {CC : List (List Int)} {SS : List (Int × List Int)} (h : YrOk N wk CC SS) (j : Nat) : 0 ≤ gt N j ∧ gt N j ≤ 2000 := by
  unfold gt
  cases hj : N[j]? with
  | none => simp
  | some n => exact h.nb n (List.mem_of_getElem? hj)
abbrev Cr.ch (x : Cr) (s : Value) : Value := .agg #[.slice x.no x.N.length x.nc, iv x.wk, .slice x.co x.C.length x.cc, s]
theorem hasC_ok (x : Cr) (o : Option Addr) (c : Nat) (S : List Sy) (j : Nat) (w : World) (h : CrIn x w) (hS : SyIn o c S w) (hy : YrOk x.N x.wk x.CC (S.map Sy.d)) (hj : j < x.N.length) :
    Calls Tryz.prog 77 #[x.ch (.slice o S.length c), iv j] w fun e w' => e = .returned (iv (hsV x.CC (S.map Sy.d) j)) ∧ Below w.heap.size w w' := by
  obtain ⟨no, nc, N, wk, co, cc, C⟩ := x
  obtain ⟨hN, hC, hR, hnl, hcl, hrl⟩ := h
  obtain ⟨hS1, hS2, hsl, hsr⟩ := hS
  dsimp only at hN hC hR hnl hcl hrl hj ⊢
  change YrOk N wk (C.map Rw.xs) (S.map Sy.d) at hy
  show Calls _ _ _ _ fun e w' => e = .returned (iv (hsV (C.map Rw.xs) (S.map Sy.d) j)) ∧ _
  refine calls_val env mixed Tryz.func77 has77 Tryz.ntmps77 [.agg #[.slice no N.length nc, iv wk, .slice co C.length cc, .slice o S.length c], iv j] (by simp) ?_
  have hcm : (C.map Rw.xs).length = C.length := List.length_map ..
  have hsm : (S.map Sy.d).length = S.length := List.length_map ..
  have h60 := hy.sl
  have h61 := hy.w
  rw [hsm] at h60
  repeat'
   conv => whnf
   first
    |refine zB ?_
  refine loopE (fun k : Nat => [(1, .v (iv j)), (2, .ptr 0 0), (5, .v (iv (hsS (C.map Rw.xs) ((S.map Sy.d).take k) j))), (9, .v (.slice o S.length c)), (10, .v (iv S.length)), (11, .v (iv k))]) (fun _ => [(0, .cells [.v (.slice no N.length nc), .v (iv wk), .v (.slice co C.length cc), .v (.slice o S.length c)] 135)]) (fun k => k ≤ S.length) (fun k => S.length - k) 0 (Nat.zero_le _) ⟨rfl, rfl, rfl, rfl, rfl, rfl, trivial⟩ ⟨rfl, trivial⟩ (fun _ => ⟨rfl, rfl⟩) ?_
  intro k hk
  have hbd := hy.bd j k
  rcases Nat.lt_or_ge k S.length with hkl | hkl
  · obtain ⟨⟨sp, so, sc, xs⟩, hx⟩ : ∃ b, S[k]? = some b := ⟨_, List.getElem?_eq_getElem hkl⟩
    obtain ⟨_, ad, rfl, _⟩ := hS1.ptr (by omega)
    have e1 := fun (w' : World) hw' => rd_ati (hS1.below (w' := w') hw') hx
    have hm : (S.map Sy.d)[k]? = some (sp, xs) := by rw [List.getElem?_map, hx]; rfl
    have hr := hS2 _ (List.mem_of_getElem? hx)
    have hso := hy.s _ (List.mem_of_getElem? hm)
    have htb := hy.tm j (List.mem_of_getElem? hm)
    have hst := hsS_take (CC := C.map Rw.xs) (j := j) hm
    dsimp only at hr hso
    obtain ⟨⟨hp0, hp1⟩, hxl, hxb⟩ := hso
    obtain ⟨q, rfl⟩ := Int.eq_ofNat_of_zero_le hp0
    rw [hcm] at hp1
    obtain ⟨⟨ro, rc, ys⟩, hq⟩ : ∃ b, C[q]? = some b := ⟨_, List.getElem?_eq_getElem (by omega)⟩
    have hqm : (C.map Rw.xs)[q]? = some ys := by rw [List.getElem?_map, hq]; rfl
    obtain ⟨hyl, hyb⟩ := hy.r _ (List.mem_of_getElem? hqm)
    have hrr := hR _ (List.mem_of_getElem? hq)
    change Rd 1 iF (.slice ro ys.length rc) ys w at hrr
    obtain ⟨a, ha⟩ : ∃ b, xs[j]? = some b := ⟨_, List.getElem?_eq_getElem (by omega)⟩
    obtain ⟨b, hb⟩ : ∃ b, ys[j]? = some b := ⟨_, List.getElem?_eq_getElem (by omega)⟩
    have htm : tmS (C.map Rw.xs) j ((q : Int), xs) = a * b := by
      unfold tmS rwA
      rw [gt_some ha, Int.toNat_natCast, hqm, Option.getD_some, gt_some hb]
    rw [htm] at htb hst
    obtain ⟨_, adc, rfl, _⟩ := hC.ptr (by omega)
    obtain ⟨_, adx, rfl, _⟩ := hr.ptr (by omega)
    obtain ⟨_, ady, rfl, _⟩ := hrr.ptr (by omega)
    have ec := fun (w' : World) hw' => rd_ati (hC.below (w' := w') hw') hq
    have ex := fun (w' : World) hw' => rd_ati (hr.below (w' := w') hw') ha
    have ey := fun (w' : World) hw' => rd_ati (hrr.below (w' := w') hw') hb
    repeat'
     conv => whnf
     first
      |refine zA ?_|refine zB ?_|refine zC ?_|refine zF ?_|refine zG ?_
      |(refine splD ?_ ?_ <;> intro hc <;> first|(exfalso; omega)|skip)
      |refine eL [iv q, .slice (some adx) xs.length sc] ⟨⟨rfl, fun w' hw' => e1 w' hw'⟩, ?_⟩
      |refine eL [.slice (some ady) ys.length rc] ⟨⟨rfl, fun w' hw' => ec w' hw'⟩, ?_⟩
      |refine eL [iv a] ⟨⟨rfl, fun w' hw' => ex w' hw'⟩, ?_⟩
      |refine eL [iv b] ⟨⟨rfl, fun w' hw' => ey w' hw'⟩, ?_⟩
    all_goals first
      | (exfalso; omega)
      | exact ⟨k + 1, by omega, by omega, Ent.weak rfl ⟨rfl, rfl, by rw [hst]; rfl, rfl, rfl, rfl, trivial⟩ ⟨rfl, trivial⟩ fun _ h => h⟩
      | skip
  · rw [List.take_of_length_le (by rw [hsm]; exact hkl)] at hbd ⊢
    have hv := hy.hv j
    unfold hsV at hv ⊢
    repeat'
     conv => whnf
     first
      |(refine splD ?_ ?_ <;> intro hc <;> first|(exfalso; omega)|skip)
      |refine quoT (by omega) (And.intro (by omega) (by omega)) ?_
    all_goals exact ⟨fun β => rfl, fun w' h => h⟩
theorem leftC_ok (x : Cr) (o : Option Addr) (c : Nat) (S : List Sy) (j : Nat) (w : World) (h : CrIn x w) (hS : SyIn o c S w) (hy : YrOk x.N x.wk x.CC (S.map Sy.d)) (hj : j < x.N.length) :
    Calls Tryz.prog 78 #[x.ch (.slice o S.length c), iv j] w fun e w' => e = .returned (iv (lfV x.N x.CC (S.map Sy.d) j)) ∧ Below w.heap.size w w' := by
  have hc := fun w' hb => hasC_ok x o c S j w' (h.below hb) (hS.below hb) hy hj
  obtain ⟨no, nc, N, wk, co, cc, C⟩ := x
  have hN := h.n
  have hhv := hy.hv j
  have hgn := hy.gn j
  have hsl := hS.sl
  have hw := hy.w
  have hs60 := hy.sl
  have hsm : (S.map Sy.d).length = S.length := List.length_map ..
  rw [hsm] at hs60
  dsimp only at hN hj hc hw hs60 ⊢
  change 0 ≤ hsV (C.map Rw.xs) (S.map Sy.d) j ∧ hsV (C.map Rw.xs) (S.map Sy.d) j ≤ 4800000 at hhv
  have hc2 : ∀ w', Below w.heap.size w w' → Calls Tryz.prog 77 #[.agg #[.slice no N.length nc, iv wk, .slice co C.length cc, .slice o S.length c], iv j] w' fun e w1 => e = .returned (iv (hsV (C.map Rw.xs) (S.map Sy.d) j)) ∧ Below w'.heap.size w' w1 := hc
  clear hc
  refine calls_val env mixed Tryz.func78 has78 Tryz.ntmps78 [.agg #[.slice no N.length nc, iv wk, .slice co C.length cc, .slice o S.length c], iv j] (by simp) ?_
  obtain ⟨n, hn⟩ : ∃ b, N[j]? = some b := ⟨_, List.getElem?_eq_getElem hj⟩
  obtain ⟨_, ad, rfl, _⟩ := hN.ptr (by omega)
  have en := fun (w' : World) hw' => rd_ati (hN.below (w' := w') hw') hn
  rw [gt_some hn] at hgn
  show vc _ _ _ (endΦ _ _ fun s σ => (∀ β, s.c β = iv (lfV N (C.map Rw.xs) (S.map Sy.d) j)) ∧ _)
  rw [lfV, gt_some hn]
  repeat'
   conv => whnf
   first
    |refine zA ?_|refine zB ?_|refine zD ?_|refine zF ?_|refine zG ?_
    |refine eL [iv n] ⟨⟨rfl, fun w' hw' => en w' hw'⟩, ?_⟩
    |((with_reducible show CallEv _ _ 77 ..); refine callE (fun β w' hbw => hc2 _ hbw) ?_)
  all_goals exact ⟨fun β => rfl, fun w' h => h⟩
theorem nextC_ok (x : Cr) (o : Option Addr) (c : Nat) (S : List Sy) (j : Nat) (w : World) (h : CrIn x w) (hS : SyIn o c S w) (hy : YrOk x.N x.wk x.CC (S.map Sy.d)) (hj : j < x.N.length) (hlt : (S.length : Int) < x.wk) :
    Calls Tryz.prog 79 #[x.ch (.slice o S.length c), iv j] w fun e w' => e = .returned (iv (nxV x.N x.wk x.CC (S.map Sy.d) j)) ∧ Below w.heap.size w w' := by
  have hc := fun w' hb => leftC_ok x o c S j w' (h.below hb) (hS.below hb) hy hj
  obtain ⟨no, nc, N, wk, co, cc, C⟩ := x
  have hN := h.n
  have hhv := hy.hv j
  have hgn := hy.gn j
  have hsl := hS.sl
  have hw := hy.w
  have hs60 := hy.sl
  have hsm : (S.map Sy.d).length = S.length := List.length_map ..
  rw [hsm] at hs60
  dsimp only at hN hj hc hw hs60 hlt ⊢
  change 0 ≤ hsV (C.map Rw.xs) (S.map Sy.d) j ∧ hsV (C.map Rw.xs) (S.map Sy.d) j ≤ 4800000 at hhv
  have hc2 : ∀ w', Below w.heap.size w w' → Calls Tryz.prog 78 #[.agg #[.slice no N.length nc, iv wk, .slice co C.length cc, .slice o S.length c], iv j] w' fun e w1 => e = .returned (iv (lfV N (C.map Rw.xs) (S.map Sy.d) j)) ∧ Below w'.heap.size w' w1 := hc
  clear hc
  refine calls_val env mixed Tryz.func79 has79 Tryz.ntmps79 [.agg #[.slice no N.length nc, iv wk, .slice co C.length cc, .slice o S.length c], iv j] (by simp) ?_
  obtain ⟨n, hn⟩ : ∃ b, N[j]? = some b := ⟨_, List.getElem?_eq_getElem hj⟩
  obtain ⟨_, ad, rfl, _⟩ := hN.ptr (by omega)
  have en := fun (w' : World) hw' => rd_ati (hN.below (w' := w') hw') hn
  rw [gt_some hn] at hgn
  show vc _ _ _ (endΦ _ _ fun s σ => (∀ β, s.c β = iv (nxV N wk (C.map Rw.xs) (S.map Sy.d) j)) ∧ _)
  have hl1 : 0 ≤ lfV N (C.map Rw.xs) (S.map Sy.d) j ∧ lfV N (C.map Rw.xs) (S.map Sy.d) j ≤ 2000 := by
    rw [lfV, gt_some hn, imax_eq]; omega
  rw [nxV, hsm]
  generalize lfV N (C.map Rw.xs) (S.map Sy.d) j = L at *
  have hm2 := tdiv_b0 (show 0 ≤ L + (wk - (S.length : Int)) - 1 by omega) (show 0 < wk - (S.length : Int) by omega)
  repeat'
   conv => whnf
   first
    |refine zB ?_|refine zD ?_|refine zF ?_
    |((with_reducible show CallEv _ _ 78 ..); refine callE (fun β w' hbw => hc2 _ hbw) ?_)
    |refine quoT (by omega) (And.intro (by omega) (by omega)) ?_
  all_goals exact ⟨fun β => rfl, fun w' h => h⟩
theorem stS' {L : List Int} {k : Nat} (hk : k < L.length) (n : Int) : (k : Int).toNat * 1 + [iv n].length ≤ (L.flatMap iF).length := by
  rw [lenF, Int.toNat_natCast, Nat.mul_one]; exact hk
theorem stE' {L : List Int} {k : Nat} (hk : k < L.length) (n : Int) : (L.flatMap iF).take ((k : Int).toNat * ti3.size) ++ [iv n] ++ (L.flatMap iF).drop ((k : Int).toNat * ti3.size + [iv n].length) = (L.set k n).flatMap iF := by
  rw [show ti3.size = 1 from rfl, Int.toNat_natCast, Nat.mul_one, ← setF hk, List.append_assoc]; rfl
theorem take_set {D : List Int} {k : Nat} {g : Nat → Int} (hk : k < D.length) (h : D.take k = (List.range k).map g) : (D.set k (g k)).take (k + 1) = (List.range (k + 1)).map g := by
  rw [List.take_add_one, List.take_set_of_le (Nat.le_refl _), h, List.getElem?_set_self hk, List.range_succ, List.map_append]; rfl
theorem each79_own (no : Option Addr) (nc : Nat) (N : List Int) (wk : Int) (co : Option Addr) (cn cc : Nat) (s : Value) (g : Nat → Int) (w : World) (hN : 1 ≤ N.length ∧ N.length ≤ 6)
    (hg : ∀ j, j < N.length → ∀ w', Below w.heap.size w w' → Calls Tryz.prog 77 #[.agg #[.slice no N.length nc, iv wk, .slice co cn cc, s], iv j] w' fun e w2 => e = .returned (iv (g j)) ∧ Below w'.heap.size w' w2) :
    Calls Tryz.prog 76 #[.agg #[.slice no N.length nc, iv wk, .slice co cn cc, s], .func (.func 77) #[.agg #[.slice no N.length nc, iv wk, .slice co cn cc, s]] #[]] w fun e w' => ∃ b d, e = .returned (.slice (some ⟨b, 0, none⟩) N.length d) ∧ w.heap.size ≤ b ∧ Below w.heap.size w w' ∧
      w'.ownsRow 0 3 1 (.slice (some ⟨b, 0, none⟩) N.length d) N.length (((List.range N.length).map g).flatMap iF) := by
  refine calls_fam2 env mixed Tryz.func76 has76 Tryz.ntmps76 [.agg #[.slice no N.length nc, iv wk, .slice co cn cc, s], .func (.func 77) #[.agg #[.slice no N.length nc, iv wk, .slice co cn cc, s]] #[]] (by simp) ?_
  repeat'
   conv => whnf
   first
    |refine zB ?_
    |refine mkO env 1 N.length ((List.replicate N.length (0 : Int)).flatMap iF) rfl rfl rfl (by decide) rfl (by omega) (by decide) (by rw [List.flatMap_replicate]; rfl) rfl ?_
  refine loopN2 3 (fun (k : Nat) (D : List Int) => [(1, .v (.func (.func 77) #[.agg #[.slice no N.length nc, iv wk, .slice co cn cc, s]] #[])), (5, .os 1 2 N.length), (13, .v (iv N.length)), (14, .v (iv k))])
    (fun k D => [(1, .own 2 N.length 1 (D.flatMap iF) 3)])
    (fun k D => k ≤ N.length ∧ D.length = N.length ∧ D.take k = (List.range k).map g) (fun k _ => N.length - k) 0 (List.replicate N.length 0)
    ⟨Nat.zero_le _, by simp, rfl⟩ ⟨rfl, rfl, rfl, rfl, trivial⟩ ⟨rfl, trivial⟩ (fun _ _ _ => ⟨rfl, rfl⟩) ?_
  intro k D ⟨hk, hD, hDk⟩
  rcases Nat.lt_or_ge k N.length with hkl | hkl
  · have hkD : k < D.length := by omega
    have ht := take_set hkD hDk
    repeat'
     conv => whnf
     first
      |refine zC ?_|refine zD ?_|refine zF ?_|refine zG ?_
      |(refine splD ?_ ?_ <;> intro hc <;> first|(exfalso; omega)|skip)
      |((with_reducible show CallEv _ _ 77 ..); refine callE (fun β w' hbw => hg k hkl _ hbw) ?_)
      |(refine And.intro (a := _ + _ ≤ List.length _) (stS' hkD (g k)) ?_; rw [stE' hkD (g k)])
    all_goals exact ⟨k + 1, D.set k (g k), ⟨by omega, by rw [List.length_set]; exact hD, ht⟩, by omega, Ent.weak rfl ⟨rfl, rfl, rfl, rfl, trivial⟩ ⟨rfl, trivial⟩ fun _ h => h⟩
  · have hkn : k = N.length := by omega
    subst hkn
    rw [List.take_of_length_le (by omega)] at hDk
    subst hDk
    repeat'
     conv => whnf
     first
      |(refine splD ?_ ?_ <;> intro hc <;> first|(exfalso; omega)|skip)
    all_goals exact ⟨fun w' h => h, fun β w' hB hB2 hblk => ⟨β 1, β 2, rfl, (hblk 1 _ rfl rfl).1, hB2, (hblk 1 _ rfl rfl).2⟩⟩
theorem each80_own (no : Option Addr) (nc : Nat) (N : List Int) (wk : Int) (co : Option Addr) (cn cc : Nat) (s : Value) (g : Nat → Int) (w : World) (hN : 1 ≤ N.length ∧ N.length ≤ 6)
    (hg : ∀ j, j < N.length → ∀ w', Below w.heap.size w w' → Calls Tryz.prog 78 #[.agg #[.slice no N.length nc, iv wk, .slice co cn cc, s], iv j] w' fun e w2 => e = .returned (iv (g j)) ∧ Below w'.heap.size w' w2) :
    Calls Tryz.prog 76 #[.agg #[.slice no N.length nc, iv wk, .slice co cn cc, s], .func (.func 78) #[.agg #[.slice no N.length nc, iv wk, .slice co cn cc, s]] #[]] w fun e w' => ∃ b d, e = .returned (.slice (some ⟨b, 0, none⟩) N.length d) ∧ w.heap.size ≤ b ∧ Below w.heap.size w w' ∧
      w'.ownsRow 0 3 1 (.slice (some ⟨b, 0, none⟩) N.length d) N.length (((List.range N.length).map g).flatMap iF) := by
  refine calls_fam2 env mixed Tryz.func76 has76 Tryz.ntmps76 [.agg #[.slice no N.length nc, iv wk, .slice co cn cc, s], .func (.func 78) #[.agg #[.slice no N.length nc, iv wk, .slice co cn cc, s]] #[]] (by simp) ?_
  repeat'
   conv => whnf
   first
    |refine zB ?_
    |refine mkO env 1 N.length ((List.replicate N.length (0 : Int)).flatMap iF) rfl rfl rfl (by decide) rfl (by omega) (by decide) (by rw [List.flatMap_replicate]; rfl) rfl ?_
  refine loopN2 3 (fun (k : Nat) (D : List Int) => [(1, .v (.func (.func 78) #[.agg #[.slice no N.length nc, iv wk, .slice co cn cc, s]] #[])), (5, .os 1 2 N.length), (13, .v (iv N.length)), (14, .v (iv k))])
    (fun k D => [(1, .own 2 N.length 1 (D.flatMap iF) 3)])
    (fun k D => k ≤ N.length ∧ D.length = N.length ∧ D.take k = (List.range k).map g) (fun k _ => N.length - k) 0 (List.replicate N.length 0)
    ⟨Nat.zero_le _, by simp, rfl⟩ ⟨rfl, rfl, rfl, rfl, trivial⟩ ⟨rfl, trivial⟩ (fun _ _ _ => ⟨rfl, rfl⟩) ?_
  intro k D ⟨hk, hD, hDk⟩
  rcases Nat.lt_or_ge k N.length with hkl | hkl
  · have hkD : k < D.length := by omega
    have ht := take_set hkD hDk
    repeat'
     conv => whnf
     first
      |refine zC ?_|refine zD ?_|refine zF ?_|refine zG ?_
      |(refine splD ?_ ?_ <;> intro hc <;> first|(exfalso; omega)|skip)
      |((with_reducible show CallEv _ _ 78 ..); refine callE (fun β w' hbw => hg k hkl _ hbw) ?_)
      |(refine And.intro (a := _ + _ ≤ List.length _) (stS' hkD (g k)) ?_; rw [stE' hkD (g k)])
    all_goals exact ⟨k + 1, D.set k (g k), ⟨by omega, by rw [List.length_set]; exact hD, ht⟩, by omega, Ent.weak rfl ⟨rfl, rfl, rfl, rfl, trivial⟩ ⟨rfl, trivial⟩ fun _ h => h⟩
  · have hkn : k = N.length := by omega
    subst hkn
    rw [List.take_of_length_le (by omega)] at hDk
    subst hDk
    repeat'
     conv => whnf
     first
      |(refine splD ?_ ?_ <;> intro hc <;> first|(exfalso; omega)|skip)
    all_goals exact ⟨fun w' h => h, fun β w' hB hB2 hblk => ⟨β 1, β 2, rfl, (hblk 1 _ rfl rfl).1, hB2, (hblk 1 _ rfl rfl).2⟩⟩
theorem each81_own (no : Option Addr) (nc : Nat) (N : List Int) (wk : Int) (co : Option Addr) (cn cc : Nat) (s : Value) (g : Nat → Int) (w : World) (hN : 1 ≤ N.length ∧ N.length ≤ 6)
    (hg : ∀ j, j < N.length → ∀ w', Below w.heap.size w w' → Calls Tryz.prog 79 #[.agg #[.slice no N.length nc, iv wk, .slice co cn cc, s], iv j] w' fun e w2 => e = .returned (iv (g j)) ∧ Below w'.heap.size w' w2) :
    Calls Tryz.prog 76 #[.agg #[.slice no N.length nc, iv wk, .slice co cn cc, s], .func (.func 79) #[.agg #[.slice no N.length nc, iv wk, .slice co cn cc, s]] #[]] w fun e w' => ∃ b d, e = .returned (.slice (some ⟨b, 0, none⟩) N.length d) ∧ w.heap.size ≤ b ∧ Below w.heap.size w w' ∧
      w'.ownsRow 0 3 1 (.slice (some ⟨b, 0, none⟩) N.length d) N.length (((List.range N.length).map g).flatMap iF) := by
  refine calls_fam2 env mixed Tryz.func76 has76 Tryz.ntmps76 [.agg #[.slice no N.length nc, iv wk, .slice co cn cc, s], .func (.func 79) #[.agg #[.slice no N.length nc, iv wk, .slice co cn cc, s]] #[]] (by simp) ?_
  repeat'
   conv => whnf
   first
    |refine zB ?_
    |refine mkO env 1 N.length ((List.replicate N.length (0 : Int)).flatMap iF) rfl rfl rfl (by decide) rfl (by omega) (by decide) (by rw [List.flatMap_replicate]; rfl) rfl ?_
  refine loopN2 3 (fun (k : Nat) (D : List Int) => [(1, .v (.func (.func 79) #[.agg #[.slice no N.length nc, iv wk, .slice co cn cc, s]] #[])), (5, .os 1 2 N.length), (13, .v (iv N.length)), (14, .v (iv k))])
    (fun k D => [(1, .own 2 N.length 1 (D.flatMap iF) 3)])
    (fun k D => k ≤ N.length ∧ D.length = N.length ∧ D.take k = (List.range k).map g) (fun k _ => N.length - k) 0 (List.replicate N.length 0)
    ⟨Nat.zero_le _, by simp, rfl⟩ ⟨rfl, rfl, rfl, rfl, trivial⟩ ⟨rfl, trivial⟩ (fun _ _ _ => ⟨rfl, rfl⟩) ?_
  intro k D ⟨hk, hD, hDk⟩
  rcases Nat.lt_or_ge k N.length with hkl | hkl
  · have hkD : k < D.length := by omega
    have ht := take_set hkD hDk
    repeat'
     conv => whnf
     first
      |refine zC ?_|refine zD ?_|refine zF ?_|refine zG ?_
      |(refine splD ?_ ?_ <;> intro hc <;> first|(exfalso; omega)|skip)
      |((with_reducible show CallEv _ _ 79 ..); refine callE (fun β w' hbw => hg k hkl _ hbw) ?_)
      |(refine And.intro (a := _ + _ ≤ List.length _) (stS' hkD (g k)) ?_; rw [stE' hkD (g k)])
    all_goals exact ⟨k + 1, D.set k (g k), ⟨by omega, by rw [List.length_set]; exact hD, ht⟩, by omega, Ent.weak rfl ⟨rfl, rfl, rfl, rfl, trivial⟩ ⟨rfl, trivial⟩ fun _ h => h⟩
  · have hkn : k = N.length := by omega
    subst hkn
    rw [List.take_of_length_le (by omega)] at hDk
    subst hDk
    repeat'
     conv => whnf
     first
      |(refine splD ?_ ?_ <;> intro hc <;> first|(exfalso; omega)|skip)
    all_goals exact ⟨fun w' h => h, fun β w' hB hB2 hblk => ⟨β 1, β 2, rfl, (hblk 1 _ rfl rfl).1, hB2, (hblk 1 _ rfl rfl).2⟩⟩
def hasL (N : List Int) (wk : Int) (CC : List (List Int)) (SS : List (Int × List Int)) : List Int := if ckE N wk CC SS = 0 then (List.range N.length).map (hsV CC SS) else []
def lefL (N : List Int) (wk : Int) (CC : List (List Int)) (SS : List (Int × List Int)) : List Int := if ckE N wk CC SS = 0 then (List.range N.length).map (lfV N CC SS) else []
def nxE (N : List Int) (wk : Int) (CC : List (List Int)) (SS : List (Int × List Int)) : Int := if ckE N wk CC SS = 0 then (if (SS.length : Int) = wk then 7 else 0) else ckE N wk CC SS
def nxtL (N : List Int) (wk : Int) (CC : List (List Int)) (SS : List (Int × List Int)) : List Int := if nxE N wk CC SS = 0 then (List.range N.length).map (nxV N wk CC SS) else []
theorem below_tr {w0 w1 w2 : World} (h : Below w0.heap.size w0 w1) (k : Below w1.heap.size w1 w2) : Below w0.heap.size w0 w2 := h.trans (k.mono h.size)
theorem own_rd {n m : Nat} {L : List Int} {β : Nat → Nat} {b : Nat} {j : Nat} {w : World} (hn : m = L.length) (h : St n (fun w2 => (Blk.own j m 1 (L.flatMap iF) 3).ok β w2 b) w) : St n (Rd 1 iF (.slice (some ⟨b, 0, none⟩) m (β j)) L) w :=
  h.imp fun _ q => Rd.of_owns (sz := 1) (f := iF) (fun _ => rfl) rfl hn q
theorem Has_ok (x : Cr) (o : Option Addr) (c : Nat) (S : List Sy) (w : World) (h : CrIn x w) (hS : SyIn o c S w) :
    Calls Tryz.prog 34 #[x.v, .slice o S.length c] w fun e w' => ∃ y : (Option Addr × Nat) × (Option Addr × Nat), e = .returned (.tuple #[sV (hasL x.N x.wk x.CC (S.map Sy.d)).length y.1, sV (lefL x.N x.wk x.CC (S.map Sy.d)).length y.2, iv (ckE x.N x.wk x.CC (S.map Sy.d))]) ∧ Below w.heap.size w w' ∧
      St w.heap.size (fun w2 => Rd 1 iF (sV (hasL x.N x.wk x.CC (S.map Sy.d)).length y.1) (hasL x.N x.wk x.CC (S.map Sy.d)) w2 ∧ Rd 1 iF (sV (lefL x.N x.wk x.CC (S.map Sy.d)).length y.2) (lefL x.N x.wk x.CC (S.map Sy.d)) w2) w' := by
  have hck := fun w' hb => ccheck_ok x o c S w' (h.below hb) (hS.below hb)
  have hsm : (S.map Sy.d).length = S.length := List.length_map ..
  unfold hasL lefL
  by_cases h0 : ckE x.N x.wk x.CC (S.map Sy.d) = 0
  · have hy := YrOk.of h0
    have h79 := fun j hj w' hb => hasC_ok x o c S j w' (h.below hb) (hS.below hb) hy hj
    have h80 := fun j hj w' hb => leftC_ok x o c S j w' (h.below hb) (hS.below hb) hy hj
    have e79 := fun w' hb => each79_own x.no x.nc x.N x.wk x.co x.C.length x.cc (.slice o S.length c) (hsV x.CC (S.map Sy.d)) w' hy.n6 (fun j hj w2 hb2 => h79 j hj w2 (below_tr hb hb2))
    have e80 := fun w' hb => each80_own x.no x.nc x.N x.wk x.co x.C.length x.cc (.slice o S.length c) (lfV x.N x.CC (S.map Sy.d)) w' hy.n6 (fun j hj w2 hb2 => h80 j hj w2 (below_tr hb hb2))
    rw [if_pos h0, if_pos h0, h0]
    rw [h0] at hck
    have hl1 : ((List.range x.N.length).map (hsV x.CC (S.map Sy.d))).length = x.N.length := by simp
    have hl2 : ((List.range x.N.length).map (lfV x.N x.CC (S.map Sy.d))).length = x.N.length := by simp
    generalize (List.range x.N.length).map (hsV x.CC (S.map Sy.d)) = A at *
    generalize (List.range x.N.length).map (lfV x.N x.CC (S.map Sy.d)) = B at *
    clear h79 h80 hy h0
    obtain ⟨no, nc, N, wk, co, cc, C⟩ := x
    dsimp only at hck e79 e80 hl1 hl2 ⊢
    refine calls_fam env mixed Tryz.func34 has34 Tryz.ntmps34 [.agg #[.slice no N.length nc, iv wk, .slice co C.length cc], .slice o S.length c] (by simp) ?_
    repeat'
     conv => whnf
     first
      |refine zA ?_|refine zB ?_|refine zC ?_|refine zD ?_|refine splF ?_
      |((with_reducible show CallEv _ _ 75 ..); refine callE (fun β w' hbw => hck _ hbw) ?_)
      |refine mkMv (.agg #[.slice no N.length nc, iv wk, .slice co C.length cc, .slice o S.length c]) rfl (fun _ => rfl) rfl ?_
      |((with_reducible show CallEv _ _ 76 [_, .v (.func (.func 77) _ _)] _ _ _ _); refine callO 2 [] (.os 2 3 N.length) N.length 1 (A.flatMap iF) 3 rfl (fun β w' _ hbw => (e79 w' hbw).mono fun _ _ ⟨b, c, h1, h2, h3, h4⟩ => ⟨b, c, h1, h2, h3, h4⟩) ?_)
      |((with_reducible show CallEv _ _ 76 [_, .v (.func (.func 78) _ _)] _ _ _ _); refine callO 4 [] (.os 4 5 N.length) N.length 1 (B.flatMap iF) 3 rfl (fun β w' _ hbw => (e80 w' hbw).mono fun _ _ ⟨b, c, h1, h2, h3, h4⟩ => ⟨b, c, h1, h2, h3, h4⟩) ?_)
    all_goals first
      | (exfalso; omega)
      | exact ⟨fun w' h => h, fun β w' hB hblk => ⟨((some ⟨β 2, 0, none⟩, β 3), (some ⟨β 4, 0, none⟩, β 5)), by rw [hl1, hl2]; rfl, by rw [hl1, hl2]; exact (own_rd hl1.symm (hblk 2 _ rfl rfl)).and (own_rd hl2.symm (hblk 4 _ rfl rfl))⟩⟩
  · rw [if_neg h0, if_neg h0]
    generalize ckE x.N x.wk x.CC (S.map Sy.d) = E at *
    obtain ⟨no, nc, N, wk, co, cc, C⟩ := x
    try dsimp only at hck ⊢
    refine calls_fam env mixed Tryz.func34 has34 Tryz.ntmps34 [.agg #[.slice no N.length nc, iv wk, .slice co C.length cc], .slice o S.length c] (by simp) ?_
    repeat'
     conv => whnf
     first
      |refine zD ?_|refine splNot ?_
      |(refine splD ?_ ?_ <;> intro hc <;> first|(exfalso; omega)|skip)
      |((with_reducible show CallEv _ _ 75 ..); refine callE (fun β w' hbw => hck _ hbw) ?_)
    all_goals exact ⟨fun w' h => h, fun β w' hB hblk => ⟨((none, 0), (none, 0)), rfl, fun w2 k2 => ⟨.inl ⟨rfl, rfl⟩, .inl ⟨rfl, rfl⟩⟩⟩⟩
theorem Next_ok (x : Cr) (o : Option Addr) (c : Nat) (S : List Sy) (w : World) (h : CrIn x w) (hS : SyIn o c S w) :
    Calls Tryz.prog 35 #[x.v, .slice o S.length c] w fun e w' => ∃ y : Option Addr × Nat, e = .returned (.tuple #[sV (nxtL x.N x.wk x.CC (S.map Sy.d)).length y, iv (nxE x.N x.wk x.CC (S.map Sy.d))]) ∧ Below w.heap.size w w' ∧
      St w.heap.size (Rd 1 iF (sV (nxtL x.N x.wk x.CC (S.map Sy.d)).length y) (nxtL x.N x.wk x.CC (S.map Sy.d))) w' := by
  have hck := fun w' hb => ccheck_ok x o c S w' (h.below hb) (hS.below hb)
  have hsm : (S.map Sy.d).length = S.length := List.length_map ..
  unfold nxtL nxE
  by_cases h0 : ckE x.N x.wk x.CC (S.map Sy.d) = 0
  · have hy := YrOk.of h0
    have hsl := hS.sl
    have hwk := hy.w
    rw [if_pos h0, hsm]
    rw [h0] at hck
    by_cases h1 : (S.length : Int) = x.wk
    · rw [if_pos h1]
      obtain ⟨no, nc, N, wk, co, cc, C⟩ := x
      dsimp only at hck h1 hwk ⊢
      refine calls_fam env mixed Tryz.func35 has35 Tryz.ntmps35 [.agg #[.slice no N.length nc, iv wk, .slice co C.length cc], .slice o S.length c] (by simp) ?_
      repeat'
       conv => whnf
       first
        |refine zB ?_|refine zD ?_|refine splF ?_
        |(refine splD ?_ ?_ <;> intro hc <;> first|(exfalso; omega)|skip)
        |((with_reducible show CallEv _ _ 75 ..); refine callE (fun β w' hbw => hck _ hbw) ?_)
      all_goals exact ⟨fun w' h => h, fun β w' hB hblk => ⟨(none, 0), rfl, fun w2 k2 => .inl ⟨rfl, rfl⟩⟩⟩
    · rw [if_neg h1]
      have hlt : (S.length : Int) < x.wk := by have := hy.sl; rw [hsm] at this; omega
      have h81 := fun j hj w' hb => nextC_ok x o c S j w' (h.below hb) (hS.below hb) hy hj hlt
      have e81 := fun w' hb => each81_own x.no x.nc x.N x.wk x.co x.C.length x.cc (.slice o S.length c) (nxV x.N x.wk x.CC (S.map Sy.d)) w' hy.n6 (fun j hj w2 hb2 => h81 j hj w2 (below_tr hb hb2))
      rw [if_pos rfl]
      have hl1 : ((List.range x.N.length).map (nxV x.N x.wk x.CC (S.map Sy.d))).length = x.N.length := by simp
      generalize (List.range x.N.length).map (nxV x.N x.wk x.CC (S.map Sy.d)) = A at *
      clear h81 hy h0
      obtain ⟨no, nc, N, wk, co, cc, C⟩ := x
      dsimp only at hck e81 hl1 h1 hlt hwk ⊢
      refine calls_fam env mixed Tryz.func35 has35 Tryz.ntmps35 [.agg #[.slice no N.length nc, iv wk, .slice co C.length cc], .slice o S.length c] (by simp) ?_
      repeat'
       conv => whnf
       first
        |refine zB ?_|refine zC ?_|refine zD ?_|refine splF ?_
        |(refine splD ?_ ?_ <;> intro hc <;> first|(exfalso; omega)|skip)
        |((with_reducible show CallEv _ _ 75 ..); refine callE (fun β w' hbw => hck _ hbw) ?_)
        |refine mkMv (.agg #[.slice no N.length nc, iv wk, .slice co C.length cc, .slice o S.length c]) rfl (fun _ => rfl) rfl ?_
        |((with_reducible show CallEv _ _ 76 [_, .v (.func (.func 79) _ _)] _ _ _ _); refine callO 2 [] (.os 2 3 N.length) N.length 1 (A.flatMap iF) 3 rfl (fun β w' _ hbw => (e81 w' hbw).mono fun _ _ ⟨b, c, h1, h2, h3, h4⟩ => ⟨b, c, h1, h2, h3, h4⟩) ?_)
      all_goals first
        | (exfalso; omega)
        | exact ⟨fun w' h => h, fun β w' hB hblk => ⟨(some ⟨β 2, 0, none⟩, β 3), by rw [hl1]; rfl, by rw [hl1]; exact own_rd hl1.symm (hblk 2 _ rfl rfl)⟩⟩
  · rw [if_neg h0, if_neg h0]
    generalize ckE x.N x.wk x.CC (S.map Sy.d) = E at *
    obtain ⟨no, nc, N, wk, co, cc, C⟩ := x
    try dsimp only at hck ⊢
    refine calls_fam env mixed Tryz.func35 has35 Tryz.ntmps35 [.agg #[.slice no N.length nc, iv wk, .slice co C.length cc], .slice o S.length c] (by simp) ?_
    repeat'
     conv => whnf
     first
      |refine zD ?_|refine splNot ?_
      |(refine splD ?_ ?_ <;> intro hc <;> first|(exfalso; omega)|skip)
      |((with_reducible show CallEv _ _ 75 ..); refine callE (fun β w' hbw => hck _ hbw) ?_)
    all_goals exact ⟨fun w' h => h, fun β w' hB hblk => ⟨(none, 0), rfl, fun w2 k2 => .inl ⟨rfl, rfl⟩⟩⟩
def campD : SD := ⟨4, 2, 2, [[2, 1], [1, 2], [0, 1]], [([0], 5), ([0, 1], 4)]⟩
theorem cells_rd {α : Type} {sz : Nat} {f : α → List Value} {n m c ty : Nat} {β : Nat → Nat} {bs : List α} {l : List SV} {b : Nat} {w : World} (hf : ∀ x, (f x).length = sz) (hl : SV.cs β l = bs.flatMap f) (hn : m = bs.length) (h : St n (fun w2 => (Blk.cells l ty).ok β w2 b) w) : St n (Rd sz f (.slice (some ⟨b, 0, none⟩) m c) bs) w := fun w2 k2 =>
 Rd.of_cells hf hn (by have := h w2 k2; simp only [Blk.ok] at this; rw [hl] at this; exact this)
theorem camp_ok (w : World) : Calls Tryz.prog 32 #[] w fun e w' => ∃ y : { y : Sc // y.d = campD }, e = .returned y.1.v ∧ Below w.heap.size w w' ∧ St w.heap.size (ScIn y.1) w' := by
 refine calls_fam env mixed Tryz.func32 has32 Tryz.ntmps32 [] (by simp) ?_
 repeat'
  conv => whnf
  first
   |refine zB ?_|refine zC ?_
 conv => whnf
 refine ⟨fun w' h => h, fun β w' hB hblk => ⟨⟨⟨4, 2, 2, some ⟨β 4, 0, none⟩, 3, [⟨some ⟨β 1, 0, none⟩, 2, [2, 1]⟩, ⟨some ⟨β 2, 0, none⟩, 2, [1, 2]⟩, ⟨some ⟨β 3, 0, none⟩, 2, [0, 1]⟩], some ⟨β 7, 0, none⟩, 2, [⟨some ⟨β 5, 0, none⟩, 1, [0], 5⟩, ⟨some ⟨β 6, 0, none⟩, 2, [0, 1], 4⟩]⟩, rfl⟩, rfl, ?_⟩⟩
 have h4 := cells_rd (sz := 1) (f := Rw.cs) (m := 3) (c := 3) (bs := [⟨some ⟨β 1, 0, none⟩, 2, [2, 1]⟩, ⟨some ⟨β 2, 0, none⟩, 2, [1, 2]⟩, ⟨some ⟨β 3, 0, none⟩, 2, [0, 1]⟩]) (fun _ => rfl) rfl rfl (hblk 4 _ rfl rfl)
 have h7 := cells_rd (sz := 2) (f := Tc.cs) (m := 2) (c := 2) (bs := [⟨some ⟨β 5, 0, none⟩, 1, [0], 5⟩, ⟨some ⟨β 6, 0, none⟩, 2, [0, 1], 4⟩]) (fun _ => rfl) rfl rfl (hblk 7 _ rfl rfl)
 have h1 := cells_rd (sz := 1) (f := iF) (m := 2) (c := 2) (bs := [2, 1]) (fun _ => rfl) rfl rfl (hblk 1 _ rfl rfl)
 have h2 := cells_rd (sz := 1) (f := iF) (m := 2) (c := 2) (bs := [1, 2]) (fun _ => rfl) rfl rfl (hblk 2 _ rfl rfl)
 have h3 := cells_rd (sz := 1) (f := iF) (m := 2) (c := 2) (bs := [0, 1]) (fun _ => rfl) rfl rfl (hblk 3 _ rfl rfl)
 have h5 := cells_rd (sz := 1) (f := iF) (m := 1) (c := 1) (bs := [0]) (fun _ => rfl) rfl rfl (hblk 5 _ rfl rfl)
 have h6 := cells_rd (sz := 1) (f := iF) (m := 2) (c := 2) (bs := [0, 1]) (fun _ => rfl) rfl rfl (hblk 6 _ rfl rfl)
 intro w2 k2
 refine ⟨h4 w2 k2, fun r hr => ?_, h7 w2 k2, fun t ht => ?_⟩
 · simp only [List.mem_cons, List.not_mem_nil, or_false] at hr
   rcases hr with rfl | rfl | rfl
   · exact h1 w2 k2
   · exact h2 w2 k2
   · exact h3 w2 k2
 · simp only [List.mem_cons, List.not_mem_nil, or_false] at ht
   rcases ht with rfl | rfl
   · exact h5 w2 k2
   · exact h6 w2 k2
structure Yr where
 x : Cr
 o : Option Addr
 c : Nat
 S : List Sy
 h : (x.N, x.wk, x.CC, S.map Sy.d) = ([40, 10], 4, [[1000, 1000], [500, 1500]], [(0, [12, 2]), (1, [7, 1])])
abbrev Yr.v (y : Yr) : Value := .tuple #[y.x.v, .slice y.o y.S.length y.c]
theorem year_ok (w : World) : Calls Tryz.prog 33 #[] w fun e w' => ∃ y : Yr, e = .returned y.v ∧ Below w.heap.size w w' ∧ St w.heap.size (fun w2 => CrIn y.x w2 ∧ SyIn y.o y.c y.S w2) w' := by
 refine calls_fam env mixed Tryz.func33 has33 Tryz.ntmps33 [] (by simp) ?_
 repeat'
  conv => whnf
  first
   |refine zB ?_|refine zC ?_
 conv => whnf
 refine ⟨fun w' h => h, fun β w' hB hblk => ⟨⟨⟨some ⟨β 1, 0, none⟩, 2, [40, 10], 4, some ⟨β 4, 0, none⟩, 2, [⟨some ⟨β 2, 0, none⟩, 2, [1000, 1000]⟩, ⟨some ⟨β 3, 0, none⟩, 2, [500, 1500]⟩]⟩, some ⟨β 7, 0, none⟩, 2, [⟨0, some ⟨β 5, 0, none⟩, 2, [12, 2]⟩, ⟨1, some ⟨β 6, 0, none⟩, 2, [7, 1]⟩], rfl⟩, rfl, ?_⟩⟩
 have h4 := cells_rd (sz := 1) (f := Rw.cs) (m := 2) (c := 2) (bs := [⟨some ⟨β 2, 0, none⟩, 2, [1000, 1000]⟩, ⟨some ⟨β 3, 0, none⟩, 2, [500, 1500]⟩]) (fun _ => rfl) rfl rfl (hblk 4 _ rfl rfl)
 have h7 := cells_rd (sz := 2) (f := Sy.cs) (m := 2) (c := 2) (bs := [⟨0, some ⟨β 5, 0, none⟩, 2, [12, 2]⟩, ⟨1, some ⟨β 6, 0, none⟩, 2, [7, 1]⟩]) (fun _ => rfl) rfl rfl (hblk 7 _ rfl rfl)
 have h1 := cells_rd (sz := 1) (f := iF) (m := 2) (c := 2) (bs := [40, 10]) (fun _ => rfl) rfl rfl (hblk 1 _ rfl rfl)
 have h2 := cells_rd (sz := 1) (f := iF) (m := 2) (c := 2) (bs := [1000, 1000]) (fun _ => rfl) rfl rfl (hblk 2 _ rfl rfl)
 have h3 := cells_rd (sz := 1) (f := iF) (m := 2) (c := 2) (bs := [500, 1500]) (fun _ => rfl) rfl rfl (hblk 3 _ rfl rfl)
 have h5 := cells_rd (sz := 1) (f := iF) (m := 2) (c := 2) (bs := [12, 2]) (fun _ => rfl) rfl rfl (hblk 5 _ rfl rfl)
 have h6 := cells_rd (sz := 1) (f := iF) (m := 2) (c := 2) (bs := [7, 1]) (fun _ => rfl) rfl rfl (hblk 6 _ rfl rfl)
 intro w2 k2
 refine ⟨⟨h1 w2 k2, h4 w2 k2, fun r hr => ?_, by show (2 : Nat) ≤ 1000000; omega, by show (2 : Nat) ≤ 1000000; omega, fun r hr => ?_⟩, h7 w2 k2, fun t ht => ?_, by show (2 : Nat) ≤ 1000000; omega, fun t ht => ?_⟩
 all_goals simp only [List.mem_cons, List.not_mem_nil, or_false] at *
 · rcases hr with rfl | rfl
   · exact h2 w2 k2
   · exact h3 w2 k2
 · rcases hr with rfl | rfl <;> (show (2 : Nat) ≤ 1000000; omega)
 · rcases ht with rfl | rfl
   · exact h5 w2 k2
   · exact h6 w2 k2
 · rcases ht with rfl | rfl <;> (show (2 : Nat) ≤ 1000000; omega)
def camp0 : Sc := ⟨4, 2, 2, none, 0, [⟨none, 0, [2, 1]⟩, ⟨none, 0, [1, 2]⟩, ⟨none, 0, [0, 1]⟩], none, 0, [⟨none, 0, [0], 5⟩, ⟨none, 0, [0, 1], 4⟩]⟩
theorem camp0_b : ScB camp0 := by
 refine ⟨by show (3 : Nat) ≤ 1000000; omega, fun r hr => ?_, by show (2 : Nat) ≤ 1000000; omega, fun t ht => ?_⟩
 · have hr : r ∈ [(⟨none, 0, [2, 1]⟩ : Rw), ⟨none, 0, [1, 2]⟩, ⟨none, 0, [0, 1]⟩] := hr
   simp only [List.mem_cons, List.not_mem_nil, or_false] at hr
   rcases hr with rfl | rfl | rfl <;> (show (2 : Nat) ≤ 1000000; omega)
 · have ht : t ∈ [(⟨none, 0, [0], 5⟩ : Tc), ⟨none, 0, [0, 1], 4⟩] := ht
   simp only [List.mem_cons, List.not_mem_nil, or_false] at ht
   rcases ht with rfl | rfl
   · show (1 : Nat) ≤ 1000000; omega
   · show (2 : Nat) ≤ 1000000; omega
theorem awk1 : resW campD = none ∧ errW campD = 7 ∧ errL campD = 0 ∧ lst campD = 4 ∧ errT campD = 0 ∧ scOk campD = true := by
 refine ⟨?_, ?_, ?_, ?_, ?_, ?_⟩ <;> kernel_rfl
theorem awk2 : resW (campD.at 3) = some ⟨2, 0, [1], 4, 3⟩ ∧ errW (campD.at 3) = 0 := by
 refine ⟨?_, ?_⟩ <;> kernel_rfl
theorem awk3 : hasL [40, 10] 4 [[1000, 1000], [500, 1500]] [(0, [12, 2]), (1, [7, 1])] = [15, 3] ∧ lefL [40, 10] 4 [[1000, 1000], [500, 1500]] [(0, [12, 2]), (1, [7, 1])] = [25, 7] ∧ ckE [40, 10] 4 [[1000, 1000], [500, 1500]] [(0, [12, 2]), (1, [7, 1])] = 0 ∧ nxtL [40, 10] 4 [[1000, 1000], [500, 1500]] [(0, [12, 2]), (1, [7, 1])] = [13, 4] ∧ nxE [40, 10] 4 [[1000, 1000], [500, 1500]] [(0, [12, 2]), (1, [7, 1])] = 0 := by
 refine ⟨?_, ?_, ?_, ?_, ?_⟩ <;> kernel_rfl
theorem ints2 (a b : Int) (o : Option Addr) (c bb : Nat) (w : World) (h : Rd 1 iF (.slice o 2 c) [a, b] w) (hb : w.heap[bb]? = some (.cells #[iv a, iv b] 3 (0, 0))) : Calls Tryz.prog 36 #[.slice o 2 c, .slice (some ⟨bb, 0, none⟩) 2 2] w fun e w' => e = .returned (.bool true) ∧ Below w.heap.size w w' := by
 have h1 : Rd 1 iF (.slice (some ⟨bb, 0, none⟩) 2 2) [a, b] w := Rd.of_cells (sz := 1) (f := iF) (bs := [a, b]) (fun _ => rfl) rfl hb
 have := ints_ok [a, b] [a, b] o (some ⟨bb, 0, none⟩) c 2 w h h1 (by show (2 : Nat) ≤ 1000000; omega)
 rw [decide_eq_true (rfl : [a, b] = [a, b])] at this
 exact this
theorem Aw5 (w : World) (zo ao bo co to : Option Addr) (zc ac bc cc tc : Nat) :
 VC Tryz.prog (rest 10 body12) ⟨108, [(2, .v (iv 7)), (3, .v (iv 4)), (4, .v (iv 0)), (6, .ptr 0 0), (7, .v (iv 0)), (10, .v (.slice ao 2 ac)), (11, .v (.slice bo 2 bc)), (12, .v (iv 0)), (13, .v (.slice co 2 cc)), (14, .v (iv 0)), (15, .v (.slice to 4 tc)), (16, .v (iv 0))], [(0, .cells [.v (.int .u8 2), .v (iv 0), .v (.slice zo 1 zc), .v (iv 4), .v (iv 3)] 56)], 1, fun w' => Below w.heap.size w w' ∧ St w.heap.size (Rd 1 iF (.slice zo 1 zc) [1]) w' ∧ St w.heap.size (Rd 1 iF (.slice ao 2 ac) [15, 3]) w' ∧ St w.heap.size (Rd 1 iF (.slice bo 2 bc) [25, 7]) w' ∧ St w.heap.size (Rd 1 iF (.slice co 2 cc) [13, 4]) w', z0⟩ (endΦ env Tryz.f12 fun v σ => (∀ β, v.c β = .bool true) ∧ ∀ w', σ.h w' → Below w.heap.size w w') := by
 refine VC.of env mixed ?_
 have h23 : ∀ (b : Nat) (w' : World), Rd 1 iF (.slice zo 1 zc) [1] w' → w'.heap[b]? = some (.cells #[iv 1] 3 (0, 0)) → Calls Tryz.prog 23 #[(⟨2, 0, zo, zc, [1], 4, 3⟩ : Rn).v, (⟨2, 0, some ⟨b, 0, none⟩, 1, [1], 4, 3⟩ : Rn).v] w' fun e w2 => e = Ending.returned (.bool true) ∧ Below w'.heap.size w' w2 := fun b w' h hb => same_ok ⟨2, 0, zo, zc, [1], 4, 3⟩ ⟨2, 0, some ⟨b, 0, none⟩, 1, [1], 4, 3⟩ w' h (Rd.of_cells (sz := 1) (f := iF) (bs := [1]) (fun _ => rfl) rfl hb) (by show (1 : Nat) ≤ 1000000; omega)
 repeat'
  conv => whnf
  first
   |refine zB ?_|refine zD ?_|refine splT ?_
   |((with_reducible show CallEv _ _ 23 ..); refine callM [1] (fun β w' hbk hbw => h23 (β 1) w' hbw.2.1.now (hbk 1 (by simp) _ rfl)) ?_)
   |((with_reducible show CallEv _ _ 36 [.v (.slice ao 2 ac), _] _ _ _ _); refine callM (k := 36) [2] (fun β w' hbk hbw => ints2 15 3 ao ac (β 2) w' hbw.2.2.1.now (hbk 2 (by simp) _ rfl)) ?_)
   |((with_reducible show CallEv _ _ 36 [.v (.slice bo 2 bc), _] _ _ _ _); refine callM (k := 36) [3] (fun β w' hbk hbw => ints2 25 7 bo bc (β 3) w' hbw.2.2.2.1.now (hbk 3 (by simp) _ rfl)) ?_)
   |((with_reducible show CallEv _ _ 36 [.v (.slice co 2 cc), _] _ _ _ _); refine callM (k := 36) [4] (fun β w' hbk hbw => ints2 13 4 co cc (β 4) w' hbw.2.2.2.2.now (hbk 4 (by simp) _ rfl)) ?_)
 all_goals exact ⟨fun β => rfl, fun w' h => h.1⟩
theorem Aw4 (w : World) (zo ao bo co : Option Addr) (zc ac bc cc : Nat) :
 VC Tryz.prog (rest 9 body12) ⟨108, [(2, .v (iv 7)), (3, .v (iv 4)), (4, .v (iv 0)), (6, .ptr 0 0), (7, .v (iv 0)), (10, .v (.slice ao 2 ac)), (11, .v (.slice bo 2 bc)), (12, .v (iv 0)), (13, .v (.slice co 2 cc)), (14, .v (iv 0))], [(0, .cells [.v (.int .u8 2), .v (iv 0), .v (.slice zo 1 zc), .v (iv 4), .v (iv 3)] 56)], 1, fun w' => Below w.heap.size w w' ∧ St w.heap.size (Rd 1 iF (.slice zo 1 zc) [1]) w' ∧ St w.heap.size (Rd 1 iF (.slice ao 2 ac) [15, 3]) w' ∧ St w.heap.size (Rd 1 iF (.slice bo 2 bc) [25, 7]) w' ∧ St w.heap.size (Rd 1 iF (.slice co 2 cc) [13, 4]) w', z0⟩ (endΦ env Tryz.f12 fun v σ => (∀ β, v.c β = .bool true) ∧ ∀ w', σ.h w' → Below w.heap.size w w') := by
 have h32 := fun (w' : World) (hw : Below w.heap.size w w') => famS hw (camp_ok w')
 have h13 : ∀ (y : Sc), y.d = campD → ∀ (w' : World), ScIn y w' → Calls Tryz.prog 13 #[y.v] w' fun e w2 => ∃ p : Option Addr × Nat, e = Ending.returned (.tuple #[.slice p.1 4 p.2, iv 0]) ∧ Below w'.heap.size w' w2 ∧ St w'.heap.size (fun _ => True) w2 := fun y hy w' h => by
  have h0 := Table_ok y w' h (camp0_b.d hy)
  rw [hy] at h0
  refine h0.mono fun e w2 ⟨x, h1, h2, h3⟩ => ⟨(x.o, x.c), ?_, h2, fun _ _ => trivial⟩
  have h4 := (x.h awk1.2.2.2.2.1).1
  unfold rfitB at h4
  simp only [Bool.and_eq_true, decide_eq_true_eq] at h4
  have h5 : x.R.length = 4 := by have h6 := h4.1; rw [List.length_map] at h6; have h7 : campD.sl = 4 := rfl; omega
  rw [h1]
  show Ending.returned (Value.tuple #[.slice x.o x.R.length x.c, iv (errT campD)]) = _
  rw [h5, awk1.2.2.2.2.1]
 refine VC.cutE env mixed 1 1 (fun p : Option Addr × Nat => [(2, .v (iv 7)), (3, .v (iv 4)), (4, .v (iv 0)), (6, .ptr 0 0), (7, .v (iv 0)), (10, .v (.slice ao 2 ac)), (11, .v (.slice bo 2 bc)), (12, .v (iv 0)), (13, .v (.slice co 2 cc)), (14, .v (iv 0)), (15, .v (.slice p.1 4 p.2)), (16, .v (iv 0))]) (fun _ => [(0, .cells [.v (.int .u8 2), .v (iv 0), .v (.slice zo 1 zc), .v (iv 4), .v (iv 3)] 56)]) (fun _ => True) (fun _ _ => ⟨rfl, rfl⟩) ?_ (fun p _ => Aw5 w zo ao bo co p.1 zc ac bc cc p.2)
 repeat'
  conv => whnf
  first
   |refine zD ?_
   |((with_reducible show CallEv _ _ 32 ..); refine callF [] (fun y : { y : Sc // y.d = campD } => y.1.v) (fun y => St w.heap.size (ScIn y.1)) (fun β w' _ hbw => h32 w' (by repeat (first | exact hbw | replace hbw := hbw.1))) ?_; rintro ⟨⟨sl, ro, su, go, gc, G, to, tc, T⟩, hy⟩)
   |((with_reducible show CallEv _ _ 13 ..); refine callF [] (fun p : Option Addr × Nat => .tuple #[.slice p.1 4 p.2, iv 0]) (fun _ _ => True) (fun β w' _ hbw => h13 _ hy w' hbw.2.now) ?_; intro p)
 all_goals exact ⟨rfl, p, trivial, Ent.weak rfl ⟨rfl, rfl, rfl, rfl, rfl, rfl, rfl, rfl, rfl, rfl, rfl, rfl, trivial⟩ ⟨rfl, trivial⟩ fun w' h => h.1.1⟩
structure P3 where
 ao : Option Addr
 ac : Nat
 bo : Option Addr
 bc : Nat
 co : Option Addr
 cc : Nat
theorem Aw3 (w : World) (zo : Option Addr) (zc : Nat) :
 VC Tryz.prog (rest 6 body12) ⟨108, [(2, .v (iv 7)), (3, .v (iv 4)), (4, .v (iv 0)), (6, .ptr 0 0), (7, .v (iv 0))], [(0, .cells [.v (.int .u8 2), .v (iv 0), .v (.slice zo 1 zc), .v (iv 4), .v (iv 3)] 56)], 1, fun w' => Below w.heap.size w w' ∧ St w.heap.size (Rd 1 iF (.slice zo 1 zc) [1]) w', z0⟩ (endΦ env Tryz.f12 fun v σ => (∀ β, v.c β = .bool true) ∧ ∀ w', σ.h w' → Below w.heap.size w w') := by
 have h33 := fun (w' : World) (hw : Below w.heap.size w w') => famS hw (year_ok w')
 have h34 : ∀ (y : Yr) (w' : World), Below w.heap.size w w' → CrIn y.x w' ∧ SyIn y.o y.c y.S w' → Calls Tryz.prog 34 #[y.x.v, .slice y.o y.S.length y.c] w' fun e w2 => ∃ p : (Option Addr × Nat) × (Option Addr × Nat), e = Ending.returned (.tuple #[.slice p.1.1 2 p.1.2, .slice p.2.1 2 p.2.2, iv 0]) ∧ Below w'.heap.size w' w2 ∧ St w'.heap.size (fun w3 => St w.heap.size (Rd 1 iF (.slice p.1.1 2 p.1.2) [15, 3]) w3 ∧ St w.heap.size (Rd 1 iF (.slice p.2.1 2 p.2.2) [25, 7]) w3) w2 := fun y w' hw h => by
  have h0 := famS hw (Has_ok y.x y.o y.c y.S w' h.1 h.2)
  obtain ⟨e1, e2, e3, e4⟩ : y.x.N = [40, 10] ∧ y.x.wk = 4 ∧ y.x.CC = [[1000, 1000], [500, 1500]] ∧ y.S.map Sy.d = [(0, [12, 2]), (1, [7, 1])] := by have := y.h; simp only [Prod.mk.injEq] at this; exact this
  rw [e1, e2, e3, e4, awk3.1, awk3.2.1, awk3.2.2.1] at h0
  exact h0.mono fun e w2 ⟨p, h1, h2, h3⟩ => ⟨p, h1, h2, fun w3 k3 => ⟨fun w4 k4 => (h3 w3 k3 w4 k4).1, fun w4 k4 => (h3 w3 k3 w4 k4).2⟩⟩
 have h35 : ∀ (y : Yr) (w' : World), Below w.heap.size w w' → CrIn y.x w' ∧ SyIn y.o y.c y.S w' → Calls Tryz.prog 35 #[y.x.v, .slice y.o y.S.length y.c] w' fun e w2 => ∃ p : Option Addr × Nat, e = Ending.returned (.tuple #[.slice p.1 2 p.2, iv 0]) ∧ Below w'.heap.size w' w2 ∧ St w'.heap.size (fun w3 => St w.heap.size (Rd 1 iF (.slice p.1 2 p.2) [13, 4]) w3) w2 := fun y w' hw h => by
  have h0 := famS hw (Next_ok y.x y.o y.c y.S w' h.1 h.2)
  obtain ⟨e1, e2, e3, e4⟩ : y.x.N = [40, 10] ∧ y.x.wk = 4 ∧ y.x.CC = [[1000, 1000], [500, 1500]] ∧ y.S.map Sy.d = [(0, [12, 2]), (1, [7, 1])] := by have := y.h; simp only [Prod.mk.injEq] at this; exact this
  rw [e1, e2, e3, e4, awk3.2.2.2.1, awk3.2.2.2.2] at h0
  exact h0
 refine VC.cutH env mixed 3 1 (fun p : P3 => [(2, .v (iv 7)), (3, .v (iv 4)), (4, .v (iv 0)), (6, .ptr 0 0), (7, .v (iv 0)), (10, .v (.slice p.ao 2 p.ac)), (11, .v (.slice p.bo 2 p.bc)), (12, .v (iv 0)), (13, .v (.slice p.co 2 p.cc)), (14, .v (iv 0))]) (fun _ => [(0, .cells [.v (.int .u8 2), .v (iv 0), .v (.slice zo 1 zc), .v (iv 4), .v (iv 3)] 56)]) (fun p w' => Below w.heap.size w w' ∧ St w.heap.size (Rd 1 iF (.slice zo 1 zc) [1]) w' ∧ St w.heap.size (Rd 1 iF (.slice p.ao 2 p.ac) [15, 3]) w' ∧ St w.heap.size (Rd 1 iF (.slice p.bo 2 p.bc) [25, 7]) w' ∧ St w.heap.size (Rd 1 iF (.slice p.co 2 p.cc) [13, 4]) w') (fun _ => True) (fun _ _ => ⟨rfl, rfl⟩) ?_ (fun p _ => Aw4 w zo p.ao p.bo p.co zc p.ac p.bc p.cc)
 repeat'
  conv => whnf
  first
   |refine zC ?_|refine zD ?_
   |((with_reducible show CallEv _ _ 33 ..); refine callF [] (fun y : Yr => y.v) (fun y w' => St w.heap.size (fun w2 => CrIn y.x w2 ∧ SyIn y.o y.c y.S w2) w') (fun β w' _ hbw => h33 w' (by repeat (first | exact hbw | replace hbw := hbw.1))) ?_; rintro ⟨⟨no, nc, NN, wk, ko, kc, C⟩, so, sc, S, hy⟩)
   |((with_reducible show CallEv _ _ 34 ..); refine callF [] (fun p : (Option Addr × Nat) × (Option Addr × Nat) => .tuple #[.slice p.1.1 2 p.1.2, .slice p.2.1 2 p.2.2, iv 0]) (fun p w3 => St w.heap.size (Rd 1 iF (.slice p.1.1 2 p.1.2) [15, 3]) w3 ∧ St w.heap.size (Rd 1 iF (.slice p.2.1 2 p.2.2) [25, 7]) w3) (fun β w' _ hbw => h34 ⟨⟨no, nc, NN, wk, ko, kc, C⟩, so, sc, S, hy⟩ w' (by repeat (first | exact hbw | replace hbw := hbw.1)) hbw.2.now) ?_; intro p)
   |((with_reducible show CallEv _ _ 35 ..); refine callF [] (fun p : Option Addr × Nat => .tuple #[.slice p.1 2 p.2, iv 0]) (fun p w3 => St w.heap.size (Rd 1 iF (.slice p.1 2 p.2) [13, 4]) w3) (fun β w' _ hbw => h35 ⟨⟨no, nc, NN, wk, ko, kc, C⟩, so, sc, S, hy⟩ w' (by repeat (first | exact hbw | replace hbw := hbw.1)) hbw.1.2.now) ?_; intro q)
 all_goals exact ⟨rfl, ⟨p.1.1, p.1.2, p.2.1, p.2.2, q.1, q.2⟩, trivial, Ent.weak rfl ⟨rfl, rfl, rfl, rfl, rfl, rfl, rfl, rfl, rfl, rfl, trivial⟩ ⟨rfl, trivial⟩ fun w' h => ⟨h.1.1.1.1, h.1.1.1.2, h.1.2.1, h.1.2.2, h.2⟩⟩
theorem Aw2 (w : World) :
 VC Tryz.prog (rest 3 body12) ⟨108, [(2, .v (iv 7)), (3, .v (iv 4)), (4, .v (iv 0))], [], 1, Below w.heap.size w, z0⟩ (endΦ env Tryz.f12 fun v σ => (∀ β, v.c β = .bool true) ∧ ∀ w', σ.h w' → Below w.heap.size w w') := by
 have h32 := fun (w' : World) (hw : Below w.heap.size w w') => famS hw (camp_ok w')
 have h22 : ∀ (y : Sc), y.d = campD.at 3 → ∀ (w' : World), Below w.heap.size w w' → ScIn y w' → Calls Tryz.prog 22 #[y.v] w' fun e w2 => ∃ z : RnF (some ⟨2, 0, [1], 4, 3⟩), e = Ending.returned (.tuple #[z.1.v, iv 0]) ∧ Below w'.heap.size w' w2 ∧ St w'.heap.size (St w.heap.size (Rd 1 iF (.slice z.1.o z.1.L.length z.1.c) z.1.L)) w2 := fun y hy w' hw h => by
  have h0 := famS hw (Why_ok y w' h ((camp0_b.sl 3).d (s := { camp0 with sl := 3 }) hy))
  rw [hy, awk2.1, awk2.2] at h0
  exact h0
 refine VC.cutH env mixed 3 1 (fun p : Option Addr × Nat => [(2, .v (iv 7)), (3, .v (iv 4)), (4, .v (iv 0)), (6, .ptr 0 0), (7, .v (iv 0))]) (fun p => [(0, .cells [.v (.int .u8 2), .v (iv 0), .v (.slice p.1 1 p.2), .v (iv 4), .v (iv 3)] 56)]) (fun p w' => Below w.heap.size w w' ∧ St w.heap.size (Rd 1 iF (.slice p.1 1 p.2) [1]) w') (fun _ => True) (fun _ _ => ⟨rfl, rfl⟩) ?_ (fun p _ => Aw3 w p.1 p.2)
 repeat'
  conv => whnf
  first
   |refine zB ?_|refine zC ?_|refine zD ?_
   |((with_reducible show CallEv _ _ 32 ..); refine callF [] (fun y : { y : Sc // y.d = campD } => y.1.v) (fun y => St w.heap.size (ScIn y.1)) (fun β w' _ hbw => h32 w' (by repeat (first | exact hbw | replace hbw := hbw.1))) ?_; rintro ⟨⟨sl, ro, su, go, gc, G, to, tc, T⟩, hy⟩)
   |((with_reducible show CallEv _ _ 22 ..); refine callF [] (fun z : RnF (some ⟨2, 0, [1], 4, 3⟩) => .tuple #[z.1.v, iv 0]) (fun z => St w.heap.size (Rd 1 iF (.slice z.1.o z.1.L.length z.1.c) z.1.L)) (fun β w' _ hbw => h22 ⟨3, ro, su, go, gc, G, to, tc, T⟩ (by rw [← hy]; rfl) w' (by repeat (first | exact hbw | replace hbw := hbw.1)) ⟨hbw.2.now.g, hbw.2.now.r, hbw.2.now.t, hbw.2.now.h⟩) ?_; rintro ⟨⟨zk, zg, zo, zc, zL, zn, zh⟩, hz⟩)
 have hz : (⟨zk, zg, zL, zn, zh⟩ : RD) = ⟨2, 0, [1], 4, 3⟩ := hz
 simp only [RD.mk.injEq] at hz
 obtain ⟨rfl, rfl, rfl, rfl, rfl⟩ := hz
 exact ⟨rfl, (zo, zc), trivial, Ent.ren (rho [(0, 2)]) rfl rfl ⟨rfl, rfl, rfl, rfl, rfl, trivial⟩ ⟨rfl, trivial⟩ fun w' h => ⟨h.1.1, h.2⟩⟩
theorem awake_ok (w : World) : Calls Tryz.prog 12 #[] w fun e w' => e = .returned (.bool true) ∧ Below w.heap.size w w' := by
 have h32 := fun (w' : World) (hw : Below w.heap.size w w') => famS hw (camp_ok w')
 have h22 : ∀ (y : Sc), y.d = campD → ∀ (w' : World), ScIn y w' → Calls Tryz.prog 22 #[y.v] w' fun e w2 => ∃ z : RnF none, e = Ending.returned (.tuple #[z.1.v, iv 7]) ∧ Below w'.heap.size w' w2 ∧ St w'.heap.size (fun _ => True) w2 := fun y hy w' h => by
  have h0 := Why_ok y w' h (camp0_b.d hy)
  rw [hy, awk1.1, awk1.2.1] at h0
  exact h0.mono fun e w2 ⟨z, h1, h2, h3⟩ => ⟨z, h1, h2, fun _ _ => trivial⟩
 have h19 : ∀ (y : Sc), y.d = campD → ∀ (w' : World), ScIn y w' → Calls Tryz.prog 19 #[y.v] w' fun e w2 => e = Ending.returned (.tuple #[iv 4, iv 0]) ∧ Below w'.heap.size w' w2 := fun y hy w' h => by
  have h0 := Least_ok y w' h (camp0_b.d hy)
  rw [hy, awk1.2.2.1, awk1.2.2.2.1, awk1.2.2.2.2.2] at h0
  exact h0
 refine calls_valV env mixed Tryz.func12 has12 Tryz.ntmps12 [] (by simp) ?_
 refine VC.cutE env mixed 3 1 (fun _ : Unit => [(2, .v (iv 7)), (3, .v (iv 4)), (4, .v (iv 0))]) (fun _ => []) (fun _ => True) (fun _ _ => ⟨rfl, rfl⟩) ?_ (fun _ _ => Aw2 w)
 repeat'
  conv => whnf
  first
   |refine zC ?_|refine zD ?_
   |((with_reducible show CallEv _ _ 32 ..); refine callF [] (fun y : { y : Sc // y.d = campD } => y.1.v) (fun y => St w.heap.size (ScIn y.1)) (fun β w' _ hbw => h32 w' (by repeat (first | exact hbw | replace hbw := hbw.1))) ?_; rintro ⟨⟨sl, ro, su, go, gc, G, to, tc, T⟩, hy⟩)
   |((with_reducible show CallEv _ _ 22 ..); refine callF [] (fun z : RnF none => .tuple #[z.1.v, iv 7]) (fun z _ => True) (fun β w' _ hbw => h22 _ hy w' hbw.2.now) ?_; intro z)
   |((with_reducible show CallEv _ _ 19 ..); refine callE (fun β w' hbw => h19 _ hy w' hbw.2.now) ?_)
 all_goals exact ⟨rfl, (), trivial, Ent.weak rfl ⟨rfl, rfl, rfl, trivial⟩ trivial fun w' h => by repeat (first | exact h | replace h := h.1)⟩
abbrev Yw.sc (sl ro su : Int) (x : Yw) : Sc := ⟨sl, ro, su, x.g.o, x.g.c, x.g.D.map Ro.rw, x.o, x.c, x.T.map Tw.t⟩
theorem tmod_nat (a n : Nat) : (a : Int).tmod (n : Int) = ((a % n : Nat) : Int) := by
 rw [Int.ofNat_tmod]
theorem lenTc2 (L : List Tc) : (L.flatMap Tc.cs).length = L.length * 2 := by
 induction L with
 | nil => rfl
 | cons a L ih => rw [List.flatMap_cons, List.length_append, ih, List.length_cons]; show 2 + _ = (_ + 1) * 2; omega
theorem Yw.scv (sl ro su : Int) (x : Yw) : (x.sc sl ro su).v = x.v sl ro su := by
 show Value.agg #[_, _, _, .slice _ (x.g.D.map Ro.rw).length _, .slice _ (x.T.map Tw.t).length _] = _
 rw [List.length_map, List.length_map]
theorem oRow.rd {α : Type} {ty sz : Nat} {f : α → List Value} {o : Option Addr} {n c : Nat} {L : List α} {w : World} (hf : ∀ x, (f x).length = sz) (h : oRow ty sz o n c (L.flatMap f) w) (hn : L.length = n) : Rd sz f (.slice o L.length c) L w := by
 rcases h with ⟨h1, rfl, rfl⟩ | ⟨b, rfl, h1⟩
 · have : L = [] := List.length_eq_zero_iff.1 (by omega)
   subst this; exact .inl ⟨rfl, rfl⟩
 · subst hn; exact Rd.of_owns hf rfl rfl h1
theorem Yw.In.sc {GG : List (List Int)} {TT : List (List Int × Int)} {x : Yw} {w : World} (h : x.In GG TT w) (sl ro su : Int) : ScIn (x.sc sl ro su) w :=
 ⟨oRow.rd (fun _ => rfl) h.g.o (by simp), fun r hr => by
  obtain ⟨q, hq, rfl⟩ := List.mem_map.1 hr
  exact Ro.rd (h.g.r q hq), oRow.rd (fun _ => rfl) h.o (by simp), fun t ht => by
  obtain ⟨q, hq, rfl⟩ := List.mem_map.1 ht
  exact Ro.rd (h.t q hq)⟩
theorem Yw.In.d {GG : List (List Int)} {TT : List (List Int × Int)} {x : Yw} {w : World} (h : x.In GG TT w) (sl ro su : Int) : (x.sc sl ro su).d = ⟨sl, ro, su, GG, TT⟩ := by
 unfold Sc.d
 dsimp only
 rw [List.map_map, List.map_map]
 have h1 : x.g.D.map (Rw.xs ∘ Ro.rw) = GG := h.g.h
 have h2 : x.T.map (Tc.d ∘ Tw.t) = TT := h.h
 rw [h1, h2]
theorem Mo7 (x : Sc) (n : Nat) (xgl xtl : Nat) (sl ro su : Int) (go to : Option Addr) (gc tc : Nat) (G : List Rw) (T : List Tc) (w : World) (hgl : x.G.length = xgl) (htl : x.T.length = xtl) (hv : scOk x.d = true) (hq : WhyQ x.d) (hB : ScB x) (hn : (n : Int) ≤ sl) (K : World → Prop) (hin : ∀ w', Below w.heap.size w w' → K w' → ScIn x w') :
 VC Tryz.prog (rest 7 body5) ⟨181, [(4, .ptr 0 0), (9, .ptr 1 0), (10, .v (iv n))], [(0, .cells [.v (iv sl), .v (iv ro), .v (iv su), .v (.slice go G.length gc), .v (.slice to T.length tc)] 25), (1, .cells [.v (iv x.sl), .v (iv x.ro), .v (iv x.su), .v (.slice x.go xgl x.gc), .v (.slice x.to xtl x.tc)] 34)], 2, fun w' => Below w.heap.size w w' ∧ K w', z0⟩ (endΦ env Tryz.f5 fun v σ => (∀ β, v.c β = .bool true) ∧ ∀ w', σ.h w' → Below w.heap.size w w') := by
 subst hgl; subst htl
 have h12 := fun w' => awake_ok w'
 have hw := (why_iff _).2 hq
 have h13 := fun (w' : World) (hk : Below w.heap.size w w' ∧ K w') => (Table_ok x w' (hin w' hk.1 hk.2) hB).mono fun e w2 ⟨z, h1, h2, h3⟩ => (⟨(z.o, z.R.length, z.c), by rw [h1]; show Ending.returned (Value.tuple #[.slice z.o z.R.length z.c, iv (errT x.d)]) = _; rw [errT0 hv hw], h2, fun _ _ => trivial⟩ : ∃ p : Option Addr × Nat × Nat, e = Ending.returned (.tuple #[.slice p.1 p.2.1 p.2.2, iv 0]) ∧ Below w'.heap.size w' w2 ∧ St w'.heap.size (fun _ => True) w2)
 have h21 := fun (w' : World) (hk : Below w.heap.size w w' ∧ K w') => may_ok x w' (hin w' hk.1 hk.2) hB
 rw [show errW x.d = 7 from by unfold errW; rw [hv, hw]; rfl, show ((7 : Int) == 7) = true from rfl] at h21
 clear hv hq hw hB hin
 obtain ⟨xsl, xro, xsu, xgo, xgc, xG, xto, xtc, xT⟩ := x
 dsimp only at h13 h21 ⊢
 refine VC.of env mixed ?_
 repeat'
  conv => whnf
  first
   |refine zB ?_|refine zD ?_|refine splT ?_
   |(refine splD ?_ ?_ <;> intro hc <;> first|(exfalso; omega)|skip)
   |((with_reducible show CallEv _ _ 13 ..); refine callF [] (fun p : Option Addr × Nat × Nat => .tuple #[.slice p.1 p.2.1 p.2.2, iv 0]) (fun _ _ => True) (fun β w' _ hbw => h13 w' hbw) ?_; intro p)
   |((with_reducible show CallEv _ _ 21 ..); refine callE (fun β w' hbw => h21 w' hbw.1) ?_)
   |((with_reducible show CallEv _ _ 12 ..); refine callE (fun β w' hbw => h12 w') ?_)
 all_goals exact ⟨fun β => rfl, fun w' h => h.1.1⟩
theorem Mo_fin (y : Yw) (n : Nat) (a b : Int) (GG : List (List Int)) (TT : List (List Int × Int)) (sl ro su : Int) (go to : Option Addr) (gc tc : Nat) (G : List Rw) (T : List Tc) (w : World) (hv : scOk ⟨a, b, su, GG, TT⟩ = true) (hq : WhyQ ⟨a, b, su, GG, TT⟩) (hn : (n : Int) ≤ sl) :
 VC Tryz.prog (rest 7 body5) ⟨181, [(4, .ptr 0 0), (9, .ptr 1 0), (10, .v (iv n))], [(0, .cells [.v (iv sl), .v (iv ro), .v (iv su), .v (.slice go G.length gc), .v (.slice to T.length tc)] 25), (1, .cells [.v (iv a), .v (iv b), .v (iv su), .v (.slice y.g.o y.g.D.length y.g.c), .v (.slice y.o y.T.length y.c)] 34)], 2, fun w' => Below w.heap.size w w' ∧ y.In GG TT w', z0⟩ (endΦ env Tryz.f5 fun v σ => (∀ β, v.c β = .bool true) ∧ ∀ w', σ.h w' → Below w.heap.size w w') :=
 VC.pure (p := (y.sc a b su).d = ⟨a, b, su, GG, TT⟩) (fun w' h => h.2.d a b su) fun hd => Mo7 (y.sc a b su) n _ _ sl ro su go to gc tc G T w (by simp) (by simp) (by rw [hd]; exact hv) (by rw [hd]; exact hq) (ScX.ok (by rw [hd]; exact hv)) hn (fun w' => y.In GG TT w') (fun w' hb hk => hk.sc a b su)
theorem Mo6_0 (n : Nat) (wv av sv : Nat) (y : Yw) (sl ro su : Int) (go to : Option Addr) (gc tc : Nat) (G : List Rw) (T : List Tc) (w : World) (hwv : wv < 256) (hav : av < 256) (hsv : sv < 256) (hk : wv % 4 = 0) (hv : scOk (Sc.d ⟨sl, ro, su, go, gc, G, to, tc, T⟩) = true) (hq : WhyQ (Sc.d ⟨sl, ro, su, go, gc, G, to, tc, T⟩)) (hn : (n : Int) ≤ sl) :
 VC Tryz.prog (rest 6 body5) ⟨181, [(1, .v (.int .u8 wv)), (2, .v (.int .u8 av)), (3, .v (.int .u8 sv)), (4, .ptr 0 0), (9, .ptr 1 0), (10, .v (iv n))], [(0, .cells [.v (iv sl), .v (iv ro), .v (iv su), .v (.slice go G.length gc), .v (.slice to T.length tc)] 25), (1, .cells [.v (iv sl), .v (iv ro), .v (iv su), .v (.slice y.g.o y.g.D.length y.g.c), .v (.slice y.o y.T.length y.c)] 34)], 2, fun w' => Below w.heap.size w w' ∧ St w.heap.size (y.In (G.map Rw.xs) (T.map Tc.d)) w', z0⟩ (endΦ env Tryz.f5 fun v σ => (∀ β, v.c β = .bool true) ∧ ∀ w', σ.h w' → Below w.heap.size w w') := by
 have hm : (wv : Int).tmod 4 = ((0 : Nat) : Int) := by rw [show (4 : Int) = ((4 : Nat) : Int) from rfl, tmod_nat, hk]
 obtain ⟨q1, q2⟩ := more_sl hv hq
 have hsl : sl ≤ 40 := (scOk_iff.1 hv).1.2
 have hsl1 : 1 ≤ sl := (scOk_iff.1 hv).1.1
 refine VC.cutH env mixed 1 2 (fun _ : Unit => [(4, .ptr 0 0), (9, .ptr 1 0), (10, .v (iv n))]) (fun _ => [(0, .cells [.v (iv sl), .v (iv ro), .v (iv su), .v (.slice go G.length gc), .v (.slice to T.length tc)] 25), (1, .cells [.v (iv (imin 40 (sl + 1))), .v (iv ro), .v (iv su), .v (.slice y.g.o y.g.D.length y.g.c), .v (.slice y.o y.T.length y.c)] 34)]) (fun _ w' => Below w.heap.size w w' ∧ (y.In (G.map Rw.xs) (T.map Tc.d)) w') (fun _ => True) (fun _ _ => ⟨rfl, rfl⟩) ?_ (fun _ _ => Mo_fin y n _ _ _ _ sl ro su go to gc tc G T w q1 q2 hn)
 repeat'
  conv => whnf
  first
   |refine zB ?_|refine zC ?_|refine zF ?_|refine splT ?_
   |refine Exists.intro (α := Int) ((0 : Nat) : Int) ⟨⟨by omega, hm⟩, ?_⟩
 conv => whnf
 exact ⟨rfl, (), trivial, Ent.weak rfl ⟨rfl, rfl, rfl, trivial⟩ ⟨rfl, rfl, trivial⟩ fun w' h => ⟨h.1, h.2.now⟩⟩
theorem Mo6_1 (n : Nat) (wv av sv : Nat) (y : Yw) (sl ro su : Int) (go to : Option Addr) (gc tc : Nat) (G : List Rw) (T : List Tc) (w : World) (hwv : wv < 256) (hav : av < 256) (hsv : sv < 256) (hk : wv % 4 = 1) (hv : scOk (Sc.d ⟨sl, ro, su, go, gc, G, to, tc, T⟩) = true) (hq : WhyQ (Sc.d ⟨sl, ro, su, go, gc, G, to, tc, T⟩)) (hn : (n : Int) ≤ sl) :
 VC Tryz.prog (rest 6 body5) ⟨181, [(1, .v (.int .u8 wv)), (2, .v (.int .u8 av)), (3, .v (.int .u8 sv)), (4, .ptr 0 0), (9, .ptr 1 0), (10, .v (iv n))], [(0, .cells [.v (iv sl), .v (iv ro), .v (iv su), .v (.slice go G.length gc), .v (.slice to T.length tc)] 25), (1, .cells [.v (iv sl), .v (iv ro), .v (iv su), .v (.slice y.g.o y.g.D.length y.g.c), .v (.slice y.o y.T.length y.c)] 34)], 2, fun w' => Below w.heap.size w w' ∧ St w.heap.size (y.In (G.map Rw.xs) (T.map Tc.d)) w', z0⟩ (endΦ env Tryz.f5 fun v σ => (∀ β, v.c β = .bool true) ∧ ∀ w', σ.h w' → Below w.heap.size w w') := by
 have hm : (wv : Int).tmod 4 = ((1 : Nat) : Int) := by rw [show (4 : Int) = ((4 : Nat) : Int) from rfl, tmod_nat, hk]
 obtain ⟨q1, q2⟩ := more_ro hv hq
 have hro : ro ≤ 6 := (scOk_iff.1 hv).2.1.2
 have hro1 : 1 ≤ ro := (scOk_iff.1 hv).2.1.1
 refine VC.cutH env mixed 1 2 (fun _ : Unit => [(4, .ptr 0 0), (9, .ptr 1 0), (10, .v (iv n))]) (fun _ => [(0, .cells [.v (iv sl), .v (iv ro), .v (iv su), .v (.slice go G.length gc), .v (.slice to T.length tc)] 25), (1, .cells [.v (iv sl), .v (iv (imin 6 (ro + 1))), .v (iv su), .v (.slice y.g.o y.g.D.length y.g.c), .v (.slice y.o y.T.length y.c)] 34)]) (fun _ w' => Below w.heap.size w w' ∧ (y.In (G.map Rw.xs) (T.map Tc.d)) w') (fun _ => True) (fun _ _ => ⟨rfl, rfl⟩) ?_ (fun _ _ => Mo_fin y n _ _ _ _ sl ro su go to gc tc G T w q1 q2 hn)
 repeat'
  conv => whnf
  first
   |refine zB ?_|refine zC ?_|refine zF ?_|refine splT ?_|refine splF ?_
   |refine Exists.intro (α := Int) ((1 : Nat) : Int) ⟨⟨by omega, hm⟩, ?_⟩
 conv => whnf
 exact ⟨rfl, (), trivial, Ent.weak rfl ⟨rfl, rfl, rfl, trivial⟩ ⟨rfl, rfl, trivial⟩ fun w' h => ⟨h.1, h.2.now⟩⟩
theorem Mo6_2n (n : Nat) (wv av sv : Nat) (y : Yw) (sl ro su : Int) (go to : Option Addr) (gc tc : Nat) (G : List Rw) (T : List Tc) (w : World) (hwv : wv < 256) (hav : av < 256) (hsv : sv < 256) (hk : wv % 4 = 2) (hv : scOk (Sc.d ⟨sl, ro, su, go, gc, G, to, tc, T⟩) = true) (hq : WhyQ (Sc.d ⟨sl, ro, su, go, gc, G, to, tc, T⟩)) (hn : (n : Int) ≤ sl) (hl : y.T.length = 0) :
 VC Tryz.prog (rest 6 body5) ⟨181, [(1, .v (.int .u8 wv)), (2, .v (.int .u8 av)), (3, .v (.int .u8 sv)), (4, .ptr 0 0), (9, .ptr 1 0), (10, .v (iv n))], [(0, .cells [.v (iv sl), .v (iv ro), .v (iv su), .v (.slice go G.length gc), .v (.slice to T.length tc)] 25), (1, .cells [.v (iv sl), .v (iv ro), .v (iv su), .v (.slice y.g.o y.g.D.length y.g.c), .v (.slice y.o y.T.length y.c)] 34)], 2, fun w' => Below w.heap.size w w' ∧ St w.heap.size (y.In (G.map Rw.xs) (T.map Tc.d)) w', z0⟩ (endΦ env Tryz.f5 fun v σ => (∀ β, v.c β = .bool true) ∧ ∀ w', σ.h w' → Below w.heap.size w w') := by
 have hm : (wv : Int).tmod 4 = ((2 : Nat) : Int) := by rw [show (4 : Int) = ((4 : Nat) : Int) from rfl, tmod_nat, hk]
 refine VC.cutH env mixed 1 2 (fun _ : Unit => [(4, .ptr 0 0), (9, .ptr 1 0), (10, .v (iv n))]) (fun _ => [(0, .cells [.v (iv sl), .v (iv ro), .v (iv su), .v (.slice go G.length gc), .v (.slice to T.length tc)] 25), (1, .cells [.v (iv sl), .v (iv ro), .v (iv su), .v (.slice y.g.o y.g.D.length y.g.c), .v (.slice y.o y.T.length y.c)] 34)]) (fun _ w' => Below w.heap.size w w' ∧ (y.In (G.map Rw.xs) (T.map Tc.d)) w') (fun _ => True) (fun _ _ => ⟨rfl, rfl⟩) ?_ (fun _ _ => Mo_fin y n _ _ _ _ sl ro su go to gc tc G T w hv hq hn)
 obtain ⟨⟨go', gc', D⟩, o, c, TT⟩ := y
 dsimp only at hl ⊢
 repeat'
  conv => whnf
  first
   |refine zB ?_|refine splT ?_|refine splF ?_
   |(refine splD ?_ ?_ <;> intro hc <;> first|(exfalso; omega)|skip)
   |refine Exists.intro (α := Int) ((2 : Nat) : Int) ⟨⟨by omega, hm⟩, ?_⟩
 all_goals exact ⟨rfl, (), trivial, Ent.weak rfl ⟨rfl, rfl, rfl, trivial⟩ ⟨rfl, rfl, trivial⟩ fun w' h => ⟨h.1, h.2.now⟩⟩
theorem Mo6_3n (n : Nat) (wv av sv : Nat) (y : Yw) (sl ro su : Int) (go to : Option Addr) (gc tc : Nat) (G : List Rw) (T : List Tc) (w : World) (hwv : wv < 256) (hav : av < 256) (hsv : sv < 256) (hk : wv % 4 = 3) (hv : scOk (Sc.d ⟨sl, ro, su, go, gc, G, to, tc, T⟩) = true) (hq : WhyQ (Sc.d ⟨sl, ro, su, go, gc, G, to, tc, T⟩)) (hn : (n : Int) ≤ sl) (hl : y.g.D.length = 0) :
 VC Tryz.prog (rest 6 body5) ⟨181, [(1, .v (.int .u8 wv)), (2, .v (.int .u8 av)), (3, .v (.int .u8 sv)), (4, .ptr 0 0), (9, .ptr 1 0), (10, .v (iv n))], [(0, .cells [.v (iv sl), .v (iv ro), .v (iv su), .v (.slice go G.length gc), .v (.slice to T.length tc)] 25), (1, .cells [.v (iv sl), .v (iv ro), .v (iv su), .v (.slice y.g.o y.g.D.length y.g.c), .v (.slice y.o y.T.length y.c)] 34)], 2, fun w' => Below w.heap.size w w' ∧ St w.heap.size (y.In (G.map Rw.xs) (T.map Tc.d)) w', z0⟩ (endΦ env Tryz.f5 fun v σ => (∀ β, v.c β = .bool true) ∧ ∀ w', σ.h w' → Below w.heap.size w w') := by
 have hm : (wv : Int).tmod 4 = ((3 : Nat) : Int) := by rw [show (4 : Int) = ((4 : Nat) : Int) from rfl, tmod_nat, hk]
 refine VC.cutH env mixed 1 2 (fun _ : Unit => [(4, .ptr 0 0), (9, .ptr 1 0), (10, .v (iv n))]) (fun _ => [(0, .cells [.v (iv sl), .v (iv ro), .v (iv su), .v (.slice go G.length gc), .v (.slice to T.length tc)] 25), (1, .cells [.v (iv sl), .v (iv ro), .v (iv su), .v (.slice y.g.o y.g.D.length y.g.c), .v (.slice y.o y.T.length y.c)] 34)]) (fun _ w' => Below w.heap.size w w' ∧ (y.In (G.map Rw.xs) (T.map Tc.d)) w') (fun _ => True) (fun _ _ => ⟨rfl, rfl⟩) ?_ (fun _ _ => Mo_fin y n _ _ _ _ sl ro su go to gc tc G T w hv hq hn)
 obtain ⟨⟨go', gc', D⟩, o, c, TT⟩ := y
 dsimp only at hl ⊢
 repeat'
  conv => whnf
  first
   |refine zB ?_|refine splT ?_|refine splF ?_
   |(refine splD ?_ ?_ <;> intro hc <;> first|(exfalso; omega)|skip)
   |refine Exists.intro (α := Int) ((3 : Nat) : Int) ⟨⟨by omega, hm⟩, ?_⟩
 all_goals exact ⟨rfl, (), trivial, Ent.weak rfl ⟨rfl, rfl, rfl, trivial⟩ ⟨rfl, rfl, trivial⟩ fun w' h => ⟨h.1, h.2.now⟩⟩
theorem Mo6_2 (n : Nat) (wv av sv : Nat) (y : Yw) (sl ro su : Int) (go to : Option Addr) (gc tc : Nat) (G : List Rw) (T : List Tc) (w : World) (hwv : wv < 256) (hav : av < 256) (hsv : sv < 256) (hk : wv % 4 = 2) (hv : scOk (Sc.d ⟨sl, ro, su, go, gc, G, to, tc, T⟩) = true) (hq : WhyQ (Sc.d ⟨sl, ro, su, go, gc, G, to, tc, T⟩)) (hn : (n : Int) ≤ sl) (hl : y.T.length ≠ 0) :
 VC Tryz.prog (rest 6 body5) ⟨181, [(1, .v (.int .u8 wv)), (2, .v (.int .u8 av)), (3, .v (.int .u8 sv)), (4, .ptr 0 0), (9, .ptr 1 0), (10, .v (iv n))], [(0, .cells [.v (iv sl), .v (iv ro), .v (iv su), .v (.slice go G.length gc), .v (.slice to T.length tc)] 25), (1, .cells [.v (iv sl), .v (iv ro), .v (iv su), .v (.slice y.g.o y.g.D.length y.g.c), .v (.slice y.o y.T.length y.c)] 34)], 2, fun w' => Below w.heap.size w w' ∧ St w.heap.size (y.In (G.map Rw.xs) (T.map Tc.d)) w', z0⟩ (endΦ env Tryz.f5 fun v σ => (∀ β, v.c β = .bool true) ∧ ∀ w', σ.h w' → Below w.heap.size w w') := by
 have hm : (wv : Int).tmod 4 = ((2 : Nat) : Int) := by rw [show (4 : Int) = ((4 : Nat) : Int) from rfl, tmod_nat, hk]
 obtain ⟨g, o, c, TT⟩ := y
 dsimp only at hl ⊢
 refine VC.pure (p := (∃ b, o = some ⟨b, 0, none⟩ ∧ w.heap.size ≤ b) ∧ TT.map Tw.d = T.map Tc.d) (fun w' h => ⟨by
  obtain ⟨b, rfl, _⟩ := h.2.now.o.cases hl
  exact ⟨b, rfl, St.low fun w2 k2 => by
   obtain ⟨b2, hb, ho⟩ := (h.2 w2 k2).o.cases hl
   simp only [Option.some.injEq, Addr.mk.injEq] at hb
   obtain ⟨rfl, _⟩ := hb
   exact ho⟩, h.2.now.h⟩) fun ⟨⟨b, ho, hb⟩, hTT⟩ => ?_
 subst ho
 have hlen : TT.length = T.length := by have := congrArg List.length hTT; simpa using this
 obtain ⟨k, hkk⟩ : ∃ k, av % TT.length = k := ⟨_, rfl⟩
 have hkl : k < TT.length := by rw [← hkk]; exact Nat.mod_lt _ (by omega)
 have hm2 := tmod_nat av TT.length
 rw [hkk] at hm2
 obtain ⟨⟨r, hh⟩, ht⟩ : ∃ t, TT[k]? = some t := ⟨_, List.getElem?_eq_getElem hkl⟩
 have hDk : (Sc.d ⟨sl, ro, su, go, gc, G, to, tc, T⟩).T[k]? = some (r.xs, hh) := by
  show (T.map Tc.d)[k]? = _
  rw [← hTT, List.getElem?_map, ht]; rfl
 have hhb : 0 ≤ hh ∧ hh ≤ 40 := by
  have h1 := List.all_eq_true.1 (scOk_iff.1 hv).2.2.2.2.2.2 _ (List.mem_of_getElem? hDk)
  unfold teB at h1
  simp only [Bool.and_eq_true, inB_iff] at h1
  exact h1.2
 obtain ⟨q1, q2⟩ := more_te hv hq hDk
 have hgo := Mo_fin ⟨g, some ⟨b, 0, none⟩, c, TT.set k ⟨r, imin 40 (hh + 1)⟩⟩ n _ _ _ _ sl ro su go to gc tc G T w q1 q2 hn
 dsimp only at hgo
 rw [List.length_set] at hgo
 have hax : ((⟨b, 0, none⟩ : Addr).add ((k : Int).toNat * 2)).add 1 = ⟨b, k * 2 + 1, none⟩ := by rw [own_add, own_add, Int.toNat_natCast, Nat.zero_add]
 have hread : ∀ w', (Below w.heap.size w w' ∧ St w.heap.size ((⟨g, some ⟨b, 0, none⟩, c, TT⟩ : Yw).In (G.map Rw.xs) (T.map Tc.d)) w') → ∀ q z, [iv hh][q]? = some z → w'.cell? ((((⟨b, 0, none⟩ : Addr).add ((k : Int).toNat * 2)).add 1).add q) = some z := fun w' h => by
  have h1 := h.2.now.sc sl ro su
  have h2 : Rd 2 Tc.cs (.slice (some ⟨b, 0, none⟩) (TT.map Tw.t).length c) (TT.map Tw.t) w' := h1.t
  exact rd_fld h2 (k := k) (b := Tw.t ⟨r, hh⟩) (by rw [List.getElem?_map, ht]; rfl) 1 _ rfl
 have hat : ∀ w', (Below w.heap.size w w' ∧ St w.heap.size ((⟨g, some ⟨b, 0, none⟩, c, TT⟩ : Yw).In (G.map Rw.xs) (T.map Tc.d)) w') → (∃ cs ty fr, w'.heap[(((⟨b, 0, none⟩ : Addr).add ((k : Int).toNat * 2)).add 1).block]? = some (.cells cs ty fr) ∧ (((⟨b, 0, none⟩ : Addr).add ((k : Int).toNat * 2)).add 1).off < cs.size) ∧ w'.frozen? (((⟨b, 0, none⟩ : Addr).add ((k : Int).toNat * 2)).add 1) = false := fun w' h => by
  rw [hax]
  obtain ⟨b2, hb2, ho⟩ := h.2.now.o.cases hl
  simp only [Option.some.injEq, Addr.mk.injEq] at hb2
  obtain ⟨rfl, _⟩ := hb2
  exact own_off (j := k * 2 + 1) ho (by rw [lenTc2, List.length_map]; show k * 2 + 1 < TT.length * 2; omega)
 have hset : ∀ w', (Below w.heap.size w w' ∧ St w.heap.size ((⟨g, some ⟨b, 0, none⟩, c, TT⟩ : Yw).In (G.map Rw.xs) (T.map Tc.d)) w') → Below w.heap.size w (w'.setCell (((⟨b, 0, none⟩ : Addr).add ((k : Int).toNat * 2)).add 1) (iv (imin 40 (hh + 1)))) ∧ (⟨g, some ⟨b, 0, none⟩, c, TT.set k ⟨r, imin 40 (hh + 1)⟩⟩ : Yw).In (G.map Rw.xs) ((T.map Tc.d).set k (r.xs, imin 40 (hh + 1))) (w'.setCell (((⟨b, 0, none⟩ : Addr).add ((k : Int).toNat * 2)).add 1) (iv (imin 40 (hh + 1)))) := fun w' h => by
  rw [hax]
  exact ⟨below_set h.1 hb, h.2.now.setT ht _⟩
 refine VC.cutH env mixed 1 2 (fun _ : Unit => [(4, .ptr 0 0), (9, .ptr 1 0), (10, .v (iv n))]) (fun _ => [(0, .cells [.v (iv sl), .v (iv ro), .v (iv su), .v (.slice go G.length gc), .v (.slice to T.length tc)] 25), (1, .cells [.v (iv sl), .v (iv ro), .v (iv su), .v (.slice g.o g.D.length g.c), .v (.slice (some ⟨b, 0, none⟩) TT.length c)] 34)]) (fun _ w' => Below w.heap.size w w' ∧ (⟨g, some ⟨b, 0, none⟩, c, TT.set k ⟨r, imin 40 (hh + 1)⟩⟩ : Yw).In (G.map Rw.xs) ((T.map Tc.d).set k (r.xs, imin 40 (hh + 1))) w') (fun _ => True) (fun _ _ => ⟨rfl, rfl⟩) ?_ (fun _ _ => hgo)
 clear hgo hq hv q1 q2
 repeat'
  conv => whnf
  first
   |refine zB ?_|refine zF ?_|refine zG ?_|refine splT ?_|refine splF ?_
   |(refine splD ?_ ?_ <;> intro hc <;> first|(exfalso; omega)|skip)
   |refine Exists.intro (α := Int) ((2 : Nat) : Int) ⟨⟨by omega, hm⟩, ?_⟩
   |refine Exists.intro (α := Value) (iv av) ⟨cv5i av hav, ?_⟩
   |refine Exists.intro (α := Int) (k : Int) ⟨⟨by omega, hm2⟩, ?_⟩
   |refine eL [iv hh] ⟨⟨rfl, fun w' hw' => hread w' hw'⟩, ?_⟩
   |refine stL (stF env rfl rfl rfl rfl rfl rfl (by show (((⟨b, 0, none⟩ : Addr).add ((k : Int).toNat * 2)).add 1).spot = none; rw [hax]) (fun w' => Below w.heap.size w w' ∧ (⟨g, some ⟨b, 0, none⟩, c, TT.set k ⟨r, imin 40 (hh + 1)⟩⟩ : Yw).In (G.map Rw.xs) ((T.map Tc.d).set k (r.xs, imin 40 (hh + 1))) w') (fun w' hw' => hat w' hw') (fun w' hw' => hset w' hw') ?_)
 all_goals exact ⟨rfl, (), trivial, Ent.weak rfl ⟨rfl, rfl, rfl, trivial⟩ ⟨rfl, rfl, trivial⟩ fun w' h => h⟩
theorem Mo6_3 (n : Nat) (wv av sv : Nat) (y : Yw) (sl ro su : Int) (go to : Option Addr) (gc tc : Nat) (G : List Rw) (T : List Tc) (w : World) (hwv : wv < 256) (hav : av < 256) (hsv : sv < 256) (hk : wv % 4 = 3) (hv : scOk (Sc.d ⟨sl, ro, su, go, gc, G, to, tc, T⟩) = true) (hq : WhyQ (Sc.d ⟨sl, ro, su, go, gc, G, to, tc, T⟩)) (hn : (n : Int) ≤ sl) (hl : y.g.D.length ≠ 0) :
 VC Tryz.prog (rest 6 body5) ⟨181, [(1, .v (.int .u8 wv)), (2, .v (.int .u8 av)), (3, .v (.int .u8 sv)), (4, .ptr 0 0), (9, .ptr 1 0), (10, .v (iv n))], [(0, .cells [.v (iv sl), .v (iv ro), .v (iv su), .v (.slice go G.length gc), .v (.slice to T.length tc)] 25), (1, .cells [.v (iv sl), .v (iv ro), .v (iv su), .v (.slice y.g.o y.g.D.length y.g.c), .v (.slice y.o y.T.length y.c)] 34)], 2, fun w' => Below w.heap.size w w' ∧ St w.heap.size (y.In (G.map Rw.xs) (T.map Tc.d)) w', z0⟩ (endΦ env Tryz.f5 fun v σ => (∀ β, v.c β = .bool true) ∧ ∀ w', σ.h w' → Below w.heap.size w w') := by
 have hm : (wv : Int).tmod 4 = ((3 : Nat) : Int) := by rw [show (4 : Int) = ((4 : Nat) : Int) from rfl, tmod_nat, hk]
 obtain ⟨⟨o, c, D⟩, o', c', TT⟩ := y
 dsimp only at hl ⊢
 refine VC.pure (p := (∃ b, o = some ⟨b, 0, none⟩) ∧ (∀ r ∈ D, w.heap.size ≤ r.b) ∧ D.map Ro.xs = G.map Rw.xs) (fun w' h => ⟨by
  obtain ⟨b, rfl, _⟩ := h.2.now.g.o.cases hl
  exact ⟨b, rfl⟩, fun r hr => St.low fun w2 k2 => (h.2 w2 k2).g.r r hr, h.2.now.g.h⟩) fun ⟨⟨b, ho⟩, hb, hDD⟩ => ?_
 subst ho
 have hlen : D.length = G.length := by have := congrArg List.length hDD; simpa using this
 obtain ⟨k, hkk⟩ : ∃ k, av % D.length = k := ⟨_, rfl⟩
 have hkl : k < D.length := by rw [← hkk]; exact Nat.mod_lt _ (by omega)
 have hm2 := tmod_nat av D.length
 rw [hkk] at hm2
 obtain ⟨⟨rb, rc, rx⟩, ht⟩ : ∃ t, D[k]? = some t := ⟨_, List.getElem?_eq_getElem hkl⟩
 have hbr := hb _ (List.mem_of_getElem? ht)
 dsimp only at hbr
 have hDk : (Sc.d ⟨sl, ro, su, go, gc, G, to, tc, T⟩).G[k]? = some rx := by
  show (G.map Rw.xs)[k]? = _
  rw [← hDD, List.getElem?_map, ht]; rfl
 obtain ⟨hv1, hv2, hv3, hv4, hv5, hv6, hv7⟩ := scOk_iff.1 hv
 have hg1 := List.all_eq_true.1 hv6 _ (List.mem_of_getElem? hDk)
 unfold grB evB at hg1
 simp only [Bool.and_eq_true, decide_eq_true_eq] at hg1
 have hrl : (rx.length : Int) = su := hg1.1
 have hsu : 1 ≤ su := hv3.1
 obtain ⟨su', hsu'⟩ : ∃ m : Nat, su = m := ⟨su.toNat, by omega⟩
 obtain ⟨j, hjj⟩ : ∃ j, sv % su' = j := ⟨_, rfl⟩
 have hjl : j < rx.length := by
  have : j < su' := by rw [← hjj]; exact Nat.mod_lt _ (by omega)
  omega
 have hm3 := tmod_nat sv su'
 rw [hjj, ← hsu'] at hm3
 obtain ⟨hh, hj⟩ : ∃ t, rx[j]? = some t := ⟨_, List.getElem?_eq_getElem hjl⟩
 have hhb := inB_iff.1 (List.all_eq_true.1 hg1.2 hh (List.mem_of_getElem? hj))
 obtain ⟨q1, q2⟩ := less_ho hv hq hDk hj
 have hgo := Mo_fin ⟨⟨some ⟨b, 0, none⟩, c, D.set k ⟨rb, rc, rx.set j (imax 0 (hh - 1))⟩⟩, o', c', TT⟩ n _ _ _ _ sl ro su go to gc tc G T w q1 q2 hn
 dsimp only at hgo
 rw [List.length_set] at hgo
 have hax : ((⟨rb, 0, none⟩ : Addr).add ((j : Int).toNat * 1)) = ⟨rb, j, none⟩ := by rw [own_add, Int.toNat_natCast, Nat.zero_add, Nat.mul_one]
 have hrow : ∀ w', (Below w.heap.size w w' ∧ St w.heap.size ((⟨⟨some ⟨b, 0, none⟩, c, D⟩, o', c', TT⟩ : Yw).In (G.map Rw.xs) (T.map Tc.d)) w') → ∀ q z, [Value.slice (some ⟨rb, 0, none⟩) rx.length rc][q]? = some z → w'.cell? (((⟨b, 0, none⟩ : Addr).add ((k : Int).toNat * 1)).add q) = some z := fun w' h => by
  have h1 := h.2.now.sc sl ro su
  have h2 : Rd 1 Rw.cs (.slice (some ⟨b, 0, none⟩) (D.map Ro.rw).length c) (D.map Ro.rw) w' := h1.g
  exact rd_ati h2 (k := k) (b := Ro.rw ⟨rb, rc, rx⟩) (by rw [List.getElem?_map, ht]; rfl)
 have hread : ∀ w', (Below w.heap.size w w' ∧ St w.heap.size ((⟨⟨some ⟨b, 0, none⟩, c, D⟩, o', c', TT⟩ : Yw).In (G.map Rw.xs) (T.map Tc.d)) w') → ∀ q z, [iv hh][q]? = some z → w'.cell? (((⟨rb, 0, none⟩ : Addr).add ((j : Int).toNat * 1)).add q) = some z := fun w' h => by
  have h1 := Ro.rd (h.2.now.g.r _ (List.mem_of_getElem? ht))
  exact rd_ati h1 hj
 have hat : ∀ w', (Below w.heap.size w w' ∧ St w.heap.size ((⟨⟨some ⟨b, 0, none⟩, c, D⟩, o', c', TT⟩ : Yw).In (G.map Rw.xs) (T.map Tc.d)) w') → (∃ cs ty fr, w'.heap[(((⟨rb, 0, none⟩ : Addr).add ((j : Int).toNat * 1))).block]? = some (.cells cs ty fr) ∧ (((⟨rb, 0, none⟩ : Addr).add ((j : Int).toNat * 1))).off < cs.size) ∧ w'.frozen? ((⟨rb, 0, none⟩ : Addr).add ((j : Int).toNat * 1)) = false := fun w' h => by
  rw [hax]
  exact own_off (j := j) (h.2.now.g.r _ (List.mem_of_getElem? ht)) (by rw [lenF]; exact hjl)
 have hset : ∀ w', (Below w.heap.size w w' ∧ St w.heap.size ((⟨⟨some ⟨b, 0, none⟩, c, D⟩, o', c', TT⟩ : Yw).In (G.map Rw.xs) (T.map Tc.d)) w') → Below w.heap.size w (w'.setCell ((⟨rb, 0, none⟩ : Addr).add ((j : Int).toNat * 1)) (iv (imax 0 (hh - 1)))) ∧ (⟨⟨some ⟨b, 0, none⟩, c, D.set k ⟨rb, rc, rx.set j (imax 0 (hh - 1))⟩⟩, o', c', TT⟩ : Yw).In ((G.map Rw.xs).set k (rx.set j (imax 0 (hh - 1)))) (T.map Tc.d) (w'.setCell ((⟨rb, 0, none⟩ : Addr).add ((j : Int).toNat * 1)) (iv (imax 0 (hh - 1)))) := fun w' h => by
  rw [hax]
  exact ⟨below_set h.1 hbr, h.2.now.setG ht _⟩
 refine VC.cutH env mixed 1 2 (fun _ : Unit => [(4, .ptr 0 0), (9, .ptr 1 0), (10, .v (iv n))]) (fun _ => [(0, .cells [.v (iv sl), .v (iv ro), .v (iv su), .v (.slice go G.length gc), .v (.slice to T.length tc)] 25), (1, .cells [.v (iv sl), .v (iv ro), .v (iv su), .v (.slice (some ⟨b, 0, none⟩) D.length c), .v (.slice o' TT.length c')] 34)]) (fun _ w' => Below w.heap.size w w' ∧ (⟨⟨some ⟨b, 0, none⟩, c, D.set k ⟨rb, rc, rx.set j (imax 0 (hh - 1))⟩⟩, o', c', TT⟩ : Yw).In ((G.map Rw.xs).set k (rx.set j (imax 0 (hh - 1)))) (T.map Tc.d) w') (fun _ => True) (fun _ _ => ⟨rfl, rfl⟩) ?_ (fun _ _ => hgo)
 clear hgo hq hv q1 q2
 repeat'
  conv => whnf
  first
   |refine zB ?_|refine zF ?_|refine zG ?_|refine splT ?_|refine splF ?_
   |(refine splD ?_ ?_ <;> intro hc <;> first|(exfalso; omega)|skip)
   |refine Exists.intro (α := Int) ((3 : Nat) : Int) ⟨⟨by omega, hm⟩, ?_⟩
   |refine Exists.intro (α := Value) (iv av) ⟨cv5i av hav, ?_⟩
   |refine Exists.intro (α := Value) (iv sv) ⟨cv5i sv hsv, ?_⟩
   |refine Exists.intro (α := Int) (k : Int) ⟨⟨by omega, hm2⟩, ?_⟩
   |refine Exists.intro (α := Int) (j : Int) ⟨⟨by omega, hm3⟩, ?_⟩
   |refine eL [.slice (some ⟨rb, 0, none⟩) rx.length rc] ⟨⟨rfl, fun w' hw' => hrow w' hw'⟩, ?_⟩
   |refine eL [iv hh] ⟨⟨rfl, fun w' hw' => hread w' hw'⟩, ?_⟩
   |refine stL (stF env rfl rfl rfl rfl rfl rfl (by show (((⟨rb, 0, none⟩ : Addr).add ((j : Int).toNat * 1))).spot = none; rw [hax]) (fun w' => Below w.heap.size w w' ∧ (⟨⟨some ⟨b, 0, none⟩, c, D.set k ⟨rb, rc, rx.set j (imax 0 (hh - 1))⟩⟩, o', c', TT⟩ : Yw).In ((G.map Rw.xs).set k (rx.set j (imax 0 (hh - 1)))) (T.map Tc.d) w') (fun w' hw' => hat w' hw') (fun w' hw' => hset w' hw') ?_)
 all_goals exact ⟨rfl, (), trivial, Ent.weak rfl ⟨rfl, rfl, rfl, trivial⟩ ⟨rfl, rfl, trivial⟩ fun w' h => h⟩
theorem SchoolMore_ok (s : Sc) (wv av sv : Nat) (w : World) (h : ScIn s w) (hX : ScX s) (hwv : wv < 256) (hav : av < 256) (hsv : sv < 256) :
 Calls Tryz.prog 5 #[s.v, .int .u8 wv, .int .u8 av, .int .u8 sv] w fun e w' => e = .returned (.bool true) ∧ Below w.heap.size w w' := by
 have h12 := fun w' => awake_ok w'
 have h15 := fun (w' : World) (hw : Below w.heap.size w w') => RightX_ok s w' (h.below hw) hX
 cases hv : scOk s.d with
 | false =>
  rw [hv] at h15
  obtain ⟨sl, ro, su, go, gc, G, to, tc, T⟩ := s
  refine calls_val env mixed Tryz.func5 has5 Tryz.ntmps5 [.agg #[iv sl, iv ro, iv su, .slice go G.length gc, .slice to T.length tc], .int .u8 wv, .int .u8 av, .int .u8 sv] (by simp) ?_
  repeat'
   conv => whnf
   first
    |refine zD ?_|refine splT ?_
    |((with_reducible show CallEv _ _ 15 ..); refine callE (fun β w' hbw => h15 _ hbw) ?_)
    |((with_reducible show CallEv _ _ 12 ..); refine callE (fun β w' hbw => h12 w') ?_)
  all_goals exact ⟨fun β => rfl, fun w' h => h⟩
 | true =>
  rw [hv] at h15
  have hB := ScX.ok hv
  have h14 := fun (w' : World) (hw : Below w.heap.size w w') => famS hw (SchoolW_ok s w' (h.below hw) hv hB)
  have hsl := (scOk_iff.1 hv).1
  have hz := lst_zero (D := s.d)
  have hs := lst_some (D := s.d)
  have hro := (scOk_iff.1 hv).2.1
  have hat := fun (n : Nat) (hn : 1 ≤ n ∧ n ≤ 40) => scOk_at hv hn
  obtain ⟨sl, ro, su, go, gc, G, to, tc, T⟩ := s
  have hsl : 1 ≤ sl ∧ sl ≤ 40 := hsl
  obtain ⟨sn, hsn⟩ : ∃ m : Nat, sl = m := ⟨sl.toNat, by omega⟩
  have hDs : (Sc.d ⟨sl, ro, su, go, gc, G, to, tc, T⟩).at sn = Sc.d ⟨sl, ro, su, go, gc, G, to, tc, T⟩ := by rw [← hsn]; rfl
  have hBy : ∀ (y : Yw) (a : Int) (w' : World), (y.In (G.map Rw.xs) (T.map Tc.d)) w' → ScB (y.sc a ro su) := fun y a w' hy => by
   have h1 := ScX.ok (s := y.sc sl ro su) (by rw [hy.d]; exact hv)
   exact h1.sl a
  have h19 : ∀ (y : Yw) (w' : World), (y.In (G.map Rw.xs) (T.map Tc.d)) w' → Calls Tryz.prog 19 #[y.v sl ro su] w' fun e w2 => e = .returned (.tuple #[iv (lst (Sc.d ⟨sl, ro, su, go, gc, G, to, tc, T⟩) : Int), iv (if lst (Sc.d ⟨sl, ro, su, go, gc, G, to, tc, T⟩) = 0 then 7 else 0)]) ∧ Below w'.heap.size w' w2 := fun y w' hy => by
   have h1 := Least_ok (y.sc sl ro su) w' (hy.sc sl ro su) (hBy y sl w' hy)
   rw [Yw.scv, hy.d, errL, show scOk ⟨sl, ro, su, G.map Rw.xs, T.map Tc.d⟩ = true from hv, if_pos rfl, if_pos rfl] at h1
   exact h1
  have h21 : ∀ (a : Nat) (b : Bool), (errW ((Sc.d ⟨sl, ro, su, go, gc, G, to, tc, T⟩).at a) == 7) = b → ∀ (y : Yw) (w' : World), (y.In (G.map Rw.xs) (T.map Tc.d)) w' → Calls Tryz.prog 21 #[y.v a ro su] w' fun e w2 => e = .returned (.bool b) ∧ Below w'.heap.size w' w2 := fun a b hb y w' hy => by
   have h1 := may_ok (y.sc a ro su) w' (hy.sc a ro su) (hBy y a w' hy)
   rw [Yw.scv, hy.d] at h1
   rw [← hb]
   exact h1
  have hmay : ∀ a : Nat, 1 ≤ a → a ≤ 40 → ((errW ((Sc.d ⟨sl, ro, su, go, gc, G, to, tc, T⟩).at a) == 7) = true ↔ WhyQ ((Sc.d ⟨sl, ro, su, go, gc, G, to, tc, T⟩).at a)) := fun a h1 h2 => by
   rw [← why_iff, errW, hat a ⟨h1, h2⟩, if_pos rfl]
   cases rWhy ((Sc.d ⟨sl, ro, su, go, gc, G, to, tc, T⟩).at a) <;> simp
  have hfin := fun (n : Nat) (y : Yw) (hq : WhyQ (Sc.d ⟨sl, ro, su, go, gc, G, to, tc, T⟩)) (hn : (n : Int) ≤ sl) => (by
   rcases (show wv % 4 = 0 ∨ wv % 4 = 1 ∨ wv % 4 = 2 ∨ wv % 4 = 3 by omega) with hk | hk | hk | hk
   · exact Mo6_0 n wv av sv y sl ro su go to gc tc G T w hwv hav hsv hk hv hq hn
   · exact Mo6_1 n wv av sv y sl ro su go to gc tc G T w hwv hav hsv hk hv hq hn
   · by_cases hl : y.T.length = 0
     · exact Mo6_2n n wv av sv y sl ro su go to gc tc G T w hwv hav hsv hk hv hq hn hl
     · exact Mo6_2 n wv av sv y sl ro su go to gc tc G T w hwv hav hsv hk hv hq hn hl
   · by_cases hl : y.g.D.length = 0
     · exact Mo6_3n n wv av sv y sl ro su go to gc tc G T w hwv hav hsv hk hv hq hn hl
     · exact Mo6_3 n wv av sv y sl ro su go to gc tc G T w hwv hav hsv hk hv hq hn hl : VC Tryz.prog (rest 6 body5) ⟨181, [(1, .v (.int .u8 wv)), (2, .v (.int .u8 av)), (3, .v (.int .u8 sv)), (4, .ptr 0 0), (9, .ptr 1 0), (10, .v (iv n))], [(0, .cells [.v (iv sl), .v (iv ro), .v (iv su), .v (.slice go G.length gc), .v (.slice to T.length tc)] 25), (1, .cells [.v (iv sl), .v (iv ro), .v (iv su), .v (.slice y.g.o y.g.D.length y.g.c), .v (.slice y.o y.T.length y.c)] 34)], 2, fun w' => Below w.heap.size w w' ∧ St w.heap.size (y.In (G.map Rw.xs) (T.map Tc.d)) w', z0⟩ (endΦ env Tryz.f5 fun v σ => (∀ β, v.c β = .bool true) ∧ ∀ w', σ.h w' → Below w.heap.size w w'))
  have hDl : ∀ a : Nat, WhyQ ((Sc.d ⟨sl, ro, su, go, gc, G, to, tc, T⟩).at a) → (a : Int) ≤ sl → WhyQ (Sc.d ⟨sl, ro, su, go, gc, G, to, tc, T⟩) := fun a hq ha => hq.slots (D := (Sc.d ⟨sl, ro, su, go, gc, G, to, tc, T⟩).at a) (by have := hro.1; exact Int.le_trans (by decide) this) ha
  generalize lst (Sc.d ⟨sl, ro, su, go, gc, G, to, tc, T⟩) = n at *
  refine calls_valV env mixed Tryz.func5 has5 Tryz.ntmps5 [.agg #[iv sl, iv ro, iv su, .slice go G.length gc, .slice to T.length tc], .int .u8 wv, .int .u8 av, .int .u8 sv] (by simp) ?_
  by_cases hn0 : n = 0
  · subst hn0
    have hb : (errW ((Sc.d ⟨sl, ro, su, go, gc, G, to, tc, T⟩).at sn) == 7) = false := by
     rw [Bool.eq_false_iff]
     exact fun e => hz rfl sn (by omega) (by omega) ((hmay sn (by omega) (by omega)).1 e)
    have h21 := h21 sn false hb
    rw [← hsn] at h21
    clear hmay hfin hDl hs hz hBy hat hB h hX hro
    refine VC.of env mixed ?_
    repeat'
     conv => whnf
     first
      |refine zC ?_|refine zD ?_|refine splT ?_|refine splF ?_
      |((with_reducible show CallEv _ _ 15 ..); refine callE (fun β w' hbw => h15 _ hbw) ?_)
      |((with_reducible show CallEv _ _ 14 ..); refine callF [] (fun y : Yw => y.v sl ro su) (fun y => St w.heap.size (y.In (G.map Rw.xs) (T.map Tc.d))) (fun β w' _ hbw => h14 w' hbw) ?_; intro y)
      |((with_reducible show CallEv _ _ 19 ..); refine callE (fun β w' hbw => h19 y w' hbw.2.now) ?_)
      |((with_reducible show CallEv _ _ 21 ..); refine callE (fun β w' hbw => h21 y w' hbw.2.now) ?_)
      |((with_reducible show CallEv _ _ 12 ..); refine callE (fun β w' hbw => h12 w') ?_)
    all_goals exact ⟨fun β => rfl, fun w' h => h.1⟩
  · obtain ⟨hn1, hn40, hnq, hnl⟩ := hs hn0
    rw [if_neg hn0] at h19
    have hbn : (errW ((Sc.d ⟨sl, ro, su, go, gc, G, to, tc, T⟩).at n) == 7) = true := (hmay n hn1 hn40).2 hnq
    have h21n := h21 n true hbn
    have h21m : 1 < n → ∀ (y : Yw) (w' : World), (y.In (G.map Rw.xs) (T.map Tc.d)) w' → Calls Tryz.prog 21 #[y.v ((n : Int) - 1) ro su] w' fun e w2 => e = .returned (.bool false) ∧ Below w'.heap.size w' w2 := fun h1 => by
     have hb : (errW ((Sc.d ⟨sl, ro, su, go, gc, G, to, tc, T⟩).at (n - 1 : Nat)) == 7) = false := by
      rw [Bool.eq_false_iff]
      exact fun e => hnl (n - 1) (by omega) (by omega) ((hmay (n - 1) (by omega) (by omega)).1 e)
     have h2 := h21 (n - 1) false hb
     rw [show ((n - 1 : Nat) : Int) = (n : Int) - 1 from by omega] at h2
     exact h2
    have h21s := fun b hb => h21 sn b hb
    rw [← hsn, show (Sc.d ⟨sl, ro, su, go, gc, G, to, tc, T⟩).at sl = Sc.d ⟨sl, ro, su, go, gc, G, to, tc, T⟩ from rfl] at h21s
    have hms := hmay sn (by omega) (by omega)
    rw [hDs] at hms
    refine VC.cutH env mixed 4 2 (fun y : Yw => [(1, .v (.int .u8 wv)), (2, .v (.int .u8 av)), (3, .v (.int .u8 sv)), (4, .ptr 0 0), (9, .ptr 1 0), (10, .v (iv n)), (11, .v (iv 0))]) (fun y => [(0, .cells [.v (iv sl), .v (iv ro), .v (iv su), .v (.slice go G.length gc), .v (.slice to T.length tc)] 25), (1, .cells [.v (iv sl), .v (iv ro), .v (iv su), .v (.slice y.g.o y.g.D.length y.g.c), .v (.slice y.o y.T.length y.c)] 34)]) (fun y w' => Below w.heap.size w w' ∧ St w.heap.size (y.In (G.map Rw.xs) (T.map Tc.d)) w') (fun _ => True) (fun _ _ => ⟨rfl, rfl⟩) ?_ (fun y _ => ?_)
    · clear hmay hfin hDl hs hz hBy hat hB h hX hro h21 h21n h21m h21s hms
      repeat'
       conv => whnf
       first
        |refine zC ?_|refine zD ?_|refine splF ?_
        |((with_reducible show CallEv _ _ 15 ..); refine callE (fun β w' hbw => h15 _ hbw) ?_)
        |((with_reducible show CallEv _ _ 14 ..); refine callF [] (fun y : Yw => y.v sl ro su) (fun y => St w.heap.size (y.In (G.map Rw.xs) (T.map Tc.d))) (fun β w' _ hbw => h14 w' hbw) ?_; intro y)
        |((with_reducible show CallEv _ _ 19 ..); refine callE (fun β w' hbw => h19 y w' hbw.2.now) ?_)
      all_goals exact ⟨rfl, y, trivial, Ent.weak rfl ⟨rfl, rfl, rfl, rfl, rfl, rfl, rfl, trivial⟩ ⟨rfl, rfl, trivial⟩ fun w' h => h⟩
    · cases hb : (errW (Sc.d ⟨sl, ro, su, go, gc, G, to, tc, T⟩) == 7) with
      | true =>
       have h21s := h21s true hb
       have hq := hms.1 hb
       have hns : (n : Int) ≤ sl := by
        refine Int.not_lt.1 fun hlt => ?_
        have := hnl sn (by omega) (by omega)
        rw [hDs] at this
        exact this hq
       refine VC.cutH env mixed 2 2 (fun _ : Unit => [(1, .v (.int .u8 wv)), (2, .v (.int .u8 av)), (3, .v (.int .u8 sv)), (4, .ptr 0 0), (9, .ptr 1 0), (10, .v (iv n))]) (fun _ => [(0, .cells [.v (iv sl), .v (iv ro), .v (iv su), .v (.slice go G.length gc), .v (.slice to T.length tc)] 25), (1, .cells [.v (iv sl), .v (iv ro), .v (iv su), .v (.slice y.g.o y.g.D.length y.g.c), .v (.slice y.o y.T.length y.c)] 34)]) (fun _ w' => Below w.heap.size w w' ∧ St w.heap.size (y.In (G.map Rw.xs) (T.map Tc.d)) w') (fun _ => True) (fun _ _ => ⟨rfl, rfl⟩) ?_ (fun _ _ => hfin n y hq hns)
       clear hmay hfin hDl hs hz hBy hat hB h hX hro h21 hms h19 h15
       repeat'
        conv => whnf
        first
         |refine zB ?_|refine zC ?_|refine zD ?_|refine zF ?_|refine splT ?_|refine splF ?_
         |(refine splD ?_ ?_ <;> intro hc <;> first|(exfalso; omega)|skip)
         |((with_reducible show CallEv _ _ 14 ..); refine callF [] (fun y : Yw => y.v sl ro su) (fun y => St w.heap.size (y.In (G.map Rw.xs) (T.map Tc.d))) (fun β w' _ hbw => h14 w' hbw.1) ?_; intro z)
         |((with_reducible show CallEv _ _ 21 [.agg [.v (iv (n : Int)), _, _, _, _]] _ _ _ _); refine callE (k := 21) (fun β w' hbw => h21n z w' hbw.2.now) ?_)
         |((with_reducible show CallEv _ _ 21 [.agg [.v (iv ((n : Int) - 1)), _, _, _, _]] _ _ _ _); refine callE (k := 21) (fun β w' hbw => h21m (by omega) z w' hbw.2.now) ?_)
         |((with_reducible show CallEv _ _ 21 [.agg [.v (iv sl), _, _, _, _]] _ _ _ _); refine callE (k := 21) (fun β w' hbw => h21s y w' hbw.1.2.now) ?_)
       all_goals exact ⟨rfl, (), trivial, Ent.weak rfl ⟨rfl, rfl, rfl, rfl, rfl, rfl, trivial⟩ ⟨rfl, rfl, trivial⟩ fun w' h => h.1⟩
      | false =>
       have h21s := h21s false hb
       have hns : sl < (n : Int) := by
        refine Int.not_le.1 fun hle => ?_
        have := hms.2 (hDl n hnq hle)
        rw [hb] at this; cases this
       clear hmay hfin hDl hs hz hBy hat hB h hX hro h21 hms h19 h15
       refine VC.of env mixed ?_
       repeat'
        conv => whnf
        first
         |refine zB ?_|refine zC ?_|refine zD ?_|refine zF ?_|refine splT ?_|refine splF ?_
         |(refine splD ?_ ?_ <;> intro hc <;> first|(exfalso; omega)|skip)
         |((with_reducible show CallEv _ _ 14 ..); refine callF [] (fun y : Yw => y.v sl ro su) (fun y => St w.heap.size (y.In (G.map Rw.xs) (T.map Tc.d))) (fun β w' _ hbw => h14 w' hbw.1) ?_; intro z)
         |((with_reducible show CallEv _ _ 21 [.agg [.v (iv (n : Int)), _, _, _, _]] _ _ _ _); refine callE (k := 21) (fun β w' hbw => h21n z w' hbw.2.now) ?_)
         |((with_reducible show CallEv _ _ 21 [.agg [.v (iv ((n : Int) - 1)), _, _, _, _]] _ _ _ _); refine callE (k := 21) (fun β w' hbw => h21m (by omega) z w' hbw.2.now) ?_)
         |((with_reducible show CallEv _ _ 21 [.agg [.v (iv sl), _, _, _, _]] _ _ _ _); refine callE (k := 21) (fun β w' hbw => h21s y w' hbw.1.2.now) ?_)
         |((with_reducible show CallEv _ _ 12 ..); refine callE (fun β w' hbw => h12 w') ?_)
       all_goals exact ⟨fun β => rfl, fun w' h => h.1.1⟩
end Go.Proofs.YtkbfcofifhngfaaGreat
namespace Go.Proofs.YtkbfcofifhngfaaGreat
open Go Tx Go.RowKit Go.WideShapes
abbrev I64 (n : Int) : Prop := -9223372036854775808 ≤ n ∧ n ≤ 9223372036854775807
def shI : Shp := .int .i64
def shTe : Shp := .agg [.sl 1 shI, shI]
def shSc : Shp := .agg [shI, shI, shI, .sl 1 (.sl 1 shI), .sl 2 shTe]
theorem op_slc {α : Type} {w : World} {sz : Nat} {e : Shp} {f : α → List Value} {Q : α → Prop} (he : ∀ es, e.rd w es → ∃ x, es = f x ∧ Q x) {cs : List Value} (h : (Shp.sl sz e).rd w cs) :
 ∃ (o : Option Addr) (c : Nat) (xs : List α), cs = [.slice o xs.length c] ∧ Rd sz f (.slice o xs.length c) xs w ∧ xs.length ≤ 9223372036854775807 ∧ ∀ x ∈ xs, Q x := by
 unfold Shp.rd at h
 rcases h with rfl | ⟨a, n, c, rfl, h1, h2, h3⟩
 · exact ⟨none, 0, [], rfl, .inl ⟨rfl, rfl⟩, by simp, fun x hx => by simp at hx⟩
 · obtain ⟨xs, hl, hb⟩ := list_of (Q := fun i (x : α) => (∀ j v, (f x)[j]? = some v → w.cell? ((a.add (i * sz)).add j) = some v) ∧ Q x) n fun i hi => by
    obtain ⟨es, _, e2, e3⟩ := h3 i hi
    obtain ⟨x, rfl, hx⟩ := he es e3
    exact ⟨x, e2, hx⟩
   subst hl
   exact ⟨some a, c, xs, rfl, .inr ⟨a, c, rfl, fun k b hk => (hb k b hk).1⟩, by unfold maxLen at h2; omega, fun x hx => by
    obtain ⟨k, hk⟩ := List.mem_iff_getElem?.1 hx
    exact (hb k x hk).2⟩
theorem op_i {w : World} {es : List Value} (h : shI.rd w es) : ∃ n : Int, es = iF n ∧ I64 n := by
 simp only [shI, Shp.rd] at h
 obtain ⟨n, rfl, g⟩ := h
 exact ⟨n, rfl, wf64 g⟩
theorem op_ints {w : World} {cs : List Value} (h : (Shp.sl 1 shI).rd w cs) : ∃ (o : Option Addr) (c : Nat) (xs : List Int), cs = [.slice o xs.length c] ∧ Rd 1 iF (.slice o xs.length c) xs w ∧ xs.length ≤ 9223372036854775807 ∧ ∀ x ∈ xs, I64 x :=
 op_slc (f := iF) (Q := I64) (fun es h => op_i h) h
theorem op_rw {w : World} {es : List Value} (h : (Shp.sl 1 shI).rd w es) : ∃ r : Rw, es = Rw.cs r ∧ Rd 1 iF r.v r.xs w ∧ r.xs.length ≤ 9223372036854775807 := by
 obtain ⟨o, c, xs, h1, h2, h3, _⟩ := op_ints h
 exact ⟨⟨o, c, xs⟩, h1, h2, h3⟩
theorem op_te {w : World} {es : List Value} (h : shTe.rd w es) : ∃ s : Tc, es = Tc.cs s ∧ Rd 1 iF (.slice s.o s.T.length s.c) s.T w ∧ s.T.length ≤ 9223372036854775807 ∧ I64 s.h := by
 simp only [shTe, Shp.rd.eq_3, Shp.rds] at h
 obtain ⟨_, _, rfl, h2, _, _, rfl, h3, rfl⟩ := h
 obtain ⟨n0, rfl, g0⟩ := op_i h3
 obtain ⟨o, c, xs, rfl, h3, h4, _⟩ := op_ints h2
 exact ⟨⟨o, c, xs, n0⟩, rfl, h3, h4, g0⟩
theorem op_school {w : World} {cs : List Value} (h : shSc.rd w cs) : ∃ x : Sc, cs = [iv x.sl, iv x.ro, iv x.su, .slice x.go x.G.length x.gc, .slice x.to x.T.length x.tc] ∧ ScIn x w ∧ ScX x ∧ (I64 x.sl ∧ I64 x.ro ∧ I64 x.su ∧ ∀ t ∈ x.T, I64 t.h) := by
 unfold shSc at h
 simp only [Shp.rd.eq_3, Shp.rds] at h
 obtain ⟨_, _, rfl, h1, _, _, rfl, h2, _, _, rfl, h3, _, _, rfl, h4, _, _, rfl, h5, rfl⟩ := h
 obtain ⟨n1, rfl, g1⟩ := op_i h1
 obtain ⟨n2, rfl, g2⟩ := op_i h2
 obtain ⟨n3, rfl, g3⟩ := op_i h3
 obtain ⟨go, gc, G, rfl, b1, b2, b3⟩ := op_slc (f := Rw.cs) (Q := fun r => Rd 1 iF r.v r.xs w ∧ r.xs.length ≤ 9223372036854775807) (fun es h => op_rw h) h4
 obtain ⟨to, tc, T, rfl, d1, d2, d3⟩ := op_slc (f := Tc.cs) (Q := fun s => Rd 1 iF (.slice s.o s.T.length s.c) s.T w ∧ s.T.length ≤ 9223372036854775807 ∧ I64 s.h) (fun es h => op_te h) h5
 exact ⟨⟨n1, n2, n3, go, gc, G, to, tc, T⟩, rfl, ⟨b1, fun r hr => (b3 r hr).1, d1, fun t ht => (d3 t ht).1⟩, ⟨b2, fun r hr => (b3 r hr).2, d2, fun t ht => (d3 t ht).2.1⟩, g1, g2, g3, fun t ht => (d3 t ht).2.2⟩
theorem wfu8 {a : Int} (h : (Lit.int .u8 a).wf = true) : ∃ k : Nat, a = k ∧ k < 256 := by
 simp [Lit.wf, IntKind.min, IntKind.max, IntKind.bits, IntKind.signed] at h
 exact ⟨a.toNat, by omega, by omega⟩
end Go.Proofs.YtkbfcofifhngfaaGreat
