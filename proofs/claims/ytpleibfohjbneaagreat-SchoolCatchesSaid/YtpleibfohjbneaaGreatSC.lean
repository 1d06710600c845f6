/- Stays that are valid; courses and stays that are small: what these functions return. -/
import Derived.Test.YtpleibfohjbneaaGreatSB
namespace Go.Proofs.YtpleibfohjbneaaGreat
open Go Tx Go.RowKit
set_option linter.unusedSimpArgs false
set_option linter.unusedVariables false

/-- A stay. -/
structure Sy where
  p : Int
  o : Option Addr
  c : Nat
  xs : List Int
abbrev Sy.cs (s : Sy) : List Value := [iv s.p, .slice s.o s.xs.length s.c]
abbrev Sy.d (s : Sy) : Int × List Int := (s.p, s.xs)
/-- Stays that are read. -/
structure SyIn (o : Option Addr) (c : Nat) (S : List Sy) (w : World) : Prop where
  s : Rd 2 Sy.cs (.slice o S.length c) S w
  r : ∀ s ∈ S, Rd 1 iF (.slice s.o s.xs.length s.c) s.xs w
  sl : S.length ≤ 1000000
  rl : ∀ s ∈ S, s.xs.length ≤ 1000000
theorem SyIn.below {o : Option Addr} {c : Nat} {S : List Sy} {w w' : World} (h : SyIn o c S w) (hb : Below w.heap.size w w') : SyIn o c S w' := ⟨h.s.below hb, fun s hs => (h.r s hs).below hb, h.sl, h.rl⟩
def stOk (n m : Nat) (s : Int × List Int) : Bool := inB s.1 0 (m - 1) && (decide (s.2.length = n) && evB s.2 0 40)
/-- The error of stays. -/
def stE (n m : Nat) (wk : Int) (SS : List (Int × List Int)) : Int := if (SS.length : Int) > wk then 3 else if SS.all (stOk n m) = true then 0 else 1

set_option maxHeartbeats 1000000 in
set_option maxRecDepth 100000 in
theorem StaysFault_ok (x : Cr) (o : Option Addr) (c : Nat) (S : List Sy) (w : World) (h : CrIn x w) (hS : SyIn o c S w) :
    Calls Tryz.prog 28 #[x.v, .slice o S.length c] w fun e w' => e = .returned (iv (stE x.N.length x.CC.length x.wk (S.map Sy.d))) ∧ Below w.heap.size w w' := by
  obtain ⟨no, nc, N, wk, co, cc, C⟩ := x
  obtain ⟨hN, hC, hR, hnl, hcl, hrl⟩ := h
  obtain ⟨hS1, hS2, hsl, hsr⟩ := hS
  dsimp only at hN hC hR hnl hcl hrl ⊢
  refine calls_val env mixed Tryz.func28 has28 Tryz.ntmps28 [.agg #[.slice no N.length nc, iv wk, .slice co C.length cc], .slice o S.length c] (by simp) ?_
  have hcm : (C.map Rw.xs).length = C.length := List.length_map ..
  have hsm : (S.map Sy.d).length = S.length := List.length_map ..
  rw [stE, hsm, hcm]
  by_cases h0 : (S.length : Int) > wk
  · rw [if_pos h0]
    repeat'
     conv => whnf
     first
      | refine zA ?_ | refine zB ?_ | refine zC ?_ | refine zD ?_ | refine zE ?_ | refine zF ?_ | refine zG ?_ | refine zH ?_ | refine zJ ?_ | refine zI ?_ | refine splT ?_ | refine splF ?_ | refine splNot ?_
      | ((first | refine splIn (fun hc => ?_) (fun hc => ?_) | refine splD (fun hc => ?_) (fun hc => ?_) | refine splE (fun hc => ?_) (fun hc => ?_) | refine splNE (fun hc => ?_) (fun hc => ?_)) <;> first | (exfalso; omega) | (exfalso; dsimp only at hc; omega) | skip)
    all_goals first | (exfalso; omega) | exact ⟨fun β => rfl, fun w' h => h⟩ | skip
  rw [if_neg h0]
  repeat'
   conv => whnf
   first
    | refine zA ?_ | refine zB ?_ | refine zC ?_ | refine zD ?_ | refine zE ?_ | refine zF ?_ | refine zG ?_ | refine zH ?_ | refine zJ ?_ | refine zI ?_ | refine splT ?_ | refine splF ?_ | refine splNot ?_
    | ((first | refine splIn (fun hc => ?_) (fun hc => ?_) | refine splD (fun hc => ?_) (fun hc => ?_) | refine splE (fun hc => ?_) (fun hc => ?_) | refine splNE (fun hc => ?_) (fun hc => ?_)) <;> first | (exfalso; omega) | (exfalso; dsimp only at hc; omega) | skip)
  all_goals first | (exfalso; omega) | skip
  refine loopE (fun k : Nat => [(1, .v (.slice o S.length c)), (2, .ptr 0 0), (5, .v (iv k))]) (fun _ => [(0, .cells [.v (.slice no N.length nc), .v (iv wk), .v (.slice co C.length cc)] 56)]) (fun k => k ≤ S.length ∧ ((S.map Sy.d).take k).all (stOk N.length C.length) = true) (fun k => S.length - k) 0 ⟨Nat.zero_le _, rfl⟩ ⟨rfl, rfl, rfl, trivial⟩ ⟨rfl, trivial⟩ (fun _ => ⟨rfl, rfl⟩) ?_
  intro k ⟨hk, hall⟩
  rcases Nat.lt_or_ge k S.length with hkl | hkl
  · obtain ⟨⟨sp, so, sc, xs⟩, hx⟩ : ∃ b, S[k]? = some b := ⟨_, List.getElem?_eq_getElem hkl⟩
    obtain ⟨_, ad, rfl, _⟩ := hS1.ptr (by omega)
    have e1 := fun (w' : World) hw' => rd_fld (hS1.below (w' := w') hw') hx
    have hm : (S.map Sy.d)[k]? = some (sp, xs) := by rw [List.getElem?_map, hx]; rfl
    have ht := all_take (p := stOk N.length C.length) hm
    rw [hall, Bool.true_and] at ht
    have hr := hS2 _ (List.mem_of_getElem? hx)
    have hrb := hsr _ (List.mem_of_getElem? hx)
    dsimp only at hr hrb
    repeat'
     conv => whnf
     first
      | refine zA ?_ | refine zB ?_ | refine zC ?_ | refine zD ?_ | refine zE ?_ | refine zF ?_ | refine zG ?_ | refine zH ?_ | refine zJ ?_ | refine zI ?_ | refine splT ?_ | refine splF ?_ | refine splNot ?_
      | ((first | refine splIn (fun hc => ?_) (fun hc => ?_) | refine splD (fun hc => ?_) (fun hc => ?_) | refine splE (fun hc => ?_) (fun hc => ?_) | refine splNE (fun hc => ?_) (fun hc => ?_)) <;> first | (exfalso; omega) | (exfalso; dsimp only at hc; omega) | skip)
      | refine Exists.intro (α := List Value) [iv sp] ⟨⟨rfl, fun w' hw' => e1 w' hw' 0 _ rfl⟩, ?_⟩
      | refine Exists.intro (α := List Value) [.slice so xs.length sc] ⟨⟨rfl, fun w' hw' => e1 w' hw' 1 _ rfl⟩, ?_⟩
      | ((with_reducible show CallEv _ _ 67 _ _ _ _ _); refine callE (k := 67) (fun β w' hbw => In_ok _ _ _ _) ?_)
      | ((with_reducible show CallEv _ _ 68 _ _ _ _ _); refine callE (k := 68) (fun β w' hbw => everyR_ok xs so sc 0 40 _ (hr.below hbw) hrb) ?_)
      | refine splB (fun hb2 => ?_) (fun hb2 => ?_)
    all_goals first
      | (exfalso; omega)
      | (have hg : stOk N.length C.length (sp, xs) = true := by simp only [stOk, inB, Bool.and_eq_true, decide_eq_true_eq]; exact ⟨by omega, by omega, by assumption⟩
         exact ⟨k + 1, ⟨by omega, by rw [ht, hg]⟩, by omega, Ent.weak rfl ⟨rfl, rfl, rfl, trivial⟩ ⟨rfl, trivial⟩ fun _ h => h⟩)
      | (have hg : stOk N.length C.length (sp, xs) = false := by
           rw [Bool.eq_false_iff]; intro hc2; simp only [stOk, inB, Bool.and_eq_true, decide_eq_true_eq] at hc2; first | omega | (rw [hb2] at hc2; cases hc2.2.2)
         rw [all_no hm hg]
         exact ⟨fun β => rfl, fun w' h => h⟩)
      | skip
  · rw [List.take_of_length_le (by rw [hsm]; exact hkl)] at hall
    rw [hall]
    repeat'
     conv => whnf
     first
      | refine zA ?_ | refine zB ?_ | refine zC ?_ | refine zD ?_ | refine zE ?_ | refine zF ?_ | refine zG ?_ | refine zH ?_ | refine zJ ?_ | refine zI ?_ | refine splT ?_ | refine splF ?_ | refine splNot ?_
      | ((first | refine splIn (fun hc => ?_) (fun hc => ?_) | refine splD (fun hc => ?_) (fun hc => ?_) | refine splE (fun hc => ?_) (fun hc => ?_) | refine splNE (fun hc => ?_) (fun hc => ?_)) <;> first | (exfalso; omega) | (exfalso; dsimp only at hc; omega) | skip)
    all_goals first | exact ⟨fun β => rfl, fun w' h => h⟩ | (exfalso; omega) | skip

set_option maxHeartbeats 1000000 in
set_option maxRecDepth 100000 in
theorem stays_ok (x : Cr) (o : Option Addr) (c : Nat) (S : List Sy) (w : World) (h : CrIn x w) (hS : SyIn o c S w) :
    Calls Tryz.prog 106 #[x.v, .slice o S.length c] w fun e w' => e = .returned (iv (stE x.N.length x.CC.length x.wk (S.map Sy.d))) ∧ Below w.heap.size w w' := by
  obtain ⟨no, nc, N, wk, co, cc, C⟩ := x
  obtain ⟨hN, hC, hR, hnl, hcl, hrl⟩ := h
  obtain ⟨hS1, hS2, hsl, hsr⟩ := hS
  dsimp only at hN hC hR hnl hcl hrl ⊢
  refine calls_val env mixed Tryz.func106 has106 Tryz.ntmps106 [.agg #[.slice no N.length nc, iv wk, .slice co C.length cc], .slice o S.length c] (by simp) ?_
  have hcm : (C.map Rw.xs).length = C.length := List.length_map ..
  have hsm : (S.map Sy.d).length = S.length := List.length_map ..
  rw [stE, hsm, hcm]
  by_cases h0 : (S.length : Int) > wk
  · rw [if_pos h0]
    repeat'
     conv => whnf
     first
      | refine zA ?_ | refine zB ?_ | refine zC ?_ | refine zD ?_ | refine zE ?_ | refine zF ?_ | refine zG ?_ | refine zH ?_ | refine zJ ?_ | refine zI ?_ | refine splT ?_ | refine splF ?_ | refine splNot ?_
      | ((first | refine splIn (fun hc => ?_) (fun hc => ?_) | refine splD (fun hc => ?_) (fun hc => ?_) | refine splE (fun hc => ?_) (fun hc => ?_) | refine splNE (fun hc => ?_) (fun hc => ?_)) <;> first | (exfalso; omega) | (exfalso; dsimp only at hc; omega) | skip)
    all_goals first | (exfalso; omega) | exact ⟨fun β => rfl, fun w' h => h⟩ | skip
  rw [if_neg h0]
  repeat'
   conv => whnf
   first
    | refine zA ?_ | refine zB ?_ | refine zC ?_ | refine zD ?_ | refine zE ?_ | refine zF ?_ | refine zG ?_ | refine zH ?_ | refine zJ ?_ | refine zI ?_ | refine splT ?_ | refine splF ?_ | refine splNot ?_
    | ((first | refine splIn (fun hc => ?_) (fun hc => ?_) | refine splD (fun hc => ?_) (fun hc => ?_) | refine splE (fun hc => ?_) (fun hc => ?_) | refine splNE (fun hc => ?_) (fun hc => ?_)) <;> first | (exfalso; omega) | (exfalso; dsimp only at hc; omega) | skip)
    | ((with_reducible show CallEv _ _ 140 _ _ _ _ _); refine callI env mixed 1000 [] Tryz.func140 has140 Tryz.ntmps140 (Nat.le_of_ble_eq_true rfl) rfl rfl rfl ?_)
    | ((with_reducible show CallEv _ _ 164 _ _ _ _ _); refine callI env mixed 2000 [] Tryz.func164 has164 Tryz.ntmps164 (Nat.le_of_ble_eq_true rfl) rfl rfl rfl ?_)
    | ((with_reducible show CallEv _ _ 173 _ _ _ _ _); refine callI env mixed 3000 [] Tryz.func173 has173 Tryz.ntmps173 (Nat.le_of_ble_eq_true rfl) rfl rfl rfl ?_)
  all_goals first | (exfalso; omega) | skip
  conv => whnf
  refine loopE (fun k : Nat => [(0, .v (.slice o S.length c)), (1, .fn (.func 165) [.ptr 1 0]), (7, .v (iv S.length)), (8, .v (iv k))]) (fun _ => [(1, .cells [.fn (.func 139) [.ptr 0 0]] 175), (0, .cells [.v (.slice no N.length nc), .v (iv wk), .v (.slice co C.length cc)] 63)]) (fun k => k ≤ S.length ∧ ((S.map Sy.d).take k).all (stOk N.length C.length) = true) (fun k => S.length - k) 0 ⟨Nat.zero_le _, rfl⟩ ⟨rfl, rfl, rfl, rfl, trivial⟩ ⟨rfl, rfl, trivial⟩ (fun _ => ⟨rfl, rfl⟩) ?_
  intro k ⟨hk, hall⟩
  rcases Nat.lt_or_ge k S.length with hkl | hkl
  · obtain ⟨⟨sp, so, sc, xs⟩, hx⟩ : ∃ b, S[k]? = some b := ⟨_, List.getElem?_eq_getElem hkl⟩
    obtain ⟨_, ad, rfl, _⟩ := hS1.ptr (by omega)
    have e0 := fun (w' : World) hw' => rd_ati (hS1.below (w' := w') hw') hx
    have hm : (S.map Sy.d)[k]? = some (sp, xs) := by rw [List.getElem?_map, hx]; rfl
    have ht := all_take (p := stOk N.length C.length) hm
    rw [hall, Bool.true_and] at ht
    have hr := hS2 _ (List.mem_of_getElem? hx)
    have hrb := hsr _ (List.mem_of_getElem? hx)
    dsimp only at hr hrb
    repeat'
     conv => whnf
     first
      | refine zA ?_ | refine zB ?_ | refine zC ?_ | refine zD ?_ | refine zE ?_ | refine zF ?_ | refine zG ?_ | refine zH ?_ | refine zJ ?_ | refine zI ?_ | refine splT ?_ | refine splF ?_ | refine splNot ?_
      | ((first | refine splIn (fun hc => ?_) (fun hc => ?_) | refine splD (fun hc => ?_) (fun hc => ?_) | refine splE (fun hc => ?_) (fun hc => ?_) | refine splNE (fun hc => ?_) (fun hc => ?_)) <;> first | (exfalso; omega) | (exfalso; dsimp only at hc; omega) | skip)
      | refine Exists.intro (α := List Value) [iv sp, .slice so xs.length sc] ⟨⟨rfl, fun w' hw' => e0 w' hw'⟩, ?_⟩
      | ((with_reducible show CallEv _ _ 165 _ _ _ _ _); refine callI env mixed 4000 [0,1,5,7,8] Tryz.func165 has165 Tryz.ntmps165 (Nat.le_of_ble_eq_true rfl) rfl rfl rfl ?_)
      | ((with_reducible show CallEv _ _ 139 _ _ _ _ _); refine callI env mixed 5000 [] Tryz.func139 has139 Tryz.ntmps139 (Nat.le_of_ble_eq_true rfl) rfl rfl rfl ?_)
      | ((with_reducible show CallEv _ _ 84 _ _ _ _ _); refine callE (k := 84) (fun β w' hbw => within_ok _ _ _ _) ?_)
      | ((with_reducible show CallEv _ _ 96 _ _ _ _ _); refine callE (k := 96) (fun β w' hbw => every_ok xs so sc 0 40 _ (hr.below hbw) hrb) ?_)
      | refine splB (fun hb2 => ?_) (fun hb2 => ?_)
    all_goals first
      | (exfalso; omega)
      | (have hg : stOk N.length C.length (sp, xs) = true := by simp only [stOk, inB, Bool.and_eq_true, decide_eq_true_eq]; exact ⟨by omega, by omega, by assumption⟩
         exact ⟨k + 1, ⟨by omega, by rw [ht, hg]⟩, by omega, Ent.weak rfl ⟨rfl, rfl, rfl, rfl, trivial⟩ ⟨rfl, rfl, trivial⟩ fun _ h => h⟩)
      | (have hg : stOk N.length C.length (sp, xs) = false := by
           rw [Bool.eq_false_iff]; intro hc2; simp only [stOk, inB, Bool.and_eq_true, decide_eq_true_eq] at hc2; first | omega | (rw [hb2] at hc2; cases hc2.2.2)
         rw [all_no hm hg]
         exact ⟨fun β => rfl, fun w' h => h⟩)
      | skip
  · rw [List.take_of_length_le (by rw [hsm]; exact hkl)] at hall
    rw [hall]
    repeat'
     conv => whnf
     first
      | refine zA ?_ | refine zB ?_ | refine zC ?_ | refine zD ?_ | refine zE ?_ | refine zF ?_ | refine zG ?_ | refine zH ?_ | refine zJ ?_ | refine zI ?_ | refine splT ?_ | refine splF ?_ | refine splNot ?_
      | ((first | refine splIn (fun hc => ?_) (fun hc => ?_) | refine splD (fun hc => ?_) (fun hc => ?_) | refine splE (fun hc => ?_) (fun hc => ?_) | refine splNE (fun hc => ?_) (fun hc => ?_)) <;> first | (exfalso; omega) | (exfalso; dsimp only at hc; omega) | skip)
    all_goals first | exact ⟨fun β => rfl, fun w' h => h⟩ | (exfalso; omega) | skip

/-- The error of a course with stays. -/
def ckE (N : List Int) (wk : Int) (CC : List (List Int)) (SS : List (Int × List Int)) : Int := if crOk N wk CC = true then stE N.length CC.length wk SS else 1
theorem check_ok (x : Cr) (o : Option Addr) (c : Nat) (S : List Sy) (w : World) (h : CrIn x w) (hS : SyIn o c S w) :
    Calls Tryz.prog 77 #[x.v, .slice o S.length c] w fun e w' => e = .returned (iv (ckE x.N x.wk x.CC (S.map Sy.d))) ∧ Below w.heap.size w w' := by
  refine calls_val env mixed Tryz.func77 has77 Tryz.ntmps77 [x.v, .slice o S.length c] (by simp) ?_
  have hv := fun w' hb => valid_ok x w' (h.below hb)
  have hs := fun w' hb => stays_ok x o c S w' (h.below hb) (hS.below hb)
  obtain ⟨no, nc, N, wk, co, cc, C⟩ := x
  dsimp only at hv hs ⊢
  rw [ckE]
  cases hc : crOk N wk (C.map Rw.xs) with
  | true =>
    rw [hc] at hv
    rw [if_pos rfl]
    repeat'
     conv => whnf
     first
      | refine zA ?_ | refine zB ?_ | refine zC ?_ | refine zD ?_ | refine zE ?_ | refine zF ?_ | refine zG ?_ | refine zH ?_ | refine zJ ?_ | refine zI ?_ | refine splT ?_ | refine splF ?_ | refine splNot ?_
      | ((first | refine splIn (fun hc => ?_) (fun hc => ?_) | refine splD (fun hc => ?_) (fun hc => ?_) | refine splE (fun hc => ?_) (fun hc => ?_) | refine splNE (fun hc => ?_) (fun hc => ?_)) <;> first | (exfalso; omega) | (exfalso; dsimp only at hc; omega) | skip)
      | ((with_reducible show CallEv _ _ 82 _ _ _ _ _); refine callE (k := 82) (fun β w' hbw => hv _ hbw) ?_)
      | ((with_reducible show CallEv _ _ 106 _ _ _ _ _); refine callE (k := 106) (fun β w' hbw => hs _ hbw) ?_)
    all_goals exact ⟨fun β => rfl, fun w' h => h⟩
  | false =>
    rw [hc] at hv
    rw [if_neg (by decide)]
    repeat'
     conv => whnf
     first
      | refine zA ?_ | refine zB ?_ | refine zC ?_ | refine zD ?_ | refine zE ?_ | refine zF ?_ | refine zG ?_ | refine zH ?_ | refine zJ ?_ | refine zI ?_ | refine splT ?_ | refine splF ?_ | refine splNot ?_
      | ((first | refine splIn (fun hc => ?_) (fun hc => ?_) | refine splD (fun hc => ?_) (fun hc => ?_) | refine splE (fun hc => ?_) (fun hc => ?_) | refine splNE (fun hc => ?_) (fun hc => ?_)) <;> first | (exfalso; omega) | (exfalso; dsimp only at hc; omega) | skip)
      | ((with_reducible show CallEv _ _ 82 _ _ _ _ _); refine callE (k := 82) (fun β w' hbw => hv _ hbw) ?_)
    all_goals exact ⟨fun β => rfl, fun w' h => h⟩

def thB (N : List Int) (CC : List (List Int)) : Bool := CC.all (fun l => decide (l.length ≤ 10)) && (decide (N.length ≤ 10) && decide (CC.length ≤ 25))
def shB (SS : List (Int × List Int)) : Bool := SS.all (fun s => decide (s.2.length ≤ 10)) && decide (SS.length ≤ 62)
/-- A course as it comes: of any size. -/
structure CrX (x : Cr) (w : World) : Prop where
  n : Rd 1 iF (.slice x.no x.N.length x.nc) x.N w
  c : Rd 1 Rw.cs (.slice x.co x.C.length x.cc) x.C w
  r : RR x.C w
  nl : x.N.length ≤ 9223372036854775807
  cl : x.C.length ≤ 9223372036854775807
  rl : ∀ r ∈ x.C, r.xs.length ≤ 9223372036854775807
structure SyX (o : Option Addr) (c : Nat) (S : List Sy) (w : World) : Prop where
  s : Rd 2 Sy.cs (.slice o S.length c) S w
  r : ∀ s ∈ S, Rd 1 iF (.slice s.o s.xs.length s.c) s.xs w
  sl : S.length ≤ 9223372036854775807
  rl : ∀ s ∈ S, s.xs.length ≤ 9223372036854775807
theorem CrX.below {x : Cr} {w w' : World} (h : CrX x w) (hb : Below w.heap.size w w') : CrX x w' := ⟨h.n.below hb, h.c.below hb, h.r.below hb, h.nl, h.cl, h.rl⟩
theorem SyX.below {o : Option Addr} {c : Nat} {S : List Sy} {w w' : World} (h : SyX o c S w) (hb : Below w.heap.size w w') : SyX o c S w' := ⟨h.s.below hb, fun s hs => (h.r s hs).below hb, h.sl, h.rl⟩
theorem CrX.cin {x : Cr} {w : World} (h : CrX x w) (ht : thB x.N x.CC = true) : CrIn x w := by
  simp only [thB, Bool.and_eq_true, decide_eq_true_eq, List.all_eq_true, List.mem_map, forall_exists_index, and_imp, forall_apply_eq_imp_iff₂, List.length_map] at ht
  exact ⟨h.n, h.c, h.r, by omega, by omega, fun r hr => by have := ht.1 r hr; omega⟩
theorem SyX.sin {o : Option Addr} {c : Nat} {S : List Sy} {w : World} (h : SyX o c S w) (ht : shB (S.map Sy.d) = true) : SyIn o c S w := by
  simp only [shB, Bool.and_eq_true, decide_eq_true_eq, List.all_eq_true, List.mem_map, forall_exists_index, and_imp, forall_apply_eq_imp_iff₂, List.length_map] at ht
  exact ⟨h.s, h.r, by omega, fun r hr => by have := ht.1 r hr; omega⟩

set_option maxHeartbeats 1000000 in
set_option maxRecDepth 100000 in
theorem thin_ok (x : Cr) (w : World) (h : CrX x w) : Calls Tryz.prog 34 #[x.v] w fun e w' => e = .returned (.bool (thB x.N x.CC)) ∧ Below w.heap.size w w' := by
  obtain ⟨no, nc, N, wk, co, cc, C⟩ := x
  obtain ⟨hN, hC, hR, hnl, hcl, hrl⟩ := h
  dsimp only at hN hC hR hnl hcl hrl ⊢
  refine calls_val env mixed Tryz.func34 has34 Tryz.ntmps34 [.agg #[.slice no N.length nc, iv wk, .slice co C.length cc]] (by simp) ?_
  have hcm : (C.map Rw.xs).length = C.length := List.length_map ..
  rw [thB, hcm]
  repeat'
   conv => whnf
   first
    | refine zA ?_ | refine zB ?_ | refine zC ?_ | refine zD ?_ | refine zE ?_ | refine zF ?_ | refine zG ?_ | refine zH ?_ | refine zJ ?_ | refine zI ?_ | refine splT ?_ | refine splF ?_ | refine splNot ?_
    | ((first | refine splIn (fun hc => ?_) (fun hc => ?_) | refine splD (fun hc => ?_) (fun hc => ?_) | refine splE (fun hc => ?_) (fun hc => ?_) | refine splNE (fun hc => ?_) (fun hc => ?_)) <;> first | (exfalso; omega) | (exfalso; dsimp only at hc; omega) | skip)
  refine loopE (fun k : Nat => [(1, .ptr 0 0), (3, .v (iv k))]) (fun _ => [(0, .cells [.v (.slice no N.length nc), .v (iv wk), .v (.slice co C.length cc)] 56)]) (fun k => k ≤ C.length ∧ ((C.map Rw.xs).take k).all (fun l => decide (l.length ≤ 10)) = true) (fun k => C.length - k) 0 ⟨Nat.zero_le _, rfl⟩ ⟨rfl, rfl, trivial⟩ ⟨rfl, trivial⟩ (fun _ => ⟨rfl, rfl⟩) ?_
  intro k ⟨hk, hall⟩
  rcases Nat.lt_or_ge k C.length with hkl | hkl
  · obtain ⟨⟨ro, rc, xs⟩, hx⟩ : ∃ b, C[k]? = some b := ⟨_, List.getElem?_eq_getElem hkl⟩
    obtain ⟨_, ad, rfl, _⟩ := hC.ptr (by omega)
    have e0 := fun (w' : World) hw' => rd_ati (hC.below (w' := w') hw') hx
    have hm : (C.map Rw.xs)[k]? = some xs := by rw [List.getElem?_map, hx]; rfl
    have ht := all_take (p := fun l : List Int => decide (l.length ≤ 10)) hm
    rw [hall, Bool.true_and] at ht
    have hrb := hrl _ (List.mem_of_getElem? hx)
    dsimp only at hrb
    repeat'
     conv => whnf
     first
      | refine zA ?_ | refine zB ?_ | refine zC ?_ | refine zD ?_ | refine zE ?_ | refine zF ?_ | refine zG ?_ | refine zH ?_ | refine zJ ?_ | refine zI ?_ | refine splT ?_ | refine splF ?_ | refine splNot ?_
      | ((first | refine splIn (fun hc => ?_) (fun hc => ?_) | refine splD (fun hc => ?_) (fun hc => ?_) | refine splE (fun hc => ?_) (fun hc => ?_) | refine splNE (fun hc => ?_) (fun hc => ?_)) <;> first | (exfalso; omega) | (exfalso; dsimp only at hc; omega) | skip)
      | refine Exists.intro (α := List Value) [.slice ro xs.length rc] ⟨⟨rfl, fun w' hw' => e0 w' hw'⟩, ?_⟩
    all_goals first
      | (exfalso; omega)
      | exact ⟨k + 1, ⟨by omega, by rw [ht, decide_eq_true_eq]; omega⟩, by omega, Ent.weak rfl ⟨rfl, rfl, trivial⟩ ⟨rfl, trivial⟩ fun _ h => h⟩
      | (rw [all_no (p := fun l : List Int => decide (l.length ≤ 10)) hm (by rw [decide_eq_false_iff_not]; omega)]
         exact ⟨fun β => rfl, fun w' h => h⟩)
      | skip
  · rw [List.take_of_length_le (by rw [hcm]; exact hkl)] at hall
    rw [hall]
    repeat'
     conv => whnf
     first
      | refine zA ?_ | refine zB ?_ | refine zC ?_ | refine zD ?_ | refine zE ?_ | refine zF ?_ | refine zG ?_ | refine zH ?_ | refine zJ ?_ | refine zI ?_ | refine splT ?_ | refine splF ?_ | refine splNot ?_
      | ((first | refine splIn (fun hc => ?_) (fun hc => ?_) | refine splD (fun hc => ?_) (fun hc => ?_) | refine splE (fun hc => ?_) (fun hc => ?_) | refine splNE (fun hc => ?_) (fun hc => ?_)) <;> first | (exfalso; omega) | (exfalso; dsimp only at hc; omega) | skip)
    all_goals first | exact ⟨fun β => congrArg Value.bool (by rw [Bool.true_and, ← Bool.decide_and, decide_eq_decide]; omega), fun w' h => h⟩ | exact ⟨fun β => congrArg Value.bool (by rw [Bool.true_and, ← Bool.decide_and, eq_comm, decide_eq_false_iff_not]; omega), fun w' h => h⟩ | exact ⟨fun β => congrArg Value.bool (by rw [Bool.true_and, decide_eq_decide]; omega), fun w' h => h⟩ | (exfalso; omega) | skip

set_option maxHeartbeats 1000000 in
set_option maxRecDepth 100000 in
theorem short_ok (o : Option Addr) (c : Nat) (S : List Sy) (w : World) (h : SyX o c S w) : Calls Tryz.prog 27 #[.slice o S.length c] w fun e w' => e = .returned (.bool (shB (S.map Sy.d))) ∧ Below w.heap.size w w' := by
  obtain ⟨hS1, hS2, hsl, hsr⟩ := h
  refine calls_val env mixed Tryz.func27 has27 Tryz.ntmps27 [.slice o S.length c] (by simp) ?_
  have hsm : (S.map Sy.d).length = S.length := List.length_map ..
  rw [shB, hsm]
  repeat'
   conv => whnf
   first
    | refine zA ?_ | refine zB ?_ | refine zC ?_ | refine zD ?_ | refine zE ?_ | refine zF ?_ | refine zG ?_ | refine zH ?_ | refine zJ ?_ | refine zI ?_ | refine splT ?_ | refine splF ?_ | refine splNot ?_
    | ((first | refine splIn (fun hc => ?_) (fun hc => ?_) | refine splD (fun hc => ?_) (fun hc => ?_) | refine splE (fun hc => ?_) (fun hc => ?_) | refine splNE (fun hc => ?_) (fun hc => ?_)) <;> first | (exfalso; omega) | (exfalso; dsimp only at hc; omega) | skip)
  refine loopE (fun k : Nat => [(0, .v (.slice o S.length c)), (3, .v (iv k))]) (fun _ => []) (fun k => k ≤ S.length ∧ ((S.map Sy.d).take k).all (fun s => decide (s.2.length ≤ 10)) = true) (fun k => S.length - k) 0 ⟨Nat.zero_le _, rfl⟩ ⟨rfl, rfl, trivial⟩ trivial (fun _ => ⟨rfl, rfl⟩) ?_
  intro k ⟨hk, hall⟩
  rcases Nat.lt_or_ge k S.length with hkl | hkl
  · obtain ⟨⟨sp, so, sc, xs⟩, hx⟩ : ∃ b, S[k]? = some b := ⟨_, List.getElem?_eq_getElem hkl⟩
    obtain ⟨_, ad, rfl, _⟩ := hS1.ptr (by omega)
    have e1 := fun (w' : World) hw' => rd_fld (hS1.below (w' := w') hw') hx
    have hm : (S.map Sy.d)[k]? = some (sp, xs) := by rw [List.getElem?_map, hx]; rfl
    have ht := all_take (p := fun s : Int × List Int => decide (s.2.length ≤ 10)) hm
    rw [hall, Bool.true_and] at ht
    have hrb := hsr _ (List.mem_of_getElem? hx)
    dsimp only at hrb
    repeat'
     conv => whnf
     first
      | refine zA ?_ | refine zB ?_ | refine zC ?_ | refine zD ?_ | refine zE ?_ | refine zF ?_ | refine zG ?_ | refine zH ?_ | refine zJ ?_ | refine zI ?_ | refine splT ?_ | refine splF ?_ | refine splNot ?_
      | ((first | refine splIn (fun hc => ?_) (fun hc => ?_) | refine splD (fun hc => ?_) (fun hc => ?_) | refine splE (fun hc => ?_) (fun hc => ?_) | refine splNE (fun hc => ?_) (fun hc => ?_)) <;> first | (exfalso; omega) | (exfalso; dsimp only at hc; omega) | skip)
      | refine Exists.intro (α := List Value) [.slice so xs.length sc] ⟨⟨rfl, fun w' hw' => e1 w' hw' 1 _ rfl⟩, ?_⟩
    all_goals first
      | (exfalso; omega)
      | exact ⟨k + 1, ⟨by omega, by rw [ht, decide_eq_true_eq]; dsimp only; omega⟩, by omega, Ent.weak rfl ⟨rfl, rfl, trivial⟩ trivial fun _ h => h⟩
      | (rw [all_no (p := fun s : Int × List Int => decide (s.2.length ≤ 10)) hm (by rw [decide_eq_false_iff_not]; dsimp only; omega)]
         exact ⟨fun β => rfl, fun w' h => h⟩)
      | skip
  · rw [List.take_of_length_le (by rw [hsm]; exact hkl)] at hall
    rw [hall]
    repeat'
     conv => whnf
     first
      | refine zA ?_ | refine zB ?_ | refine zC ?_ | refine zD ?_ | refine zE ?_ | refine zF ?_ | refine zG ?_ | refine zH ?_ | refine zJ ?_ | refine zI ?_ | refine splT ?_ | refine splF ?_ | refine splNot ?_
      | ((first | refine splIn (fun hc => ?_) (fun hc => ?_) | refine splD (fun hc => ?_) (fun hc => ?_) | refine splE (fun hc => ?_) (fun hc => ?_) | refine splNE (fun hc => ?_) (fun hc => ?_)) <;> first | (exfalso; omega) | (exfalso; dsimp only at hc; omega) | skip)
    all_goals first | exact ⟨fun β => congrArg Value.bool (by rw [Bool.true_and, ← Bool.decide_and, decide_eq_decide]; omega), fun w' h => h⟩ | exact ⟨fun β => congrArg Value.bool (by rw [Bool.true_and, ← Bool.decide_and, eq_comm, decide_eq_false_iff_not]; omega), fun w' h => h⟩ | exact ⟨fun β => congrArg Value.bool (by rw [Bool.true_and, decide_eq_decide]; omega), fun w' h => h⟩ | (exfalso; omega) | skip
end Go.Proofs.YtpleibfohjbneaaGreat
