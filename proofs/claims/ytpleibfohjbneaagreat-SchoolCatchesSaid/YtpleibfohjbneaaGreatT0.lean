/- Courses of any size: whether one is right. -/
import Derived.Test.YtpleibfohjbneaaGreatSI
namespace Go.Proofs.YtpleibfohjbneaaGreat
open Go Tx Go.RowKit
set_option linter.unusedSimpArgs false
set_option linter.unusedVariables false

set_option maxRecDepth 100000 in
theorem everyRA_ok (L : List Int) (o : Option Addr) (c : Nat) (lo hi : Int) (w : World) (hrd : Rd 1 iF (.slice o L.length c) L w) (hl : L.length ≤ 9223372036854775807) :
    Calls Tryz.prog 68 #[.slice o L.length c, iv lo, iv hi] w fun e w' => e = .returned (.bool (evB L lo hi)) ∧ Below w.heap.size w w' := by
  refine calls_val env mixed Tryz.func68 has68 Tryz.ntmps68 [.slice o L.length c, iv lo, iv hi] (by simp) ?_
  repeat'
   conv => whnf
   first
    | refine zA ?_ | refine zB ?_ | refine zC ?_ | refine zD ?_ | refine zE ?_ | refine zF ?_ | refine zG ?_ | refine zH ?_ | refine zJ ?_ | refine zI ?_ | refine splT ?_ | refine splF ?_ | refine splNot ?_
    | ((first | refine splIn (fun hc => ?_) (fun hc => ?_) | refine splD (fun hc => ?_) (fun hc => ?_) | refine splE (fun hc => ?_) (fun hc => ?_) | refine splNE (fun hc => ?_) (fun hc => ?_)) <;> first | (exfalso; omega) | (exfalso; dsimp only at hc; omega) | skip)
  refine loopE (fun k : Nat => [(0, .v (.slice o L.length c)), (1, .v (iv lo)), (2, .v (iv hi)), (7, .v (iv k))]) (fun _ => []) (fun k => k ≤ L.length ∧ evB (L.take k) lo hi = true) (fun k => L.length - k) 0 ⟨Nat.zero_le _, rfl⟩ ⟨rfl, rfl, rfl, rfl, trivial⟩ trivial (fun _ => ⟨rfl, rfl⟩) ?_
  intro k ⟨hk, hall⟩
  rcases Nat.lt_or_ge k L.length with hkl | hkl
  · obtain ⟨x, hx⟩ : ∃ b, L[k]? = some b := ⟨_, List.getElem?_eq_getElem hkl⟩
    obtain ⟨_, ad, rfl, _⟩ := hrd.ptr (by omega)
    have e0 := fun (w' : World) hw' => rd_ati (hrd.below (w' := w') hw') hx
    have ht := evB_take (lo := lo) (hi := hi) hx
    rw [hall, Bool.true_and] at ht
    have hv := fun w' => In_ok x lo hi w'
    cases hg : inB x lo hi with
    | true =>
      rw [hg] at hv ht
      repeat'
       conv => whnf
       first
        | refine zA ?_ | refine zB ?_ | refine zC ?_ | refine zD ?_ | refine zE ?_ | refine zF ?_ | refine zG ?_ | refine zH ?_ | refine zJ ?_ | refine zI ?_ | refine splT ?_ | refine splF ?_ | refine splNot ?_
        | ((first | refine splIn (fun hc => ?_) (fun hc => ?_) | refine splD (fun hc => ?_) (fun hc => ?_) | refine splE (fun hc => ?_) (fun hc => ?_) | refine splNE (fun hc => ?_) (fun hc => ?_)) <;> first | (exfalso; omega) | (exfalso; dsimp only at hc; omega) | skip)
        | refine Exists.intro (α := List Value) [iv x] ⟨⟨rfl, fun w' hw' => e0 w' hw'⟩, ?_⟩
        | ((with_reducible show CallEv _ _ 67 _ _ _ _ _); refine callE (k := 67) (fun β w' hbw => hv _) ?_)
      exact ⟨k + 1, ⟨by omega, ht⟩, by omega, Ent.weak rfl ⟨rfl, rfl, rfl, rfl, trivial⟩ trivial fun _ h => h⟩
    | false =>
      rw [hg] at hv ht
      rw [evB_no hx hg]
      repeat'
       conv => whnf
       first
        | refine zA ?_ | refine zB ?_ | refine zC ?_ | refine zD ?_ | refine zE ?_ | refine zF ?_ | refine zG ?_ | refine zH ?_ | refine zJ ?_ | refine zI ?_ | refine splT ?_ | refine splF ?_ | refine splNot ?_
        | ((first | refine splIn (fun hc => ?_) (fun hc => ?_) | refine splD (fun hc => ?_) (fun hc => ?_) | refine splE (fun hc => ?_) (fun hc => ?_) | refine splNE (fun hc => ?_) (fun hc => ?_)) <;> first | (exfalso; omega) | (exfalso; dsimp only at hc; omega) | skip)
        | refine Exists.intro (α := List Value) [iv x] ⟨⟨rfl, fun w' hw' => e0 w' hw'⟩, ?_⟩
        | ((with_reducible show CallEv _ _ 67 _ _ _ _ _); refine callE (k := 67) (fun β w' hbw => hv _) ?_)
      all_goals first | exact ⟨fun β => rfl, fun w' h => h⟩ | (exfalso; omega) | skip
  · rw [List.take_of_length_le hkl] at hall
    rw [hall]
    repeat'
     conv => whnf
     first
      | refine zA ?_ | refine zB ?_ | refine zC ?_ | refine zD ?_ | refine zE ?_ | refine zF ?_ | refine zG ?_ | refine zH ?_ | refine zJ ?_ | refine zI ?_ | refine splT ?_ | refine splF ?_ | refine splNot ?_
      | ((first | refine splIn (fun hc => ?_) (fun hc => ?_) | refine splD (fun hc => ?_) (fun hc => ?_) | refine splE (fun hc => ?_) (fun hc => ?_) | refine splNE (fun hc => ?_) (fun hc => ?_)) <;> first | (exfalso; omega) | (exfalso; dsimp only at hc; omega) | skip)
    all_goals first | exact ⟨fun β => rfl, fun w' h => h⟩ | (exfalso; omega) | skip

set_option maxHeartbeats 1000000 in
set_option maxRecDepth 100000 in
theorem RightCourseA_ok (x : Cr) (w : World) (h : CrX x w) : Calls Tryz.prog 26 #[x.v] w fun e w' => e = .returned (.bool (crOk x.N x.wk x.CC)) ∧ Below w.heap.size w w' := by
  obtain ⟨no, nc, N, wk, co, cc, C⟩ := x
  obtain ⟨hN, hC, hR, hnl, hcl, hrl⟩ := h
  dsimp only at hN hC hR hnl hcl hrl ⊢
  refine calls_val env mixed Tryz.func26 has26 Tryz.ntmps26 [.agg #[.slice no N.length nc, iv wk, .slice co C.length cc]] (by simp) ?_
  have hcm : (C.map Rw.xs).length = C.length := List.length_map ..
  repeat'
   conv => whnf
   first
    | refine zA ?_ | refine zB ?_ | refine zC ?_ | refine zD ?_ | refine zE ?_ | refine zF ?_ | refine zG ?_ | refine zH ?_ | refine zJ ?_ | refine zI ?_ | refine splT ?_ | refine splF ?_ | refine splNot ?_
    | ((first | refine splIn (fun hc => ?_) (fun hc => ?_) | refine splD (fun hc => ?_) (fun hc => ?_) | refine splE (fun hc => ?_) (fun hc => ?_) | refine splNE (fun hc => ?_) (fun hc => ?_)) <;> first | (exfalso; omega) | (exfalso; dsimp only at hc; omega) | skip)
    | ((with_reducible show CallEv _ _ 67 _ _ _ _ _); refine callE (k := 67) (fun β w' hbw => In_ok _ _ _ _) ?_)
    | ((with_reducible show CallEv _ _ 68 _ _ _ _ _); refine callE (k := 68) (fun β w' hbw => everyRA_ok N no nc 0 2000 _ (hN.below hbw) hnl) ?_)
    | refine splB (fun hb => ?_) (fun hb => ?_)
  all_goals first | exact ⟨fun β => congrArg Value.bool (by simp [crOk, inB, *]; done), fun w' h => h⟩ | (exfalso; omega) | skip
  have hn : crOk N wk (C.map Rw.xs) = (C.map Rw.xs).all (rowOk N.length) := by
    simp only [crOk, inB, hcm, hb]
    rw [decide_eq_true (by omega), decide_eq_true (by omega), decide_eq_true (by omega), decide_eq_true (by omega), decide_eq_true (by omega), decide_eq_true (by omega)]
    rfl
  refine loopE (fun k : Nat => [(1, .ptr 0 0), (3, .v (iv k))]) (fun _ => [(0, .cells [.v (.slice no N.length nc), .v (iv wk), .v (.slice co C.length cc)] 56)]) (fun k => k ≤ C.length ∧ ((C.map Rw.xs).take k).all (rowOk N.length) = true) (fun k => C.length - k) 0 ⟨Nat.zero_le _, rfl⟩ ⟨rfl, rfl, trivial⟩ ⟨rfl, trivial⟩ (fun _ => ⟨rfl, rfl⟩) ?_
  intro k ⟨hk, hall⟩
  rcases Nat.lt_or_ge k C.length with hkl | hkl
  · obtain ⟨⟨ro, rc, xs⟩, hx⟩ : ∃ b, C[k]? = some b := ⟨_, List.getElem?_eq_getElem hkl⟩
    obtain ⟨_, ad, rfl, _⟩ := hC.ptr (by omega)
    have e0 := fun (w' : World) hw' => rd_ati (hC.below (w' := w') hw') hx
    have hm : (C.map Rw.xs)[k]? = some xs := by rw [List.getElem?_map, hx]; rfl
    have ht := all_take (p := rowOk N.length) hm
    rw [hall, Bool.true_and] at ht
    have hr := hR _ (List.mem_of_getElem? hx)
    have hrb := hrl _ (List.mem_of_getElem? hx)
    dsimp only at hr hrb
    repeat'
     conv => whnf
     first
      | refine zA ?_ | refine zB ?_ | refine zC ?_ | refine zD ?_ | refine zE ?_ | refine zF ?_ | refine zG ?_ | refine zH ?_ | refine zJ ?_ | refine zI ?_ | refine splT ?_ | refine splF ?_ | refine splNot ?_
      | ((first | refine splIn (fun hc => ?_) (fun hc => ?_) | refine splD (fun hc => ?_) (fun hc => ?_) | refine splE (fun hc => ?_) (fun hc => ?_) | refine splNE (fun hc => ?_) (fun hc => ?_)) <;> first | (exfalso; omega) | (exfalso; dsimp only at hc; omega) | skip)
      | refine Exists.intro (α := List Value) [.slice ro xs.length rc] ⟨⟨rfl, fun w' hw' => e0 w' hw'⟩, ?_⟩
      | ((with_reducible show CallEv _ _ 68 _ _ _ _ _); refine callE (k := 68) (fun β w' hbw => everyRA_ok xs ro rc 0 2000 _ (hr.below hbw) hrb) ?_)
      | refine splB (fun hb2 => ?_) (fun hb2 => ?_)
    all_goals first
      | (exfalso; omega)
      | (have hg : rowOk N.length xs = true := by simp only [rowOk, Bool.and_eq_true, decide_eq_true_eq]; exact ⟨by omega, by assumption⟩
         exact ⟨k + 1, ⟨by omega, by rw [ht, hg]⟩, by omega, Ent.weak rfl ⟨rfl, rfl, trivial⟩ ⟨rfl, trivial⟩ fun _ h => h⟩)
      | (have hg : rowOk N.length xs = false := by
           rw [Bool.eq_false_iff]; intro hc2; simp only [rowOk, Bool.and_eq_true, decide_eq_true_eq] at hc2; first | omega | (rw [hb2] at hc2; cases hc2.2)
         rw [hn, all_no hm hg]
         exact ⟨fun β => rfl, fun w' h => h⟩)
      | skip
  · rw [List.take_of_length_le (by rw [hcm]; exact hkl)] at hall
    rw [hn, hall]
    repeat'
     conv => whnf
     first
      | refine zA ?_ | refine zB ?_ | refine zC ?_ | refine zD ?_ | refine zE ?_ | refine zF ?_ | refine zG ?_ | refine zH ?_ | refine zJ ?_ | refine zI ?_ | refine splT ?_ | refine splF ?_ | refine splNot ?_
      | ((first | refine splIn (fun hc => ?_) (fun hc => ?_) | refine splD (fun hc => ?_) (fun hc => ?_) | refine splE (fun hc => ?_) (fun hc => ?_) | refine splNE (fun hc => ?_) (fun hc => ?_)) <;> first | (exfalso; omega) | (exfalso; dsimp only at hc; omega) | skip)
    all_goals first | exact ⟨fun β => rfl, fun w' h => h⟩ | (exfalso; omega) | skip

theorem thB_ofA {N : List Int} {wk : Int} {CC : List (List Int)} (h : crOk N wk CC = true) : thB N CC = true := by
  simp only [crOk, inB, rowOk, Bool.and_eq_true, decide_eq_true_eq, List.all_eq_true] at h
  simp only [thB, Bool.and_eq_true, decide_eq_true_eq, List.all_eq_true]
  refine ⟨fun l hl => ?_, by omega, by omega⟩
  have := h.2 l hl
  omega
end Go.Proofs.YtpleibfohjbneaaGreat
