/- Courses of any size; the stays of children said in the program's types; the errors of children and a group: what these functions return. -/
import Derived.Test.YtpleibfohjbneaaGreatSI
namespace Go.Proofs.YtpleibfohjbneaaGreat
open Go Tx Go.RowKit
set_option linter.unusedSimpArgs false
set_option linter.unusedVariables false

set_option maxRecDepth 100000 in
theorem everyRX_ok (L : List Int) (o : Option Addr) (c : Nat) (lo hi : Int) (w : World) (hrd : Rd 1 iF (.slice o L.length c) L w) (hl : L.length ≤ 9223372036854775807) :
    Calls Tryz.prog 68 #[.slice o L.length c, iv lo, iv hi] w fun e w' => e = .returned (.bool (evB L lo hi)) ∧ Below w.heap.size w w' := by
  refine calls_val env mixed Tryz.func68 has68 Tryz.ntmps68 [.slice o L.length c, iv lo, iv hi] (by simp) ?_
  repeat'
   conv => whnf
   first
    | refine zA ?_ | refine zB ?_ | refine zC ?_ | refine zD ?_ | refine zE ?_ | refine zF ?_ | refine zG ?_ | refine zH ?_ | refine zJ ?_ | refine zI ?_ | refine splT ?_ | refine splF ?_ | refine splNot ?_
    | ((first | refine splIn (fun hc => ?_) (fun hc => ?_) | refine splD (fun hc => ?_) (fun hc => ?_) | refine splE (fun hc => ?_) (fun hc => ?_) | refine splNE (fun hc => ?_) (fun hc => ?_)) <;> first | (exfalso; omega) | (exfalso; dsimp only at hc; omega) | skip)
  refine loopE (fun k : Nat => [(0, .v (.slice o L.length c)), (1, .v (iv lo)), (2, .v (iv hi)), (7, .v (iv k))]) (fun _ => []) (fun k => k ≤ L.length ∧ evB (L.take k) lo hi = true) (fun k => L.length - k) 0 ⟨Nat.zero_le _, rfl⟩ ⟨rfl, rfl, rfl, rfl, trivial⟩ trivial (fun _ => ⟨rfl, rfl⟩) ?_
  intro k ⟨hk, hall⟩
  rcases Nat.lt_or_ge k L.length with hkl | hkl
  · obtain ⟨x, hx⟩ : ∃ b, L[k]? = some b := ⟨_, List.getElem?_eq_getElem hkl⟩
    obtain ⟨_, ad, rfl, _⟩ := hrd.ptr (by omega)
    have e0 := fun (w' : World) hw' => rd_ati (hrd.below (w' := w') hw') hx
    have ht := evB_take (lo := lo) (hi := hi) hx
    rw [hall, Bool.true_and] at ht
    have hv := fun w' => In_ok x lo hi w'
    cases hg : inB x lo hi with
    | true =>
      rw [hg] at hv ht
      repeat'
       conv => whnf
       first
        | refine zA ?_ | refine zB ?_ | refine zC ?_ | refine zD ?_ | refine zE ?_ | refine zF ?_ | refine zG ?_ | refine zH ?_ | refine zJ ?_ | refine zI ?_ | refine splT ?_ | refine splF ?_ | refine splNot ?_
        | ((first | refine splIn (fun hc => ?_) (fun hc => ?_) | refine splD (fun hc => ?_) (fun hc => ?_) | refine splE (fun hc => ?_) (fun hc => ?_) | refine splNE (fun hc => ?_) (fun hc => ?_)) <;> first | (exfalso; omega) | (exfalso; dsimp only at hc; omega) | skip)
        | refine Exists.intro (α := List Value) [iv x] ⟨⟨rfl, fun w' hw' => e0 w' hw'⟩, ?_⟩
        | ((with_reducible show CallEv _ _ 67 _ _ _ _ _); refine callE (k := 67) (fun β w' hbw => hv _) ?_)
      exact ⟨k + 1, ⟨by omega, ht⟩, by omega, Ent.weak rfl ⟨rfl, rfl, rfl, rfl, trivial⟩ trivial fun _ h => h⟩
    | false =>
      rw [hg] at hv ht
      rw [evB_no hx hg]
      repeat'
       conv => whnf
       first
        | refine zA ?_ | refine zB ?_ | refine zC ?_ | refine zD ?_ | refine zE ?_ | refine zF ?_ | refine zG ?_ | refine zH ?_ | refine zJ ?_ | refine zI ?_ | refine splT ?_ | refine splF ?_ | refine splNot ?_
        | ((first | refine splIn (fun hc => ?_) (fun hc => ?_) | refine splD (fun hc => ?_) (fun hc => ?_) | refine splE (fun hc => ?_) (fun hc => ?_) | refine splNE (fun hc => ?_) (fun hc => ?_)) <;> first | (exfalso; omega) | (exfalso; dsimp only at hc; omega) | skip)
        | refine Exists.intro (α := List Value) [iv x] ⟨⟨rfl, fun w' hw' => e0 w' hw'⟩, ?_⟩
        | ((with_reducible show CallEv _ _ 67 _ _ _ _ _); refine callE (k := 67) (fun β w' hbw => hv _) ?_)
      all_goals first | exact ⟨fun β => rfl, fun w' h => h⟩ | (exfalso; omega) | skip
  · rw [List.take_of_length_le hkl] at hall
    rw [hall]
    repeat'
     conv => whnf
     first
      | refine zA ?_ | refine zB ?_ | refine zC ?_ | refine zD ?_ | refine zE ?_ | refine zF ?_ | refine zG ?_ | refine zH ?_ | refine zJ ?_ | refine zI ?_ | refine splT ?_ | refine splF ?_ | refine splNot ?_
      | ((first | refine splIn (fun hc => ?_) (fun hc => ?_) | refine splD (fun hc => ?_) (fun hc => ?_) | refine splE (fun hc => ?_) (fun hc => ?_) | refine splNE (fun hc => ?_) (fun hc => ?_)) <;> first | (exfalso; omega) | (exfalso; dsimp only at hc; omega) | skip)
    all_goals first | exact ⟨fun β => rfl, fun w' h => h⟩ | (exfalso; omega) | skip

set_option maxHeartbeats 1000000 in
set_option maxRecDepth 100000 in
theorem RightCourseX_ok (x : Cr) (w : World) (h : CrX x w) : Calls Tryz.prog 26 #[x.v] w fun e w' => e = .returned (.bool (crOk x.N x.wk x.CC)) ∧ Below w.heap.size w w' := by
  obtain ⟨no, nc, N, wk, co, cc, C⟩ := x
  obtain ⟨hN, hC, hR, hnl, hcl, hrl⟩ := h
  dsimp only at hN hC hR hnl hcl hrl ⊢
  refine calls_val env mixed Tryz.func26 has26 Tryz.ntmps26 [.agg #[.slice no N.length nc, iv wk, .slice co C.length cc]] (by simp) ?_
  have hcm : (C.map Rw.xs).length = C.length := List.length_map ..
  repeat'
   conv => whnf
   first
    | refine zA ?_ | refine zB ?_ | refine zC ?_ | refine zD ?_ | refine zE ?_ | refine zF ?_ | refine zG ?_ | refine zH ?_ | refine zJ ?_ | refine zI ?_ | refine splT ?_ | refine splF ?_ | refine splNot ?_
    | ((first | refine splIn (fun hc => ?_) (fun hc => ?_) | refine splD (fun hc => ?_) (fun hc => ?_) | refine splE (fun hc => ?_) (fun hc => ?_) | refine splNE (fun hc => ?_) (fun hc => ?_)) <;> first | (exfalso; omega) | (exfalso; dsimp only at hc; omega) | skip)
    | ((with_reducible show CallEv _ _ 67 _ _ _ _ _); refine callE (k := 67) (fun β w' hbw => In_ok _ _ _ _) ?_)
    | ((with_reducible show CallEv _ _ 68 _ _ _ _ _); refine callE (k := 68) (fun β w' hbw => everyRX_ok N no nc 0 2000 _ (hN.below hbw) hnl) ?_)
    | refine splB (fun hb => ?_) (fun hb => ?_)
  all_goals first | exact ⟨fun β => congrArg Value.bool (by simp [crOk, inB, *]; done), fun w' h => h⟩ | (exfalso; omega) | skip
  have hn : crOk N wk (C.map Rw.xs) = (C.map Rw.xs).all (rowOk N.length) := by
    simp only [crOk, inB, hcm, hb]
    rw [decide_eq_true (by omega), decide_eq_true (by omega), decide_eq_true (by omega), decide_eq_true (by omega), decide_eq_true (by omega), decide_eq_true (by omega)]
    rfl
  refine loopE (fun k : Nat => [(1, .ptr 0 0), (3, .v (iv k))]) (fun _ => [(0, .cells [.v (.slice no N.length nc), .v (iv wk), .v (.slice co C.length cc)] 56)]) (fun k => k ≤ C.length ∧ ((C.map Rw.xs).take k).all (rowOk N.length) = true) (fun k => C.length - k) 0 ⟨Nat.zero_le _, rfl⟩ ⟨rfl, rfl, trivial⟩ ⟨rfl, trivial⟩ (fun _ => ⟨rfl, rfl⟩) ?_
  intro k ⟨hk, hall⟩
  rcases Nat.lt_or_ge k C.length with hkl | hkl
  · obtain ⟨⟨ro, rc, xs⟩, hx⟩ : ∃ b, C[k]? = some b := ⟨_, List.getElem?_eq_getElem hkl⟩
    obtain ⟨_, ad, rfl, _⟩ := hC.ptr (by omega)
    have e0 := fun (w' : World) hw' => rd_ati (hC.below (w' := w') hw') hx
    have hm : (C.map Rw.xs)[k]? = some xs := by rw [List.getElem?_map, hx]; rfl
    have ht := all_take (p := rowOk N.length) hm
    rw [hall, Bool.true_and] at ht
    have hr := hR _ (List.mem_of_getElem? hx)
    have hrb := hrl _ (List.mem_of_getElem? hx)
    dsimp only at hr hrb
    repeat'
     conv => whnf
     first
      | refine zA ?_ | refine zB ?_ | refine zC ?_ | refine zD ?_ | refine zE ?_ | refine zF ?_ | refine zG ?_ | refine zH ?_ | refine zJ ?_ | refine zI ?_ | refine splT ?_ | refine splF ?_ | refine splNot ?_
      | ((first | refine splIn (fun hc => ?_) (fun hc => ?_) | refine splD (fun hc => ?_) (fun hc => ?_) | refine splE (fun hc => ?_) (fun hc => ?_) | refine splNE (fun hc => ?_) (fun hc => ?_)) <;> first | (exfalso; omega) | (exfalso; dsimp only at hc; omega) | skip)
      | refine Exists.intro (α := List Value) [.slice ro xs.length rc] ⟨⟨rfl, fun w' hw' => e0 w' hw'⟩, ?_⟩
      | ((with_reducible show CallEv _ _ 68 _ _ _ _ _); refine callE (k := 68) (fun β w' hbw => everyRX_ok xs ro rc 0 2000 _ (hr.below hbw) hrb) ?_)
      | refine splB (fun hb2 => ?_) (fun hb2 => ?_)
    all_goals first
      | (exfalso; omega)
      | (have hg : rowOk N.length xs = true := by simp only [rowOk, Bool.and_eq_true, decide_eq_true_eq]; exact ⟨by omega, by assumption⟩
         exact ⟨k + 1, ⟨by omega, by rw [ht, hg]⟩, by omega, Ent.weak rfl ⟨rfl, rfl, trivial⟩ ⟨rfl, trivial⟩ fun _ h => h⟩)
      | (have hg : rowOk N.length xs = false := by
           rw [Bool.eq_false_iff]; intro hc2; simp only [rowOk, Bool.and_eq_true, decide_eq_true_eq] at hc2; first | omega | (rw [hb2] at hc2; cases hc2.2)
         rw [hn, all_no hm hg]
         exact ⟨fun β => rfl, fun w' h => h⟩)
      | skip
  · rw [List.take_of_length_le (by rw [hcm]; exact hkl)] at hall
    rw [hn, hall]
    repeat'
     conv => whnf
     first
      | refine zA ?_ | refine zB ?_ | refine zC ?_ | refine zD ?_ | refine zE ?_ | refine zF ?_ | refine zG ?_ | refine zH ?_ | refine zJ ?_ | refine zI ?_ | refine splT ?_ | refine splF ?_ | refine splNot ?_
      | ((first | refine splIn (fun hc => ?_) (fun hc => ?_) | refine splD (fun hc => ?_) (fun hc => ?_) | refine splE (fun hc => ?_) (fun hc => ?_) | refine splNE (fun hc => ?_) (fun hc => ?_)) <;> first | (exfalso; omega) | (exfalso; dsimp only at hc; omega) | skip)
    all_goals first | exact ⟨fun β => rfl, fun w' h => h⟩ | (exfalso; omega) | skip

/-- The stays of a child, that lie somewhere. -/
structure Kd where
  o : Option Addr
  c : Nat
  S : List Sy
abbrev Kd.cs (k : Kd) : List Value := [.slice k.o k.S.length k.c]
abbrev Kd.d (k : Kd) : List (Int × List Int) := k.S.map Sy.d
structure KdX (o : Option Addr) (c : Nat) (K : List Kd) (w : World) : Prop where
  k : Rd 1 Kd.cs (.slice o K.length c) K w
  s : ∀ k ∈ K, SyX k.o k.c k.S w
  kl : K.length ≤ 9223372036854775807
structure KdIn (o : Option Addr) (c : Nat) (K : List Kd) (w : World) : Prop where
  k : Rd 1 Kd.cs (.slice o K.length c) K w
  s : ∀ k ∈ K, SyIn k.o k.c k.S w
  kl : K.length ≤ 1000000
theorem KdX.below {o : Option Addr} {c : Nat} {K : List Kd} {w w' : World} (h : KdX o c K w) (hb : Below w.heap.size w w') : KdX o c K w' := ⟨h.k.below hb, fun k hk => (h.s k hk).below hb, h.kl⟩
theorem KdIn.below {o : Option Addr} {c : Nat} {K : List Kd} {w w' : World} (h : KdIn o c K w) (hb : Below w.heap.size w w') : KdIn o c K w' := ⟨h.k.below hb, fun k hk => (h.s k hk).below hb, h.kl⟩
/-- Children in new memory. -/
structure KdF (KK : List (List (Int × List Int))) where
  o : Option Addr
  c : Nat
  K : List Kd
  h : K.map Kd.d = KK
def KdF.In {KK : List (List (Int × List Int))} (y : KdF KK) (w : World) : Prop := Rd 1 Kd.cs (.slice y.o y.K.length y.c) y.K w ∧ ∀ k ∈ y.K, Rd 2 Sy.cs (.slice k.o k.S.length k.c) k.S w ∧ ∀ s ∈ k.S, Rd 1 iF (.slice s.o s.xs.length s.c) s.xs w

set_option maxHeartbeats 1000000 in
set_option maxRecDepth 100000 in
theorem children_ok (o : Option Addr) (c : Nat) (K : List Kd) (w : World) (h : KdIn o c K w) :
    Calls Tryz.prog 49 #[.slice o K.length c] w fun e w' => ∃ y : KdF (K.map Kd.d), e = .returned (.slice y.o y.K.length y.c) ∧ Below w.heap.size w w' ∧ St w.heap.size y.In w' := by
  obtain ⟨hrd, hS, hl⟩ := h
  refine calls_fam env mixed Tryz.func49 has49 Tryz.ntmps49 [.slice o K.length c] (by simp) ?_
  repeat'
   conv => whnf
   first
    | refine zA ?_ | refine zB ?_ | refine zC ?_ | refine zD ?_ | refine zE ?_ | refine zF ?_ | refine zG ?_ | refine zH ?_ | refine zJ ?_ | refine zI ?_ | refine splT ?_ | refine splF ?_ | refine splNot ?_
    | ((first | refine splIn (fun hc => ?_) (fun hc => ?_) | refine splD (fun hc => ?_) (fun hc => ?_) | refine splE (fun hc => ?_) (fun hc => ?_) | refine splNE (fun hc => ?_) (fun hc => ?_)) <;> first | (exfalso; omega) | (exfalso; dsimp only at hc; omega) | skip)
  refine loopH 2 (fun D : List Kd => [(0, .v (.slice o K.length c)), (3, oSV 0 1 D), (4, .v (iv D.length))]) (fun D => oM 0 1 1 Kd.cs 65 D)
    (fun D w' => Below w.heap.size w w' ∧ ∀ k ∈ D, St w.heap.size (fun w2 => Rd 2 Sy.cs (.slice k.o k.S.length k.c) k.S w2 ∧ ∀ s ∈ k.S, Rd 1 iF (.slice s.o s.xs.length s.c) s.xs w2) w')
    (fun D => D.length ≤ K.length ∧ D.map Kd.d = (K.map Kd.d).take D.length) (fun D => K.length - D.length) [] ⟨Nat.zero_le _, rfl⟩ ⟨rfl, rfl, rfl, trivial⟩ trivial (fun w' h => ⟨h, fun r hr => by cases hr⟩) (fun D _ => by cases D <;> exact ⟨rfl, rfl⟩) ?_
  intro D ⟨hk, hmap⟩
  rcases Nat.lt_or_ge D.length K.length with hkl | hkl
  · obtain ⟨⟨ko, kc, S⟩, hx⟩ : ∃ b, K[D.length]? = some b := ⟨_, List.getElem?_eq_getElem hkl⟩
    obtain ⟨_, ad, rfl, _⟩ := hrd.ptr (by omega)
    have e0 := fun (w' : World) hw' => rd_ati (hrd.below (w' := w') hw') hx
    have hSk := hS _ (List.mem_of_getElem? hx)
    dsimp only at hSk
    have hm : (K.map Kd.d)[D.length]? = some (S.map Sy.d) := by rw [List.getElem?_map, hx]; rfl
    have hnew : ∀ y : SyF (S.map Sy.d), (D ++ [(⟨y.o, y.c, y.S⟩ : Kd)]).map Kd.d = (K.map Kd.d).take (D ++ [(⟨y.o, y.c, y.S⟩ : Kd)]).length := fun y => by
      rw [List.map_append, hmap, List.length_append, List.length_singleton, List.take_add_one, hm, List.map_singleton]
      show _ ++ [y.S.map Sy.d] = _
      rw [y.h]; rfl
    have hl2 : ∀ y : SyF (S.map Sy.d), (D ++ [(⟨y.o, y.c, y.S⟩ : Kd)]).length = D.length + 1 := fun y => by simp
    have hh : ∀ (y : SyF (S.map Sy.d)) w', ((Below w.heap.size w w' ∧ ∀ k ∈ D, St w.heap.size (fun w2 => Rd 2 Sy.cs (.slice k.o k.S.length k.c) k.S w2 ∧ ∀ s ∈ k.S, Rd 1 iF (.slice s.o s.xs.length s.c) s.xs w2) w') ∧ St w.heap.size y.In w') →
        Below w.heap.size w w' ∧ ∀ k ∈ D ++ [(⟨y.o, y.c, y.S⟩ : Kd)], St w.heap.size (fun w2 => Rd 2 Sy.cs (.slice k.o k.S.length k.c) k.S w2 ∧ ∀ s ∈ k.S, Rd 1 iF (.slice s.o s.xs.length s.c) s.xs w2) w' := fun y w' h => ⟨h.1.1, fun r hr => by
      rcases List.mem_append.1 hr with hr | hr
      · exact h.1.2 r hr
      · rw [List.mem_singleton] at hr; subst hr; exact h.2⟩
    generalize hn : D.length = n at *
    cases D with
    | nil =>
      repeat'
       conv => whnf
       first
        | refine zA ?_ | refine zB ?_ | refine zC ?_ | refine zD ?_ | refine zE ?_ | refine zF ?_ | refine zG ?_ | refine zH ?_ | refine zJ ?_ | refine zI ?_ | refine splT ?_ | refine splF ?_ | refine splNot ?_
        | ((first | refine splIn (fun hc => ?_) (fun hc => ?_) | refine splD (fun hc => ?_) (fun hc => ?_) | refine splE (fun hc => ?_) (fun hc => ?_) | refine splNE (fun hc => ?_) (fun hc => ?_)) <;> first | (exfalso; omega) | (exfalso; dsimp only at hc; omega) | skip)
        | refine Exists.intro (α := List Value) [.slice ko S.length kc] ⟨⟨rfl, fun w' hw' => e0 w' hw'.1⟩, ?_⟩
        | ((with_reducible show CallEv _ _ 31 _ _ _ _ _); refine callF [] (fun y : SyF (S.map Sy.d) => .slice y.o y.S.length y.c) (fun y => St w.heap.size y.In) (fun β w' _ hbw => famS (by first | exact hbw | exact hbw.1 | exact hbw.1.1 | exact hbw.1.1.1 | exact hbw.1.1.1.1 | exact hbw.1.1.1.1.1 | exact hbw.1.1.1.1.1.1 | exact hbw.1.1.1.1.1.1.1 | exact hbw.1.1.1.1.1.1.1.1 | exact hbw.1.1.1.1.1.1.1.1.1 | exact hbw.1.1.1.1.1.1.1.1.1.1 | exact hbw.1.1.1.1.1.1.1.1.1.1.1 | exact hbw.1.1.1.1.1.1.1.1.1.1.1.1 | exact hbw.1.1.1.1.1.1.1.1.1.1.1.1.1) (Stays_ok ko kc S w' (hSk.below (by first | exact hbw | exact hbw.1 | exact hbw.1.1 | exact hbw.1.1.1 | exact hbw.1.1.1.1 | exact hbw.1.1.1.1.1 | exact hbw.1.1.1.1.1.1 | exact hbw.1.1.1.1.1.1.1 | exact hbw.1.1.1.1.1.1.1.1 | exact hbw.1.1.1.1.1.1.1.1.1 | exact hbw.1.1.1.1.1.1.1.1.1.1 | exact hbw.1.1.1.1.1.1.1.1.1.1.1 | exact hbw.1.1.1.1.1.1.1.1.1.1.1.1 | exact hbw.1.1.1.1.1.1.1.1.1.1.1.1.1)))) ?_; intro y)
      exact ⟨[(⟨y.o, y.c, y.S⟩ : Kd)], ⟨by have := hl2 y; simp only [List.nil_append] at this; omega, hnew y⟩, by have := hl2 y; simp only [List.nil_append] at this; omega, Ent.ren (rho [(0, 3), (1, 4)]) rfl rfl ⟨rfl, rfl, by rw [← hn]; rfl, trivial⟩ ⟨rfl, trivial⟩ (hh y)⟩
    | cons a D =>
      simp only [List.length_cons] at hn
      repeat'
       conv => whnf
       first
        | refine zA ?_ | refine zB ?_ | refine zC ?_ | refine zD ?_ | refine zE ?_ | refine zF ?_ | refine zG ?_ | refine zH ?_ | refine zJ ?_ | refine zI ?_ | refine splT ?_ | refine splF ?_ | refine splNot ?_
        | ((first | refine splIn (fun hc => ?_) (fun hc => ?_) | refine splD (fun hc => ?_) (fun hc => ?_) | refine splE (fun hc => ?_) (fun hc => ?_) | refine splNE (fun hc => ?_) (fun hc => ?_)) <;> first | (exfalso; omega) | (exfalso; dsimp only at hc; omega) | skip)
        | refine Exists.intro (α := List Value) [.slice ko S.length kc] ⟨⟨rfl, fun w' hw' => e0 w' hw'.1⟩, ?_⟩
        | ((with_reducible show CallEv _ _ 31 _ _ _ _ _); refine callF [] (fun y : SyF (S.map Sy.d) => .slice y.o y.S.length y.c) (fun y => St w.heap.size y.In) (fun β w' _ hbw => famS (by first | exact hbw | exact hbw.1 | exact hbw.1.1 | exact hbw.1.1.1 | exact hbw.1.1.1.1 | exact hbw.1.1.1.1.1 | exact hbw.1.1.1.1.1.1 | exact hbw.1.1.1.1.1.1.1 | exact hbw.1.1.1.1.1.1.1.1 | exact hbw.1.1.1.1.1.1.1.1.1 | exact hbw.1.1.1.1.1.1.1.1.1.1 | exact hbw.1.1.1.1.1.1.1.1.1.1.1 | exact hbw.1.1.1.1.1.1.1.1.1.1.1.1 | exact hbw.1.1.1.1.1.1.1.1.1.1.1.1.1) (Stays_ok ko kc S w' (hSk.below (by first | exact hbw | exact hbw.1 | exact hbw.1.1 | exact hbw.1.1.1 | exact hbw.1.1.1.1 | exact hbw.1.1.1.1.1 | exact hbw.1.1.1.1.1.1 | exact hbw.1.1.1.1.1.1.1 | exact hbw.1.1.1.1.1.1.1.1 | exact hbw.1.1.1.1.1.1.1.1.1 | exact hbw.1.1.1.1.1.1.1.1.1.1 | exact hbw.1.1.1.1.1.1.1.1.1.1.1 | exact hbw.1.1.1.1.1.1.1.1.1.1.1.1 | exact hbw.1.1.1.1.1.1.1.1.1.1.1.1.1)))) ?_; intro y)
      exact ⟨a :: D ++ [(⟨y.o, y.c, y.S⟩ : Kd)], ⟨by have := hl2 y; omega, hnew y⟩, by have := hl2 y; omega, Ent.ren (rho [(0, 3), (1, 4)]) rfl rfl ⟨rfl, by simp [oSV]; rfl, by rw [← hn]; simp; rfl, trivial⟩ ⟨by simp [oM]; rfl, trivial⟩ (hh y)⟩
  · have hk2 : D.length = K.length := by omega
    rw [hk2, List.take_of_length_le (Nat.le_of_eq (List.length_map ..))] at hmap
    cases D with
    | nil =>
      repeat'
       conv => whnf
       first
        | refine zA ?_ | refine zB ?_ | refine zC ?_ | refine zD ?_ | refine zE ?_ | refine zF ?_ | refine zG ?_ | refine zH ?_ | refine zJ ?_ | refine zI ?_ | refine splT ?_ | refine splF ?_ | refine splNot ?_
        | ((first | refine splIn (fun hc => ?_) (fun hc => ?_) | refine splD (fun hc => ?_) (fun hc => ?_) | refine splE (fun hc => ?_) (fun hc => ?_) | refine splNE (fun hc => ?_) (fun hc => ?_)) <;> first | (exfalso; omega) | (exfalso; dsimp only at hc; omega) | skip)
      exact ⟨fun w' h => h.1, fun β w' hB hblk => ⟨⟨none, 0, [], hmap⟩, rfl, fun w2 k2 => ⟨.inl ⟨rfl, rfl⟩, fun r hr => by cases hr⟩⟩⟩
    | cons a L =>
      repeat'
       conv => whnf
       first
        | refine zA ?_ | refine zB ?_ | refine zC ?_ | refine zD ?_ | refine zE ?_ | refine zF ?_ | refine zG ?_ | refine zH ?_ | refine zJ ?_ | refine zI ?_ | refine splT ?_ | refine splF ?_ | refine splNot ?_
        | ((first | refine splIn (fun hc => ?_) (fun hc => ?_) | refine splD (fun hc => ?_) (fun hc => ?_) | refine splE (fun hc => ?_) (fun hc => ?_) | refine splNE (fun hc => ?_) (fun hc => ?_)) <;> first | (exfalso; omega) | (exfalso; dsimp only at hc; omega) | skip)
      refine ⟨fun w' h => h.1, fun β w' hB hblk => ?_⟩
      obtain ⟨y, h1, h2⟩ := oEnd (sz := 1) (f := Kd.cs) (fun _ => rfl) a L (hblk 0 _ rfl rfl)
      exact ⟨⟨y.1, y.2, a :: L, hmap⟩, h1, fun w2 k2 => ⟨h2 w2 k2, fun r hr => hB.2 r hr w2 k2⟩⟩
end Go.Proofs.YtpleibfohjbneaaGreat
