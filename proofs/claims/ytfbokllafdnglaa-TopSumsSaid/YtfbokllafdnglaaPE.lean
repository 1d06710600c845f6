/- Poles that are overloaded: what all, CheckTent and Overloaded return. -/
import Derived.Test.YtfbokllafdnglaaPC
import Derived.Test.YtfbokllafdnglaaPD
namespace Go.Proofs.Ytfbokllafdnglaa
open Go Tx Go.RowKit
set_option linter.unusedSimpArgs false
set_option linter.unusedVariables false

set_option maxHeartbeats 2000000 in
set_option maxRecDepth 100000 in
theorem all57_ok (T : List Hd) (o : Option Addr) (c : Nat) (w : World) (h : TtIn o c T w) (hl : T.length ≤ 1000000) (hgl : ∀ h ∈ T, h.G.length ≤ 1000000) :
    Calls Try.prog 56 #[.slice o T.length c, .func (.func 57) #[] #[]] w fun e w' => e = .returned (.bool (T.all hdOk)) ∧ Below w.heap.size w w' := by
  obtain ⟨hT, hg, -, -⟩ := h
  refine calls_val env mixed Try.func56 has56 Try.ntmps56 [.slice o T.length c, .func (.func 57) #[] #[]] (by simp) ?_
  repeat'
   conv => whnf
   first
    | refine zA ?_ | refine zB ?_ | refine zC ?_ | refine zD ?_ | refine zE ?_ | refine zF ?_ | refine zG ?_ | refine zH ?_ | refine zJ ?_ | refine zI ?_ | refine splT ?_ | refine splF ?_ | refine splNot ?_
    | ((first | refine splIn (fun hc => ?_) (fun hc => ?_) | refine splD (fun hc => ?_) (fun hc => ?_) | refine splE (fun hc => ?_) (fun hc => ?_) | refine splNE (fun hc => ?_) (fun hc => ?_)) <;> first | (exfalso; omega) | (exfalso; dsimp only at hc; omega) | skip)
    | ((with_reducible show CallEv _ _ 87 _ _ _ _ _); refine callI env mixed 1000 [] Try.func87 has87 Try.ntmps87 (Nat.le_of_ble_eq_true rfl) rfl rfl rfl ?_)
    | ((with_reducible show CallEv _ _ 102 _ _ _ _ _); refine callI env mixed 2000 [] Try.func102 has102 Try.ntmps102 (Nat.le_of_ble_eq_true rfl) rfl rfl rfl ?_)
  refine loopE (fun k : Nat => [(0, .v (.slice o T.length c)), (1, .fn (.func 88) [.ptr 0 0]), (7, .v (iv T.length)), (8, .v (iv k))]) (fun _ => [(0, .cells [.v (.func (.func 57) #[] #[])] 151)]) (fun k => k ≤ T.length ∧ (T.take k).all hdOk = true) (fun k => T.length - k) 0 ⟨Nat.zero_le _, rfl⟩ ⟨rfl, rfl, rfl, rfl, trivial⟩ ⟨rfl, trivial⟩ (fun _ => ⟨rfl, rfl⟩) ?_
  intro k ⟨hk, hall⟩
  rcases Nat.lt_or_ge k T.length with hkl | hkl
  · obtain ⟨⟨ar, be, go, gc, G⟩, hb⟩ : ∃ b, T[k]? = some b := ⟨_, List.getElem?_eq_getElem hkl⟩
    obtain ⟨_, ad, rfl, _⟩ := hT.ptr (by omega)
    have ht := all_take (p := hdOk) hb
    rw [hall, Bool.true_and] at ht
    have hno := all_no (p := hdOk) hb
    have hG := hg _ (List.mem_of_getElem? hb)
    have hGl := hgl _ (List.mem_of_getElem? hb)
    have e0 := fun (w' : World) hw' => rd_ati (hT.below (w' := w') hw') hb
    have hv := fun (w' : World) (hw' : Below w.heap.size w w') => headV_ok ⟨ar, be, go, gc, G⟩ w' (hG.below hw') hGl
    cases hq : hdOk ⟨ar, be, go, gc, G⟩ with
    | true =>
      rw [hq] at hv ht
      repeat'
       conv => whnf
       first
        | refine zA ?_ | refine zB ?_ | refine zC ?_ | refine zD ?_ | refine zE ?_ | refine zF ?_ | refine zG ?_ | refine zH ?_ | refine zJ ?_ | refine zI ?_ | refine splT ?_ | refine splF ?_ | refine splNot ?_
        | ((first | refine splIn (fun hc => ?_) (fun hc => ?_) | refine splD (fun hc => ?_) (fun hc => ?_) | refine splE (fun hc => ?_) (fun hc => ?_) | refine splNE (fun hc => ?_) (fun hc => ?_)) <;> first | (exfalso; omega) | (exfalso; dsimp only at hc; omega) | skip)
        | refine Exists.intro (α := List Value) [iv ar, iv be, .slice go G.length gc] ⟨⟨rfl, fun w' hw' => e0 w' hw'⟩, ?_⟩
        | ((with_reducible show CallEv _ _ 88 _ _ _ _ _); refine callI env mixed 3000 [0,1,5,7,8] Try.func88 has88 Try.ntmps88 (Nat.le_of_ble_eq_true rfl) rfl rfl rfl ?_)
        | ((with_reducible show CallEv _ _ 57 _ _ _ _ _); refine callE (k := 57) (fun β w' hbw => hv _ hbw) ?_)
      exact ⟨k + 1, ⟨by omega, ht⟩, by omega, Ent.weak rfl ⟨rfl, rfl, rfl, rfl, trivial⟩ ⟨rfl, trivial⟩ fun _ h => h⟩
    | false =>
      rw [hq] at hv ht
      rw [hno hq]
      repeat'
       conv => whnf
       first
        | refine zA ?_ | refine zB ?_ | refine zC ?_ | refine zD ?_ | refine zE ?_ | refine zF ?_ | refine zG ?_ | refine zH ?_ | refine zJ ?_ | refine zI ?_ | refine splT ?_ | refine splF ?_ | refine splNot ?_
        | ((first | refine splIn (fun hc => ?_) (fun hc => ?_) | refine splD (fun hc => ?_) (fun hc => ?_) | refine splE (fun hc => ?_) (fun hc => ?_) | refine splNE (fun hc => ?_) (fun hc => ?_)) <;> first | (exfalso; omega) | (exfalso; dsimp only at hc; omega) | skip)
        | refine Exists.intro (α := List Value) [iv ar, iv be, .slice go G.length gc] ⟨⟨rfl, fun w' hw' => e0 w' hw'⟩, ?_⟩
        | ((with_reducible show CallEv _ _ 88 _ _ _ _ _); refine callI env mixed 3000 [0,1,5,7,8] Try.func88 has88 Try.ntmps88 (Nat.le_of_ble_eq_true rfl) rfl rfl rfl ?_)
        | ((with_reducible show CallEv _ _ 57 _ _ _ _ _); refine callE (k := 57) (fun β w' hbw => hv _ hbw) ?_)
      all_goals first | exact ⟨fun β => rfl, fun w' h => h⟩ | (exfalso; omega) | skip
  · rw [List.take_of_length_le hkl] at hall
    rw [hall]
    repeat'
     conv => whnf
     first
      | refine zA ?_ | refine zB ?_ | refine zC ?_ | refine zD ?_ | refine zE ?_ | refine zF ?_ | refine zG ?_ | refine zH ?_ | refine zJ ?_ | refine zI ?_ | refine splT ?_ | refine splF ?_ | refine splNot ?_
      | ((first | refine splIn (fun hc => ?_) (fun hc => ?_) | refine splD (fun hc => ?_) (fun hc => ?_) | refine splE (fun hc => ?_) (fun hc => ?_) | refine splNE (fun hc => ?_) (fun hc => ?_)) <;> first | (exfalso; omega) | (exfalso; dsimp only at hc; omega) | skip)
    all_goals first | exact ⟨fun β => rfl, fun w' h => h⟩ | (exfalso; omega) | skip
theorem ttOk_iff {T : List Hd} : ttOk T = true ↔ T.all hdOk = true ∧ 1 ≤ T.length ∧ T.length ≤ 12 := by
  simp [ttOk]
theorem hdOk_iff {h : Hd} : hdOk h = true ↔ (0 ≤ h.ar ∧ h.ar ≤ 1000) ∧ (0 ≤ h.be ∧ h.be ≤ 10000000) ∧ h.G.length ≤ 8 ∧ h.G.all gyOk = true := by
  simp [hdOk, inB_iff]
theorem ttOk_hd {T : List Hd} (h : ttOk T = true) : ∀ x ∈ T, (0 ≤ x.ar ∧ x.ar ≤ 1000) ∧ (0 ≤ x.be ∧ x.be ≤ 10000000) ∧ x.G.length ≤ 8 ∧ x.G.all gyOk = true := fun x hx =>
  hdOk_iff.1 (List.all_eq_true.1 (ttOk_iff.1 h).1 x hx)
theorem gyOk_dn {G : List Gy} (h : G.all gyOk = true) : ∀ g ∈ G, 0 ≤ g.dn ∧ g.dn ≤ 5000 := fun g hg => by
  have := List.all_eq_true.1 h g hg
  simp only [gyOk, Bool.and_eq_true, inB_iff] at this
  exact this.2.2.2.1
set_option maxHeartbeats 2000000 in
set_option maxRecDepth 100000 in
theorem CheckTent_ok (T : List Hd) (o : Option Addr) (c : Nat) (w : World) (h : TtIn o c T w) (hq : ttOk T = true) : Calls Try.prog 26 #[.slice o T.length c] w fun e w' => e = .returned (iv 0) ∧ Below w.heap.size w w' := by
  obtain ⟨q1, q2, q3⟩ := ttOk_iff.1 hq
  have c1 := fun w' => wc_ok T.length 1 12 w'
  rw [inB_iff.2 ⟨by omega, by omega⟩] at c1
  have c2 := fun (w' : World) (hw' : Below w.heap.size w w') => all57_ok T o c w' (h.below hw') (by omega) (fun x hx => by have := ttOk_hd hq x hx; omega)
  rw [q1] at c2
  refine calls_val env mixed Try.func26 has26 Try.ntmps26 [.slice o T.length c] (by simp) ?_
  repeat'
   conv => whnf
   first
    | refine zA ?_ | refine zB ?_ | refine zC ?_ | refine zD ?_ | refine zE ?_ | refine zF ?_ | refine zG ?_ | refine zH ?_ | refine zJ ?_ | refine zI ?_ | refine splT ?_ | refine splF ?_ | refine splNot ?_
    | ((first | refine splIn (fun hc => ?_) (fun hc => ?_) | refine splD (fun hc => ?_) (fun hc => ?_) | refine splE (fun hc => ?_) (fun hc => ?_) | refine splNE (fun hc => ?_) (fun hc => ?_)) <;> first | (exfalso; omega) | (exfalso; dsimp only at hc; omega) | skip)
    | ((with_reducible show CallEv _ _ 55 _ _ _ _ _); refine callE (k := 55) (fun β w' hbw => c1 _) ?_)
    | ((with_reducible show CallEv _ _ 56 _ _ _ _ _); refine callE (k := 56) (fun β w' hbw => c2 _ hbw) ?_)
  all_goals first | (exfalso; omega) | exact ⟨fun β => rfl, fun w' h => h⟩
/-- What guys press. -/
def gsm : List Gy → Int
  | [] => 0
  | g :: G => g.dn + gsm G
theorem gsm_app (g : Gy) : ∀ G, gsm (G ++ [g]) = gsm G + g.dn
  | [] => by simp [gsm]
  | a :: G => by rw [List.cons_append, gsm, gsm_app g G, gsm]; omega
theorem gsm_bd : ∀ {G : List Gy}, (∀ g ∈ G, 0 ≤ g.dn ∧ g.dn ≤ 5000) → 0 ≤ gsm G ∧ gsm G ≤ 5000 * G.length
  | [], _ => by simp [gsm]
  | a :: G, h => by
    have h1 := h a List.mem_cons_self
    have h2 := gsm_bd (G := G) fun g hg => h g (List.mem_cons_of_mem _ hg)
    rw [gsm, List.length_cons]
    omega
def ovB (T : List Hd) (k : Nat) : Bool := match T[k]? with
  | some h => decide (gsm h.G > h.be)
  | none => false
def ovl (T : List Hd) : Nat → List Int
  | 0 => []
  | k + 1 => ovl T k ++ (if ovB T k = true then [(k : Int)] else [])
theorem ovl_len (T : List Hd) : ∀ k, (ovl T k).length ≤ k
  | 0 => Nat.le_refl _
  | k + 1 => by
    have := ovl_len T k
    rw [ovl, List.length_append]
    split <;> simp <;> omega
set_option maxHeartbeats 4000000 in
set_option maxRecDepth 100000 in
theorem Overloaded_ok (T : List Hd) (o : Option Addr) (c : Nat) (w : World) (h : TtIn o c T w) (hq : ttOk T = true) :
    Calls Try.prog 9 #[.slice o T.length c] w fun e w' => ∃ y : Option Addr × Nat, e = .returned (.tuple #[sV (ovl T T.length).length y, iv 0]) ∧ Below w.heap.size w w' ∧ St w.heap.size (Rd 1 iF (sV (ovl T T.length).length y) (ovl T T.length)) w' := by
  refine calls_fam env mixed Try.func9 has9 Try.ntmps9 [.slice o T.length c] (by simp) ?_
  have hC := fun w' (hb : Below w.heap.size w w') => CheckTent_ok T o c w' (h.below hb) hq
  have hhd := ttOk_hd hq
  have hT12 := (ttOk_iff.1 hq).2.2
  obtain ⟨hT, hg, htl, hgl⟩ := h
  clear htl hgl
  repeat'
   conv => whnf
   first
    | refine zA ?_ | refine zB ?_ | refine zC ?_ | refine zD ?_ | refine zE ?_ | refine zF ?_ | refine zG ?_ | refine zH ?_ | refine zJ ?_ | refine zI ?_ | refine splT ?_ | refine splF ?_ | refine splNot ?_
    | ((first | refine splIn (fun hc => ?_) (fun hc => ?_) | refine splD (fun hc => ?_) (fun hc => ?_) | refine splE (fun hc => ?_) (fun hc => ?_) | refine splNE (fun hc => ?_) (fun hc => ?_)) <;> first | (exfalso; omega) | (exfalso; dsimp only at hc; omega) | skip)
    | ((with_reducible show CallEv _ _ 26 _ _ _ _ _); refine callE (k := 26) (fun β w' hbw => hC _ hbw) ?_)
  all_goals first | (exfalso; omega) | skip
  refine loopN 2 (fun k : Nat => [(5, oSV 0 1 (ovl T k)), (16, .v (.slice o T.length c)), (17, .v (iv T.length)), (18, .v (iv k))]) (fun k => oM 0 1 1 iF 3 (ovl T k))
    (fun k => k ≤ T.length) (fun k => T.length - k) 0 (Nat.zero_le _) ⟨rfl, rfl, rfl, rfl, trivial⟩ trivial (fun k _ => by cases ovl T k <;> exact ⟨rfl, rfl⟩) ?_
  intro k hk
  have hlen := ovl_len T k
  rcases Nat.lt_or_ge k T.length with hkl | hkl
  · obtain ⟨⟨ar, be, go, gc, G⟩, hx⟩ : ∃ b, T[k]? = some b := ⟨_, List.getElem?_eq_getElem hkl⟩
    obtain ⟨_, ad, rfl, _⟩ := hT.ptr (by omega)
    have e0 := fun (w' : World) hw' => rd_ati (hT.below (w' := w') hw') hx
    have hst : ovl T (k + 1) = ovl T k ++ (if ovB T k = true then [(k : Int)] else []) := rfl
    have hob : ovB T k = decide (gsm G > be) := by rw [ovB, hx]
    have hG := hg _ (List.mem_of_getElem? hx)
    obtain ⟨-, hbe, hG8, hgy⟩ := hhd _ (List.mem_of_getElem? hx)
    have hdn := gyOk_dn hgy
    dsimp only at hG hbe hG8 hdn
    generalize ovl T k = A at *
    generalize ovB T k = ob at *
    have hA : A = [] ∨ ∃ a A', A = a :: A' := by cases A <;> simp
    repeat'
     conv => whnf
     first
      | refine zA ?_ | refine zB ?_ | refine zC ?_ | refine zD ?_ | refine zE ?_ | refine zF ?_ | refine zG ?_ | refine zH ?_ | refine zJ ?_ | refine zI ?_ | refine splT ?_ | refine splF ?_ | refine splNot ?_
      | ((first | refine splIn (fun hc => ?_) (fun hc => ?_) | refine splD (fun hc => ?_) (fun hc => ?_) | refine splE (fun hc => ?_) (fun hc => ?_) | refine splNE (fun hc => ?_) (fun hc => ?_)) <;> first | (exfalso; omega) | (exfalso; dsimp only at hc; omega) | skip)
      | refine Exists.intro (α := List Value) [iv ar, iv be, .slice go G.length gc] ⟨⟨rfl, fun w' hw' => e0 w' hw'⟩, ?_⟩
    refine loopE (fun j : Nat => [(5, oSV 0 1 A), (6, .v (iv k)), (7, .ptr 2 0), (8, .v (iv (gsm (G.take j)))), (16, .v (.slice (some ad) T.length c)), (17, .v (iv T.length)), (18, .v (iv k)), (24, .v (.slice go G.length gc)), (25, .v (iv G.length)), (26, .v (iv j))])
      (fun _ => (2, .cells [.v (iv ar), .v (iv be), .v (.slice go G.length gc)] 113) :: oM 0 1 1 iF 3 A) (fun j => j ≤ G.length) (fun j => G.length - j) 0 (Nat.zero_le _) ⟨rfl, rfl, rfl, rfl, rfl, rfl, rfl, rfl, rfl, rfl, trivial⟩ ⟨rfl, by cases A <;> first | trivial | exact ⟨rfl, trivial⟩⟩ (fun _ => by cases A <;> exact ⟨rfl, rfl⟩) ?_
    intro j hj
    rcases Nat.lt_or_ge j G.length with hjl | hjl
    · obtain ⟨⟨x, y, dn, so, dp⟩, hy⟩ : ∃ b, G[j]? = some b := ⟨_, List.getElem?_eq_getElem hjl⟩
      obtain ⟨_, ag, rfl, _⟩ := hG.ptr (by omega)
      have f0 := fun (w' : World) hw' => rd_ati (hG.below (w' := w') hw') hy
      have hd := hdn _ (List.mem_of_getElem? hy)
      have hgt : gsm (G.take (j + 1)) = gsm (G.take j) + dn := by rw [List.take_add_one, hy]; exact gsm_app _ _
      have hgb := gsm_bd (G := G.take j) fun g hg => hdn g (List.mem_of_mem_take hg)
      rw [List.length_take] at hgb
      dsimp only at hd
      generalize gsm (G.take j) = s at *
      cases A with
      | nil =>
        repeat'
         conv => whnf
         first
          | refine zA ?_ | refine zB ?_ | refine zC ?_ | refine zD ?_ | refine zE ?_ | refine zF ?_ | refine zG ?_ | refine zH ?_ | refine zJ ?_ | refine zI ?_ | refine splT ?_ | refine splF ?_ | refine splNot ?_
          | ((first | refine splIn (fun hc => ?_) (fun hc => ?_) | refine splD (fun hc => ?_) (fun hc => ?_) | refine splE (fun hc => ?_) (fun hc => ?_) | refine splNE (fun hc => ?_) (fun hc => ?_)) <;> first | (exfalso; omega) | (exfalso; dsimp only at hc; omega) | skip)
          | refine Exists.intro (α := List Value) [iv x, iv y, iv dn, iv so, iv dp] ⟨⟨rfl, fun w' hw' => f0 w' hw'⟩, ?_⟩
        all_goals first | (exfalso; omega) | exact ⟨j + 1, by omega, by omega, Ent.weak rfl ⟨rfl, rfl, rfl, by rw [hgt]; rfl, rfl, rfl, rfl, rfl, rfl, rfl, trivial⟩ ⟨rfl, trivial⟩ fun _ h => h⟩
      | cons a A =>
        repeat'
         conv => whnf
         first
          | refine zA ?_ | refine zB ?_ | refine zC ?_ | refine zD ?_ | refine zE ?_ | refine zF ?_ | refine zG ?_ | refine zH ?_ | refine zJ ?_ | refine zI ?_ | refine splT ?_ | refine splF ?_ | refine splNot ?_
          | ((first | refine splIn (fun hc => ?_) (fun hc => ?_) | refine splD (fun hc => ?_) (fun hc => ?_) | refine splE (fun hc => ?_) (fun hc => ?_) | refine splNE (fun hc => ?_) (fun hc => ?_)) <;> first | (exfalso; omega) | (exfalso; dsimp only at hc; omega) | skip)
          | refine Exists.intro (α := List Value) [iv x, iv y, iv dn, iv so, iv dp] ⟨⟨rfl, fun w' hw' => f0 w' hw'⟩, ?_⟩
        all_goals first | (exfalso; omega) | exact ⟨j + 1, by omega, by omega, Ent.weak rfl ⟨rfl, rfl, rfl, by rw [hgt]; rfl, rfl, rfl, rfl, rfl, rfl, rfl, trivial⟩ ⟨rfl, rfl, trivial⟩ fun _ h => h⟩
    · obtain rfl : j = G.length := by omega
      rw [List.take_length]
      have hgb := gsm_bd hdn
      generalize gsm G = s at *
      cases ob with
      | false =>
        have hn : ¬ s > be := by simpa using hob.symm
        rw [if_neg (by simp), List.append_nil] at hst
        rcases hA with rfl | ⟨a, A', rfl⟩
        all_goals skip
        repeat'
         conv => whnf
         first
          | refine zA ?_ | refine zB ?_ | refine zC ?_ | refine zD ?_ | refine zE ?_ | refine zF ?_ | refine zG ?_ | refine zH ?_ | refine zJ ?_ | refine zI ?_ | refine splT ?_ | refine splF ?_ | refine splNot ?_
          | ((first | refine splIn (fun hc => ?_) (fun hc => ?_) | refine splD (fun hc => ?_) (fun hc => ?_) | refine splE (fun hc => ?_) (fun hc => ?_) | refine splNE (fun hc => ?_) (fun hc => ?_)) <;> first | (exfalso; omega) | (exfalso; dsimp only at hc; omega) | skip)
        all_goals first | (exfalso; omega) | exact ⟨k + 1, by omega, by omega, Ent.weak rfl ⟨by rw [hst]; rfl, rfl, rfl, rfl, trivial⟩ (by rw [hst]; first | trivial | exact ⟨rfl, trivial⟩) fun _ h => h⟩
      | true =>
        have hn : s > be := by simpa using hob.symm
        rw [if_pos rfl] at hst
        cases A with
        | nil =>
          repeat'
           conv => whnf
           first
            | refine zA ?_ | refine zB ?_ | refine zC ?_ | refine zD ?_ | refine zE ?_ | refine zF ?_ | refine zG ?_ | refine zH ?_ | refine zJ ?_ | refine zI ?_ | refine splT ?_ | refine splF ?_ | refine splNot ?_
            | ((first | refine splIn (fun hc => ?_) (fun hc => ?_) | refine splD (fun hc => ?_) (fun hc => ?_) | refine splE (fun hc => ?_) (fun hc => ?_) | refine splNE (fun hc => ?_) (fun hc => ?_)) <;> first | (exfalso; omega) | (exfalso; dsimp only at hc; omega) | skip)
          all_goals first | (exfalso; omega) | exact ⟨k + 1, by omega, by omega, Ent.ren (rho [(0, 4), (1, 5)]) rfl (by rw [hst]; rfl) ⟨by rw [hst]; rfl, rfl, rfl, rfl, trivial⟩ (by rw [hst]; exact ⟨rfl, trivial⟩) fun _ h => h⟩
        | cons a A =>
          simp only [List.length_cons] at hlen
          repeat'
           conv => whnf
           first
            | refine zA ?_ | refine zB ?_ | refine zC ?_ | refine zD ?_ | refine zE ?_ | refine zF ?_ | refine zG ?_ | refine zH ?_ | refine zJ ?_ | refine zI ?_ | refine splT ?_ | refine splF ?_ | refine splNot ?_
            | ((first | refine splIn (fun hc => ?_) (fun hc => ?_) | refine splD (fun hc => ?_) (fun hc => ?_) | refine splE (fun hc => ?_) (fun hc => ?_) | refine splNE (fun hc => ?_) (fun hc => ?_)) <;> first | (exfalso; omega) | (exfalso; dsimp only at hc; omega) | skip)
          all_goals first | (exfalso; omega) | exact ⟨k + 1, by omega, by omega, Ent.ren (rho [(0, 4), (1, 5)]) rfl (by rw [hst]; rfl) ⟨by rw [hst]; simp [oSV]; rfl, rfl, rfl, rfl, trivial⟩ (by rw [hst]; exact ⟨by simp [oM]; rfl, trivial⟩) fun _ h => h⟩
  · obtain rfl : k = T.length := by omega
    generalize ovl T T.length = A at *
    cases A with
    | nil =>
      repeat'
       conv => whnf
       first
        | refine zA ?_ | refine zB ?_ | refine zC ?_ | refine zD ?_ | refine zE ?_ | refine zF ?_ | refine zG ?_ | refine zH ?_ | refine zJ ?_ | refine zI ?_ | refine splT ?_ | refine splF ?_ | refine splNot ?_
        | ((first | refine splIn (fun hc => ?_) (fun hc => ?_) | refine splD (fun hc => ?_) (fun hc => ?_) | refine splE (fun hc => ?_) (fun hc => ?_) | refine splNE (fun hc => ?_) (fun hc => ?_)) <;> first | (exfalso; omega) | (exfalso; dsimp only at hc; omega) | skip)
      exact ⟨fun w' h => h, fun β w' hB hblk => ⟨(none, 0), rfl, fun _ _ => .inl ⟨rfl, rfl⟩⟩⟩
    | cons a A =>
      repeat'
       conv => whnf
       first
        | refine zA ?_ | refine zB ?_ | refine zC ?_ | refine zD ?_ | refine zE ?_ | refine zF ?_ | refine zG ?_ | refine zH ?_ | refine zJ ?_ | refine zI ?_ | refine splT ?_ | refine splF ?_ | refine splNot ?_
        | ((first | refine splIn (fun hc => ?_) (fun hc => ?_) | refine splD (fun hc => ?_) (fun hc => ?_) | refine splE (fun hc => ?_) (fun hc => ?_) | refine splNE (fun hc => ?_) (fun hc => ?_)) <;> first | (exfalso; omega) | (exfalso; dsimp only at hc; omega) | skip)
      exact ⟨fun w' h => h, fun β w' hB hblk => ⟨(some ⟨β 0, 0, none⟩, β 1), rfl, (hblk 0 _ rfl rfl).imp fun _ q => Rd.of_owns (sz := 1) (f := iF) (fun _ => rfl) rfl rfl q⟩⟩
end Go.Proofs.Ytfbokllafdnglaa
