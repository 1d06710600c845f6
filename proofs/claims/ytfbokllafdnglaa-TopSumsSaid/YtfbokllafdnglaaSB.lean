/- What flows in a grid: what flows returns. -/
import Derived.Test.YtfbokllafdnglaaSA
namespace Go.Proofs.Ytfbokllafdnglaa
open Go Tx Go.RowKit
set_option linter.unusedSimpArgs false
set_option linter.unusedVariables false

theorem pr_st {D : List (Int × Int)} {k : Nat} (hk : k < D.length) (g : Int × Int) : (k : Int).toNat * ti87.size + (gF g).length ≤ (D.flatMap gF).length := by
  rw [pr_len, Int.toNat_natCast]
  show k * 2 + 2 ≤ _
  omega
theorem pr_e {D : List (Int × Int)} {k : Nat} (hk : k < D.length) (g : Int × Int) : (D.flatMap gF).take ((k : Int).toNat * ti87.size) ++ gF g ++ (D.flatMap gF).drop ((k : Int).toNat * ti87.size + (gF g).length) = (D.set k g).flatMap gF := by
  rw [Int.toNat_natCast]
  exact pr_set hk g
theorem repl_set {α : Type} (n k : Nat) (a : α) : (List.replicate n a).set k a = List.replicate n a := by
  refine List.ext_getElem? fun j => ?_
  rw [List.getElem?_set]
  split
  · split
    · rename_i h1 h2
      subst h1
      rw [List.length_replicate] at h2
      rw [List.getElem?_replicate, if_pos h2]
    · rename_i h1 h2
      subst h1
      rw [List.getElem?_eq_none (by omega)]
  · rfl
set_option maxHeartbeats 4000000 in
set_option maxRecDepth 100000 in
theorem flows_ok (N : List Nd) (o : Option Addr) (c : Nat) (w : World) (hN : Rd 5 Nd.cs (.slice o N.length c) N w) (h : GdOk N) : Calls Try.prog 51 #[.agg #[.slice o N.length c, iv 0]] w fun e w' => ∃ y : (Option Addr × Nat) × (Option Addr × Nat), e = .returned (.tuple #[sV N.length y.1, sV N.length y.2]) ∧ Below w.heap.size w w' ∧ St w.heap.size (fun w2 => Rd 2 gF (sV N.length y.1) (flow N N.length) w2) w' := by
  have hl := h.l
  refine calls_fam env mixed Try.func51 has51 Try.ntmps51 [.agg #[.slice o N.length c, iv 0]] (by simp) ?_
  repeat'
   conv => whnf
   first
    | refine zA ?_ | refine zB ?_ | refine zC ?_ | refine zD ?_ | refine zE ?_ | refine zF ?_ | refine zG ?_ | refine zH ?_ | refine zJ ?_ | refine zI ?_ | refine splT ?_ | refine splF ?_ | refine splNot ?_
    | ((first | refine splIn (fun hc => ?_) (fun hc => ?_) | refine splD (fun hc => ?_) (fun hc => ?_) | refine splE (fun hc => ?_) (fun hc => ?_) | refine splNE (fun hc => ?_) (fun hc => ?_)) <;> first | (exfalso; omega) | (exfalso; dsimp only at hc; omega) | skip)
    | refine mkO env 2 N.length ((List.replicate N.length ((0 : Int), (0 : Int))).flatMap gF) rfl rfl rfl (by decide) rfl (by omega) (by decide) (pr_zero _) rfl ?_
    | refine mkO env 4 N.length ((List.replicate N.length ((0 : Int), (0 : Int))).flatMap gF) rfl rfl rfl (by decide) rfl (by omega) (by decide) (pr_zero _) rfl ?_
    | ((with_reducible show CallEv _ _ 85 _ _ _ _ _); refine callI env mixed 1000 [1, 2, 3] Try.func85 has85 Try.ntmps85 (Nat.le_of_ble_eq_true rfl) rfl rfl rfl ?_)
  conv => whnf
  refine rf_inline env mixed 1000 [1, 2, 3] Try.func101 has101 Try.ntmps101 rfl rfl (by decide) rfl rfl ?_
  intro lp asg bdy hasg hbdy
  repeat'
   conv => whnf
   first
    | refine zA ?_ | refine zB ?_ | refine zC ?_ | refine zD ?_ | refine zE ?_ | refine zF ?_ | refine zG ?_ | refine zH ?_ | refine zJ ?_ | refine zI ?_ | refine splT ?_ | refine splF ?_ | refine splNot ?_
    | ((first | refine splIn (fun hc => ?_) (fun hc => ?_) | refine splD (fun hc => ?_) (fun hc => ?_) | refine splE (fun hc => ?_) (fun hc => ?_) | refine splNE (fun hc => ?_) (fun hc => ?_)) <;> first | (exfalso; omega) | (exfalso; dsimp only at hc; omega) | skip)
  conv => whnf
  refine loopN 7 (fun k : Nat => [(0, .v (.func (.yield lp) #[] #[])), (1, .ptr 6 0), (3, .v (iv ((N.length : Int) - 1 - k)))])
    (fun k => [(0, .cells [.v (.slice o N.length c), .v (iv 0)] 92), (1, .cells [.os 2 3 N.length] 97), (2, .own 3 N.length 2 ((flow N k).flatMap gF) 87), (4, .own 5 N.length 2 ((List.replicate N.length ((0 : Int), (0 : Int))).flatMap gF) 87), (6, .cells [.v (.slice o N.length c)] 90)])
    (fun k => k ≤ N.length) (fun k => N.length - k) 0 (Nat.zero_le _) ⟨rfl, rfl, by rw [Int.natCast_zero, Int.sub_zero]; rfl, trivial⟩ ⟨rfl, rfl, rfl, rfl, rfl, trivial⟩ (fun _ _ => ⟨rfl, rfl⟩) ?_
  intro k hk
  rcases Nat.lt_or_ge k N.length with hkl | hkl
  · obtain ⟨i, hi⟩ : ∃ i, i + k + 1 = N.length := ⟨N.length - 1 - k, by omega⟩
    have hik : (N.length : Int) - 1 - (k : Int) = (i : Int) := by omega
    have hik2 : (N.length : Int) - 1 - ((k + 1 : Nat) : Int) = (i : Int) - 1 := by omega
    rw [hik]
    obtain ⟨x, hx⟩ : ∃ x, N[i]? = some x := ⟨_, List.getElem?_eq_getElem (by omega)⟩
    obtain ⟨_, ad, rfl, _⟩ := hN.ptr (by omega)
    have e0 := fun (w' : World) hw' => rd_ati (hN.below (w' := w') hw') hx
    have hst := flow_snoc hi hx
    have hbd := flow_bd h k hk
    have hb30 := bdK_30 (show k ≤ 30 by omega)
    have hfl := flow_len N k
    obtain ⟨x1, x2, x3, x4, x5, x6, x7⟩ := h.n i x hx
    obtain ⟨par, lo, hi', fu, sg⟩ := x
    dsimp only at x1 x2 x3 x4 x5 x6 x7 hst
    subst x5
    generalize flow N k = D at *
    obtain ⟨d, hd⟩ : ∃ d, D[i]? = some d := ⟨_, List.getElem?_eq_getElem (by omega)⟩
    have hdb := hbd i d hd
    have hsum : inBd 2300000000000000 (addP d (lo, hi')) := by unfold inBd addP at *; dsimp only at *; omega
    have p1 := fun w' => plus1_ok d (lo, hi') w' (by unfold inBd at *; omega) (by unfold inBd; dsimp only; omega)
    have hld := pr_at hd
    have hiD : i < D.length := by omega
    rw [upd_at hd] at hst
    by_cases hi0 : i = 0
    · rw [if_pos hi0] at hst
      repeat'
       conv => whnf
       first
        | refine zA ?_ | refine zB ?_ | refine zC ?_ | refine zD ?_ | refine zE ?_ | refine zF ?_ | refine zG ?_ | refine zH ?_ | refine zJ ?_ | refine zI ?_ | refine splT ?_ | refine splF ?_ | refine splNot ?_
        | ((first | refine splIn (fun hc => ?_) (fun hc => ?_) | refine splD (fun hc => ?_) (fun hc => ?_) | refine splE (fun hc => ?_) (fun hc => ?_) | refine splNE (fun hc => ?_) (fun hc => ?_)) <;> first | (exfalso; omega) | (exfalso; dsimp only at hc; omega) | skip)
        | refine Exists.intro (α := List Value) [iv par, iv lo, iv hi', iv fu, iv 0] ⟨⟨rfl, fun w' hw' => e0 w' hw'⟩, ?_⟩
        | refine And.intro (a := (_ : List _) = [] ∧ (_ : List _) = []) ⟨rfl, rfl⟩ ?_
        | refine yield_inline env mixed 0 2000 [1, 2, 3] [0, 1, 3] rfl rfl rfl rfl rfl rfl rfl ?_
        | refine vc_eq env hasg ?_
        | refine vc_eq env hbdy ?_
        | refine Exists.intro (α := List Value) (gF d) ⟨⟨rfl, hld⟩, ?_⟩
        | ((with_reducible show CallEv _ _ 86 _ _ _ _ _); refine callE (k := 86) (fun β w' hbw => p1 _) ?_)
      refine valsK_mk (gF (addP d (lo, hi'))) ?_
      refine And.intro (pr_st hiD _) ?_
      rw [pr_e hiD]
      repeat'
       conv => whnf
       first
        | refine zA ?_ | refine zB ?_ | refine zC ?_ | refine zD ?_ | refine zE ?_ | refine zF ?_ | refine zG ?_ | refine zH ?_ | refine zJ ?_ | refine zI ?_ | refine splT ?_ | refine splF ?_ | refine splNot ?_
        | ((first | refine splIn (fun hc => ?_) (fun hc => ?_) | refine splD (fun hc => ?_) (fun hc => ?_) | refine splE (fun hc => ?_) (fun hc => ?_) | refine splNE (fun hc => ?_) (fun hc => ?_)) <;> first | (exfalso; omega) | (exfalso; dsimp only at hc; omega) | skip)
      all_goals first | (exfalso; omega) | exact ⟨k + 1, by omega, by omega, Ent.weak rfl ⟨rfl, rfl, by rw [hik2]; rfl, trivial⟩ ⟨rfl, rfl, by rw [hst]; rfl, rfl, rfl, trivial⟩ (fun _ h => h) (.inr ⟨rfl, ⟨rfl, rfl, rfl, trivial⟩, ⟨rfl, trivial⟩⟩)⟩
    · rw [if_neg hi0] at hst
      have x7 := x7 (by omega)
      obtain ⟨q, rfl⟩ := Int.eq_ofNat_of_zero_le x7.1
      have hqi : q ≠ i := by omega
      obtain ⟨e, he⟩ : ∃ d, D[q]? = some d := ⟨_, List.getElem?_eq_getElem (by omega)⟩
      have heb := hbd q e he
      generalize hs : addP d (lo, hi') = s at *
      have p2 := fun w' => plus1_ok e s w' (by unfold inBd at *; omega) (by unfold inBd at *; omega)
      have hiE : i < (D.set i s).length := by rw [List.length_set]; exact hiD
      have hqE : q < (D.set i s).length := by rw [List.length_set]; omega
      have h1 : (D.set i s)[q]? = some e := by rw [List.getElem?_set_ne (Ne.symm hqi)]; exact he
      have h2 : (D.set i s)[i]? = some s := List.getElem?_set_self hiD
      rw [Int.toNat_natCast, upd_at h1, List.getD_eq_getElem?_getD, h2, Option.getD_some] at hst
      have hl1 := pr_at h1
      have hl2 := pr_at h2
      repeat'
       conv => whnf
       first
        | refine zA ?_ | refine zB ?_ | refine zC ?_ | refine zD ?_ | refine zE ?_ | refine zF ?_ | refine zG ?_ | refine zH ?_ | refine zJ ?_ | refine zI ?_ | refine splT ?_ | refine splF ?_ | refine splNot ?_
        | ((first | refine splIn (fun hc => ?_) (fun hc => ?_) | refine splD (fun hc => ?_) (fun hc => ?_) | refine splE (fun hc => ?_) (fun hc => ?_) | refine splNE (fun hc => ?_) (fun hc => ?_)) <;> first | (exfalso; omega) | (exfalso; dsimp only at hc; omega) | skip)
        | refine Exists.intro (α := List Value) [iv q, iv lo, iv hi', iv fu, iv 0] ⟨⟨rfl, fun w' hw' => e0 w' hw'⟩, ?_⟩
        | refine And.intro (a := (_ : List _) = [] ∧ (_ : List _) = []) ⟨rfl, rfl⟩ ?_
        | refine yield_inline env mixed 0 2000 [1, 2, 3] [0, 1, 3] rfl rfl rfl rfl rfl rfl rfl ?_
        | refine vc_eq env hasg ?_
        | refine vc_eq env hbdy ?_
        | refine Exists.intro (α := List Value) (gF d) ⟨⟨rfl, hld⟩, ?_⟩
        | ((with_reducible show CallEv _ _ 86 _ _ _ _ _); refine callE (k := 86) (fun β w' hbw => p1 _) ?_)
      refine valsK_mk (gF s) ?_
      refine And.intro (pr_st hiD _) ?_
      rw [pr_e hiD]
      repeat'
       conv => whnf
       first
        | refine zA ?_ | refine zB ?_ | refine zC ?_ | refine zD ?_ | refine zE ?_ | refine zF ?_ | refine zG ?_ | refine zH ?_ | refine zJ ?_ | refine zI ?_ | refine splT ?_ | refine splF ?_ | refine splNot ?_
        | ((first | refine splIn (fun hc => ?_) (fun hc => ?_) | refine splD (fun hc => ?_) (fun hc => ?_) | refine splE (fun hc => ?_) (fun hc => ?_) | refine splNE (fun hc => ?_) (fun hc => ?_)) <;> first | (exfalso; omega) | (exfalso; dsimp only at hc; omega) | skip)
        | refine Exists.intro (α := List Value) (gF e) ⟨⟨rfl, hl1⟩, ?_⟩
        | refine Exists.intro (α := List Value) (gF s) ⟨⟨rfl, hl2⟩, ?_⟩
        | ((with_reducible show CallEv _ _ 86 _ _ _ _ _); refine callE (k := 86) (fun β w' hbw => p2 _) ?_)
      all_goals first | (exfalso; omega) | skip
      refine valsK_mk (gF (addP e s)) ?_
      refine And.intro (pr_st hqE _) ?_
      rw [pr_e hqE]
      repeat'
       conv => whnf
       first
        | refine zA ?_ | refine zB ?_ | refine zC ?_ | refine zD ?_ | refine zE ?_ | refine zF ?_ | refine zG ?_ | refine zH ?_ | refine zJ ?_ | refine zI ?_ | refine splT ?_ | refine splF ?_ | refine splNot ?_
        | ((first | refine splIn (fun hc => ?_) (fun hc => ?_) | refine splD (fun hc => ?_) (fun hc => ?_) | refine splE (fun hc => ?_) (fun hc => ?_) | refine splNE (fun hc => ?_) (fun hc => ?_)) <;> first | (exfalso; omega) | (exfalso; dsimp only at hc; omega) | skip)
      all_goals first | (exfalso; omega) | exact ⟨k + 1, by omega, by omega, Ent.weak rfl ⟨rfl, rfl, by rw [hik2]; rfl, trivial⟩ ⟨rfl, rfl, by rw [hst]; rfl, rfl, rfl, trivial⟩ (fun _ h => h) (.inr ⟨rfl, ⟨rfl, rfl, rfl, trivial⟩, ⟨rfl, trivial⟩⟩)⟩
  · obtain rfl : k = N.length := by omega
    have hbd := flow_bd h N.length (Nat.le_refl _)
    have hb30 := bdK_30 (show N.length ≤ 30 by omega)
    have hfl := flow_len N N.length
    generalize hF : flow N N.length = D at *
    repeat'
     conv => whnf
     first
      | refine zA ?_ | refine zB ?_ | refine zC ?_ | refine zD ?_ | refine zE ?_ | refine zF ?_ | refine zG ?_ | refine zH ?_ | refine zJ ?_ | refine zI ?_ | refine splT ?_ | refine splF ?_ | refine splNot ?_
      | ((first | refine splIn (fun hc => ?_) (fun hc => ?_) | refine splD (fun hc => ?_) (fun hc => ?_) | refine splE (fun hc => ?_) (fun hc => ?_) | refine splNE (fun hc => ?_) (fun hc => ?_)) <;> first | (exfalso; omega) | (exfalso; dsimp only at hc; omega) | skip)
    all_goals first | (exfalso; omega) | skip
    refine loopN 7 (fun k : Nat => [(1, .ptr 0 0), (2, .ptr 1 0), (3, .os 4 5 N.length), (48, .v (.slice o N.length c)), (49, .v (iv N.length)), (50, .v (iv k))])
      (fun _ => [(0, .cells [.v (.slice o N.length c), .v (iv 0)] 92), (1, .cells [.os 2 3 N.length] 97), (2, .own 3 N.length 2 (D.flatMap gF) 87), (4, .own 5 N.length 2 ((List.replicate N.length ((0 : Int), (0 : Int))).flatMap gF) 87)])
      (fun k => k ≤ N.length) (fun k => N.length - k) 0 (Nat.zero_le _) ⟨rfl, rfl, rfl, rfl, rfl, rfl, trivial⟩ ⟨rfl, rfl, rfl, rfl, trivial⟩ (fun _ _ => ⟨rfl, rfl⟩) ?_
    intro k hk
    rcases Nat.lt_or_ge k N.length with hkl | hkl
    · obtain ⟨x, hx⟩ : ∃ x, N[k]? = some x := ⟨_, List.getElem?_eq_getElem (by omega)⟩
      obtain ⟨_, ad, rfl, _⟩ := hN.ptr (by omega)
      have e0 := fun (w' : World) hw' => rd_ati (hN.below (w' := w') hw') hx
      obtain ⟨x1, x2, x3, x4, x5, x6, x7⟩ := h.n k x hx
      obtain ⟨par, lo, hi', fu, sg⟩ := x
      dsimp only at x1 x2 x3 x4 x5 x6 x7
      subst x5
      by_cases hk0 : k = 0
      · subst hk0
        repeat'
         conv => whnf
         first
          | refine zA ?_ | refine zB ?_ | refine zC ?_ | refine zD ?_ | refine zE ?_ | refine zF ?_ | refine zG ?_ | refine zH ?_ | refine zJ ?_ | refine zI ?_ | refine splT ?_ | refine splF ?_ | refine splNot ?_
          | ((first | refine splIn (fun hc => ?_) (fun hc => ?_) | refine splD (fun hc => ?_) (fun hc => ?_) | refine splE (fun hc => ?_) (fun hc => ?_) | refine splNE (fun hc => ?_) (fun hc => ?_)) <;> first | (exfalso; omega) | (exfalso; dsimp only at hc; omega) | skip)
          | refine Exists.intro (α := List Value) [iv par, iv lo, iv hi', iv fu, iv 0] ⟨⟨rfl, fun w' hw' => e0 w' hw'⟩, ?_⟩
        all_goals first | (exfalso; omega) | exact ⟨1, by omega, by omega, Ent.weak rfl ⟨rfl, rfl, rfl, rfl, rfl, rfl, trivial⟩ ⟨rfl, rfl, rfl, rfl, trivial⟩ fun _ h => h⟩
      · have x7 := x7 (by omega)
        obtain ⟨q, rfl⟩ := Int.eq_ofNat_of_zero_le x7.1
        obtain ⟨d, hd⟩ : ∃ d, D[k]? = some d := ⟨_, List.getElem?_eq_getElem (by omega)⟩
        have p0 := fun w' => plus0_ok d w' (by have := hbd k d hd; unfold inBd at *; omega)
        have hz : (List.replicate N.length ((0 : Int), (0 : Int)))[q]? = some (0, 0) := by rw [List.getElem?_replicate, if_pos (by omega)]
        have hkD : k < (List.replicate N.length ((0 : Int), (0 : Int))).length := by rw [List.length_replicate]; exact hkl
        have hl1 := pr_at hz
        have hl2 := pr_at hd
        have hrs := repl_set N.length k ((0 : Int), (0 : Int))
        repeat'
         conv => whnf
         first
          | refine zA ?_ | refine zB ?_ | refine zC ?_ | refine zD ?_ | refine zE ?_ | refine zF ?_ | refine zG ?_ | refine zH ?_ | refine zJ ?_ | refine zI ?_ | refine splT ?_ | refine splF ?_ | refine splNot ?_
          | ((first | refine splIn (fun hc => ?_) (fun hc => ?_) | refine splD (fun hc => ?_) (fun hc => ?_) | refine splE (fun hc => ?_) (fun hc => ?_) | refine splNE (fun hc => ?_) (fun hc => ?_)) <;> first | (exfalso; omega) | (exfalso; dsimp only at hc; omega) | skip)
          | refine Exists.intro (α := List Value) [iv q, iv lo, iv hi', iv fu, iv 0] ⟨⟨rfl, fun w' hw' => e0 w' hw'⟩, ?_⟩
          | refine Exists.intro (α := List Value) (gF (0, 0)) ⟨⟨rfl, hl1⟩, ?_⟩
          | refine Exists.intro (α := List Value) (gF d) ⟨⟨rfl, hl2⟩, ?_⟩
          | ((with_reducible show CallEv _ _ 86 _ _ _ _ _); refine callE (k := 86) (fun β w' hbw => p0 _) ?_)
        all_goals first | (exfalso; omega) | skip
        refine valsK_mk (gF (0, 0)) ?_
        refine And.intro (pr_st hkD _) ?_
        rw [pr_e hkD, hrs]
        repeat'
         conv => whnf
         first
          | refine zA ?_ | refine zB ?_ | refine zC ?_ | refine zD ?_ | refine zE ?_ | refine zF ?_ | refine zG ?_ | refine zH ?_ | refine zJ ?_ | refine zI ?_ | refine splT ?_ | refine splF ?_ | refine splNot ?_
          | ((first | refine splIn (fun hc => ?_) (fun hc => ?_) | refine splD (fun hc => ?_) (fun hc => ?_) | refine splE (fun hc => ?_) (fun hc => ?_) | refine splNE (fun hc => ?_) (fun hc => ?_)) <;> first | (exfalso; omega) | (exfalso; dsimp only at hc; omega) | skip)
        all_goals first | (exfalso; omega) | exact ⟨k + 1, by omega, by omega, Ent.weak rfl ⟨rfl, rfl, rfl, rfl, rfl, rfl, trivial⟩ ⟨rfl, rfl, rfl, rfl, trivial⟩ fun _ h => h⟩
    · skip
      repeat'
       conv => whnf
       first
        | refine zA ?_ | refine zB ?_ | refine zC ?_ | refine zD ?_ | refine zE ?_ | refine zF ?_ | refine zG ?_ | refine zH ?_ | refine zJ ?_ | refine zI ?_ | refine splT ?_ | refine splF ?_ | refine splNot ?_
        | ((first | refine splIn (fun hc => ?_) (fun hc => ?_) | refine splD (fun hc => ?_) (fun hc => ?_) | refine splE (fun hc => ?_) (fun hc => ?_) | refine splNE (fun hc => ?_) (fun hc => ?_)) <;> first | (exfalso; omega) | (exfalso; dsimp only at hc; omega) | skip)
      all_goals first | (exfalso; omega) | exact ⟨fun w' h => h, fun β w' hBB hblk => ⟨((some ⟨β 2, 0, none⟩, β 3), (some ⟨β 4, 0, none⟩, β 5)), rfl, (hblk 2 _ rfl rfl).imp fun _ q => Rd.of_owns (sz := 2) (f := gF) (bs := D) (fun _ => rfl) rfl hfl.symm q⟩⟩
end Go.Proofs.Ytfbokllafdnglaa
