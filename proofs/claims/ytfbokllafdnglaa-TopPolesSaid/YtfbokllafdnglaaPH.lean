/- TopPoles answers true. By tPH.py. -/
import Derived.Test.YtfbokllafdnglaaPI
namespace Go.Proofs.Ytfbokllafdnglaa
open Go Tx Go.RowKit
set_option linter.unusedSimpArgs false
set_option linter.unusedVariables false

theorem neqEB4 {a b : Bool} {x y : Operand} {K : Value → Prop} (h : K (.bool (a != b))) : ∃ v, (∀ _ : Nat → Nat, RunIs Try.prog (do eqGuard .neq 4 x y (.bool a) (.bool b); binOp .neq 4 (.bool a) (.bool b)) v) ∧ K v := ⟨_, fun _ w => by
  have h := eqIn4 9999 a b w
  simp [eqGuard, binOp, Op.equal, Op.maxDepth, h, bne], h⟩
set_option maxHeartbeats 16000000 in
set_option maxRecDepth 100000 in
theorem TopPoles_ok (T : List Hd) (o : Option Addr) (c : Nat) (w : World) (h : TtIn o c T w) :
    Calls Try.prog 3 #[.slice o T.length c] w fun e w' => e = .returned (.bool true) ∧ Below w.heap.size w w' := by
  have h6 := fun (w' : World) (hb : Below w.heap.size w w') => Few_ok T o c w' (h.below hb)
  have h7 := fun (w' : World) (hb : Below w.heap.size w w') => RightT_ok T o c w' (h.below hb)
  by_cases hgo : fwB T = true ∧ ttOk T = true
  case neg =>
    refine calls_val env mixed Try.func3 has3 Try.ntmps3 [.slice o T.length c] (by simp) ?_
    cases q1 : fwB T <;> cases q2 : ttOk T
    all_goals rw [q1] at h6
    all_goals rw [q2] at h7
    all_goals first | (exfalso; exact hgo ⟨q1, q2⟩) | skip
    all_goals skip
    repeat'
     conv => whnf
     first
      | refine zA ?_ | refine zB ?_ | refine zC ?_ | refine zD ?_ | refine zE ?_ | refine zF ?_ | refine zG ?_ | refine zH ?_ | refine zJ ?_ | refine zI ?_ | refine splT ?_ | refine splF ?_ | refine splNot ?_
      | ((first | refine splIn (fun hc => ?_) (fun hc => ?_) | refine splD (fun hc => ?_) (fun hc => ?_) | refine splE (fun hc => ?_) (fun hc => ?_) | refine splNE (fun hc => ?_) (fun hc => ?_)) <;> first | (exfalso; omega) | (exfalso; dsimp only at hc; omega) | skip)
      | ((with_reducible show CallEv _ _ 6 _ _ _ _ _); refine callE (k := 6) (fun β w' hbw => h6 _ hbw) ?_)
      | ((with_reducible show CallEv _ _ 7 _ _ _ _ _); refine callE (k := 7) (fun β w' hbw => h7 _ hbw) ?_)
      | ((with_reducible show CallEv _ _ 8 _ _ _ _ _); refine callE (k := 8) (fun β w' hbw => hangs_ok _) ?_)
    all_goals first | (exfalso; omega) | exact ⟨fun β => rfl, fun w' h => h⟩
  obtain ⟨q1, q2⟩ := hgo
  rw [q1] at h6
  rw [q2] at h7
  have h10 := fun (w' : World) (hb : Below w.heap.size w w') => Tent_ok T o c w' (h.below hb) q2
  have h9 := fun (y : (Option Addr × Nat) × List Hd) (hy : y.2.map Hd.d = T.map Hd.d) (w' : World) (hw : TtIn y.1.1 y.1.2 y.2 w') => Overloaded_ok y.2 y.1.1 y.1.2 w' hw (by rw [ttOk_d hy]; exact q2)
  have hyl : ∀ y : (Option Addr × Nat) × List Hd, y.2.map Hd.d = T.map Hd.d → y.2.length = T.length := fun y hy => by have := congrArg List.length hy; simpa using this
  have hhd := ttOk_hd q2
  have hT12 := (ttOk_iff.1 q2).2.2
  obtain ⟨hT, hg, htl, hgl⟩ := h
  clear htl hgl
  refine calls_val env mixed Try.func3 has3 Try.ntmps3 [.slice o T.length c] (by simp) ?_
  repeat'
   conv => whnf
   first
    | refine zA ?_ | refine zB ?_ | refine zC ?_ | refine zD ?_ | refine zE ?_ | refine zF ?_ | refine zG ?_ | refine zH ?_ | refine zJ ?_ | refine zI ?_ | refine splT ?_ | refine splF ?_ | refine splNot ?_
    | ((first | refine splIn (fun hc => ?_) (fun hc => ?_) | refine splD (fun hc => ?_) (fun hc => ?_) | refine splE (fun hc => ?_) (fun hc => ?_) | refine splNE (fun hc => ?_) (fun hc => ?_)) <;> first | (exfalso; omega) | (exfalso; dsimp only at hc; omega) | skip)
    | ((with_reducible show CallEv _ _ 6 _ _ _ _ _); refine callE (k := 6) (fun β w' hbw => h6 _ hbw) ?_)
    | ((with_reducible show CallEv _ _ 7 _ _ _ _ _); refine callE (k := 7) (fun β w' hbw => h7 _ hbw) ?_)
    | ((with_reducible show CallEv _ _ 10 _ _ _ _ _); refine callF [] (fun y : { y : (Option Addr × Nat) × List Hd // y.2.map Hd.d = T.map Hd.d } => sV T.length y.1.1) (fun y => TtIn y.1.1.1 y.1.1.2 y.1.2) (fun β w' _ hbw => h10 w' hbw) ?_; intro y; obtain ⟨⟨⟨v1, v2⟩, S⟩, hS⟩ := y; have h9a := h9 ((v1, v2), S) hS; rw [hyl ((v1, v2), S) hS, ovl_d hS] at h9a; dsimp only at hS h9a ⊢)
    | ((with_reducible show CallEv _ _ 9 _ _ _ _ _); refine callF [] (fun z : { z : Option Addr × Nat // ovl T T.length = [] ∨ ∃ ad, z.1 = some ad } => .tuple #[sV (ovl T T.length).length z.1, iv 0]) (fun z => Rd 1 iF (sV (ovl T T.length).length z.1) (ovl T T.length)) (fun β w' _ hbw => (h9a w' hbw.2).mono fun e w2 ⟨z, h1, h2, h3⟩ => ⟨⟨z, rd_ys h3.now⟩, h1, h2, h3⟩) ?_; intro z; obtain ⟨⟨z1, z2⟩, hz⟩ := z; dsimp only at hz ⊢)
  all_goals first | (exfalso; omega) | skip
  refine loopE (fun i : Nat => [(0, .v (.slice o T.length c)), (3, .v (sV (ovl T T.length).length (z1, z2))), (5, .v (iv (ovl T i).length)), (6, .v (iv i))]) (fun _ => []) (fun i => i ≤ T.length) (fun i => T.length - i) 0 (Nat.zero_le _) ⟨rfl, rfl, rfl, rfl, trivial⟩ trivial (fun _ => ⟨rfl, rfl⟩) ?_
  intro i hi
  rcases Nat.lt_or_ge i T.length with hil | hil
  · obtain ⟨⟨ar, be, go, gc, G⟩, hx⟩ : ∃ b, T[i]? = some b := ⟨_, List.getElem?_eq_getElem hil⟩
    obtain ⟨_, ad, rfl, _⟩ := hT.ptr (by omega)
    have e1 := fun (w' : World) hw' => rd_fldz (hT.below (w' := w') hw') hx _ rfl 1 (iv be) rfl
    have e2 := fun (w' : World) hw' => rd_fldz (hT.below (w' := w') hw') hx _ rfl 2 (.slice go G.length gc) rfl
    have hG := hg _ (List.mem_of_getElem? hx)
    obtain ⟨-, hbe, hG8, hgy⟩ := hhd _ (List.mem_of_getElem? hx)
    have hdn := gyOk_dn hgy
    dsimp only at hG hbe hG8 hdn
    obtain ⟨a1, a2, a3⟩ := ovl_at T hil
    have hob : ovB T i = decide (gsm G > be) := by rw [ovB, hx]
    have hst : (ovl T (i + 1)).length = (ovl T i).length + (if ovB T i = true then 1 else 0) := by
      rw [ovl, List.length_append]; split <;> rfl
    have hl12 := ovl_len T T.length
    have hpo := fun (r : Rig) (w' : World) h1 h2 hin => pole_over r be G w' h1 h2 hG8 hdn hin
    have hpn := fun (r : Rig) (w' : World) h1 h2 hin => pole_none r be G w' h1 h2 hG8 hdn hin
    generalize ovl T T.length = LL at *
    generalize (ovl T i).length = K at *
    generalize ovB T i = ob at *
    cases ob with
    | false =>
      have hgt : ¬ gsm G > be := by simpa using hob.symm
      rw [if_neg (by simp), Nat.add_zero] at hst
      rcases a2 rfl with hKL | ⟨m, hm, hne⟩
      · skip
        by_cases hb6 : be > 1000000
        · skip
          repeat'
           conv => whnf
           first
            | refine zA ?_ | refine zB ?_ | refine zC ?_ | refine zD ?_ | refine zE ?_ | refine zF ?_ | refine zG ?_ | refine zH ?_ | refine zJ ?_ | refine zI ?_ | refine splT ?_ | refine splF ?_ | refine splNot ?_
            | ((first | refine splIn (fun hc => ?_) (fun hc => ?_) | refine splD (fun hc => ?_) (fun hc => ?_) | refine splE (fun hc => ?_) (fun hc => ?_) | refine splNE (fun hc => ?_) (fun hc => ?_)) <;> first | (exfalso; omega) | (exfalso; dsimp only at hc; omega) | skip)
            | refine Exists.intro (α := List Value) [iv be] ⟨⟨rfl, fun w' hw' => e1 w' hw'.1.1⟩, ?_⟩
          all_goals first | (exfalso; omega) | exact ⟨i + 1, by omega, by omega, Ent.weak rfl ⟨rfl, rfl, by rw [hst]; rfl, rfl, trivial⟩ trivial fun _ h => h⟩
        repeat'
         conv => whnf
         first
          | refine zA ?_ | refine zB ?_ | refine zC ?_ | refine zD ?_ | refine zE ?_ | refine zF ?_ | refine zG ?_ | refine zH ?_ | refine zJ ?_ | refine zI ?_ | refine splT ?_ | refine splF ?_ | refine splNot ?_
          | ((first | refine splIn (fun hc => ?_) (fun hc => ?_) | refine splD (fun hc => ?_) (fun hc => ?_) | refine splE (fun hc => ?_) (fun hc => ?_) | refine splNE (fun hc => ?_) (fun hc => ?_)) <;> first | (exfalso; omega) | (exfalso; dsimp only at hc; omega) | skip)
          | refine Exists.intro (α := List Value) [iv be] ⟨⟨rfl, fun w' hw' => e1 w' hw'.1.1⟩, ?_⟩
        all_goals first | (exfalso; omega) | skip
        refine loopN 4 (fun j : Nat => [(0, .v (.slice (some ad) T.length c)), (3, .v (sV LL.length (z1, z2))), (5, .v (iv K)), (6, .v (iv i)), (7, .v (.bool false)), (8, .ptr 1 0), (9, .v (iv j))]) (fun j => (0, .cells [.v (iv be)] 3) :: (1, .cells [.sl 0 0 1 1, .v (.slice none 0 0), .v (iv 1000), .v (iv 1000), .v (iv 1000), oSV 2 3 ((G.take j).map ldG)] 41) :: oM 2 3 5 Ld.cs 47 ((G.take j).map ldG)) (fun j => j ≤ G.length) (fun j => G.length - j) 0 (Nat.zero_le _) ⟨rfl, rfl, rfl, rfl, rfl, rfl, rfl, trivial⟩ ⟨rfl, rfl, trivial⟩ (fun j _ => by cases (G.take j).map ldG <;> exact ⟨rfl, rfl⟩) ?_
        intro j hj
        rcases Nat.lt_or_ge j G.length with hjl | hjl
        · obtain ⟨⟨x, y, dn, so, dp⟩, hy⟩ : ∃ b, G[j]? = some b := ⟨_, List.getElem?_eq_getElem hjl⟩
          obtain ⟨_, ag, rfl, _⟩ := hG.ptr (by omega)
          have f0 := fun (w' : World) hw' => rd_fldz (hG.below (w' := w') hw') hy _ rfl 2 (iv dn) rfl
          have ht : (G.take (j + 1)).map ldG = (G.take j).map ldG ++ [⟨-1, 0, 0, 0, dn⟩] := by rw [List.take_add_one, hy, List.map_append]; rfl
          have hlen : ((G.take j).map ldG).length = j := by rw [List.length_map, List.length_take]; omega
          generalize (G.take j).map ldG = E at *
          cases E with
          | nil =>
            repeat'
             conv => whnf
             first
              | refine zA ?_ | refine zB ?_ | refine zC ?_ | refine zD ?_ | refine zE ?_ | refine zF ?_ | refine zG ?_ | refine zH ?_ | refine zJ ?_ | refine zI ?_ | refine splT ?_ | refine splF ?_ | refine splNot ?_
              | ((first | refine splIn (fun hc => ?_) (fun hc => ?_) | refine splD (fun hc => ?_) (fun hc => ?_) | refine splE (fun hc => ?_) (fun hc => ?_) | refine splNE (fun hc => ?_) (fun hc => ?_)) <;> first | (exfalso; omega) | (exfalso; dsimp only at hc; omega) | skip)
              | refine Exists.intro (α := List Value) [.slice (some ag) G.length gc] ⟨⟨rfl, fun w' hw' => e2 w' hw'.1.1⟩, ?_⟩
              | refine Exists.intro (α := List Value) [iv dn] ⟨⟨rfl, fun w' hw' => f0 w' hw'.1.1⟩, ?_⟩
            all_goals first | (exfalso; omega) | exact ⟨j + 1, by omega, by omega, Ent.ren (rho [(2, 5), (3, 6)]) rfl (by rw [ht]; rfl) ⟨rfl, rfl, rfl, rfl, rfl, rfl, rfl, trivial⟩ (by rw [ht]; exact ⟨rfl, rfl, rfl, trivial⟩) fun _ h => h⟩
          | cons b E =>
            simp only [List.length_cons] at hlen
            repeat'
             conv => whnf
             first
              | refine zA ?_ | refine zB ?_ | refine zC ?_ | refine zD ?_ | refine zE ?_ | refine zF ?_ | refine zG ?_ | refine zH ?_ | refine zJ ?_ | refine zI ?_ | refine splT ?_ | refine splF ?_ | refine splNot ?_
              | ((first | refine splIn (fun hc => ?_) (fun hc => ?_) | refine splD (fun hc => ?_) (fun hc => ?_) | refine splE (fun hc => ?_) (fun hc => ?_) | refine splNE (fun hc => ?_) (fun hc => ?_)) <;> first | (exfalso; omega) | (exfalso; dsimp only at hc; omega) | skip)
              | refine Exists.intro (α := List Value) [.slice (some ag) G.length gc] ⟨⟨rfl, fun w' hw' => e2 w' hw'.1.1⟩, ?_⟩
              | refine Exists.intro (α := List Value) [iv dn] ⟨⟨rfl, fun w' hw' => f0 w' hw'.1.1⟩, ?_⟩
            all_goals first | (exfalso; omega) | exact ⟨j + 1, by omega, by omega, Ent.ren (rho [(2, 5), (3, 6)]) rfl (by rw [ht]; rfl) ⟨rfl, rfl, rfl, rfl, rfl, rfl, rfl, trivial⟩ (by rw [ht]; exact ⟨rfl, by simp [oSV]; rfl, by simp [oM]; rfl, trivial⟩) fun _ h => h⟩
        · obtain rfl : j = G.length := by omega
          rw [List.take_length]
          cases G with
          | nil =>
            repeat'
             conv => whnf
             first
              | refine zA ?_ | refine zB ?_ | refine zC ?_ | refine zD ?_ | refine zE ?_ | refine zF ?_ | refine zG ?_ | refine zH ?_ | refine zJ ?_ | refine zI ?_ | refine splT ?_ | refine splF ?_ | refine splNot ?_
              | ((first | refine splIn (fun hc => ?_) (fun hc => ?_) | refine splD (fun hc => ?_) (fun hc => ?_) | refine splE (fun hc => ?_) (fun hc => ?_) | refine splNE (fun hc => ?_) (fun hc => ?_)) <;> first | (exfalso; omega) | (exfalso; dsimp only at hc; omega) | skip)
              | refine Exists.intro (α := List Value) [.slice go ([] : List Gy).length gc] ⟨⟨rfl, fun w' hw' => e2 w' hw'.1.1⟩, ?_⟩
              | refine Exists.intro (α := List Value) [.slice go ([] : List Gy).length gc] ⟨⟨rfl, fun w' hw' => e2 w' hw'.1.1.1⟩, ?_⟩
              | ((with_reducible show CallEv _ _ 11 _ _ _ _ _); refine callF [0] (fun y : Option Addr × Nat => .tuple #[.agg #[iv 0, iv 0], sV 0 y, iv 7]) (fun _ _ => True) (fun β w' hbk hbw => hpn ⟨some ⟨β 0, 0, none⟩, 1, 1, none, 0, 0, 1000, 1000, 1000, none, 0, 0⟩ w' ⟨rfl, rfl, rfl⟩ (by omega) ⟨Rd.of_cells (sz := 1) (f := iF) (fun _ => rfl) rfl (hbk 0 (by simp) _ rfl), .inl ⟨rfl, rfl⟩, .inl ⟨rfl, rfl⟩, rfl, rfl, rfl, by simp, by simp, (by simp)⟩ hgt) ?_; intro y; obtain ⟨y1, y2⟩ := y; dsimp only)
              | refine neqEB4 ?_
              | refine neqE95 (q := false) rfl ?_
            all_goals first | (exfalso; omega) | exact ⟨i + 1, by omega, by omega, Ent.weak rfl ⟨rfl, rfl, by rw [hst]; rfl, rfl, trivial⟩ trivial fun _ h => h.1⟩
          | cons g0 G =>
            repeat'
             conv => whnf
             first
              | refine zA ?_ | refine zB ?_ | refine zC ?_ | refine zD ?_ | refine zE ?_ | refine zF ?_ | refine zG ?_ | refine zH ?_ | refine zJ ?_ | refine zI ?_ | refine splT ?_ | refine splF ?_ | refine splNot ?_
              | ((first | refine splIn (fun hc => ?_) (fun hc => ?_) | refine splD (fun hc => ?_) (fun hc => ?_) | refine splE (fun hc => ?_) (fun hc => ?_) | refine splNE (fun hc => ?_) (fun hc => ?_)) <;> first | (exfalso; omega) | (exfalso; dsimp only at hc; omega) | skip)
              | refine Exists.intro (α := List Value) [.slice go (g0 :: G).length gc] ⟨⟨rfl, fun w' hw' => e2 w' hw'.1.1⟩, ?_⟩
              | refine Exists.intro (α := List Value) [.slice go (g0 :: G).length gc] ⟨⟨rfl, fun w' hw' => e2 w' hw'.1.1.1⟩, ?_⟩
              | ((with_reducible show CallEv _ _ 11 _ _ _ _ _); refine callF [0, 2] (fun y : Option Addr × Nat => .tuple #[.agg #[iv 0, iv 0], sV 0 y, iv 7]) (fun _ _ => True) (fun β w' hbk hbw => hpn ⟨some ⟨β 0, 0, none⟩, 1, 1, none, 0, 0, 1000, 1000, 1000, some ⟨β 2, 0, none⟩, (G.map ldG).length + 1, β 3⟩ w' ⟨rfl, rfl, rfl⟩ (by omega) ⟨Rd.of_cells (sz := 1) (f := iF) (fun _ => rfl) rfl (hbk 0 (by simp) _ rfl), .inl ⟨rfl, rfl⟩, Rd.of_owns (sz := 5) (f := Ld.cs) (fun _ => rfl) rfl rfl (hbk 2 (by simp) _ rfl), rfl, rfl, rfl, by simp, by simp, (by rw [List.length_map]; omega)⟩ hgt) ?_; intro y; obtain ⟨y1, y2⟩ := y; dsimp only)
              | refine neqEB4 ?_
              | refine neqE95 (q := false) rfl ?_
            all_goals first | (exfalso; omega) | exact ⟨i + 1, by omega, by omega, Ent.weak rfl ⟨rfl, rfl, by rw [hst]; rfl, rfl, trivial⟩ trivial fun _ h => h.1⟩
      · obtain ⟨za, rfl⟩ : ∃ a, z1 = some a := hz.resolve_left (fun hc => by rw [hc] at hm; simp at hm)
        have hKl : K < LL.length := (List.getElem?_eq_some_iff.1 hm).1
        by_cases hb6 : be > 1000000
        · skip
          repeat'
           conv => whnf
           first
            | refine zA ?_ | refine zB ?_ | refine zC ?_ | refine zD ?_ | refine zE ?_ | refine zF ?_ | refine zG ?_ | refine zH ?_ | refine zJ ?_ | refine zI ?_ | refine splT ?_ | refine splF ?_ | refine splNot ?_
            | ((first | refine splIn (fun hc => ?_) (fun hc => ?_) | refine splD (fun hc => ?_) (fun hc => ?_) | refine splE (fun hc => ?_) (fun hc => ?_) | refine splNE (fun hc => ?_) (fun hc => ?_)) <;> first | (exfalso; omega) | (exfalso; dsimp only at hc; omega) | skip)
            | refine Exists.intro (α := List Value) [iv be] ⟨⟨rfl, fun w' hw' => e1 w' hw'.1.1⟩, ?_⟩
            | refine Exists.intro (α := List Value) [iv m] ⟨⟨rfl, fun w' hw' => rd_ati hw'.2 hm⟩, ?_⟩
          all_goals first | (exfalso; omega) | exact ⟨i + 1, by omega, by omega, Ent.weak rfl ⟨rfl, rfl, by rw [hst]; rfl, rfl, trivial⟩ trivial fun _ h => h⟩
        repeat'
         conv => whnf
         first
          | refine zA ?_ | refine zB ?_ | refine zC ?_ | refine zD ?_ | refine zE ?_ | refine zF ?_ | refine zG ?_ | refine zH ?_ | refine zJ ?_ | refine zI ?_ | refine splT ?_ | refine splF ?_ | refine splNot ?_
          | ((first | refine splIn (fun hc => ?_) (fun hc => ?_) | refine splD (fun hc => ?_) (fun hc => ?_) | refine splE (fun hc => ?_) (fun hc => ?_) | refine splNE (fun hc => ?_) (fun hc => ?_)) <;> first | (exfalso; omega) | (exfalso; dsimp only at hc; omega) | skip)
          | refine Exists.intro (α := List Value) [iv be] ⟨⟨rfl, fun w' hw' => e1 w' hw'.1.1⟩, ?_⟩
          | refine Exists.intro (α := List Value) [iv m] ⟨⟨rfl, fun w' hw' => rd_ati hw'.2 hm⟩, ?_⟩
        all_goals first | (exfalso; omega) | skip
        refine loopN 4 (fun j : Nat => [(0, .v (.slice (some ad) T.length c)), (3, .v (sV LL.length (some za, z2))), (5, .v (iv K)), (6, .v (iv i)), (7, .v (.bool false)), (8, .ptr 1 0), (9, .v (iv j))]) (fun j => (0, .cells [.v (iv be)] 3) :: (1, .cells [.sl 0 0 1 1, .v (.slice none 0 0), .v (iv 1000), .v (iv 1000), .v (iv 1000), oSV 2 3 ((G.take j).map ldG)] 41) :: oM 2 3 5 Ld.cs 47 ((G.take j).map ldG)) (fun j => j ≤ G.length) (fun j => G.length - j) 0 (Nat.zero_le _) ⟨rfl, rfl, rfl, rfl, (Eq.trans (b := some (SV.v (Value.bool (m == (i : Int))))) rfl (by rw [beq_eq_false_iff_ne.2 hne])), rfl, rfl, trivial⟩ ⟨rfl, rfl, trivial⟩ (fun j _ => by cases (G.take j).map ldG <;> exact ⟨rfl, rfl⟩) ?_
        intro j hj
        rcases Nat.lt_or_ge j G.length with hjl | hjl
        · obtain ⟨⟨x, y, dn, so, dp⟩, hy⟩ : ∃ b, G[j]? = some b := ⟨_, List.getElem?_eq_getElem hjl⟩
          obtain ⟨_, ag, rfl, _⟩ := hG.ptr (by omega)
          have f0 := fun (w' : World) hw' => rd_fldz (hG.below (w' := w') hw') hy _ rfl 2 (iv dn) rfl
          have ht : (G.take (j + 1)).map ldG = (G.take j).map ldG ++ [⟨-1, 0, 0, 0, dn⟩] := by rw [List.take_add_one, hy, List.map_append]; rfl
          have hlen : ((G.take j).map ldG).length = j := by rw [List.length_map, List.length_take]; omega
          generalize (G.take j).map ldG = E at *
          cases E with
          | nil =>
            repeat'
             conv => whnf
             first
              | refine zA ?_ | refine zB ?_ | refine zC ?_ | refine zD ?_ | refine zE ?_ | refine zF ?_ | refine zG ?_ | refine zH ?_ | refine zJ ?_ | refine zI ?_ | refine splT ?_ | refine splF ?_ | refine splNot ?_
              | ((first | refine splIn (fun hc => ?_) (fun hc => ?_) | refine splD (fun hc => ?_) (fun hc => ?_) | refine splE (fun hc => ?_) (fun hc => ?_) | refine splNE (fun hc => ?_) (fun hc => ?_)) <;> first | (exfalso; omega) | (exfalso; dsimp only at hc; omega) | skip)
              | refine Exists.intro (α := List Value) [.slice (some ag) G.length gc] ⟨⟨rfl, fun w' hw' => e2 w' hw'.1.1⟩, ?_⟩
              | refine Exists.intro (α := List Value) [iv dn] ⟨⟨rfl, fun w' hw' => f0 w' hw'.1.1⟩, ?_⟩
            all_goals first | (exfalso; omega) | exact ⟨j + 1, by omega, by omega, Ent.ren (rho [(2, 5), (3, 6)]) rfl (by rw [ht]; rfl) ⟨rfl, rfl, rfl, rfl, rfl, rfl, rfl, trivial⟩ (by rw [ht]; exact ⟨rfl, rfl, rfl, trivial⟩) fun _ h => h⟩
          | cons b E =>
            simp only [List.length_cons] at hlen
            repeat'
             conv => whnf
             first
              | refine zA ?_ | refine zB ?_ | refine zC ?_ | refine zD ?_ | refine zE ?_ | refine zF ?_ | refine zG ?_ | refine zH ?_ | refine zJ ?_ | refine zI ?_ | refine splT ?_ | refine splF ?_ | refine splNot ?_
              | ((first | refine splIn (fun hc => ?_) (fun hc => ?_) | refine splD (fun hc => ?_) (fun hc => ?_) | refine splE (fun hc => ?_) (fun hc => ?_) | refine splNE (fun hc => ?_) (fun hc => ?_)) <;> first | (exfalso; omega) | (exfalso; dsimp only at hc; omega) | skip)
              | refine Exists.intro (α := List Value) [.slice (some ag) G.length gc] ⟨⟨rfl, fun w' hw' => e2 w' hw'.1.1⟩, ?_⟩
              | refine Exists.intro (α := List Value) [iv dn] ⟨⟨rfl, fun w' hw' => f0 w' hw'.1.1⟩, ?_⟩
            all_goals first | (exfalso; omega) | exact ⟨j + 1, by omega, by omega, Ent.ren (rho [(2, 5), (3, 6)]) rfl (by rw [ht]; rfl) ⟨rfl, rfl, rfl, rfl, rfl, rfl, rfl, trivial⟩ (by rw [ht]; exact ⟨rfl, by simp [oSV]; rfl, by simp [oM]; rfl, trivial⟩) fun _ h => h⟩
        · obtain rfl : j = G.length := by omega
          rw [List.take_length]
          cases G with
          | nil =>
            repeat'
             conv => whnf
             first
              | refine zA ?_ | refine zB ?_ | refine zC ?_ | refine zD ?_ | refine zE ?_ | refine zF ?_ | refine zG ?_ | refine zH ?_ | refine zJ ?_ | refine zI ?_ | refine splT ?_ | refine splF ?_ | refine splNot ?_
              | ((first | refine splIn (fun hc => ?_) (fun hc => ?_) | refine splD (fun hc => ?_) (fun hc => ?_) | refine splE (fun hc => ?_) (fun hc => ?_) | refine splNE (fun hc => ?_) (fun hc => ?_)) <;> first | (exfalso; omega) | (exfalso; dsimp only at hc; omega) | skip)
              | refine Exists.intro (α := List Value) [.slice go ([] : List Gy).length gc] ⟨⟨rfl, fun w' hw' => e2 w' hw'.1.1⟩, ?_⟩
              | refine Exists.intro (α := List Value) [.slice go ([] : List Gy).length gc] ⟨⟨rfl, fun w' hw' => e2 w' hw'.1.1.1⟩, ?_⟩
              | ((with_reducible show CallEv _ _ 11 _ _ _ _ _); refine callF [0] (fun y : Option Addr × Nat => .tuple #[.agg #[iv 0, iv 0], sV 0 y, iv 7]) (fun _ _ => True) (fun β w' hbk hbw => hpn ⟨some ⟨β 0, 0, none⟩, 1, 1, none, 0, 0, 1000, 1000, 1000, none, 0, 0⟩ w' ⟨rfl, rfl, rfl⟩ (by omega) ⟨Rd.of_cells (sz := 1) (f := iF) (fun _ => rfl) rfl (hbk 0 (by simp) _ rfl), .inl ⟨rfl, rfl⟩, .inl ⟨rfl, rfl⟩, rfl, rfl, rfl, by simp, by simp, (by simp)⟩ hgt) ?_; intro y; obtain ⟨y1, y2⟩ := y; dsimp only)
              | refine neqEB4 ?_
              | refine neqE95 (q := false) rfl ?_
            all_goals first | (exfalso; omega) | exact ⟨i + 1, by omega, by omega, Ent.weak rfl ⟨rfl, rfl, by rw [hst]; rfl, rfl, trivial⟩ trivial fun _ h => h.1⟩
          | cons g0 G =>
            repeat'
             conv => whnf
             first
              | refine zA ?_ | refine zB ?_ | refine zC ?_ | refine zD ?_ | refine zE ?_ | refine zF ?_ | refine zG ?_ | refine zH ?_ | refine zJ ?_ | refine zI ?_ | refine splT ?_ | refine splF ?_ | refine splNot ?_
              | ((first | refine splIn (fun hc => ?_) (fun hc => ?_) | refine splD (fun hc => ?_) (fun hc => ?_) | refine splE (fun hc => ?_) (fun hc => ?_) | refine splNE (fun hc => ?_) (fun hc => ?_)) <;> first | (exfalso; omega) | (exfalso; dsimp only at hc; omega) | skip)
              | refine Exists.intro (α := List Value) [.slice go (g0 :: G).length gc] ⟨⟨rfl, fun w' hw' => e2 w' hw'.1.1⟩, ?_⟩
              | refine Exists.intro (α := List Value) [.slice go (g0 :: G).length gc] ⟨⟨rfl, fun w' hw' => e2 w' hw'.1.1.1⟩, ?_⟩
              | ((with_reducible show CallEv _ _ 11 _ _ _ _ _); refine callF [0, 2] (fun y : Option Addr × Nat => .tuple #[.agg #[iv 0, iv 0], sV 0 y, iv 7]) (fun _ _ => True) (fun β w' hbk hbw => hpn ⟨some ⟨β 0, 0, none⟩, 1, 1, none, 0, 0, 1000, 1000, 1000, some ⟨β 2, 0, none⟩, (G.map ldG).length + 1, β 3⟩ w' ⟨rfl, rfl, rfl⟩ (by omega) ⟨Rd.of_cells (sz := 1) (f := iF) (fun _ => rfl) rfl (hbk 0 (by simp) _ rfl), .inl ⟨rfl, rfl⟩, Rd.of_owns (sz := 5) (f := Ld.cs) (fun _ => rfl) rfl rfl (hbk 2 (by simp) _ rfl), rfl, rfl, rfl, by simp, by simp, (by rw [List.length_map]; omega)⟩ hgt) ?_; intro y; obtain ⟨y1, y2⟩ := y; dsimp only)
              | refine neqEB4 ?_
              | refine neqE95 (q := false) rfl ?_
            all_goals first | (exfalso; omega) | exact ⟨i + 1, by omega, by omega, Ent.weak rfl ⟨rfl, rfl, by rw [hst]; rfl, rfl, trivial⟩ trivial fun _ h => h.1⟩
    | true =>
      have hgt : gsm G > be := by simpa using hob.symm
      rw [if_pos rfl] at hst
      have hm := a1 rfl
      obtain ⟨za, rfl⟩ : ∃ a, z1 = some a := hz.resolve_left (fun hc => by rw [hc] at hm; simp at hm)
      have hKl : K < LL.length := (List.getElem?_eq_some_iff.1 hm).1
      by_cases hb6 : be > 1000000
      · skip
        repeat'
         conv => whnf
         first
          | refine zA ?_ | refine zB ?_ | refine zC ?_ | refine zD ?_ | refine zE ?_ | refine zF ?_ | refine zG ?_ | refine zH ?_ | refine zJ ?_ | refine zI ?_ | refine splT ?_ | refine splF ?_ | refine splNot ?_
          | ((first | refine splIn (fun hc => ?_) (fun hc => ?_) | refine splD (fun hc => ?_) (fun hc => ?_) | refine splE (fun hc => ?_) (fun hc => ?_) | refine splNE (fun hc => ?_) (fun hc => ?_)) <;> first | (exfalso; omega) | (exfalso; dsimp only at hc; omega) | skip)
          | refine Exists.intro (α := List Value) [iv be] ⟨⟨rfl, fun w' hw' => e1 w' hw'.1.1⟩, ?_⟩
          | refine Exists.intro (α := List Value) [iv i] ⟨⟨rfl, fun w' hw' => rd_ati hw'.2 hm⟩, ?_⟩
        all_goals first | (exfalso; omega) | exact ⟨i + 1, by omega, by omega, Ent.weak rfl ⟨rfl, rfl, by rw [hst]; rfl, rfl, trivial⟩ trivial fun _ h => h⟩
      repeat'
       conv => whnf
       first
        | refine zA ?_ | refine zB ?_ | refine zC ?_ | refine zD ?_ | refine zE ?_ | refine zF ?_ | refine zG ?_ | refine zH ?_ | refine zJ ?_ | refine zI ?_ | refine splT ?_ | refine splF ?_ | refine splNot ?_
        | ((first | refine splIn (fun hc => ?_) (fun hc => ?_) | refine splD (fun hc => ?_) (fun hc => ?_) | refine splE (fun hc => ?_) (fun hc => ?_) | refine splNE (fun hc => ?_) (fun hc => ?_)) <;> first | (exfalso; omega) | (exfalso; dsimp only at hc; omega) | skip)
        | refine Exists.intro (α := List Value) [iv be] ⟨⟨rfl, fun w' hw' => e1 w' hw'.1.1⟩, ?_⟩
        | refine Exists.intro (α := List Value) [iv i] ⟨⟨rfl, fun w' hw' => rd_ati hw'.2 hm⟩, ?_⟩
      all_goals first | (exfalso; omega) | skip
      refine loopN 4 (fun j : Nat => [(0, .v (.slice (some ad) T.length c)), (3, .v (sV LL.length (some za, z2))), (5, .v (iv (K + 1 : Nat))), (6, .v (iv i)), (7, .v (.bool true)), (8, .ptr 1 0), (9, .v (iv j))]) (fun j => (0, .cells [.v (iv be)] 3) :: (1, .cells [.sl 0 0 1 1, .v (.slice none 0 0), .v (iv 1000), .v (iv 1000), .v (iv 1000), oSV 2 3 ((G.take j).map ldG)] 41) :: oM 2 3 5 Ld.cs 47 ((G.take j).map ldG)) (fun j => j ≤ G.length) (fun j => G.length - j) 0 (Nat.zero_le _) ⟨rfl, rfl, rfl, rfl, (Eq.trans (b := some (SV.v (Value.bool ((i : Int) == (i : Int))))) rfl (by rw [beq_self_eq_true])), rfl, rfl, trivial⟩ ⟨rfl, rfl, trivial⟩ (fun j _ => by cases (G.take j).map ldG <;> exact ⟨rfl, rfl⟩) ?_
      intro j hj
      rcases Nat.lt_or_ge j G.length with hjl | hjl
      · obtain ⟨⟨x, y, dn, so, dp⟩, hy⟩ : ∃ b, G[j]? = some b := ⟨_, List.getElem?_eq_getElem hjl⟩
        obtain ⟨_, ag, rfl, _⟩ := hG.ptr (by omega)
        have f0 := fun (w' : World) hw' => rd_fldz (hG.below (w' := w') hw') hy _ rfl 2 (iv dn) rfl
        have ht : (G.take (j + 1)).map ldG = (G.take j).map ldG ++ [⟨-1, 0, 0, 0, dn⟩] := by rw [List.take_add_one, hy, List.map_append]; rfl
        have hlen : ((G.take j).map ldG).length = j := by rw [List.length_map, List.length_take]; omega
        generalize (G.take j).map ldG = E at *
        cases E with
        | nil =>
          repeat'
           conv => whnf
           first
            | refine zA ?_ | refine zB ?_ | refine zC ?_ | refine zD ?_ | refine zE ?_ | refine zF ?_ | refine zG ?_ | refine zH ?_ | refine zJ ?_ | refine zI ?_ | refine splT ?_ | refine splF ?_ | refine splNot ?_
            | ((first | refine splIn (fun hc => ?_) (fun hc => ?_) | refine splD (fun hc => ?_) (fun hc => ?_) | refine splE (fun hc => ?_) (fun hc => ?_) | refine splNE (fun hc => ?_) (fun hc => ?_)) <;> first | (exfalso; omega) | (exfalso; dsimp only at hc; omega) | skip)
            | refine Exists.intro (α := List Value) [.slice (some ag) G.length gc] ⟨⟨rfl, fun w' hw' => e2 w' hw'.1.1⟩, ?_⟩
            | refine Exists.intro (α := List Value) [iv dn] ⟨⟨rfl, fun w' hw' => f0 w' hw'.1.1⟩, ?_⟩
          all_goals first | (exfalso; omega) | exact ⟨j + 1, by omega, by omega, Ent.ren (rho [(2, 5), (3, 6)]) rfl (by rw [ht]; rfl) ⟨rfl, rfl, rfl, rfl, rfl, rfl, rfl, trivial⟩ (by rw [ht]; exact ⟨rfl, rfl, rfl, trivial⟩) fun _ h => h⟩
        | cons b E =>
          simp only [List.length_cons] at hlen
          repeat'
           conv => whnf
           first
            | refine zA ?_ | refine zB ?_ | refine zC ?_ | refine zD ?_ | refine zE ?_ | refine zF ?_ | refine zG ?_ | refine zH ?_ | refine zJ ?_ | refine zI ?_ | refine splT ?_ | refine splF ?_ | refine splNot ?_
            | ((first | refine splIn (fun hc => ?_) (fun hc => ?_) | refine splD (fun hc => ?_) (fun hc => ?_) | refine splE (fun hc => ?_) (fun hc => ?_) | refine splNE (fun hc => ?_) (fun hc => ?_)) <;> first | (exfalso; omega) | (exfalso; dsimp only at hc; omega) | skip)
            | refine Exists.intro (α := List Value) [.slice (some ag) G.length gc] ⟨⟨rfl, fun w' hw' => e2 w' hw'.1.1⟩, ?_⟩
            | refine Exists.intro (α := List Value) [iv dn] ⟨⟨rfl, fun w' hw' => f0 w' hw'.1.1⟩, ?_⟩
          all_goals first | (exfalso; omega) | exact ⟨j + 1, by omega, by omega, Ent.ren (rho [(2, 5), (3, 6)]) rfl (by rw [ht]; rfl) ⟨rfl, rfl, rfl, rfl, rfl, rfl, rfl, trivial⟩ (by rw [ht]; exact ⟨rfl, by simp [oSV]; rfl, by simp [oM]; rfl, trivial⟩) fun _ h => h⟩
      · obtain rfl : j = G.length := by omega
        rw [List.take_length]
        cases G with
        | nil =>
          repeat'
           conv => whnf
           first
            | refine zA ?_ | refine zB ?_ | refine zC ?_ | refine zD ?_ | refine zE ?_ | refine zF ?_ | refine zG ?_ | refine zH ?_ | refine zJ ?_ | refine zI ?_ | refine splT ?_ | refine splF ?_ | refine splNot ?_
            | ((first | refine splIn (fun hc => ?_) (fun hc => ?_) | refine splD (fun hc => ?_) (fun hc => ?_) | refine splE (fun hc => ?_) (fun hc => ?_) | refine splNE (fun hc => ?_) (fun hc => ?_)) <;> first | (exfalso; omega) | (exfalso; dsimp only at hc; omega) | skip)
            | refine Exists.intro (α := List Value) [.slice go ([] : List Gy).length gc] ⟨⟨rfl, fun w' hw' => e2 w' hw'.1.1⟩, ?_⟩
            | refine Exists.intro (α := List Value) [.slice go ([] : List Gy).length gc] ⟨⟨rfl, fun w' hw' => e2 w' hw'.1.1.1⟩, ?_⟩
            | ((with_reducible show CallEv _ _ 11 _ _ _ _ _); refine callF [0] (fun y : Option Addr × Nat => .tuple #[.agg #[iv (-1), iv 0], sV ([] : List Gy).length y, iv 0]) (fun _ _ => True) (fun β w' hbk hbw => hpo ⟨some ⟨β 0, 0, none⟩, 1, 1, none, 0, 0, 1000, 1000, 1000, none, 0, 0⟩ w' ⟨rfl, rfl, rfl⟩ (by omega) ⟨Rd.of_cells (sz := 1) (f := iF) (fun _ => rfl) rfl (hbk 0 (by simp) _ rfl), .inl ⟨rfl, rfl⟩, .inl ⟨rfl, rfl⟩, rfl, rfl, rfl, by simp, by simp, (by simp)⟩ hgt) ?_; intro y; obtain ⟨y1, y2⟩ := y; dsimp only)
            | refine neqEB4 ?_
            | refine neqE95 (q := false) rfl ?_
          all_goals first | (exfalso; omega) | exact ⟨i + 1, by omega, by omega, Ent.weak rfl ⟨rfl, rfl, by rw [hst]; rfl, rfl, trivial⟩ trivial fun _ h => h.1⟩
        | cons g0 G =>
          repeat'
           conv => whnf
           first
            | refine zA ?_ | refine zB ?_ | refine zC ?_ | refine zD ?_ | refine zE ?_ | refine zF ?_ | refine zG ?_ | refine zH ?_ | refine zJ ?_ | refine zI ?_ | refine splT ?_ | refine splF ?_ | refine splNot ?_
            | ((first | refine splIn (fun hc => ?_) (fun hc => ?_) | refine splD (fun hc => ?_) (fun hc => ?_) | refine splE (fun hc => ?_) (fun hc => ?_) | refine splNE (fun hc => ?_) (fun hc => ?_)) <;> first | (exfalso; omega) | (exfalso; dsimp only at hc; omega) | skip)
            | refine Exists.intro (α := List Value) [.slice go (g0 :: G).length gc] ⟨⟨rfl, fun w' hw' => e2 w' hw'.1.1⟩, ?_⟩
            | refine Exists.intro (α := List Value) [.slice go (g0 :: G).length gc] ⟨⟨rfl, fun w' hw' => e2 w' hw'.1.1.1⟩, ?_⟩
            | ((with_reducible show CallEv _ _ 11 _ _ _ _ _); refine callF [0, 2] (fun y : Option Addr × Nat => .tuple #[.agg #[iv (-1), iv 0], sV (g0 :: G).length y, iv 0]) (fun _ _ => True) (fun β w' hbk hbw => hpo ⟨some ⟨β 0, 0, none⟩, 1, 1, none, 0, 0, 1000, 1000, 1000, some ⟨β 2, 0, none⟩, (G.map ldG).length + 1, β 3⟩ w' ⟨rfl, rfl, rfl⟩ (by omega) ⟨Rd.of_cells (sz := 1) (f := iF) (fun _ => rfl) rfl (hbk 0 (by simp) _ rfl), .inl ⟨rfl, rfl⟩, Rd.of_owns (sz := 5) (f := Ld.cs) (fun _ => rfl) rfl rfl (hbk 2 (by simp) _ rfl), rfl, rfl, rfl, by simp, by simp, (by rw [List.length_map]; omega)⟩ hgt) ?_; intro y; obtain ⟨y1, y2⟩ := y; dsimp only)
            | refine neqEB4 ?_
            | refine neqE95 (q := false) rfl ?_
          all_goals first | (exfalso; omega) | exact ⟨i + 1, by omega, by omega, Ent.weak rfl ⟨rfl, rfl, by rw [hst]; rfl, rfl, trivial⟩ trivial fun _ h => h.1⟩
  · obtain rfl : i = T.length := by omega
    repeat'
     conv => whnf
     first
      | refine zA ?_ | refine zB ?_ | refine zC ?_ | refine zD ?_ | refine zE ?_ | refine zF ?_ | refine zG ?_ | refine zH ?_ | refine zJ ?_ | refine zI ?_ | refine splT ?_ | refine splF ?_ | refine splNot ?_
      | ((first | refine splIn (fun hc => ?_) (fun hc => ?_) | refine splD (fun hc => ?_) (fun hc => ?_) | refine splE (fun hc => ?_) (fun hc => ?_) | refine splNE (fun hc => ?_) (fun hc => ?_)) <;> first | (exfalso; omega) | (exfalso; dsimp only at hc; omega) | skip)
      | ((with_reducible show CallEv _ _ 8 _ _ _ _ _); refine callE (k := 8) (fun β w' hbw => hangs_ok _) ?_)
    all_goals first | (exfalso; omega) | exact ⟨fun β => rfl, fun w' h => h.1.1⟩
end Go.Proofs.Ytfbokllafdnglaa
