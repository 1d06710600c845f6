/- The law of bounds. -/
import Derived.Test.YthfabodamhdhaaaTG
import Derived.Test.YthfabodamhdhaaaTO
namespace Go.Proofs.Ythfabodamhdhaaa
open Go Tx Go.RowKit
set_option linter.unusedSimpArgs false
set_option linter.unusedVariables false

/-- The bound of a table, by the reference. -/
theorem rb_of {m N n : Nat} {z : TbG} {C : List (List Int)} {M : Int} {w : World} (hz : TbIn m N z C w) (hC : TbS n N M C) (hM : M ≤ 5000000000000) (hn : 1 ≤ n ∧ n ≤ 1000) (hN : 1 ≤ N ∧ N ≤ 1000) (o : Option Addr) (c : Nat) (F : List Int) (hF : Rd 1 iF (.slice o F.length c) F w) (hl : F.length ≤ 100) (hb : FeB F) :
    Calls Try.prog 32 #[.slice o F.length c, z.v] w fun e w' => e = .returned (iv (bdO F C)) ∧ Below w.heap.size w w' := by
  have hl1 := hz.l
  have hl2 := hC.l
  obtain ⟨p, hp⟩ : ∃ p, z.D[0]? = some p := ⟨_, List.getElem?_eq_getElem (by omega)⟩
  obtain ⟨xs, hxs⟩ : ∃ xs, C[0]? = some xs := ⟨_, List.getElem?_eq_getElem (by omega)⟩
  have hxn := hC.n xs (List.mem_of_getElem? hxs)
  obtain ⟨v, hv⟩ : ∃ v, xs[0]? = some v := ⟨_, List.getElem?_eq_getElem (by omega)⟩
  have hvb := hC.b xs (List.mem_of_getElem? hxs) v (List.mem_of_getElem? hv)
  have hbd : bdO F C = smO F v := by unfold bdO tbO; rw [hxs, Option.getD_some, hv]; rfl
  rw [hbd]
  have := rbound_ok o c F (some ⟨z.o, 0, none⟩) z.c (z.rw C) ⟨some ⟨p.1, 0, none⟩, p.2, xs⟩ v w hF hl hb (by rw [TbG.rw_len hz.l]; exact hz.out) (TbG.rw_at hp hxs) (hz.row _ (List.mem_of_getElem? (TbG.rw_at hp hxs))) hv (by omega) (by rw [TbG.rw_len hz.l]; omega) (by show xs.length ≤ 1000000; omega)
  rw [TbG.rw_len hz.l] at this
  exact this
set_option maxHeartbeats 8000000 in
set_option maxRecDepth 100000 in
theorem RouteBounds_ok (x : Tr) (o : Option Addr) (c : Nat) (F : List Int) (w : World) (h : TrI0 x w) (hF : Rd 1 iF (.slice o F.length c) F w) (hFl : F.length ≤ 9223372036854775807) : Calls Try.prog 4 #[x.v, .slice o F.length c] w fun e w' => e = .returned (.bool true) ∧ Below w.heap.size w w' := by
  have h17 := fun w' hb => Small_ok x w' (h.below hb)
  have h22 := fun w' hb => Right_ok x w' (h.below hb)
  have htl := h.tl
  by_cases hg : smB x.d = true ∧ F.length ≤ 15
  · obtain ⟨hsm, hs15⟩ := hg
    rw [hsm] at h17
    have hB := smB_b hsm
    have hI := h.b hB
    have hT := fun w' hb => Tour_ok x w' (hI.below hb) hB
    have h29 := fun w' (hb : Below w.heap.size w w') => list_ok F o c w' (hF.below hb) (by omega)
    by_cases hok : toB x.d = true ∧ feB x.T.length F = true
    · obtain ⟨hto, hfe⟩ := hok
      rw [hto] at h22
      have hn := toB_n hto
      have hnT := hn.n
      have hday := hn.d
      have hlen : x.d.T.length = x.T.length := List.length_map ..
      rw [hlen] at hnT
      have hdx : x.d.days = x.days := rfl
      rw [hdx] at hday
      obtain ⟨hFn, hFb⟩ := feB_n hfe
      have hC : TbS x.T.length (x.days.toNat + 1) (90000000 * ((x.days.toNat + 1 : Nat) : Int)) (tabO x.d F) := by
        have := tabK_s hn hFb (x.days.toNat + 1)
        rw [hlen] at this
        exact this
      have h30 := fun w' (hb : Below w.heap.size w w') => rfees_ok x o c F w' (hF.below hb) (by omega) (by omega)
      rw [hfe] at h30
      have h28 : ∀ (y : Tr) (y2 : Option Addr × Nat) w', TrIn y w' ∧ y.d = x.d → Rd 1 iF (sV F.length y2) F w' → Calls Try.prog 28 #[y.v, sV F.length y2] w' fun e w2 => ∃ z : TbG, e = .returned (.tuple #[iv (bdO F (tabO x.d F)), z.v, iv 0]) ∧ Below w'.heap.size w' w2 ∧ St w'.heap.size (fun w3 => ∃ m, TbIn m (x.days.toNat + 1) z (tabO x.d F) w3) w2 := fun y y2 w' h1 h2 => by
        have hyl : y.T.length = x.T.length := by
          have := congrArg (fun x : To => x.T.length) h1.2
          simpa [Tr.d] using this
        have hyd : y.days = x.days := congrArg To.days h1.2
        have := Bound_yes y y2.1 y2.2 F w' h1.1 h2 (by rw [h1.2]; exact hto) (by rw [hyl]; exact hfe)
        rw [h1.2, hyd] at this
        exact this.mono fun e w2 ⟨z, e1, e2, e3⟩ => ⟨z, e1, e2, e3.imp fun w3 h => ⟨_, h⟩⟩
      have h31 : ∀ w', Below w.heap.size w w' → Calls Try.prog 31 #[x.v, .slice o F.length c] w' fun e w2 => ∃ z : TbG, e = .returned z.v ∧ Below w'.heap.size w' w2 ∧ St w'.heap.size (fun w3 => ∃ m, TbIn m (x.days.toNat + 1) z (tabO x.d F) w3) w2 := fun w' hb =>
        (rtable_ok x o c F w' (hI.below hb) (hF.below hb) hto hfe).mono fun e w2 ⟨z, e1, e2, e3⟩ => ⟨z, e1, e2, e3.imp fun w3 h => ⟨_, h.1⟩⟩
      have h32 : ∀ (z : TbG) w', (∃ m, TbIn m (x.days.toNat + 1) z (tabO x.d F) w') → Below w.heap.size w w' → Calls Try.prog 32 #[.slice o F.length c, z.v] w' fun e w2 => e = .returned (iv (bdO F (tabO x.d F))) ∧ Below w'.heap.size w' w2 := fun z w' ⟨m, hz⟩ hb => rb_of hz hC (by omega) (by omega) (by omega) o c F (hF.below hb) (by omega) hFb
      have h33 : ∀ (z z2 : TbG) w', (∃ m, TbIn m (x.days.toNat + 1) z (tabO x.d F) w') → (∃ m, TbIn m (x.days.toNat + 1) z2 (tabO x.d F) w') → Calls Try.prog 33 #[z.v, z2.v] w' fun e w2 => e = .returned (.bool true) ∧ Below w'.heap.size w' w2 := fun z z2 w' ⟨m, hz⟩ ⟨m2, hz2⟩ => by
        have := tables_ok (some ⟨z.o, 0, none⟩) z.c (z.rw (tabO x.d F)) (some ⟨z2.o, 0, none⟩) z2.c (z2.rw (tabO x.d F)) w' (by rw [TbG.rw_len hz.l]; exact hz.out) hz.row (by rw [TbG.rw_len hz2.l]; exact hz2.out) hz2.row (by rw [TbG.rw_len hz.l, ← hz.l, hC.l]; omega) (fun r hr => by obtain ⟨i, q, zs, e1, e2, rfl⟩ := TbG.rw_mem hr; have := hz.n zs (List.mem_of_getElem? e2); show zs.length ≤ 1000000; omega) (by rw [TbG.rw_xs hz.l, TbG.rw_xs hz2.l])
        rw [TbG.rw_len hz.l, TbG.rw_len hz2.l] at this
        exact this
      have hzl : ∀ (z : TbG) w', (∃ m, TbIn m (x.days.toNat + 1) z (tabO x.d F) w') → True := fun _ _ _ => trivial
      clear h hI hn hC hB hfe hto hsm
      generalize bdO F (tabO x.d F) = BB at *
      generalize tabO x.d F = CC at *
      obtain ⟨days, shift, size, to, tc, T, lo, lc, L⟩ := x
      dsimp only at hnT hday hFn h28 h31 h32 h33 htl
      generalize days.toNat + 1 = NN at *
      refine calls_val env mixed Try.func4 has4 Try.ntmps4 [.agg #[iv days, iv shift, iv size, .slice to T.length tc, .slice lo L.length lc], .slice o F.length c] (by simp) ?_
      repeat'
       conv => whnf
       first
        | refine zA ?_ | refine zB ?_ | refine zC ?_ | refine zD ?_ | refine zE ?_ | refine zF ?_ | refine zG ?_ | refine zH ?_ | refine zJ ?_ | refine zI ?_ | refine splT ?_ | refine splF ?_ | refine splNot ?_
        | ((first | refine splIn (fun hc => ?_) (fun hc => ?_) | refine splD (fun hc => ?_) (fun hc => ?_) | refine splE (fun hc => ?_) (fun hc => ?_) | refine splNE (fun hc => ?_) (fun hc => ?_)) <;> first | (exfalso; omega) | (exfalso; dsimp only at hc; omega) | skip)
        | ((with_reducible show CallEv _ _ 17 _ _ _ _ _); refine callE (k := 17) (fun β w' hbw => h17 w' (by first | exact hbw | exact hbw.1 | exact hbw.1.1 | exact hbw.1.1.1 | exact hbw.1.1.1.1 | exact hbw.1.1.1.1.1 | exact hbw.1.1.1.1.1.1 | exact hbw.1.1.1.1.1.1.1 | exact hbw.1.1.1.1.1.1.1.1 | exact hbw.1.1.1.1.1.1.1.1.1 | exact hbw.1.1.1.1.1.1.1.1.1.1 | exact hbw.1.1.1.1.1.1.1.1.1.1.1 | exact hbw.1.1.1.1.1.1.1.1.1.1.1.1 | exact hbw.1.1.1.1.1.1.1.1.1.1.1.1.1)) ?_)
        | ((with_reducible show CallEv _ _ 22 _ _ _ _ _); refine callE (k := 22) (fun β w' hbw => h22 w' (by first | exact hbw | exact hbw.1 | exact hbw.1.1 | exact hbw.1.1.1 | exact hbw.1.1.1.1 | exact hbw.1.1.1.1.1 | exact hbw.1.1.1.1.1.1 | exact hbw.1.1.1.1.1.1.1 | exact hbw.1.1.1.1.1.1.1.1 | exact hbw.1.1.1.1.1.1.1.1.1 | exact hbw.1.1.1.1.1.1.1.1.1.1 | exact hbw.1.1.1.1.1.1.1.1.1.1.1 | exact hbw.1.1.1.1.1.1.1.1.1.1.1.1 | exact hbw.1.1.1.1.1.1.1.1.1.1.1.1.1)) ?_)
        | ((with_reducible show CallEv _ _ 19 _ _ _ _ _); refine callE (k := 19) (fun β w' hbw => awake_ok w') ?_)
        | ((with_reducible show CallEv _ _ 21 _ _ _ _ _); refine callF [] (fun y : Tr => y.v) (fun y w2 => TrIn y w2 ∧ y.d = Tr.d ⟨days, shift, size, to, tc, T, lo, lc, L⟩) (fun β w' _ hbw => hT w' (by first | exact hbw | exact hbw.1 | exact hbw.1.1 | exact hbw.1.1.1 | exact hbw.1.1.1.1 | exact hbw.1.1.1.1.1 | exact hbw.1.1.1.1.1.1 | exact hbw.1.1.1.1.1.1.1 | exact hbw.1.1.1.1.1.1.1.1 | exact hbw.1.1.1.1.1.1.1.1.1 | exact hbw.1.1.1.1.1.1.1.1.1.1 | exact hbw.1.1.1.1.1.1.1.1.1.1.1 | exact hbw.1.1.1.1.1.1.1.1.1.1.1.1 | exact hbw.1.1.1.1.1.1.1.1.1.1.1.1.1)) ?_; intro y)
        | ((with_reducible show CallEv _ _ 29 _ _ _ _ _); refine callF [] (fun y2 : Option Addr × Nat => sV F.length y2) (fun y2 w2 => Rd 1 iF (sV F.length y2) F w2) (fun β w' _ hbw => h29 w' (by first | exact hbw | exact hbw.1 | exact hbw.1.1 | exact hbw.1.1.1 | exact hbw.1.1.1.1 | exact hbw.1.1.1.1.1 | exact hbw.1.1.1.1.1.1 | exact hbw.1.1.1.1.1.1.1 | exact hbw.1.1.1.1.1.1.1.1 | exact hbw.1.1.1.1.1.1.1.1.1 | exact hbw.1.1.1.1.1.1.1.1.1.1 | exact hbw.1.1.1.1.1.1.1.1.1.1.1 | exact hbw.1.1.1.1.1.1.1.1.1.1.1.1 | exact hbw.1.1.1.1.1.1.1.1.1.1.1.1.1)) ?_; intro y2)
        | ((with_reducible show CallEv _ _ 28 _ _ _ _ _); refine callF [] (fun z : TbG => .tuple #[iv BB, z.v, iv 0]) (fun z w2 => ∃ m, TbIn m NN z CC w2) (fun β w' _ hbw => h28 y y2 w' hbw.1.2 hbw.2) ?_; intro z)
        | ((with_reducible show CallEv _ _ 30 _ _ _ _ _); refine callE (k := 30) (fun β w' hbw => h30 w' (by first | exact hbw | exact hbw.1 | exact hbw.1.1 | exact hbw.1.1.1 | exact hbw.1.1.1.1 | exact hbw.1.1.1.1.1 | exact hbw.1.1.1.1.1.1 | exact hbw.1.1.1.1.1.1.1 | exact hbw.1.1.1.1.1.1.1.1 | exact hbw.1.1.1.1.1.1.1.1.1 | exact hbw.1.1.1.1.1.1.1.1.1.1 | exact hbw.1.1.1.1.1.1.1.1.1.1.1 | exact hbw.1.1.1.1.1.1.1.1.1.1.1.1 | exact hbw.1.1.1.1.1.1.1.1.1.1.1.1.1)) ?_)
        | ((with_reducible show CallEv _ _ 31 _ _ _ _ _); refine callF [] (fun z : TbG => z.v) (fun z w2 => ∃ m, TbIn m NN z CC w2) (fun β w' _ hbw => h31 w' (by first | exact hbw | exact hbw.1 | exact hbw.1.1 | exact hbw.1.1.1 | exact hbw.1.1.1.1 | exact hbw.1.1.1.1.1 | exact hbw.1.1.1.1.1.1 | exact hbw.1.1.1.1.1.1.1 | exact hbw.1.1.1.1.1.1.1.1 | exact hbw.1.1.1.1.1.1.1.1.1 | exact hbw.1.1.1.1.1.1.1.1.1.1 | exact hbw.1.1.1.1.1.1.1.1.1.1.1 | exact hbw.1.1.1.1.1.1.1.1.1.1.1.1 | exact hbw.1.1.1.1.1.1.1.1.1.1.1.1.1)) ?_; intro z2)
        | ((with_reducible show CallEv _ _ 32 _ _ _ _ _); refine callE (k := 32) (fun β w' hbw => h32 z2 w' hbw.2 (by first | exact hbw | exact hbw.1 | exact hbw.1.1 | exact hbw.1.1.1 | exact hbw.1.1.1.1 | exact hbw.1.1.1.1.1 | exact hbw.1.1.1.1.1.1 | exact hbw.1.1.1.1.1.1.1 | exact hbw.1.1.1.1.1.1.1.1 | exact hbw.1.1.1.1.1.1.1.1.1 | exact hbw.1.1.1.1.1.1.1.1.1.1 | exact hbw.1.1.1.1.1.1.1.1.1.1.1 | exact hbw.1.1.1.1.1.1.1.1.1.1.1.1 | exact hbw.1.1.1.1.1.1.1.1.1.1.1.1.1)) ?_)
        | ((with_reducible show CallEv _ _ 33 _ _ _ _ _); refine callE (k := 33) (fun β w' hbw => h33 z z2 w' hbw.1.2 hbw.2) ?_)
      all_goals first | (exfalso; omega) | exact ⟨fun β => rfl, fun w' h => (by first | exact h | exact h.1 | exact h.1.1 | exact h.1.1.1 | exact h.1.1.1.1 | exact h.1.1.1.1.1 | exact h.1.1.1.1.1.1 | exact h.1.1.1.1.1.1.1 | exact h.1.1.1.1.1.1.1.1 | exact h.1.1.1.1.1.1.1.1.1 | exact h.1.1.1.1.1.1.1.1.1.1 | exact h.1.1.1.1.1.1.1.1.1.1.1 | exact h.1.1.1.1.1.1.1.1.1.1.1.1 | exact h.1.1.1.1.1.1.1.1.1.1.1.1.1)⟩
    · have hno : (toB x.d && feB x.T.length F) = false := by
        cases hc : (toB x.d && feB x.T.length F) with
        | false => rfl
        | true => rw [Bool.and_eq_true] at hc; exact absurd hc hok
      have h28 : ∀ (y : Tr) (y2 : Option Addr × Nat) w', TrIn y w' ∧ y.d = x.d → Rd 1 iF (sV F.length y2) F w' → Calls Try.prog 28 #[y.v, sV F.length y2] w' fun e w2 => e = .returned (.tuple #[iv 0, .slice none 0 0, iv 1]) ∧ Below w'.heap.size w' w2 := fun y y2 w' h1 h2 => by
        have hyl : y.T.length = x.T.length := by
          have := congrArg (fun x : To => x.T.length) h1.2
          simpa [Tr.d] using this
        exact Bound_no y y2.1 y2.2 F w' h1.1 h2 (by omega) (by rw [h1.2, hyl]; exact hno)
      cases hto : toB x.d with
      | false =>
        rw [hto] at h22
        clear h hI hB hno hok hto
        obtain ⟨days, shift, size, to, tc, T, lo, lc, L⟩ := x
        dsimp only at htl
        refine calls_val env mixed Try.func4 has4 Try.ntmps4 [.agg #[iv days, iv shift, iv size, .slice to T.length tc, .slice lo L.length lc], .slice o F.length c] (by simp) ?_
        repeat'
         conv => whnf
         first
          | refine zA ?_ | refine zB ?_ | refine zC ?_ | refine zD ?_ | refine zE ?_ | refine zF ?_ | refine zG ?_ | refine zH ?_ | refine zJ ?_ | refine zI ?_ | refine splT ?_ | refine splF ?_ | refine splNot ?_
          | ((first | refine splIn (fun hc => ?_) (fun hc => ?_) | refine splD (fun hc => ?_) (fun hc => ?_) | refine splE (fun hc => ?_) (fun hc => ?_) | refine splNE (fun hc => ?_) (fun hc => ?_)) <;> first | (exfalso; omega) | (exfalso; dsimp only at hc; omega) | skip)
          | ((with_reducible show CallEv _ _ 17 _ _ _ _ _); refine callE (k := 17) (fun β w' hbw => h17 w' (by first | exact hbw | exact hbw.1 | exact hbw.1.1 | exact hbw.1.1.1 | exact hbw.1.1.1.1 | exact hbw.1.1.1.1.1 | exact hbw.1.1.1.1.1.1 | exact hbw.1.1.1.1.1.1.1 | exact hbw.1.1.1.1.1.1.1.1 | exact hbw.1.1.1.1.1.1.1.1.1 | exact hbw.1.1.1.1.1.1.1.1.1.1 | exact hbw.1.1.1.1.1.1.1.1.1.1.1 | exact hbw.1.1.1.1.1.1.1.1.1.1.1.1 | exact hbw.1.1.1.1.1.1.1.1.1.1.1.1.1)) ?_)
          | ((with_reducible show CallEv _ _ 22 _ _ _ _ _); refine callE (k := 22) (fun β w' hbw => h22 w' (by first | exact hbw | exact hbw.1 | exact hbw.1.1 | exact hbw.1.1.1 | exact hbw.1.1.1.1 | exact hbw.1.1.1.1.1 | exact hbw.1.1.1.1.1.1 | exact hbw.1.1.1.1.1.1.1 | exact hbw.1.1.1.1.1.1.1.1 | exact hbw.1.1.1.1.1.1.1.1.1 | exact hbw.1.1.1.1.1.1.1.1.1.1 | exact hbw.1.1.1.1.1.1.1.1.1.1.1 | exact hbw.1.1.1.1.1.1.1.1.1.1.1.1 | exact hbw.1.1.1.1.1.1.1.1.1.1.1.1.1)) ?_)
          | ((with_reducible show CallEv _ _ 19 _ _ _ _ _); refine callE (k := 19) (fun β w' hbw => awake_ok w') ?_)
          | ((with_reducible show CallEv _ _ 21 _ _ _ _ _); refine callF [] (fun y : Tr => y.v) (fun y w2 => TrIn y w2 ∧ y.d = Tr.d ⟨days, shift, size, to, tc, T, lo, lc, L⟩) (fun β w' _ hbw => hT w' (by first | exact hbw | exact hbw.1 | exact hbw.1.1 | exact hbw.1.1.1 | exact hbw.1.1.1.1 | exact hbw.1.1.1.1.1 | exact hbw.1.1.1.1.1.1 | exact hbw.1.1.1.1.1.1.1 | exact hbw.1.1.1.1.1.1.1.1 | exact hbw.1.1.1.1.1.1.1.1.1 | exact hbw.1.1.1.1.1.1.1.1.1.1 | exact hbw.1.1.1.1.1.1.1.1.1.1.1 | exact hbw.1.1.1.1.1.1.1.1.1.1.1.1 | exact hbw.1.1.1.1.1.1.1.1.1.1.1.1.1)) ?_; intro y)
          | ((with_reducible show CallEv _ _ 29 _ _ _ _ _); refine callF [] (fun y2 : Option Addr × Nat => sV F.length y2) (fun y2 w2 => Rd 1 iF (sV F.length y2) F w2) (fun β w' _ hbw => h29 w' (by first | exact hbw | exact hbw.1 | exact hbw.1.1 | exact hbw.1.1.1 | exact hbw.1.1.1.1 | exact hbw.1.1.1.1.1 | exact hbw.1.1.1.1.1.1 | exact hbw.1.1.1.1.1.1.1 | exact hbw.1.1.1.1.1.1.1.1 | exact hbw.1.1.1.1.1.1.1.1.1 | exact hbw.1.1.1.1.1.1.1.1.1.1 | exact hbw.1.1.1.1.1.1.1.1.1.1.1 | exact hbw.1.1.1.1.1.1.1.1.1.1.1.1 | exact hbw.1.1.1.1.1.1.1.1.1.1.1.1.1)) ?_; intro y2)
          | ((with_reducible show CallEv _ _ 28 _ _ _ _ _); refine callE (k := 28) (fun β w' hbw => h28 y y2 w' hbw.1.2 hbw.2) ?_)
        all_goals first | (exfalso; omega) | exact ⟨fun β => rfl, fun w' h => (by first | exact h | exact h.1 | exact h.1.1 | exact h.1.1.1 | exact h.1.1.1.1 | exact h.1.1.1.1.1 | exact h.1.1.1.1.1.1 | exact h.1.1.1.1.1.1.1 | exact h.1.1.1.1.1.1.1.1 | exact h.1.1.1.1.1.1.1.1.1 | exact h.1.1.1.1.1.1.1.1.1.1 | exact h.1.1.1.1.1.1.1.1.1.1.1 | exact h.1.1.1.1.1.1.1.1.1.1.1.1 | exact h.1.1.1.1.1.1.1.1.1.1.1.1.1)⟩
      | true =>
        rw [hto] at h22
        have hn := toB_n hto
        have hnT := hn.n
        rw [show x.d.T.length = x.T.length from List.length_map ..] at hnT
        rw [hto, Bool.true_and] at hno
        have h30 := fun w' (hb : Below w.heap.size w w') => rfees_ok x o c F w' (hF.below hb) (by omega) (by omega)
        rw [hno] at h30
        clear h hI hB hno hok hto hn
        obtain ⟨days, shift, size, to, tc, T, lo, lc, L⟩ := x
        dsimp only at htl hnT
        refine calls_val env mixed Try.func4 has4 Try.ntmps4 [.agg #[iv days, iv shift, iv size, .slice to T.length tc, .slice lo L.length lc], .slice o F.length c] (by simp) ?_
        repeat'
         conv => whnf
         first
          | refine zA ?_ | refine zB ?_ | refine zC ?_ | refine zD ?_ | refine zE ?_ | refine zF ?_ | refine zG ?_ | refine zH ?_ | refine zJ ?_ | refine zI ?_ | refine splT ?_ | refine splF ?_ | refine splNot ?_
          | ((first | refine splIn (fun hc => ?_) (fun hc => ?_) | refine splD (fun hc => ?_) (fun hc => ?_) | refine splE (fun hc => ?_) (fun hc => ?_) | refine splNE (fun hc => ?_) (fun hc => ?_)) <;> first | (exfalso; omega) | (exfalso; dsimp only at hc; omega) | skip)
          | ((with_reducible show CallEv _ _ 17 _ _ _ _ _); refine callE (k := 17) (fun β w' hbw => h17 w' (by first | exact hbw | exact hbw.1 | exact hbw.1.1 | exact hbw.1.1.1 | exact hbw.1.1.1.1 | exact hbw.1.1.1.1.1 | exact hbw.1.1.1.1.1.1 | exact hbw.1.1.1.1.1.1.1 | exact hbw.1.1.1.1.1.1.1.1 | exact hbw.1.1.1.1.1.1.1.1.1 | exact hbw.1.1.1.1.1.1.1.1.1.1 | exact hbw.1.1.1.1.1.1.1.1.1.1.1 | exact hbw.1.1.1.1.1.1.1.1.1.1.1.1 | exact hbw.1.1.1.1.1.1.1.1.1.1.1.1.1)) ?_)
          | ((with_reducible show CallEv _ _ 22 _ _ _ _ _); refine callE (k := 22) (fun β w' hbw => h22 w' (by first | exact hbw | exact hbw.1 | exact hbw.1.1 | exact hbw.1.1.1 | exact hbw.1.1.1.1 | exact hbw.1.1.1.1.1 | exact hbw.1.1.1.1.1.1 | exact hbw.1.1.1.1.1.1.1 | exact hbw.1.1.1.1.1.1.1.1 | exact hbw.1.1.1.1.1.1.1.1.1 | exact hbw.1.1.1.1.1.1.1.1.1.1 | exact hbw.1.1.1.1.1.1.1.1.1.1.1 | exact hbw.1.1.1.1.1.1.1.1.1.1.1.1 | exact hbw.1.1.1.1.1.1.1.1.1.1.1.1.1)) ?_)
          | ((with_reducible show CallEv _ _ 19 _ _ _ _ _); refine callE (k := 19) (fun β w' hbw => awake_ok w') ?_)
          | ((with_reducible show CallEv _ _ 21 _ _ _ _ _); refine callF [] (fun y : Tr => y.v) (fun y w2 => TrIn y w2 ∧ y.d = Tr.d ⟨days, shift, size, to, tc, T, lo, lc, L⟩) (fun β w' _ hbw => hT w' (by first | exact hbw | exact hbw.1 | exact hbw.1.1 | exact hbw.1.1.1 | exact hbw.1.1.1.1 | exact hbw.1.1.1.1.1 | exact hbw.1.1.1.1.1.1 | exact hbw.1.1.1.1.1.1.1 | exact hbw.1.1.1.1.1.1.1.1 | exact hbw.1.1.1.1.1.1.1.1.1 | exact hbw.1.1.1.1.1.1.1.1.1.1 | exact hbw.1.1.1.1.1.1.1.1.1.1.1 | exact hbw.1.1.1.1.1.1.1.1.1.1.1.1 | exact hbw.1.1.1.1.1.1.1.1.1.1.1.1.1)) ?_; intro y)
          | ((with_reducible show CallEv _ _ 29 _ _ _ _ _); refine callF [] (fun y2 : Option Addr × Nat => sV F.length y2) (fun y2 w2 => Rd 1 iF (sV F.length y2) F w2) (fun β w' _ hbw => h29 w' (by first | exact hbw | exact hbw.1 | exact hbw.1.1 | exact hbw.1.1.1 | exact hbw.1.1.1.1 | exact hbw.1.1.1.1.1 | exact hbw.1.1.1.1.1.1 | exact hbw.1.1.1.1.1.1.1 | exact hbw.1.1.1.1.1.1.1.1 | exact hbw.1.1.1.1.1.1.1.1.1 | exact hbw.1.1.1.1.1.1.1.1.1.1 | exact hbw.1.1.1.1.1.1.1.1.1.1.1 | exact hbw.1.1.1.1.1.1.1.1.1.1.1.1 | exact hbw.1.1.1.1.1.1.1.1.1.1.1.1.1)) ?_; intro y2)
          | ((with_reducible show CallEv _ _ 28 _ _ _ _ _); refine callE (k := 28) (fun β w' hbw => h28 y y2 w' hbw.1.2 hbw.2) ?_)
          | ((with_reducible show CallEv _ _ 30 _ _ _ _ _); refine callE (k := 30) (fun β w' hbw => h30 w' (by first | exact hbw | exact hbw.1 | exact hbw.1.1 | exact hbw.1.1.1 | exact hbw.1.1.1.1 | exact hbw.1.1.1.1.1 | exact hbw.1.1.1.1.1.1 | exact hbw.1.1.1.1.1.1.1 | exact hbw.1.1.1.1.1.1.1.1 | exact hbw.1.1.1.1.1.1.1.1.1 | exact hbw.1.1.1.1.1.1.1.1.1.1 | exact hbw.1.1.1.1.1.1.1.1.1.1.1 | exact hbw.1.1.1.1.1.1.1.1.1.1.1.1 | exact hbw.1.1.1.1.1.1.1.1.1.1.1.1.1)) ?_)
        all_goals first | (exfalso; omega) | exact ⟨fun β => rfl, fun w' h => (by first | exact h | exact h.1 | exact h.1.1 | exact h.1.1.1 | exact h.1.1.1.1 | exact h.1.1.1.1.1 | exact h.1.1.1.1.1.1 | exact h.1.1.1.1.1.1.1 | exact h.1.1.1.1.1.1.1.1 | exact h.1.1.1.1.1.1.1.1.1 | exact h.1.1.1.1.1.1.1.1.1.1 | exact h.1.1.1.1.1.1.1.1.1.1.1 | exact h.1.1.1.1.1.1.1.1.1.1.1.1 | exact h.1.1.1.1.1.1.1.1.1.1.1.1.1)⟩
  · have h17t := h17
    have h22t := h22
    clear h17 h22
    have hF15 : smB x.d = true → F.length > 15 := fun hs => Nat.lt_of_not_le fun hc => hg ⟨hs, hc⟩
    obtain ⟨b1, hb1⟩ : ∃ b, smB x.d = b := ⟨_, rfl⟩
    obtain ⟨b2, hb2⟩ : ∃ b, toB x.d = b := ⟨_, rfl⟩
    rw [hb1] at h17t hF15
    rw [hb2] at h22t
    clear h hg hb1 hb2
    obtain ⟨days, shift, size, to, tc, T, lo, lc, L⟩ := x
    dsimp only at htl
    cases b1 with
    | false =>
      refine calls_val env mixed Try.func4 has4 Try.ntmps4 [.agg #[iv days, iv shift, iv size, .slice to T.length tc, .slice lo L.length lc], .slice o F.length c] (by simp) ?_
      repeat'
       conv => whnf
       first
        | refine zA ?_ | refine zB ?_ | refine zC ?_ | refine zD ?_ | refine zE ?_ | refine zF ?_ | refine zG ?_ | refine zH ?_ | refine zJ ?_ | refine zI ?_ | refine splT ?_ | refine splF ?_ | refine splNot ?_
        | ((first | refine splIn (fun hc => ?_) (fun hc => ?_) | refine splD (fun hc => ?_) (fun hc => ?_) | refine splE (fun hc => ?_) (fun hc => ?_) | refine splNE (fun hc => ?_) (fun hc => ?_)) <;> first | (exfalso; omega) | (exfalso; dsimp only at hc; omega) | skip)
        | ((with_reducible show CallEv _ _ 17 _ _ _ _ _); refine callE (k := 17) (fun β w' hbw => h17t w' (by first | exact hbw | exact hbw.1 | exact hbw.1.1 | exact hbw.1.1.1 | exact hbw.1.1.1.1 | exact hbw.1.1.1.1.1 | exact hbw.1.1.1.1.1.1 | exact hbw.1.1.1.1.1.1.1 | exact hbw.1.1.1.1.1.1.1.1 | exact hbw.1.1.1.1.1.1.1.1.1 | exact hbw.1.1.1.1.1.1.1.1.1.1 | exact hbw.1.1.1.1.1.1.1.1.1.1.1 | exact hbw.1.1.1.1.1.1.1.1.1.1.1.1 | exact hbw.1.1.1.1.1.1.1.1.1.1.1.1.1)) ?_)
        | ((with_reducible show CallEv _ _ 19 _ _ _ _ _); refine callE (k := 19) (fun β w' hbw => awake_ok w') ?_)
      all_goals first | (exfalso; omega) | exact ⟨fun β => rfl, fun w' h => (by first | exact h | exact h.1 | exact h.1.1 | exact h.1.1.1 | exact h.1.1.1.1 | exact h.1.1.1.1.1 | exact h.1.1.1.1.1.1 | exact h.1.1.1.1.1.1.1 | exact h.1.1.1.1.1.1.1.1 | exact h.1.1.1.1.1.1.1.1.1 | exact h.1.1.1.1.1.1.1.1.1.1 | exact h.1.1.1.1.1.1.1.1.1.1.1 | exact h.1.1.1.1.1.1.1.1.1.1.1.1 | exact h.1.1.1.1.1.1.1.1.1.1.1.1.1)⟩
    | true =>
      have h15 := hF15 rfl
      clear hF15
      cases b2
      all_goals skip
      · refine calls_val env mixed Try.func4 has4 Try.ntmps4 [.agg #[iv days, iv shift, iv size, .slice to T.length tc, .slice lo L.length lc], .slice o F.length c] (by simp) ?_
        repeat'
         conv => whnf
         first
          | refine zA ?_ | refine zB ?_ | refine zC ?_ | refine zD ?_ | refine zE ?_ | refine zF ?_ | refine zG ?_ | refine zH ?_ | refine zJ ?_ | refine zI ?_ | refine splT ?_ | refine splF ?_ | refine splNot ?_
          | ((first | refine splIn (fun hc => ?_) (fun hc => ?_) | refine splD (fun hc => ?_) (fun hc => ?_) | refine splE (fun hc => ?_) (fun hc => ?_) | refine splNE (fun hc => ?_) (fun hc => ?_)) <;> first | (exfalso; omega) | (exfalso; dsimp only at hc; omega) | skip)
          | ((with_reducible show CallEv _ _ 17 _ _ _ _ _); refine callE (k := 17) (fun β w' hbw => h17t w' (by first | exact hbw | exact hbw.1 | exact hbw.1.1 | exact hbw.1.1.1 | exact hbw.1.1.1.1 | exact hbw.1.1.1.1.1 | exact hbw.1.1.1.1.1.1 | exact hbw.1.1.1.1.1.1.1 | exact hbw.1.1.1.1.1.1.1.1 | exact hbw.1.1.1.1.1.1.1.1.1 | exact hbw.1.1.1.1.1.1.1.1.1.1 | exact hbw.1.1.1.1.1.1.1.1.1.1.1 | exact hbw.1.1.1.1.1.1.1.1.1.1.1.1 | exact hbw.1.1.1.1.1.1.1.1.1.1.1.1.1)) ?_)
          | ((with_reducible show CallEv _ _ 22 _ _ _ _ _); refine callE (k := 22) (fun β w' hbw => h22t w' (by first | exact hbw | exact hbw.1 | exact hbw.1.1 | exact hbw.1.1.1 | exact hbw.1.1.1.1 | exact hbw.1.1.1.1.1 | exact hbw.1.1.1.1.1.1 | exact hbw.1.1.1.1.1.1.1 | exact hbw.1.1.1.1.1.1.1.1 | exact hbw.1.1.1.1.1.1.1.1.1 | exact hbw.1.1.1.1.1.1.1.1.1.1 | exact hbw.1.1.1.1.1.1.1.1.1.1.1 | exact hbw.1.1.1.1.1.1.1.1.1.1.1.1 | exact hbw.1.1.1.1.1.1.1.1.1.1.1.1.1)) ?_)
          | ((with_reducible show CallEv _ _ 19 _ _ _ _ _); refine callE (k := 19) (fun β w' hbw => awake_ok w') ?_)
        all_goals first | (exfalso; omega) | exact ⟨fun β => rfl, fun w' h => (by first | exact h | exact h.1 | exact h.1.1 | exact h.1.1.1 | exact h.1.1.1.1 | exact h.1.1.1.1.1 | exact h.1.1.1.1.1.1 | exact h.1.1.1.1.1.1.1 | exact h.1.1.1.1.1.1.1.1 | exact h.1.1.1.1.1.1.1.1.1 | exact h.1.1.1.1.1.1.1.1.1.1 | exact h.1.1.1.1.1.1.1.1.1.1.1 | exact h.1.1.1.1.1.1.1.1.1.1.1.1 | exact h.1.1.1.1.1.1.1.1.1.1.1.1.1)⟩
      · refine calls_val env mixed Try.func4 has4 Try.ntmps4 [.agg #[iv days, iv shift, iv size, .slice to T.length tc, .slice lo L.length lc], .slice o F.length c] (by simp) ?_
        repeat'
         conv => whnf
         first
          | refine zA ?_ | refine zB ?_ | refine zC ?_ | refine zD ?_ | refine zE ?_ | refine zF ?_ | refine zG ?_ | refine zH ?_ | refine zJ ?_ | refine zI ?_ | refine splT ?_ | refine splF ?_ | refine splNot ?_
          | ((first | refine splIn (fun hc => ?_) (fun hc => ?_) | refine splD (fun hc => ?_) (fun hc => ?_) | refine splE (fun hc => ?_) (fun hc => ?_) | refine splNE (fun hc => ?_) (fun hc => ?_)) <;> first | (exfalso; omega) | (exfalso; dsimp only at hc; omega) | skip)
          | ((with_reducible show CallEv _ _ 17 _ _ _ _ _); refine callE (k := 17) (fun β w' hbw => h17t w' (by first | exact hbw | exact hbw.1 | exact hbw.1.1 | exact hbw.1.1.1 | exact hbw.1.1.1.1 | exact hbw.1.1.1.1.1 | exact hbw.1.1.1.1.1.1 | exact hbw.1.1.1.1.1.1.1 | exact hbw.1.1.1.1.1.1.1.1 | exact hbw.1.1.1.1.1.1.1.1.1 | exact hbw.1.1.1.1.1.1.1.1.1.1 | exact hbw.1.1.1.1.1.1.1.1.1.1.1 | exact hbw.1.1.1.1.1.1.1.1.1.1.1.1 | exact hbw.1.1.1.1.1.1.1.1.1.1.1.1.1)) ?_)
          | ((with_reducible show CallEv _ _ 22 _ _ _ _ _); refine callE (k := 22) (fun β w' hbw => h22t w' (by first | exact hbw | exact hbw.1 | exact hbw.1.1 | exact hbw.1.1.1 | exact hbw.1.1.1.1 | exact hbw.1.1.1.1.1 | exact hbw.1.1.1.1.1.1 | exact hbw.1.1.1.1.1.1.1 | exact hbw.1.1.1.1.1.1.1.1 | exact hbw.1.1.1.1.1.1.1.1.1 | exact hbw.1.1.1.1.1.1.1.1.1.1 | exact hbw.1.1.1.1.1.1.1.1.1.1.1 | exact hbw.1.1.1.1.1.1.1.1.1.1.1.1 | exact hbw.1.1.1.1.1.1.1.1.1.1.1.1.1)) ?_)
          | ((with_reducible show CallEv _ _ 19 _ _ _ _ _); refine callE (k := 19) (fun β w' hbw => awake_ok w') ?_)
        all_goals first | (exfalso; omega) | exact ⟨fun β => rfl, fun w' h => (by first | exact h | exact h.1 | exact h.1.1 | exact h.1.1.1 | exact h.1.1.1.1 | exact h.1.1.1.1.1 | exact h.1.1.1.1.1.1 | exact h.1.1.1.1.1.1.1 | exact h.1.1.1.1.1.1.1.1 | exact h.1.1.1.1.1.1.1.1.1 | exact h.1.1.1.1.1.1.1.1.1.1 | exact h.1.1.1.1.1.1.1.1.1.1.1 | exact h.1.1.1.1.1.1.1.1.1.1.1.1 | exact h.1.1.1.1.1.1.1.1.1.1.1.1.1)⟩
end Go.Proofs.Ythfabodamhdhaaa
