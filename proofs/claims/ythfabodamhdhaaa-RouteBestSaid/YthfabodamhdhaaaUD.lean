/- The law of the best season. -/
import Derived.Test.YthfabodamhdhaaaUC
import Derived.Test.YthfabodamhdhaaaTF
import Derived.Test.YthfabodamhdhaaaTG
namespace Go.Proofs.Ythfabodamhdhaaa
open Go Tx Go.RowKit
set_option linter.unusedSimpArgs false
set_option linter.unusedVariables false

/-- What the search returns, is home's value. -/
theorem opt_hm {x : To} (h : toB x = true) {r : Int} (hr : OptR x [] r) : r = hmO x (ALO x) 0 0 0 := by
  have hn := toB_n h
  have h0 := cs00 h
  obtain ⟨h1, h2⟩ := hr
  have h3 := h2 [] (.inl rfl)
  simp only [Sm, aft, Va, h0] at h3
  obtain ⟨g1, g2⟩ := bs_ok hn h0
  obtain ⟨A, hA⟩ := fs_nat hn g1
  rw [hA] at g1 g2
  rw [pfO_eq] at g2
  have h4 := h2 A ((fsO_iff hn A).1 g1)
  simp only [Sm, aft] at h4
  rcases h1 with h1 | ⟨L, h5, h6⟩
  · omega
  · have h7 := Va_le hn h0 L 0 0 0 (fun _ => rfl) h5
    simp only [Sm, aft] at h6
    omega
set_option maxHeartbeats 8000000 in
set_option maxRecDepth 100000 in
theorem RouteBest_ok (x : Tr) (w : World) (h : TrI0 x w) : Calls Try.prog 3 #[x.v] w fun e w' => e = .returned (.bool true) ∧ Below w.heap.size w w' := by
  have h17 := fun w' hb => Small_ok x w' (h.below hb)
  have h22 := fun w' hb => Right_ok x w' (h.below hb)
  have h18 := fun w' hb => few_ok x w' (h.below hb)
  have htl := h.tl
  obtain ⟨sb, hsb⟩ : ∃ b, smB x.d = b := ⟨_, rfl⟩
  obtain ⟨tb, htb⟩ : ∃ b, toB x.d = b := ⟨_, rfl⟩
  rw [hsb] at h17
  rw [htb] at h22
  cases sb with
  | false =>
    clear h18 h22 h hsb htb
    obtain ⟨days, shift, size, to, tc, T, lo, lc, L⟩ := x
    dsimp only at htl
    refine calls_val env mixed Try.func3 has3 Try.ntmps3 [.agg #[iv days, iv shift, iv size, .slice to T.length tc, .slice lo L.length lc]] (by simp) ?_
    repeat'
     conv => whnf
     first
      | refine zA ?_ | refine zB ?_ | refine zC ?_ | refine zD ?_ | refine zE ?_ | refine zF ?_ | refine zG ?_ | refine zH ?_ | refine zJ ?_ | refine zI ?_ | refine splT ?_ | refine splF ?_ | refine splNot ?_
      | ((first | refine splIn (fun hc => ?_) (fun hc => ?_) | refine splD (fun hc => ?_) (fun hc => ?_) | refine splE (fun hc => ?_) (fun hc => ?_) | refine splNE (fun hc => ?_) (fun hc => ?_)) <;> first | (exfalso; omega) | (exfalso; dsimp only at hc; omega) | skip)
      | ((with_reducible show CallEv _ _ 17 _ _ _ _ _); refine callE (k := 17) (fun β w' hbw => h17 w' (by repeat (first | exact hbw | replace hbw := hbw.1))) ?_)
      | ((with_reducible show CallEv _ _ 19 _ _ _ _ _); refine callE (k := 19) (fun β w' hbw => awake_ok w') ?_)
    all_goals first | (exfalso; omega) | exact ⟨fun β => rfl, fun w' h => (by repeat (first | exact h | replace h := h.1))⟩
  | true =>
    have hB := smB_b hsb
    have hI := h.b hB
    have hT := fun w' hb => Tour_ok x w' (hI.below hb) hB
    cases tb with
    | false =>
      have hfw : fewB x.d = true := by unfold fewB; rw [htb]; rfl
      rw [hfw] at h18
      have h20 : ∀ (y : Tr) w', TrIn y w' ∧ y.d = x.d → Calls Try.prog 20 #[y.v] w' fun e w2 => ∃ y2 : Option Addr × Nat, e = .returned (.tuple #[sV 0 y2, iv 0, iv 1]) ∧ Below w'.heap.size w' w2 ∧ St w'.heap.size (fun _ => True) w2 := fun y w' hy => by
        have hbs : bsV y.d = ([], 0, 1) := by unfold bsV; rw [hy.2, htb]; rfl
        have := Best_ok y w' hy.1
        rw [hbs] at this
        exact this.mono fun e w2 ⟨y2, e1, e2, e3⟩ => ⟨y2, e1, e2, fun _ _ => trivial⟩
      clear h hsb htb hfw hB hI
      obtain ⟨days, shift, size, to, tc, T, lo, lc, L⟩ := x
      dsimp only at htl
      refine calls_val env mixed Try.func3 has3 Try.ntmps3 [.agg #[iv days, iv shift, iv size, .slice to T.length tc, .slice lo L.length lc]] (by simp) ?_
      repeat'
       conv => whnf
       first
        | refine zA ?_ | refine zB ?_ | refine zC ?_ | refine zD ?_ | refine zE ?_ | refine zF ?_ | refine zG ?_ | refine zH ?_ | refine zJ ?_ | refine zI ?_ | refine splT ?_ | refine splF ?_ | refine splNot ?_
        | ((first | refine splIn (fun hc => ?_) (fun hc => ?_) | refine splD (fun hc => ?_) (fun hc => ?_) | refine splE (fun hc => ?_) (fun hc => ?_) | refine splNE (fun hc => ?_) (fun hc => ?_)) <;> first | (exfalso; omega) | (exfalso; dsimp only at hc; omega) | skip)
        | ((with_reducible show CallEv _ _ 17 _ _ _ _ _); refine callE (k := 17) (fun β w' hbw => h17 w' (by repeat (first | exact hbw | replace hbw := hbw.1))) ?_)
        | ((with_reducible show CallEv _ _ 18 _ _ _ _ _); refine callE (k := 18) (fun β w' hbw => h18 w' (by repeat (first | exact hbw | replace hbw := hbw.1))) ?_)
        | ((with_reducible show CallEv _ _ 22 _ _ _ _ _); refine callE (k := 22) (fun β w' hbw => h22 w' (by repeat (first | exact hbw | replace hbw := hbw.1))) ?_)
        | ((with_reducible show CallEv _ _ 21 _ _ _ _ _); refine callF [] (fun y : Tr => y.v) (fun y w2 => TrIn y w2 ∧ y.d = Tr.d ⟨days, shift, size, to, tc, T, lo, lc, L⟩) (fun β w' _ hbw => hT w' (by repeat (first | exact hbw | replace hbw := hbw.1))) ?_; intro y)
        | ((with_reducible show CallEv _ _ 20 _ _ _ _ _); refine callF [] (fun y2 : Option Addr × Nat => .tuple #[sV 0 y2, iv 0, iv 1]) (fun _ _ => True) (fun β w' _ hbw => h20 y w' hbw.2) ?_; intro y2)
        | ((with_reducible show CallEv _ _ 19 _ _ _ _ _); refine callE (k := 19) (fun β w' hbw => awake_ok w') ?_)
      all_goals first | (exfalso; omega) | exact ⟨fun β => rfl, fun w' h => (by repeat (first | exact h | replace h := h.1))⟩
    | true =>
      have hn := toB_n htb
      obtain ⟨g1, g2⟩ := bs_ok hn (cs00 htb)
      have hsp := fs_spn hn g1
      have hnT := hn.n
      have hbl := seqO_len x.d x.d.T.length 0 0 0
      have hlen : x.d.T.length = x.T.length := List.length_map ..
      have hBl : (bsS x.d).length ≤ 9 := by unfold bsS; omega
      obtain ⟨H, hH⟩ : ∃ z, hmO x.d (ALO x.d) 0 0 0 = z := ⟨_, rfl⟩
      have hnb : neB (bsS x.d) = true := by
        unfold neB
        rw [List.all_eq_true]
        intro s hs
        obtain ⟨k, f, l, rfl, h1, h2, h3⟩ := hsp s hs
        simp [inB]; omega
      have h20 : ∀ (y : Tr) w', TrIn y w' ∧ y.d = x.d → Calls Try.prog 20 #[y.v] w' fun e w2 => ∃ y2 : Option Addr × Nat, e = .returned (.tuple #[sV (bsS x.d).length y2, iv H, iv 0]) ∧ Below w'.heap.size w' w2 ∧ St w'.heap.size (fun w3 => Rd 3 spF (sV (bsS x.d).length y2) (bsS x.d) w3) w2 := fun y w' hy => by
        have hbs : bsV y.d = (bsS x.d, H, 0) := by unfold bsV; rw [hy.2, htb, ← hH]; rfl
        have := Best_ok y w' hy.1
        rw [hbs] at this
        exact this
      have h23 : ∀ (y2 : Option Addr × Nat) w', Rd 3 spF (sV (bsS x.d).length y2) (bsS x.d) w' → Calls Try.prog 23 #[sV (bsS x.d).length y2] w' fun e w2 => ∃ y3 : Option Addr × Nat, e = .returned (sV (bsS x.d).length y3) ∧ Below w'.heap.size w' w2 ∧ St w'.heap.size (fun w3 => Rd 3 spF (sV (bsS x.d).length y3) (bsS x.d) w3 ∧ (bsS x.d).length ≤ y3.2) w2 := fun y2 w' hr => Back_ok (bsS x.d) y2.1 y2.2 w' hr (by omega)
      have h24 : ∀ (y3 : Option Addr × Nat) w', Rd 3 spF (sV (bsS x.d).length y3) (bsS x.d) w' ∧ (bsS x.d).length ≤ y3.2 → Calls Try.prog 24 #[sV (bsS x.d).length y3] w' fun e w2 => e = .returned (.bool true) ∧ Below w'.heap.size w' w2 := fun y3 w' hr => by
        have := near_ok (bsS x.d) y3.1 y3.2 w' hr.1 (by omega)
        rw [hnb] at this
        exact this
      have h25 : ∀ (y3 : Option Addr × Nat) w', Below w.heap.size w w' → Rd 3 spF (sV (bsS x.d).length y3) (bsS x.d) w' ∧ (bsS x.d).length ≤ y3.2 → Calls Try.prog 25 #[x.v, sV (bsS x.d).length y3] w' fun e w2 => ∃ y4 : Option Addr × Nat, e = .returned (sV 0 y4) ∧ Below w'.heap.size w' w2 ∧ St w'.heap.size (fun _ => True) w2 := fun y3 w' hb hr => by
        have := rfaults_ok x y3.1 y3.2 (bsS x.d) w' (hI.below hb) hn ⟨hr.1, by omega, hr.2, fun s hs => by
          obtain ⟨k, f, l, rfl, h1, h2, h3⟩ := hsp s hs
          dsimp only; omega⟩ hnb
        rw [g1] at this
        exact this.mono fun e w2 ⟨y4, e1, e2, e3⟩ => ⟨y4, e1, e2, fun _ _ => trivial⟩
      have h26 : ∀ (y3 : Option Addr × Nat) w', Below w.heap.size w w' → Rd 3 spF (sV (bsS x.d).length y3) (bsS x.d) w' ∧ (bsS x.d).length ≤ y3.2 → Calls Try.prog 26 #[x.v, sV (bsS x.d).length y3] w' fun e w2 => e = .returned (iv H) ∧ Below w'.heap.size w' w2 := fun y3 w' hb hr => by
        have := rprofit_ok x y3.1 y3.2 (bsS x.d) w' (hI.below hb) hn hr.1 (by omega) (by rw [← hlen]; exact hsp)
        rw [g2, hH] at this
        exact this
      have h27 : ∀ w', Below w.heap.size w w' → Calls Try.prog 27 #[x.v, .slice none 0 0] w' fun e w2 => e = .returned (iv H) ∧ Below w'.heap.size w' w2 := fun w' hb =>
        (rbest_ok x htb _ [] rfl (fun i u hu => by simp at hu) none 0 w' (hI.below hb) ⟨.inl ⟨rfl, rfl⟩, by simp, by simp, fun s hs => by simp at hs⟩ (fun _ => ⟨rfl, rfl⟩)).mono fun e w2 ⟨r, e1, e2, _⟩ => ⟨by rw [e1, ← hH, opt_hm htb r.2], e2⟩
      generalize fewB x.d = fw at *
      generalize (bsS x.d).length = BN at *
      generalize bsS x.d = BS at *
      clear h hsb htb hB hI hn g1 g2 hsp hnb hH hlen hbl hnT
      obtain ⟨days, shift, size, to, tc, T, lo, lc, L⟩ := x
      dsimp only at htl
      refine calls_val env mixed Try.func3 has3 Try.ntmps3 [.agg #[iv days, iv shift, iv size, .slice to T.length tc, .slice lo L.length lc]] (by simp) ?_
      cases fw
      all_goals skip
      repeat'
       conv => whnf
       first
        | refine zA ?_ | refine zB ?_ | refine zC ?_ | refine zD ?_ | refine zE ?_ | refine zF ?_ | refine zG ?_ | refine zH ?_ | refine zJ ?_ | refine zI ?_ | refine splT ?_ | refine splF ?_ | refine splNot ?_
        | ((first | refine splIn (fun hc => ?_) (fun hc => ?_) | refine splD (fun hc => ?_) (fun hc => ?_) | refine splE (fun hc => ?_) (fun hc => ?_) | refine splNE (fun hc => ?_) (fun hc => ?_)) <;> first | (exfalso; omega) | (exfalso; dsimp only at hc; omega) | skip)
        | ((with_reducible show CallEv _ _ 17 _ _ _ _ _); refine callE (k := 17) (fun β w' hbw => h17 w' (by repeat (first | exact hbw | replace hbw := hbw.1))) ?_)
        | ((with_reducible show CallEv _ _ 18 _ _ _ _ _); refine callE (k := 18) (fun β w' hbw => h18 w' (by repeat (first | exact hbw | replace hbw := hbw.1))) ?_)
        | ((with_reducible show CallEv _ _ 22 _ _ _ _ _); refine callE (k := 22) (fun β w' hbw => h22 w' (by repeat (first | exact hbw | replace hbw := hbw.1))) ?_)
        | ((with_reducible show CallEv _ _ 21 _ _ _ _ _); refine callF [] (fun y : Tr => y.v) (fun y w2 => TrIn y w2 ∧ y.d = Tr.d ⟨days, shift, size, to, tc, T, lo, lc, L⟩) (fun β w' _ hbw => hT w' (by repeat (first | exact hbw | replace hbw := hbw.1))) ?_; intro y)
        | ((with_reducible show CallEv _ _ 20 _ _ _ _ _); refine callF [] (fun y2 : Option Addr × Nat => .tuple #[sV BN y2, iv H, iv 0]) (fun y2 w2 => Rd 3 spF (sV BN y2) BS w2) (fun β w' _ hbw => h20 y w' hbw.2) ?_; intro y2)
        | ((with_reducible show CallEv _ _ 23 _ _ _ _ _); refine callF [] (fun y3 : Option Addr × Nat => sV BN y3) (fun y3 w2 => Rd 3 spF (sV BN y3) BS w2 ∧ BN ≤ y3.2) (fun β w' _ hbw => h23 y2 w' hbw.2) ?_; intro y3)
        | ((with_reducible show CallEv _ _ 24 _ _ _ _ _); refine callE (k := 24) (fun β w' hbw => h24 y3 w' (by first | exact hbw.2 | exact hbw.1.2 | exact hbw.1.1.2)) ?_)
        | ((with_reducible show CallEv _ _ 25 _ _ _ _ _); refine callF [] (fun y4 : Option Addr × Nat => sV 0 y4) (fun _ _ => True) (fun β w' _ hbw => h25 y3 w' (by repeat (first | exact hbw | replace hbw := hbw.1)) (by first | exact hbw.2 | exact hbw.1.2 | exact hbw.1.1.2)) ?_; intro y4)
        | ((with_reducible show CallEv _ _ 26 _ _ _ _ _); refine callE (k := 26) (fun β w' hbw => h26 y3 w' (by repeat (first | exact hbw | replace hbw := hbw.1)) (by first | exact hbw.2 | exact hbw.1.2 | exact hbw.1.1.2)) ?_)
        | ((with_reducible show CallEv _ _ 27 _ _ _ _ _); refine callE (k := 27) (fun β w' hbw => h27 w' (by repeat (first | exact hbw | replace hbw := hbw.1))) ?_)
        | ((with_reducible show CallEv _ _ 19 _ _ _ _ _); refine callE (k := 19) (fun β w' hbw => awake_ok w') ?_)
      all_goals first | (exfalso; omega) | exact ⟨fun β => rfl, fun w' h => (by repeat (first | exact h | replace h := h.1))⟩
end Go.Proofs.Ythfabodamhdhaaa
