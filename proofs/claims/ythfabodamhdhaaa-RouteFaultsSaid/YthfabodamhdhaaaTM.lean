/- The law of faults. -/
import Derived.Test.YthfabodamhdhaaaTG
import Derived.Test.YthfabodamhdhaaaTK
namespace Go.Proofs.Ythfabodamhdhaaa
open Go Tx Go.RowKit
set_option linter.unusedSimpArgs false
set_option linter.unusedVariables false

set_option maxHeartbeats 8000000 in
set_option maxRecDepth 100000 in
theorem RouteFaults_ok (x : Tr) (o : Option Addr) (c : Nat) (S : List (Int × Int × Int)) (w : World) (h : TrI0 x w) (hSr : Rd 3 spF (.slice o S.length c) S w) (hSc : S.length ≤ c) (hSl : S.length ≤ 9223372036854775807) : Calls Try.prog 8 #[x.v, .slice o S.length c] w fun e w' => e = .returned (.bool true) ∧ Below w.heap.size w w' := by
  have h17 := fun w' hb => Small_ok x w' (h.below hb)
  have h22 := fun w' hb => Right_ok x w' (h.below hb)
  by_cases hg : smB x.d = true ∧ S.length ≤ 25
  · obtain ⟨hsm, hs25⟩ := hg
    have h24 := fun w' (hb : Below w.heap.size w w') => near_ok S o c w' (hSr.below hb) (by omega)
    rw [hsm] at h17
    cases hne : neB S with
    | false =>
      rw [hne] at h24
      clear h
      obtain ⟨days, shift, size, to, tc, T, lo, lc, L⟩ := x
      refine calls_val env mixed Try.func8 has8 Try.ntmps8 [.agg #[iv days, iv shift, iv size, .slice to T.length tc, .slice lo L.length lc], .slice o S.length c] (by simp) ?_
      repeat'
       conv => whnf
       first
        | refine zA ?_ | refine zB ?_ | refine zC ?_ | refine zD ?_ | refine zE ?_ | refine zF ?_ | refine zG ?_ | refine zH ?_ | refine zJ ?_ | refine zI ?_ | refine splT ?_ | refine splF ?_ | refine splNot ?_
        | ((first | refine splIn (fun hc => ?_) (fun hc => ?_) | refine splD (fun hc => ?_) (fun hc => ?_) | refine splE (fun hc => ?_) (fun hc => ?_) | refine splNE (fun hc => ?_) (fun hc => ?_)) <;> first | (exfalso; omega) | (exfalso; dsimp only at hc; omega) | skip)
        | ((with_reducible show CallEv _ _ 17 _ _ _ _ _); refine callE (k := 17) (fun β w' hbw => h17 w' (by first | exact hbw | exact hbw.1 | exact hbw.1.1 | exact hbw.1.1.1 | exact hbw.1.1.1.1 | exact hbw.1.1.1.1.1 | exact hbw.1.1.1.1.1.1 | exact hbw.1.1.1.1.1.1.1 | exact hbw.1.1.1.1.1.1.1.1 | exact hbw.1.1.1.1.1.1.1.1.1 | exact hbw.1.1.1.1.1.1.1.1.1.1 | exact hbw.1.1.1.1.1.1.1.1.1.1.1 | exact hbw.1.1.1.1.1.1.1.1.1.1.1.1 | exact hbw.1.1.1.1.1.1.1.1.1.1.1.1.1)) ?_)
        | ((with_reducible show CallEv _ _ 24 _ _ _ _ _); refine callE (k := 24) (fun β w' hbw => h24 w' (by first | exact hbw | exact hbw.1 | exact hbw.1.1 | exact hbw.1.1.1 | exact hbw.1.1.1.1 | exact hbw.1.1.1.1.1 | exact hbw.1.1.1.1.1.1 | exact hbw.1.1.1.1.1.1.1 | exact hbw.1.1.1.1.1.1.1.1 | exact hbw.1.1.1.1.1.1.1.1.1 | exact hbw.1.1.1.1.1.1.1.1.1.1 | exact hbw.1.1.1.1.1.1.1.1.1.1.1 | exact hbw.1.1.1.1.1.1.1.1.1.1.1.1 | exact hbw.1.1.1.1.1.1.1.1.1.1.1.1.1)) ?_)
        | ((with_reducible show CallEv _ _ 19 _ _ _ _ _); refine callE (k := 19) (fun β w' hbw => awake_ok w') ?_)
      all_goals first | (exfalso; omega) | exact ⟨fun β => rfl, fun w' h => (by first | exact h | exact h.1 | exact h.1.1 | exact h.1.1.1 | exact h.1.1.1.1 | exact h.1.1.1.1.1 | exact h.1.1.1.1.1.1 | exact h.1.1.1.1.1.1.1 | exact h.1.1.1.1.1.1.1.1 | exact h.1.1.1.1.1.1.1.1.1 | exact h.1.1.1.1.1.1.1.1.1.1 | exact h.1.1.1.1.1.1.1.1.1.1.1 | exact h.1.1.1.1.1.1.1.1.1.1.1.1 | exact h.1.1.1.1.1.1.1.1.1.1.1.1.1)⟩
    | true =>
      rw [hne] at h24
      have hB := smB_b hsm
      have hI := h.b hB
      have hT := fun w' hb => Tour_ok x w' (hI.below hb) hB
      have h41 := fun w' (hb : Below w.heap.size w w') => Season_ok S o c w' (hSr.below hb) (by omega)
      have hn9 := neB_n hne
      have hSp : ∀ (y2 : Option Addr × Nat) w', Rd 3 spF (sV S.length y2) S w' ∧ S.length ≤ y2.2 → SpIn y2.1 y2.2 S w' := fun y2 w' h2 => ⟨h2.1, by omega, h2.2, fun s hs => by have := hn9 s hs; omega⟩
      have h40' := fun (y : Tr) (y2 : Option Addr × Nat) w' (h1 : TrIn y w' ∧ y.d = x.d) h2 => Faults_ok y y2.1 y2.2 S w' h1.1 (hSp y2 w' h2)
      have h42' := fun (y : Tr) (y2 : Option Addr × Nat) w' (h1 : TrIn y w' ∧ y.d = x.d) h2 => Profit_ok y y2.1 y2.2 S w' h1.1 (hSp y2 w' h2)
      have hSp0 : ∀ w', Below w.heap.size w w' → SpIn o c S w' := fun w' hb => ⟨hSr.below hb, by omega, hSc, fun s hs => by have := hn9 s hs; omega⟩
      by_cases hgd : toB x.d = true ∧ S.length ≤ 20
      · obtain ⟨hto, hs20⟩ := hgd
        rw [hto] at h22
        have hn := toB_n hto
        have hlen : x.d.T.length = x.T.length := List.length_map ..
        have hfl : flV x.d S = (fsO x.d S, 0) := by unfold flV; rw [if_pos hto, if_pos hs20]
        have h25' := fun w' hb => rfaults_ok x o c S w' (hI.below hb) hn (hSp0 w' hb) hne
        have h26' := fun (hp : SpN x.T.length S) w' hb => rprofit_ok x o c S w' (hI.below hb) hn (hSr.below hb) hs20 hp
        by_cases hF : fsO x.d S = []
        · have hpf : pfV x.d S = (pfO x.d S, 0) := by unfold pfV; rw [if_pos hto, if_pos hs20, if_pos hF]
          have hsp := fs_spn hn hF
          rw [hlen] at hsp
          have h26 := h26' hsp
          rw [hF] at hfl h25'
          have h40 : ∀ (y : Tr) (y2 : Option Addr × Nat) w', TrIn y w' ∧ y.d = x.d → Rd 3 spF (sV S.length y2) S w' ∧ S.length ≤ y2.2 → Calls Try.prog 40 #[y.v, sV S.length y2] w' fun e w2 => ∃ z : Option Addr × Nat, e = .returned (.tuple #[sV 0 z, iv 0]) ∧ Below w'.heap.size w' w2 ∧ St w'.heap.size (fun _ => True) w2 := fun y y2 w' h1 h2 => by
            have := h40' y y2 w' h1 h2
            rw [h1.2, hfl] at this
            exact this.mono fun e w2 ⟨z, h1, h2, _⟩ => ⟨z, h1, h2, fun _ _ => trivial⟩
          have h42 : ∀ (y : Tr) (y2 : Option Addr × Nat) w', TrIn y w' ∧ y.d = x.d → Rd 3 spF (sV S.length y2) S w' ∧ S.length ≤ y2.2 → Calls Try.prog 42 #[y.v, sV S.length y2] w' fun e w2 => e = .returned (.tuple #[iv (pfO x.d S), iv 0]) ∧ Below w'.heap.size w' w2 := fun y y2 w' h1 h2 => by
            have := h42' y y2 w' h1 h2
            rw [h1.2, hpf] at this
            exact this
          clear h40' h42' hpf hfl hF hsp h26' hSp hSp0 hI h hn hlen hB
          generalize pfO x.d S = P at *
          obtain ⟨days, shift, size, to, tc, T, lo, lc, L⟩ := x
          refine calls_val env mixed Try.func8 has8 Try.ntmps8 [.agg #[iv days, iv shift, iv size, .slice to T.length tc, .slice lo L.length lc], .slice o S.length c] (by simp) ?_
          repeat'
           conv => whnf
           first
            | refine zA ?_ | refine zB ?_ | refine zC ?_ | refine zD ?_ | refine zE ?_ | refine zF ?_ | refine zG ?_ | refine zH ?_ | refine zJ ?_ | refine zI ?_ | refine splT ?_ | refine splF ?_ | refine splNot ?_
            | ((first | refine splIn (fun hc => ?_) (fun hc => ?_) | refine splD (fun hc => ?_) (fun hc => ?_) | refine splE (fun hc => ?_) (fun hc => ?_) | refine splNE (fun hc => ?_) (fun hc => ?_)) <;> first | (exfalso; omega) | (exfalso; dsimp only at hc; omega) | skip)
            | ((with_reducible show CallEv _ _ 17 _ _ _ _ _); refine callE (k := 17) (fun β w' hbw => h17 w' (by first | exact hbw | exact hbw.1 | exact hbw.1.1 | exact hbw.1.1.1 | exact hbw.1.1.1.1 | exact hbw.1.1.1.1.1 | exact hbw.1.1.1.1.1.1 | exact hbw.1.1.1.1.1.1.1 | exact hbw.1.1.1.1.1.1.1.1 | exact hbw.1.1.1.1.1.1.1.1.1 | exact hbw.1.1.1.1.1.1.1.1.1.1 | exact hbw.1.1.1.1.1.1.1.1.1.1.1 | exact hbw.1.1.1.1.1.1.1.1.1.1.1.1 | exact hbw.1.1.1.1.1.1.1.1.1.1.1.1.1)) ?_)
            | ((with_reducible show CallEv _ _ 24 _ _ _ _ _); refine callE (k := 24) (fun β w' hbw => h24 w' (by first | exact hbw | exact hbw.1 | exact hbw.1.1 | exact hbw.1.1.1 | exact hbw.1.1.1.1 | exact hbw.1.1.1.1.1 | exact hbw.1.1.1.1.1.1 | exact hbw.1.1.1.1.1.1.1 | exact hbw.1.1.1.1.1.1.1.1 | exact hbw.1.1.1.1.1.1.1.1.1 | exact hbw.1.1.1.1.1.1.1.1.1.1 | exact hbw.1.1.1.1.1.1.1.1.1.1.1 | exact hbw.1.1.1.1.1.1.1.1.1.1.1.1 | exact hbw.1.1.1.1.1.1.1.1.1.1.1.1.1)) ?_)
            | ((with_reducible show CallEv _ _ 21 _ _ _ _ _); refine callF [] (fun y : Tr => y.v) (fun y w2 => TrIn y w2 ∧ y.d = Tr.d ⟨days, shift, size, to, tc, T, lo, lc, L⟩) (fun β w' _ hbw => hT w' (by first | exact hbw | exact hbw.1 | exact hbw.1.1 | exact hbw.1.1.1 | exact hbw.1.1.1.1 | exact hbw.1.1.1.1.1 | exact hbw.1.1.1.1.1.1 | exact hbw.1.1.1.1.1.1.1 | exact hbw.1.1.1.1.1.1.1.1 | exact hbw.1.1.1.1.1.1.1.1.1 | exact hbw.1.1.1.1.1.1.1.1.1.1 | exact hbw.1.1.1.1.1.1.1.1.1.1.1 | exact hbw.1.1.1.1.1.1.1.1.1.1.1.1 | exact hbw.1.1.1.1.1.1.1.1.1.1.1.1.1)) ?_; intro y)
            | ((with_reducible show CallEv _ _ 41 _ _ _ _ _); refine callF [] (fun y2 : Option Addr × Nat => sV S.length y2) (fun y2 w2 => Rd 3 spF (sV S.length y2) S w2 ∧ S.length ≤ y2.2) (fun β w' _ hbw => h41 w' (by first | exact hbw | exact hbw.1 | exact hbw.1.1 | exact hbw.1.1.1 | exact hbw.1.1.1.1 | exact hbw.1.1.1.1.1 | exact hbw.1.1.1.1.1.1 | exact hbw.1.1.1.1.1.1.1 | exact hbw.1.1.1.1.1.1.1.1 | exact hbw.1.1.1.1.1.1.1.1.1 | exact hbw.1.1.1.1.1.1.1.1.1.1 | exact hbw.1.1.1.1.1.1.1.1.1.1.1 | exact hbw.1.1.1.1.1.1.1.1.1.1.1.1 | exact hbw.1.1.1.1.1.1.1.1.1.1.1.1.1)) ?_; intro y2)
            | ((with_reducible show CallEv _ _ 40 _ _ _ _ _); refine callF [] (fun z : Option Addr × Nat => .tuple #[sV 0 z, iv 0]) (fun _ _ => True) (fun β w' _ hbw => h40 y y2 w' hbw.1.2 hbw.2) ?_; intro z)
            | ((with_reducible show CallEv _ _ 42 _ _ _ _ _); refine callE (k := 42) (fun β w' hbw => h42 y y2 w' hbw.1.2 hbw.2) ?_)
            | ((with_reducible show CallEv _ _ 22 _ _ _ _ _); refine callE (k := 22) (fun β w' hbw => h22 w' (by first | exact hbw | exact hbw.1 | exact hbw.1.1 | exact hbw.1.1.1 | exact hbw.1.1.1.1 | exact hbw.1.1.1.1.1 | exact hbw.1.1.1.1.1.1 | exact hbw.1.1.1.1.1.1.1 | exact hbw.1.1.1.1.1.1.1.1 | exact hbw.1.1.1.1.1.1.1.1.1 | exact hbw.1.1.1.1.1.1.1.1.1.1 | exact hbw.1.1.1.1.1.1.1.1.1.1.1 | exact hbw.1.1.1.1.1.1.1.1.1.1.1.1 | exact hbw.1.1.1.1.1.1.1.1.1.1.1.1.1)) ?_)
            | ((with_reducible show CallEv _ _ 25 _ _ _ _ _); refine callF [] (fun z : Option Addr × Nat => sV 0 z) (fun _ _ => True) (fun β w' _ hbw => (h25' w' (by first | exact hbw | exact hbw.1 | exact hbw.1.1 | exact hbw.1.1.1 | exact hbw.1.1.1.1 | exact hbw.1.1.1.1.1 | exact hbw.1.1.1.1.1.1 | exact hbw.1.1.1.1.1.1.1 | exact hbw.1.1.1.1.1.1.1.1 | exact hbw.1.1.1.1.1.1.1.1.1 | exact hbw.1.1.1.1.1.1.1.1.1.1 | exact hbw.1.1.1.1.1.1.1.1.1.1.1 | exact hbw.1.1.1.1.1.1.1.1.1.1.1.1 | exact hbw.1.1.1.1.1.1.1.1.1.1.1.1.1)).mono fun e w2 ⟨z, h1, h2, _⟩ => ⟨z, h1, h2, fun _ _ => trivial⟩) ?_; intro y3)
          all_goals first | (exfalso; omega) | skip
          refine loopE (fun _ : Unit => [(1, .v (.slice o S.length c)), (2, .ptr 0 0), (7, .v (iv P)), (8, .v (iv 0)), (10, .v (sV 0 y3)), (11, .v (iv 0))]) (fun _ => [(0, .cells [.v (iv days), .v (iv shift), .v (iv size), .v (.slice to T.length tc), .v (.slice lo L.length lc)] 25)]) (fun _ => True) (fun _ => 0) () trivial ⟨rfl, rfl, rfl, rfl, rfl, rfl, trivial⟩ ⟨rfl, trivial⟩ (fun _ => ⟨rfl, rfl⟩) ?_
          intro _ _
          repeat'
           conv => whnf
           first
            | refine zA ?_ | refine zB ?_ | refine zC ?_ | refine zD ?_ | refine zE ?_ | refine zF ?_ | refine zG ?_ | refine zH ?_ | refine zJ ?_ | refine zI ?_ | refine splT ?_ | refine splF ?_ | refine splNot ?_
            | ((first | refine splIn (fun hc => ?_) (fun hc => ?_) | refine splD (fun hc => ?_) (fun hc => ?_) | refine splE (fun hc => ?_) (fun hc => ?_) | refine splNE (fun hc => ?_) (fun hc => ?_)) <;> first | (exfalso; omega) | (exfalso; dsimp only at hc; omega) | skip)
            | ((with_reducible show CallEv _ _ 26 _ _ _ _ _); refine callE (k := 26) (fun β w' hbw => h26 w' (by first | exact hbw | exact hbw.1 | exact hbw.1.1 | exact hbw.1.1.1 | exact hbw.1.1.1.1 | exact hbw.1.1.1.1.1 | exact hbw.1.1.1.1.1.1 | exact hbw.1.1.1.1.1.1.1 | exact hbw.1.1.1.1.1.1.1.1 | exact hbw.1.1.1.1.1.1.1.1.1 | exact hbw.1.1.1.1.1.1.1.1.1.1 | exact hbw.1.1.1.1.1.1.1.1.1.1.1 | exact hbw.1.1.1.1.1.1.1.1.1.1.1.1 | exact hbw.1.1.1.1.1.1.1.1.1.1.1.1.1)) ?_)
            | ((with_reducible show CallEv _ _ 19 _ _ _ _ _); refine callE (k := 19) (fun β w' hbw => awake_ok w') ?_)
          all_goals first | (exfalso; omega) | exact ⟨fun β => rfl, fun w' h => (by first | exact h | exact h.1 | exact h.1.1 | exact h.1.1.1 | exact h.1.1.1.1 | exact h.1.1.1.1.1 | exact h.1.1.1.1.1.1 | exact h.1.1.1.1.1.1.1 | exact h.1.1.1.1.1.1.1.1 | exact h.1.1.1.1.1.1.1.1.1 | exact h.1.1.1.1.1.1.1.1.1.1 | exact h.1.1.1.1.1.1.1.1.1.1.1 | exact h.1.1.1.1.1.1.1.1.1.1.1.1 | exact h.1.1.1.1.1.1.1.1.1.1.1.1.1)⟩
        · have hpf : pfV x.d S = (0, 9) := by unfold pfV; rw [if_pos hto, if_pos hs20, if_neg hF]
          have hfl2 := fsP_len x.d S S.length
          change (fsO x.d S).length ≤ _ at hfl2
          have hfl1 : 1 ≤ (fsO x.d S).length := by
            cases hc : fsO x.d S with
            | nil => exact absurd hc hF
            | cons a l => simp
          have hptr : ∀ (z : Option Addr × Nat) n (F : List (Nat × Nat)) w2, n = F.length → 1 ≤ n → St w2.heap.size (Rd 2 flF (sV n z) F) w2 ∨ Rd 2 flF (sV n z) F w2 → ∃ a, z.1 = some a := fun z n F w2 hn h1 h => by
            subst hn
            have h' : Rd 2 flF (sV F.length z) F w2 := h.elim (fun h => St.now h) id
            obtain ⟨_, a, ha, _⟩ := h'.ptr h1
            exact ⟨a, ha⟩
          generalize hFF : fsO x.d S = F at *
          have h40 : ∀ (y : Tr) (y2 : Option Addr × Nat) w', TrIn y w' ∧ y.d = x.d → Rd 3 spF (sV S.length y2) S w' ∧ S.length ≤ y2.2 → Calls Try.prog 40 #[y.v, sV S.length y2] w' fun e w2 => ∃ z : Addr × Nat, e = .returned (.tuple #[.slice (some z.1) F.length z.2, iv 0]) ∧ Below w'.heap.size w' w2 ∧ St w'.heap.size (Rd 2 flF (.slice (some z.1) F.length z.2) F) w2 := fun y y2 w' h1 h2 => by
            have := h40' y y2 w' h1 h2
            rw [h1.2, hfl] at this
            refine this.mono fun e w2 ⟨z, h1, h2, h3⟩ => ?_
            obtain ⟨a, ha⟩ := hptr z F.length F w2 rfl hfl1 (.inr (St.now h3))
            obtain ⟨z1, z2⟩ := z
            dsimp only at ha
            subst ha
            exact ⟨(a, z2), h1, h2, h3⟩
          have h25 : ∀ w', Below w.heap.size w w' → Calls Try.prog 25 #[x.v, .slice o S.length c] w' fun e w2 => ∃ z : Addr × Nat, e = .returned (.slice (some z.1) F.length z.2) ∧ Below w'.heap.size w' w2 ∧ St w'.heap.size (Rd 2 flF (.slice (some z.1) F.length z.2) F) w2 := fun w' hb => by
            refine (h25' w' hb).mono fun e w2 ⟨z, h1, h2, h3⟩ => ?_
            obtain ⟨a, ha⟩ := hptr z F.length F w2 rfl hfl1 (.inr (St.now h3))
            obtain ⟨z1, z2⟩ := z
            dsimp only at ha
            subst ha
            exact ⟨(a, z2), h1, h2, h3⟩
          have h42 : ∀ (y : Tr) (y2 : Option Addr × Nat) w', TrIn y w' ∧ y.d = x.d → Rd 3 spF (sV S.length y2) S w' ∧ S.length ≤ y2.2 → Calls Try.prog 42 #[y.v, sV S.length y2] w' fun e w2 => e = .returned (.tuple #[iv 0, iv 9]) ∧ Below w'.heap.size w' w2 := fun y y2 w' h1 h2 => by
            have := h42' y y2 w' h1 h2
            rw [h1.2, hpf] at this
            exact this
          clear h40' h42' hpf hfl h26' hSp hSp0 hI h hn hlen hB h25' hptr
          have hFn : ∀ p ∈ F, True := fun _ _ => trivial
          obtain ⟨days, shift, size, to, tc, T, lo, lc, L⟩ := x
          refine calls_val env mixed Try.func8 has8 Try.ntmps8 [.agg #[iv days, iv shift, iv size, .slice to T.length tc, .slice lo L.length lc], .slice o S.length c] (by simp) ?_
          repeat'
           conv => whnf
           first
            | refine zA ?_ | refine zB ?_ | refine zC ?_ | refine zD ?_ | refine zE ?_ | refine zF ?_ | refine zG ?_ | refine zH ?_ | refine zJ ?_ | refine zI ?_ | refine splT ?_ | refine splF ?_ | refine splNot ?_
            | ((first | refine splIn (fun hc => ?_) (fun hc => ?_) | refine splD (fun hc => ?_) (fun hc => ?_) | refine splE (fun hc => ?_) (fun hc => ?_) | refine splNE (fun hc => ?_) (fun hc => ?_)) <;> first | (exfalso; omega) | (exfalso; dsimp only at hc; omega) | skip)
            | ((with_reducible show CallEv _ _ 17 _ _ _ _ _); refine callE (k := 17) (fun β w' hbw => h17 w' (by first | exact hbw | exact hbw.1 | exact hbw.1.1 | exact hbw.1.1.1 | exact hbw.1.1.1.1 | exact hbw.1.1.1.1.1 | exact hbw.1.1.1.1.1.1 | exact hbw.1.1.1.1.1.1.1 | exact hbw.1.1.1.1.1.1.1.1 | exact hbw.1.1.1.1.1.1.1.1.1 | exact hbw.1.1.1.1.1.1.1.1.1.1 | exact hbw.1.1.1.1.1.1.1.1.1.1.1 | exact hbw.1.1.1.1.1.1.1.1.1.1.1.1 | exact hbw.1.1.1.1.1.1.1.1.1.1.1.1.1)) ?_)
            | ((with_reducible show CallEv _ _ 24 _ _ _ _ _); refine callE (k := 24) (fun β w' hbw => h24 w' (by first | exact hbw | exact hbw.1 | exact hbw.1.1 | exact hbw.1.1.1 | exact hbw.1.1.1.1 | exact hbw.1.1.1.1.1 | exact hbw.1.1.1.1.1.1 | exact hbw.1.1.1.1.1.1.1 | exact hbw.1.1.1.1.1.1.1.1 | exact hbw.1.1.1.1.1.1.1.1.1 | exact hbw.1.1.1.1.1.1.1.1.1.1 | exact hbw.1.1.1.1.1.1.1.1.1.1.1 | exact hbw.1.1.1.1.1.1.1.1.1.1.1.1 | exact hbw.1.1.1.1.1.1.1.1.1.1.1.1.1)) ?_)
            | ((with_reducible show CallEv _ _ 21 _ _ _ _ _); refine callF [] (fun y : Tr => y.v) (fun y w2 => TrIn y w2 ∧ y.d = Tr.d ⟨days, shift, size, to, tc, T, lo, lc, L⟩) (fun β w' _ hbw => hT w' (by first | exact hbw | exact hbw.1 | exact hbw.1.1 | exact hbw.1.1.1 | exact hbw.1.1.1.1 | exact hbw.1.1.1.1.1 | exact hbw.1.1.1.1.1.1 | exact hbw.1.1.1.1.1.1.1 | exact hbw.1.1.1.1.1.1.1.1 | exact hbw.1.1.1.1.1.1.1.1.1 | exact hbw.1.1.1.1.1.1.1.1.1.1 | exact hbw.1.1.1.1.1.1.1.1.1.1.1 | exact hbw.1.1.1.1.1.1.1.1.1.1.1.1 | exact hbw.1.1.1.1.1.1.1.1.1.1.1.1.1)) ?_; intro y)
            | ((with_reducible show CallEv _ _ 41 _ _ _ _ _); refine callF [] (fun y2 : Option Addr × Nat => sV S.length y2) (fun y2 w2 => Rd 3 spF (sV S.length y2) S w2 ∧ S.length ≤ y2.2) (fun β w' _ hbw => h41 w' (by first | exact hbw | exact hbw.1 | exact hbw.1.1 | exact hbw.1.1.1 | exact hbw.1.1.1.1 | exact hbw.1.1.1.1.1 | exact hbw.1.1.1.1.1.1 | exact hbw.1.1.1.1.1.1.1 | exact hbw.1.1.1.1.1.1.1.1 | exact hbw.1.1.1.1.1.1.1.1.1 | exact hbw.1.1.1.1.1.1.1.1.1.1 | exact hbw.1.1.1.1.1.1.1.1.1.1.1 | exact hbw.1.1.1.1.1.1.1.1.1.1.1.1 | exact hbw.1.1.1.1.1.1.1.1.1.1.1.1.1)) ?_; intro y2)
            | ((with_reducible show CallEv _ _ 40 _ _ _ _ _); refine callF [] (fun z : Addr × Nat => .tuple #[.slice (some z.1) F.length z.2, iv 0]) (fun z w2 => Rd 2 flF (.slice (some z.1) F.length z.2) F w2) (fun β w' _ hbw => h40 y y2 w' hbw.1.2 hbw.2) ?_; intro z)
            | ((with_reducible show CallEv _ _ 42 _ _ _ _ _); refine callE (k := 42) (fun β w' hbw => h42 y y2 w' hbw.1.2 hbw.2) ?_)
            | ((with_reducible show CallEv _ _ 22 _ _ _ _ _); refine callE (k := 22) (fun β w' hbw => h22 w' (by first | exact hbw | exact hbw.1 | exact hbw.1.1 | exact hbw.1.1.1 | exact hbw.1.1.1.1 | exact hbw.1.1.1.1.1 | exact hbw.1.1.1.1.1.1 | exact hbw.1.1.1.1.1.1.1 | exact hbw.1.1.1.1.1.1.1.1 | exact hbw.1.1.1.1.1.1.1.1.1 | exact hbw.1.1.1.1.1.1.1.1.1.1 | exact hbw.1.1.1.1.1.1.1.1.1.1.1 | exact hbw.1.1.1.1.1.1.1.1.1.1.1.1 | exact hbw.1.1.1.1.1.1.1.1.1.1.1.1.1)) ?_)
            | ((with_reducible show CallEv _ _ 25 _ _ _ _ _); refine callF [] (fun z : Addr × Nat => .slice (some z.1) F.length z.2) (fun z w2 => Rd 2 flF (.slice (some z.1) F.length z.2) F w2) (fun β w' _ hbw => h25 w' (by first | exact hbw | exact hbw.1 | exact hbw.1.1 | exact hbw.1.1.1 | exact hbw.1.1.1.1 | exact hbw.1.1.1.1.1 | exact hbw.1.1.1.1.1.1 | exact hbw.1.1.1.1.1.1.1 | exact hbw.1.1.1.1.1.1.1.1 | exact hbw.1.1.1.1.1.1.1.1.1 | exact hbw.1.1.1.1.1.1.1.1.1.1 | exact hbw.1.1.1.1.1.1.1.1.1.1.1 | exact hbw.1.1.1.1.1.1.1.1.1.1.1.1 | exact hbw.1.1.1.1.1.1.1.1.1.1.1.1.1)) ?_; intro y3)
          all_goals first | (exfalso; omega) | skip
          refine loopE (fun k : Nat => [(5, .v (.slice (some z.1) F.length z.2)), (7, .v (iv 0)), (8, .v (iv 9)), (10, .v (.slice (some y3.1) F.length y3.2)), (11, .v (iv k))]) (fun _ => []) (fun k => k ≤ F.length) (fun k => F.length - k) 0 (Nat.zero_le _) ⟨rfl, rfl, rfl, rfl, rfl, trivial⟩ trivial (fun _ => ⟨rfl, rfl⟩) ?_
          intro k hk
          rcases Nat.lt_or_ge k F.length with hkl | hkl
          · obtain ⟨⟨p, q⟩, hp⟩ : ∃ p, F[k]? = some p := ⟨_, List.getElem?_eq_getElem hkl⟩
            have hz : (!(((p : Nat) : Int) == p && ((q : Nat) : Int) == q)) = false := by simp
            repeat'
             conv => whnf
             first
              | refine zA ?_ | refine zB ?_ | refine zC ?_ | refine zD ?_ | refine zE ?_ | refine zF ?_ | refine zG ?_ | refine zH ?_ | refine zJ ?_ | refine zI ?_ | refine splT ?_ | refine splF ?_ | refine splNot ?_
              | ((first | refine splIn (fun hc => ?_) (fun hc => ?_) | refine splD (fun hc => ?_) (fun hc => ?_) | refine splE (fun hc => ?_) (fun hc => ?_) | refine splNE (fun hc => ?_) (fun hc => ?_)) <;> first | (exfalso; omega) | (exfalso; dsimp only at hc; omega) | skip)
              | refine Exists.intro (α := List Value) [iv p, .int .u8 q] ⟨⟨rfl, fun w' hw' => rd_ati (hw'.1.1.1.2) hp⟩, ?_⟩
              | refine Exists.intro (α := List Value) [iv p] ⟨⟨rfl, fun w' hw' => rd_fldz hw'.2 hp _ rfl 0 (iv p) rfl⟩, ?_⟩
              | refine Exists.intro (α := List Value) [.int .u8 q] ⟨⟨rfl, fun w' hw' => rd_fldz hw'.2 hp _ rfl 1 (.int .u8 q) rfl⟩, ?_⟩
              | refine neqE81 hz ?_
            all_goals first | (exfalso; omega) | exact ⟨k + 1, by omega, by omega, Ent.weak rfl ⟨rfl, rfl, rfl, rfl, rfl, trivial⟩ trivial fun _ h => h⟩
          · obtain rfl : k = F.length := by omega
            repeat'
             conv => whnf
             first
              | refine zA ?_ | refine zB ?_ | refine zC ?_ | refine zD ?_ | refine zE ?_ | refine zF ?_ | refine zG ?_ | refine zH ?_ | refine zJ ?_ | refine zI ?_ | refine splT ?_ | refine splF ?_ | refine splNot ?_
              | ((first | refine splIn (fun hc => ?_) (fun hc => ?_) | refine splD (fun hc => ?_) (fun hc => ?_) | refine splE (fun hc => ?_) (fun hc => ?_) | refine splNE (fun hc => ?_) (fun hc => ?_)) <;> first | (exfalso; omega) | (exfalso; dsimp only at hc; omega) | skip)
              | ((with_reducible show CallEv _ _ 19 _ _ _ _ _); refine callE (k := 19) (fun β w' hbw => awake_ok w') ?_)
            all_goals first | (exfalso; omega) | exact ⟨fun β => rfl, fun w' h => (by first | exact h | exact h.1 | exact h.1.1 | exact h.1.1.1 | exact h.1.1.1.1 | exact h.1.1.1.1.1 | exact h.1.1.1.1.1.1 | exact h.1.1.1.1.1.1.1 | exact h.1.1.1.1.1.1.1.1 | exact h.1.1.1.1.1.1.1.1.1 | exact h.1.1.1.1.1.1.1.1.1.1 | exact h.1.1.1.1.1.1.1.1.1.1.1 | exact h.1.1.1.1.1.1.1.1.1.1.1.1 | exact h.1.1.1.1.1.1.1.1.1.1.1.1.1)⟩
      · have hE : ∃ E : Int, flV x.d S = ([], E) ∧ pfV x.d S = (0, E) ∧ ((toB x.d = false ∧ E = 1) ∨ (toB x.d = true ∧ S.length > 20 ∧ E = 3)) := by
          unfold flV pfV
          cases hto : toB x.d with
          | false => exact ⟨1, by rw [if_neg (by decide)], by rw [if_neg (by decide)], .inl ⟨rfl, rfl⟩⟩
          | true =>
            have hs : ¬ S.length ≤ 20 := fun h => hgd ⟨hto, h⟩
            exact ⟨3, by rw [if_pos rfl, if_neg hs], by rw [if_pos rfl, if_neg hs], .inr ⟨rfl, by omega, rfl⟩⟩
        obtain ⟨E, hfl, hpf, hcase⟩ := hE
        have h40 : ∀ (y : Tr) (y2 : Option Addr × Nat) w', TrIn y w' ∧ y.d = x.d → Rd 3 spF (sV S.length y2) S w' ∧ S.length ≤ y2.2 → Calls Try.prog 40 #[y.v, sV S.length y2] w' fun e w2 => ∃ z : Option Addr × Nat, e = .returned (.tuple #[sV 0 z, iv E]) ∧ Below w'.heap.size w' w2 ∧ St w'.heap.size (fun _ => True) w2 := fun y y2 w' h1 h2 => by
          have := h40' y y2 w' h1 h2
          rw [h1.2, hfl] at this
          exact this.mono fun e w2 ⟨z, h1, h2, _⟩ => ⟨z, h1, h2, fun _ _ => trivial⟩
        have h42 : ∀ (y : Tr) (y2 : Option Addr × Nat) w', TrIn y w' ∧ y.d = x.d → Rd 3 spF (sV S.length y2) S w' ∧ S.length ≤ y2.2 → Calls Try.prog 42 #[y.v, sV S.length y2] w' fun e w2 => e = .returned (.tuple #[iv 0, iv E]) ∧ Below w'.heap.size w' w2 := fun y y2 w' h1 h2 => by
          have := h42' y y2 w' h1 h2
          rw [h1.2, hpf] at this
          exact this
        clear h40' h42' hpf hfl hSp hSp0 hI h hB
        rcases hcase with ⟨hto, rfl⟩ | ⟨hto, hs20, rfl⟩
        · rw [hto] at h22
          clear hgd hto
          obtain ⟨days, shift, size, to, tc, T, lo, lc, L⟩ := x
          refine calls_val env mixed Try.func8 has8 Try.ntmps8 [.agg #[iv days, iv shift, iv size, .slice to T.length tc, .slice lo L.length lc], .slice o S.length c] (by simp) ?_
          repeat'
           conv => whnf
           first
            | refine zA ?_ | refine zB ?_ | refine zC ?_ | refine zD ?_ | refine zE ?_ | refine zF ?_ | refine zG ?_ | refine zH ?_ | refine zJ ?_ | refine zI ?_ | refine splT ?_ | refine splF ?_ | refine splNot ?_
            | ((first | refine splIn (fun hc => ?_) (fun hc => ?_) | refine splD (fun hc => ?_) (fun hc => ?_) | refine splE (fun hc => ?_) (fun hc => ?_) | refine splNE (fun hc => ?_) (fun hc => ?_)) <;> first | (exfalso; omega) | (exfalso; dsimp only at hc; omega) | skip)
            | ((with_reducible show CallEv _ _ 17 _ _ _ _ _); refine callE (k := 17) (fun β w' hbw => h17 w' (by first | exact hbw | exact hbw.1 | exact hbw.1.1 | exact hbw.1.1.1 | exact hbw.1.1.1.1 | exact hbw.1.1.1.1.1 | exact hbw.1.1.1.1.1.1 | exact hbw.1.1.1.1.1.1.1 | exact hbw.1.1.1.1.1.1.1.1 | exact hbw.1.1.1.1.1.1.1.1.1 | exact hbw.1.1.1.1.1.1.1.1.1.1 | exact hbw.1.1.1.1.1.1.1.1.1.1.1 | exact hbw.1.1.1.1.1.1.1.1.1.1.1.1 | exact hbw.1.1.1.1.1.1.1.1.1.1.1.1.1)) ?_)
            | ((with_reducible show CallEv _ _ 24 _ _ _ _ _); refine callE (k := 24) (fun β w' hbw => h24 w' (by first | exact hbw | exact hbw.1 | exact hbw.1.1 | exact hbw.1.1.1 | exact hbw.1.1.1.1 | exact hbw.1.1.1.1.1 | exact hbw.1.1.1.1.1.1 | exact hbw.1.1.1.1.1.1.1 | exact hbw.1.1.1.1.1.1.1.1 | exact hbw.1.1.1.1.1.1.1.1.1 | exact hbw.1.1.1.1.1.1.1.1.1.1 | exact hbw.1.1.1.1.1.1.1.1.1.1.1 | exact hbw.1.1.1.1.1.1.1.1.1.1.1.1 | exact hbw.1.1.1.1.1.1.1.1.1.1.1.1.1)) ?_)
            | ((with_reducible show CallEv _ _ 21 _ _ _ _ _); refine callF [] (fun y : Tr => y.v) (fun y w2 => TrIn y w2 ∧ y.d = Tr.d ⟨days, shift, size, to, tc, T, lo, lc, L⟩) (fun β w' _ hbw => hT w' (by first | exact hbw | exact hbw.1 | exact hbw.1.1 | exact hbw.1.1.1 | exact hbw.1.1.1.1 | exact hbw.1.1.1.1.1 | exact hbw.1.1.1.1.1.1 | exact hbw.1.1.1.1.1.1.1 | exact hbw.1.1.1.1.1.1.1.1 | exact hbw.1.1.1.1.1.1.1.1.1 | exact hbw.1.1.1.1.1.1.1.1.1.1 | exact hbw.1.1.1.1.1.1.1.1.1.1.1 | exact hbw.1.1.1.1.1.1.1.1.1.1.1.1 | exact hbw.1.1.1.1.1.1.1.1.1.1.1.1.1)) ?_; intro y)
            | ((with_reducible show CallEv _ _ 41 _ _ _ _ _); refine callF [] (fun y2 : Option Addr × Nat => sV S.length y2) (fun y2 w2 => Rd 3 spF (sV S.length y2) S w2 ∧ S.length ≤ y2.2) (fun β w' _ hbw => h41 w' (by first | exact hbw | exact hbw.1 | exact hbw.1.1 | exact hbw.1.1.1 | exact hbw.1.1.1.1 | exact hbw.1.1.1.1.1 | exact hbw.1.1.1.1.1.1 | exact hbw.1.1.1.1.1.1.1 | exact hbw.1.1.1.1.1.1.1.1 | exact hbw.1.1.1.1.1.1.1.1.1 | exact hbw.1.1.1.1.1.1.1.1.1.1 | exact hbw.1.1.1.1.1.1.1.1.1.1.1 | exact hbw.1.1.1.1.1.1.1.1.1.1.1.1 | exact hbw.1.1.1.1.1.1.1.1.1.1.1.1.1)) ?_; intro y2)
            | ((with_reducible show CallEv _ _ 40 _ _ _ _ _); refine callF [] (fun z : Option Addr × Nat => .tuple #[sV 0 z, iv 1]) (fun _ _ => True) (fun β w' _ hbw => h40 y y2 w' hbw.1.2 hbw.2) ?_; intro z)
            | ((with_reducible show CallEv _ _ 42 _ _ _ _ _); refine callE (k := 42) (fun β w' hbw => h42 y y2 w' hbw.1.2 hbw.2) ?_)
            | ((with_reducible show CallEv _ _ 22 _ _ _ _ _); refine callE (k := 22) (fun β w' hbw => h22 w' (by first | exact hbw | exact hbw.1 | exact hbw.1.1 | exact hbw.1.1.1 | exact hbw.1.1.1.1 | exact hbw.1.1.1.1.1 | exact hbw.1.1.1.1.1.1 | exact hbw.1.1.1.1.1.1.1 | exact hbw.1.1.1.1.1.1.1.1 | exact hbw.1.1.1.1.1.1.1.1.1 | exact hbw.1.1.1.1.1.1.1.1.1.1 | exact hbw.1.1.1.1.1.1.1.1.1.1.1 | exact hbw.1.1.1.1.1.1.1.1.1.1.1.1 | exact hbw.1.1.1.1.1.1.1.1.1.1.1.1.1)) ?_)
            | ((with_reducible show CallEv _ _ 19 _ _ _ _ _); refine callE (k := 19) (fun β w' hbw => awake_ok w') ?_)
          all_goals first | (exfalso; omega) | exact ⟨fun β => rfl, fun w' h => (by first | exact h | exact h.1 | exact h.1.1 | exact h.1.1.1 | exact h.1.1.1.1 | exact h.1.1.1.1.1 | exact h.1.1.1.1.1.1 | exact h.1.1.1.1.1.1.1 | exact h.1.1.1.1.1.1.1.1 | exact h.1.1.1.1.1.1.1.1.1 | exact h.1.1.1.1.1.1.1.1.1.1 | exact h.1.1.1.1.1.1.1.1.1.1.1 | exact h.1.1.1.1.1.1.1.1.1.1.1.1 | exact h.1.1.1.1.1.1.1.1.1.1.1.1.1)⟩
        · rw [hto] at h22
          clear hgd hto
          obtain ⟨days, shift, size, to, tc, T, lo, lc, L⟩ := x
          refine calls_val env mixed Try.func8 has8 Try.ntmps8 [.agg #[iv days, iv shift, iv size, .slice to T.length tc, .slice lo L.length lc], .slice o S.length c] (by simp) ?_
          repeat'
           conv => whnf
           first
            | refine zA ?_ | refine zB ?_ | refine zC ?_ | refine zD ?_ | refine zE ?_ | refine zF ?_ | refine zG ?_ | refine zH ?_ | refine zJ ?_ | refine zI ?_ | refine splT ?_ | refine splF ?_ | refine splNot ?_
            | ((first | refine splIn (fun hc => ?_) (fun hc => ?_) | refine splD (fun hc => ?_) (fun hc => ?_) | refine splE (fun hc => ?_) (fun hc => ?_) | refine splNE (fun hc => ?_) (fun hc => ?_)) <;> first | (exfalso; omega) | (exfalso; dsimp only at hc; omega) | skip)
            | ((with_reducible show CallEv _ _ 17 _ _ _ _ _); refine callE (k := 17) (fun β w' hbw => h17 w' (by first | exact hbw | exact hbw.1 | exact hbw.1.1 | exact hbw.1.1.1 | exact hbw.1.1.1.1 | exact hbw.1.1.1.1.1 | exact hbw.1.1.1.1.1.1 | exact hbw.1.1.1.1.1.1.1 | exact hbw.1.1.1.1.1.1.1.1 | exact hbw.1.1.1.1.1.1.1.1.1 | exact hbw.1.1.1.1.1.1.1.1.1.1 | exact hbw.1.1.1.1.1.1.1.1.1.1.1 | exact hbw.1.1.1.1.1.1.1.1.1.1.1.1 | exact hbw.1.1.1.1.1.1.1.1.1.1.1.1.1)) ?_)
            | ((with_reducible show CallEv _ _ 24 _ _ _ _ _); refine callE (k := 24) (fun β w' hbw => h24 w' (by first | exact hbw | exact hbw.1 | exact hbw.1.1 | exact hbw.1.1.1 | exact hbw.1.1.1.1 | exact hbw.1.1.1.1.1 | exact hbw.1.1.1.1.1.1 | exact hbw.1.1.1.1.1.1.1 | exact hbw.1.1.1.1.1.1.1.1 | exact hbw.1.1.1.1.1.1.1.1.1 | exact hbw.1.1.1.1.1.1.1.1.1.1 | exact hbw.1.1.1.1.1.1.1.1.1.1.1 | exact hbw.1.1.1.1.1.1.1.1.1.1.1.1 | exact hbw.1.1.1.1.1.1.1.1.1.1.1.1.1)) ?_)
            | ((with_reducible show CallEv _ _ 21 _ _ _ _ _); refine callF [] (fun y : Tr => y.v) (fun y w2 => TrIn y w2 ∧ y.d = Tr.d ⟨days, shift, size, to, tc, T, lo, lc, L⟩) (fun β w' _ hbw => hT w' (by first | exact hbw | exact hbw.1 | exact hbw.1.1 | exact hbw.1.1.1 | exact hbw.1.1.1.1 | exact hbw.1.1.1.1.1 | exact hbw.1.1.1.1.1.1 | exact hbw.1.1.1.1.1.1.1 | exact hbw.1.1.1.1.1.1.1.1 | exact hbw.1.1.1.1.1.1.1.1.1 | exact hbw.1.1.1.1.1.1.1.1.1.1 | exact hbw.1.1.1.1.1.1.1.1.1.1.1 | exact hbw.1.1.1.1.1.1.1.1.1.1.1.1 | exact hbw.1.1.1.1.1.1.1.1.1.1.1.1.1)) ?_; intro y)
            | ((with_reducible show CallEv _ _ 41 _ _ _ _ _); refine callF [] (fun y2 : Option Addr × Nat => sV S.length y2) (fun y2 w2 => Rd 3 spF (sV S.length y2) S w2 ∧ S.length ≤ y2.2) (fun β w' _ hbw => h41 w' (by first | exact hbw | exact hbw.1 | exact hbw.1.1 | exact hbw.1.1.1 | exact hbw.1.1.1.1 | exact hbw.1.1.1.1.1 | exact hbw.1.1.1.1.1.1 | exact hbw.1.1.1.1.1.1.1 | exact hbw.1.1.1.1.1.1.1.1 | exact hbw.1.1.1.1.1.1.1.1.1 | exact hbw.1.1.1.1.1.1.1.1.1.1 | exact hbw.1.1.1.1.1.1.1.1.1.1.1 | exact hbw.1.1.1.1.1.1.1.1.1.1.1.1 | exact hbw.1.1.1.1.1.1.1.1.1.1.1.1.1)) ?_; intro y2)
            | ((with_reducible show CallEv _ _ 40 _ _ _ _ _); refine callF [] (fun z : Option Addr × Nat => .tuple #[sV 0 z, iv 3]) (fun _ _ => True) (fun β w' _ hbw => h40 y y2 w' hbw.1.2 hbw.2) ?_; intro z)
            | ((with_reducible show CallEv _ _ 42 _ _ _ _ _); refine callE (k := 42) (fun β w' hbw => h42 y y2 w' hbw.1.2 hbw.2) ?_)
            | ((with_reducible show CallEv _ _ 22 _ _ _ _ _); refine callE (k := 22) (fun β w' hbw => h22 w' (by first | exact hbw | exact hbw.1 | exact hbw.1.1 | exact hbw.1.1.1 | exact hbw.1.1.1.1 | exact hbw.1.1.1.1.1 | exact hbw.1.1.1.1.1.1 | exact hbw.1.1.1.1.1.1.1 | exact hbw.1.1.1.1.1.1.1.1 | exact hbw.1.1.1.1.1.1.1.1.1 | exact hbw.1.1.1.1.1.1.1.1.1.1 | exact hbw.1.1.1.1.1.1.1.1.1.1.1 | exact hbw.1.1.1.1.1.1.1.1.1.1.1.1 | exact hbw.1.1.1.1.1.1.1.1.1.1.1.1.1)) ?_)
            | ((with_reducible show CallEv _ _ 19 _ _ _ _ _); refine callE (k := 19) (fun β w' hbw => awake_ok w') ?_)
          all_goals first | (exfalso; omega) | exact ⟨fun β => rfl, fun w' h => (by first | exact h | exact h.1 | exact h.1.1 | exact h.1.1.1 | exact h.1.1.1.1 | exact h.1.1.1.1.1 | exact h.1.1.1.1.1.1 | exact h.1.1.1.1.1.1.1 | exact h.1.1.1.1.1.1.1.1 | exact h.1.1.1.1.1.1.1.1.1 | exact h.1.1.1.1.1.1.1.1.1.1 | exact h.1.1.1.1.1.1.1.1.1.1.1 | exact h.1.1.1.1.1.1.1.1.1.1.1.1 | exact h.1.1.1.1.1.1.1.1.1.1.1.1.1)⟩
  · cases hsm : smB x.d with
    | false =>
      rw [hsm] at h17
      clear h hg
      obtain ⟨days, shift, size, to, tc, T, lo, lc, L⟩ := x
      refine calls_val env mixed Try.func8 has8 Try.ntmps8 [.agg #[iv days, iv shift, iv size, .slice to T.length tc, .slice lo L.length lc], .slice o S.length c] (by simp) ?_
      repeat'
       conv => whnf
       first
        | refine zA ?_ | refine zB ?_ | refine zC ?_ | refine zD ?_ | refine zE ?_ | refine zF ?_ | refine zG ?_ | refine zH ?_ | refine zJ ?_ | refine zI ?_ | refine splT ?_ | refine splF ?_ | refine splNot ?_
        | ((first | refine splIn (fun hc => ?_) (fun hc => ?_) | refine splD (fun hc => ?_) (fun hc => ?_) | refine splE (fun hc => ?_) (fun hc => ?_) | refine splNE (fun hc => ?_) (fun hc => ?_)) <;> first | (exfalso; omega) | (exfalso; dsimp only at hc; omega) | skip)
        | ((with_reducible show CallEv _ _ 17 _ _ _ _ _); refine callE (k := 17) (fun β w' hbw => h17 w' (by first | exact hbw | exact hbw.1 | exact hbw.1.1 | exact hbw.1.1.1 | exact hbw.1.1.1.1 | exact hbw.1.1.1.1.1 | exact hbw.1.1.1.1.1.1 | exact hbw.1.1.1.1.1.1.1 | exact hbw.1.1.1.1.1.1.1.1 | exact hbw.1.1.1.1.1.1.1.1.1 | exact hbw.1.1.1.1.1.1.1.1.1.1 | exact hbw.1.1.1.1.1.1.1.1.1.1.1 | exact hbw.1.1.1.1.1.1.1.1.1.1.1.1 | exact hbw.1.1.1.1.1.1.1.1.1.1.1.1.1)) ?_)
        | ((with_reducible show CallEv _ _ 19 _ _ _ _ _); refine callE (k := 19) (fun β w' hbw => awake_ok w') ?_)
      all_goals first | (exfalso; omega) | exact ⟨fun β => rfl, fun w' h => (by first | exact h | exact h.1 | exact h.1.1 | exact h.1.1.1 | exact h.1.1.1.1 | exact h.1.1.1.1.1 | exact h.1.1.1.1.1.1 | exact h.1.1.1.1.1.1.1 | exact h.1.1.1.1.1.1.1.1 | exact h.1.1.1.1.1.1.1.1.1 | exact h.1.1.1.1.1.1.1.1.1.1 | exact h.1.1.1.1.1.1.1.1.1.1.1 | exact h.1.1.1.1.1.1.1.1.1.1.1.1 | exact h.1.1.1.1.1.1.1.1.1.1.1.1.1)⟩
    | true =>
      rw [hsm] at h17
      have h25 : S.length > 25 := Nat.lt_of_not_le fun hc => hg ⟨hsm, hc⟩
      clear h hg
      obtain ⟨days, shift, size, to, tc, T, lo, lc, L⟩ := x
      refine calls_val env mixed Try.func8 has8 Try.ntmps8 [.agg #[iv days, iv shift, iv size, .slice to T.length tc, .slice lo L.length lc], .slice o S.length c] (by simp) ?_
      repeat'
       conv => whnf
       first
        | refine zA ?_ | refine zB ?_ | refine zC ?_ | refine zD ?_ | refine zE ?_ | refine zF ?_ | refine zG ?_ | refine zH ?_ | refine zJ ?_ | refine zI ?_ | refine splT ?_ | refine splF ?_ | refine splNot ?_
        | ((first | refine splIn (fun hc => ?_) (fun hc => ?_) | refine splD (fun hc => ?_) (fun hc => ?_) | refine splE (fun hc => ?_) (fun hc => ?_) | refine splNE (fun hc => ?_) (fun hc => ?_)) <;> first | (exfalso; omega) | (exfalso; dsimp only at hc; omega) | skip)
        | ((with_reducible show CallEv _ _ 17 _ _ _ _ _); refine callE (k := 17) (fun β w' hbw => h17 w' (by first | exact hbw | exact hbw.1 | exact hbw.1.1 | exact hbw.1.1.1 | exact hbw.1.1.1.1 | exact hbw.1.1.1.1.1 | exact hbw.1.1.1.1.1.1 | exact hbw.1.1.1.1.1.1.1 | exact hbw.1.1.1.1.1.1.1.1 | exact hbw.1.1.1.1.1.1.1.1.1 | exact hbw.1.1.1.1.1.1.1.1.1.1 | exact hbw.1.1.1.1.1.1.1.1.1.1.1 | exact hbw.1.1.1.1.1.1.1.1.1.1.1.1 | exact hbw.1.1.1.1.1.1.1.1.1.1.1.1.1)) ?_)
        | ((with_reducible show CallEv _ _ 19 _ _ _ _ _); refine callE (k := 19) (fun β w' hbw => awake_ok w') ?_)
      all_goals first | (exfalso; omega) | exact ⟨fun β => rfl, fun w' h => (by first | exact h | exact h.1 | exact h.1.1 | exact h.1.1.1 | exact h.1.1.1.1 | exact h.1.1.1.1.1 | exact h.1.1.1.1.1.1 | exact h.1.1.1.1.1.1.1 | exact h.1.1.1.1.1.1.1.1 | exact h.1.1.1.1.1.1.1.1.1 | exact h.1.1.1.1.1.1.1.1.1.1 | exact h.1.1.1.1.1.1.1.1.1.1.1 | exact h.1.1.1.1.1.1.1.1.1.1.1.1 | exact h.1.1.1.1.1.1.1.1.1.1.1.1.1)⟩
end Go.Proofs.Ythfabodamhdhaaa
