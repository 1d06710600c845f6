/- The law of seasons that are mended. -/
import Derived.Test.YthfabodamhdhaaaUN
import Derived.Test.YthfabodamhdhaaaTG
import Derived.Test.YthfabodamhdhaaaTP
import Derived.Test.YthfabodamhdhaaaRH
namespace Go.Proofs.Ythfabodamhdhaaa
open Go Tx Go.RowKit
set_option linter.unusedSimpArgs false
set_option linter.unusedVariables false
set_option maxHeartbeats 4000000 in
set_option maxRecDepth 100000 in
theorem stops_same (S : List (Int × Int × Int)) (o1 o2 : Option Addr) (c1 c2 : Nat) (w : World) (h1 : Rd 3 spF (.slice o1 S.length c1) S w) (h2 : Rd 3 spF (.slice o2 S.length c2) S w) (hl : S.length ≤ 1000) :
 Calls Try.prog 48 #[.slice o1 S.length c1, .slice o2 S.length c2] w fun e w' => e = .returned (.bool true) ∧ Below w.heap.size w w' := by
 refine calls_val env mixed Try.func48 has48 Try.ntmps48 [.slice o1 S.length c1, .slice o2 S.length c2] (by simp) ?_
 repeat'
  conv => whnf
  first
   | refine zA ?_ | refine zB ?_ | refine zC ?_ | refine zD ?_ | refine zE ?_ | refine zF ?_ | refine zG ?_ | refine zH ?_ | refine zJ ?_ | refine zI ?_ | refine splT ?_ | refine splF ?_ | refine splNot ?_
   | ((first | refine splIn ?_ ?_ | refine splD ?_ ?_ | refine splE ?_ ?_ | refine splNE ?_ ?_) <;> intro hc <;> first | (exfalso; omega) | (exfalso; dsimp only at hc; omega) | skip)
 all_goals first | (exfalso; omega) | skip
 refine loopE (fun k : Nat => [(0, .v (.slice o1 S.length c1)), (1, .v (.slice o2 S.length c2)), (5, .v (iv k))]) (fun _ => []) (fun k => k ≤ S.length) (fun k => S.length - k) 0 (Nat.zero_le _) ⟨rfl, rfl, rfl, trivial⟩ trivial (fun _ => ⟨rfl, rfl⟩) ?_
 intro k hk
 rcases Nat.lt_or_ge k S.length with hkl | hkl
 · obtain ⟨⟨a, f, l⟩, hs⟩ : ∃ s, S[k]? = some s := ⟨_, List.getElem?_eq_getElem hkl⟩
   obtain ⟨_, a1, rfl, _⟩ := h1.ptr (by omega)
   obtain ⟨_, a2, rfl, _⟩ := h2.ptr (by omega)
   have e0 := fun (w' : World) hw' => rd_ati (h1.below (w' := w') hw') hs
   have e1 := fun (w' : World) hw' => rd_fldz (h2.below (w' := w') hw') hs _ rfl 0 (iv a) rfl
   have e2 := fun (w' : World) hw' => rd_fldz (h2.below (w' := w') hw') hs _ rfl 1 (iv f) rfl
   have e3 := fun (w' : World) hw' => rd_fldz (h2.below (w' := w') hw') hs _ rfl 2 (iv l) rfl
   repeat'
    conv => whnf
    first
     | refine zA ?_ | refine zB ?_ | refine zC ?_ | refine zD ?_ | refine zE ?_ | refine zF ?_ | refine zG ?_ | refine zH ?_ | refine zJ ?_ | refine zI ?_ | refine splT ?_ | refine splF ?_ | refine splNot ?_
     | ((first | refine splIn ?_ ?_ | refine splD ?_ ?_ | refine splE ?_ ?_ | refine splNE ?_ ?_) <;> intro hc <;> first | (exfalso; omega) | (exfalso; dsimp only at hc; omega) | skip)
     | refine Exists.intro (α := List Value) [iv a, iv f, iv l] ⟨⟨rfl, fun w' hw' => e0 w' hw'⟩, ?_⟩
     | refine Exists.intro (α := List Value) [iv a] ⟨⟨rfl, fun w' hw' => e1 w' hw'⟩, ?_⟩
     | refine Exists.intro (α := List Value) [iv f] ⟨⟨rfl, fun w' hw' => e2 w' hw'⟩, ?_⟩
     | refine Exists.intro (α := List Value) [iv l] ⟨⟨rfl, fun w' hw' => e3 w' hw'⟩, ?_⟩
     | refine neqE96 (q := false) (by simp) ?_
   all_goals first | (exfalso; omega) | exact ⟨k + 1, by omega, by omega, Ent.weak rfl ⟨rfl, rfl, rfl, trivial⟩ trivial fun _ h => h⟩
 · obtain rfl : k = S.length := by omega
   repeat'
    conv => whnf
    first
     | refine zA ?_ | refine zB ?_ | refine zC ?_ | refine zD ?_ | refine zE ?_ | refine zF ?_ | refine zG ?_ | refine zH ?_ | refine zJ ?_ | refine zI ?_ | refine splT ?_ | refine splF ?_ | refine splNot ?_
     | ((first | refine splIn ?_ ?_ | refine splD ?_ ?_ | refine splE ?_ ?_ | refine splNE ?_ ?_) <;> intro hc <;> first | (exfalso; omega) | (exfalso; dsimp only at hc; omega) | skip)
   all_goals first | (exfalso; omega) | exact ⟨fun β => rfl, fun w' h => h⟩
set_option maxHeartbeats 8000000 in
set_option maxRecDepth 100000 in
theorem RouteMends_ok (x : Tr) (o : Option Addr) (c : Nat) (S : List (Int × Int × Int)) (k : Int) (w : World) (h : TrI0 x w) (hSI : SpI0 o c S w) : Calls Try.prog 12 #[x.v, .slice o S.length c, iv k] w fun e w' => e = .returned (.bool true) ∧ Below w.heap.size w w' := by
 obtain ⟨hSr, hSl, hSc, -⟩ := hSI
 have h17 := fun w' hb => Small_ok x w' (h.below hb)
 have h22 := fun w' hb => Right_ok x w' (h.below hb)
 have htl := h.tl
 have hday : toB x.d = true → 1 ≤ x.days ∧ x.days ≤ 60 := fun ht => (toB_n ht).d
 obtain ⟨tb, htb⟩ : ∃ b, toB x.d = b := ⟨_, rfl⟩
 by_cases hg : smB x.d = true ∧ ¬ (toB x.d = true ∧ (5 < x.T.length ∨ 20 < x.days)) ∧ S.length ≤ 25
 · obtain ⟨hsm, hbg, hs25⟩ := hg
   have h24 := fun w' (hb : Below w.heap.size w w') => near_ok S o c w' (hSr.below hb) (by omega)
   rw [hsm] at h17
   rw [htb] at h22 hbg
   cases hne : neB S with
   | false =>
    rw [hne] at h24
    clear h
    obtain ⟨dy, sh, sz, to, tc, T, lo, lc, L⟩ := x
    dsimp only at hbg htl
    refine calls_val env mixed Try.func12 has12 Try.ntmps12 [.agg #[iv dy, iv sh, iv sz, .slice to T.length tc, .slice lo L.length lc], .slice o S.length c, iv k] (by simp) ?_
    cases tb
    · skip
      repeat'
       conv => whnf
       first
        | refine zA ?_ | refine zB ?_ | refine zC ?_ | refine zD ?_ | refine zE ?_ | refine zF ?_ | refine zG ?_ | refine zH ?_ | refine zJ ?_ | refine zI ?_ | refine splT ?_ | refine splF ?_ | refine splNot ?_
        | ((first | refine splIn ?_ ?_ | refine splD ?_ ?_ | refine splE ?_ ?_ | refine splNE ?_ ?_) <;> intro hc <;> first | (exfalso; omega) | (exfalso; dsimp only at hc; omega) | skip)
        | ((with_reducible show CallEv _ _ 17 _ _ _ _ _); refine callE (k := 17) (fun β w' hbw => h17 w' (by repeat (first | exact hbw | replace hbw := hbw.1))) ?_)
        | ((with_reducible show CallEv _ _ 22 _ _ _ _ _); refine callE (k := 22) (fun β w' hbw => h22 w' (by repeat (first | exact hbw | replace hbw := hbw.1))) ?_)
        | ((with_reducible show CallEv _ _ 24 _ _ _ _ _); refine callE (k := 24) (fun β w' hbw => h24 w' (by repeat (first | exact hbw | replace hbw := hbw.1))) ?_)
        | ((with_reducible show CallEv _ _ 19 _ _ _ _ _); refine callE (k := 19) (fun β w' hbw => awake_ok w') ?_)
      all_goals first | (exfalso; omega) | exact ⟨fun β => rfl, fun w' h => (by repeat (first | exact h | replace h := h.1))⟩
    · skip
      repeat'
       conv => whnf
       first
        | refine zA ?_ | refine zB ?_ | refine zC ?_ | refine zD ?_ | refine zE ?_ | refine zF ?_ | refine zG ?_ | refine zH ?_ | refine zJ ?_ | refine zI ?_ | refine splT ?_ | refine splF ?_ | refine splNot ?_
        | ((first | refine splIn ?_ ?_ | refine splD ?_ ?_ | refine splE ?_ ?_ | refine splNE ?_ ?_) <;> intro hc <;> first | (exfalso; omega) | (exfalso; dsimp only at hc; omega) | skip)
        | ((with_reducible show CallEv _ _ 17 _ _ _ _ _); refine callE (k := 17) (fun β w' hbw => h17 w' (by repeat (first | exact hbw | replace hbw := hbw.1))) ?_)
        | ((with_reducible show CallEv _ _ 22 _ _ _ _ _); refine callE (k := 22) (fun β w' hbw => h22 w' (by repeat (first | exact hbw | replace hbw := hbw.1))) ?_)
        | ((with_reducible show CallEv _ _ 24 _ _ _ _ _); refine callE (k := 24) (fun β w' hbw => h24 w' (by repeat (first | exact hbw | replace hbw := hbw.1))) ?_)
        | ((with_reducible show CallEv _ _ 19 _ _ _ _ _); refine callE (k := 19) (fun β w' hbw => awake_ok w') ?_)
      all_goals first | (exfalso; omega) | exact ⟨fun β => rfl, fun w' h => (by repeat (first | exact h | replace h := h.1))⟩
   | true =>
    rw [hne] at h24
    have hB := smB_b hsm
    have hI := h.b hB
    have hT := fun w' hb => Tour_ok x w' (hI.below hb) hB
    have h41 := fun w' (hb : Below w.heap.size w w') => Season_ok S o c w' (hSr.below hb) (by omega)
    have hn9 := neB_n hne
    have hSp : ∀ (y2 : Option Addr × Nat) w', Rd 3 spF (sV S.length y2) S w' ∧ S.length ≤ y2.2 → SpIn y2.1 y2.2 S w' := fun y2 w' h2 => ⟨h2.1, by omega, h2.2, fun s hs => by have := hn9 s hs; omega⟩
    have h46' := fun (y : Tr) (y2 : Option Addr × Nat) w' (h1 : TrIn y w' ∧ y.d = x.d) h2 => Replace_ok y y2.1 y2.2 S k w' h1.1 (hSp y2 w' h2)
    have hSp0 : ∀ w', Below w.heap.size w w' → SpIn o c S w' := fun w' hb => ⟨hSr.below hb, by omega, hSc, fun s hs => by have := hn9 s hs; omega⟩
    cases tb with
    | false =>
     have hV : rpV x.d S k = ([], 0, 1) := by unfold rpV; rw [if_neg (by rw [htb]; decide)]
     obtain ⟨Q, hQ⟩ : ∃ Q : Option Addr × Nat → World → Prop, Q = fun _ _ => True := ⟨_, rfl⟩
     have h46 : ∀ (y : Tr) (y2 : Option Addr × Nat) w', TrIn y w' ∧ y.d = x.d → Rd 3 spF (sV S.length y2) S w' ∧ S.length ≤ y2.2 → Calls Try.prog 46 #[y.v, sV S.length y2, iv k] w' fun e w2 => ∃ z : Option Addr × Nat, e = .returned (.tuple #[sV 0 z, iv 0, iv 1]) ∧ Below w'.heap.size w' w2 ∧ St w'.heap.size (Q z) w2 := fun y y2 w' h1 h2 => by
      have := h46' y y2 w' h1 h2
      rw [h1.2, hV] at this
      exact this.mono fun e w2 ⟨z, h1, h2, h3⟩ => ⟨z, h1, h2, fun _ _ => by rw [hQ]; trivial⟩
     clear h46'
     clear hI h hB hV hSp0 hSp htb
     obtain ⟨dy, sh, sz, to, tc, T, lo, lc, L⟩ := x
     refine calls_val env mixed Try.func12 has12 Try.ntmps12 [.agg #[iv dy, iv sh, iv sz, .slice to T.length tc, .slice lo L.length lc], .slice o S.length c, iv k] (by simp) ?_
     repeat'
      conv => whnf
      first
       | refine zA ?_ | refine zB ?_ | refine zC ?_ | refine zD ?_ | refine zE ?_ | refine zF ?_ | refine zG ?_ | refine zH ?_ | refine zJ ?_ | refine zI ?_ | refine splT ?_ | refine splF ?_ | refine splNot ?_
       | ((first | refine splIn ?_ ?_ | refine splD ?_ ?_ | refine splE ?_ ?_ | refine splNE ?_ ?_) <;> intro hc <;> first | (exfalso; omega) | (exfalso; dsimp only at hc; omega) | skip)
       | ((with_reducible show CallEv _ _ 17 _ _ _ _ _); refine callE (k := 17) (fun β w' hbw => h17 w' (by repeat (first | exact hbw | replace hbw := hbw.1))) ?_)
       | ((with_reducible show CallEv _ _ 22 _ _ _ _ _); refine callE (k := 22) (fun β w' hbw => h22 w' (by repeat (first | exact hbw | replace hbw := hbw.1))) ?_)
       | ((with_reducible show CallEv _ _ 24 _ _ _ _ _); refine callE (k := 24) (fun β w' hbw => h24 w' (by repeat (first | exact hbw | replace hbw := hbw.1))) ?_)
       | ((with_reducible show CallEv _ _ 19 _ _ _ _ _); refine callE (k := 19) (fun β w' hbw => awake_ok w') ?_)
       | ((with_reducible show CallEv _ _ 21 _ _ _ _ _); refine callF [] (fun y : Tr => y.v) (fun y w2 => TrIn y w2 ∧ y.d = Tr.d ⟨dy, sh, sz, to, tc, T, lo, lc, L⟩) (fun β w' _ hbw => hT w' (by repeat (first | exact hbw | replace hbw := hbw.1))) ?_; intro y)
       | ((with_reducible show CallEv _ _ 41 _ _ _ _ _); refine callF [] (fun y2 : Option Addr × Nat => sV S.length y2) (fun y2 w2 => Rd 3 spF (sV S.length y2) S w2 ∧ S.length ≤ y2.2) (fun β w' _ hbw => h41 w' (by repeat (first | exact hbw | replace hbw := hbw.1))) ?_; intro y2)
       | ((with_reducible show CallEv _ _ 46 _ _ _ _ _); refine callF [] (fun z : Option Addr × Nat => .tuple #[sV 0 z, iv 0, iv 1]) (fun z w2 => Q z w2) (fun β w' _ hbw => h46 y y2 w' hbw.1.2 hbw.2) ?_; intro z)
     all_goals first | (exfalso; omega) | exact ⟨fun β => rfl, fun w' h => (by repeat (first | exact h | replace h := h.1))⟩
    | true =>
     have hn := toB_n htb
     have hbg2 : x.T.length ≤ 5 ∧ x.days ≤ 20 := by
      refine ⟨Nat.le_of_not_lt fun hc => hbg ⟨rfl, .inl hc⟩, Int.not_lt.1 fun hc => hbg ⟨rfl, .inr hc⟩⟩
     clear hbg
     by_cases hs20 : S.length ≤ 20
     · have h25q := fun w' hb => rfaults_ok x o c S w' (hI.below hb) hn (hSp0 w' hb) hne
       by_cases hF : fsO x.d S = []
       · rw [hF] at h25q
         by_cases hk : 0 ≤ k ∧ k < S.length
         · obtain ⟨kn, rfl⟩ : ∃ kn : Nat, k = kn := ⟨k.toNat, by omega⟩
           have hV := rpV_ok htb hs20 hF (k := kn) (by omega)
           have h47' := fun w' hb => rreplace_ok x o c S kn w' (hI.below hb) hn (hSp0 w' hb) hne hs20 (by omega) hF
           have hok := rpN_ok (x := x.d) (n := S.length) (m := x.d.T.length - 1) (k := kn) (S := S) (Nat.le_refl _)
           change FOk x.d S.length (rpO x.d S kn) at hok
           cases hr : rpO x.d S kn with
           | none =>
            rw [hr] at hV h47'
            dsimp only at hV
            have h25 : ∀ w', Below w.heap.size w w' → Calls Try.prog 25 #[x.v, .slice o S.length c] w' fun e w2 => ∃ z : Option Addr × Nat, e = .returned (sV 0 z) ∧ Below w'.heap.size w' w2 ∧ St w'.heap.size (fun _ => True) w2 := fun w' hb => (h25q w' hb).mono fun e w2 ⟨z, h1, h2, _⟩ => ⟨z, h1, h2, fun _ _ => trivial⟩
            have h47 : ∀ w', Below w.heap.size w w' → Calls Try.prog 47 #[x.v, .slice o S.length c, iv kn] w' fun e w2 => ∃ z : Option Addr × Nat, e = .returned (.tuple #[.slice none 0 0, iv (0 - pfO x.d S), .bool false]) ∧ Below w'.heap.size w' w2 ∧ St w'.heap.size (fun _ => True) w2 := fun w' hb => (h47' w' hb).mono fun e w2 ⟨z, h1, h2, _⟩ => ⟨z, h1, h2, fun _ _ => trivial⟩
            generalize pfO x.d S = P at *
            obtain ⟨Q, hQ⟩ : ∃ Q : Option Addr × Nat → World → Prop, Q = fun _ _ => True := ⟨_, rfl⟩
            have h46 : ∀ (y : Tr) (y2 : Option Addr × Nat) w', TrIn y w' ∧ y.d = x.d → Rd 3 spF (sV S.length y2) S w' ∧ S.length ≤ y2.2 → Calls Try.prog 46 #[y.v, sV S.length y2, iv kn] w' fun e w2 => ∃ z : Option Addr × Nat, e = .returned (.tuple #[sV 0 z, iv 0, iv 7]) ∧ Below w'.heap.size w' w2 ∧ St w'.heap.size (Q z) w2 := fun y y2 w' h1 h2 => by
             have := h46' y y2 w' h1 h2
             rw [h1.2, hV] at this
             exact this.mono fun e w2 ⟨z, h1, h2, h3⟩ => ⟨z, h1, h2, fun _ _ => by rw [hQ]; trivial⟩
            clear h46'
            clear hI h hB hV hSp0 hSp htb hF hn h25q h47' hok hr
            obtain ⟨dy, sh, sz, to, tc, T, lo, lc, L⟩ := x
            refine calls_val env mixed Try.func12 has12 Try.ntmps12 [.agg #[iv dy, iv sh, iv sz, .slice to T.length tc, .slice lo L.length lc], .slice o S.length c, iv kn] (by simp) ?_
            repeat'
             conv => whnf
             first
              | refine zA ?_ | refine zB ?_ | refine zC ?_ | refine zD ?_ | refine zE ?_ | refine zF ?_ | refine zG ?_ | refine zH ?_ | refine zJ ?_ | refine zI ?_ | refine splT ?_ | refine splF ?_ | refine splNot ?_
              | ((first | refine splIn ?_ ?_ | refine splD ?_ ?_ | refine splE ?_ ?_ | refine splNE ?_ ?_) <;> intro hc <;> first | (exfalso; omega) | (exfalso; dsimp only at hc; omega) | skip)
              | ((with_reducible show CallEv _ _ 17 _ _ _ _ _); refine callE (k := 17) (fun β w' hbw => h17 w' (by repeat (first | exact hbw | replace hbw := hbw.1))) ?_)
              | ((with_reducible show CallEv _ _ 22 _ _ _ _ _); refine callE (k := 22) (fun β w' hbw => h22 w' (by repeat (first | exact hbw | replace hbw := hbw.1))) ?_)
              | ((with_reducible show CallEv _ _ 24 _ _ _ _ _); refine callE (k := 24) (fun β w' hbw => h24 w' (by repeat (first | exact hbw | replace hbw := hbw.1))) ?_)
              | ((with_reducible show CallEv _ _ 19 _ _ _ _ _); refine callE (k := 19) (fun β w' hbw => awake_ok w') ?_)
              | ((with_reducible show CallEv _ _ 21 _ _ _ _ _); refine callF [] (fun y : Tr => y.v) (fun y w2 => TrIn y w2 ∧ y.d = Tr.d ⟨dy, sh, sz, to, tc, T, lo, lc, L⟩) (fun β w' _ hbw => hT w' (by repeat (first | exact hbw | replace hbw := hbw.1))) ?_; intro y)
              | ((with_reducible show CallEv _ _ 41 _ _ _ _ _); refine callF [] (fun y2 : Option Addr × Nat => sV S.length y2) (fun y2 w2 => Rd 3 spF (sV S.length y2) S w2 ∧ S.length ≤ y2.2) (fun β w' _ hbw => h41 w' (by repeat (first | exact hbw | replace hbw := hbw.1))) ?_; intro y2)
              | ((with_reducible show CallEv _ _ 46 _ _ _ _ _); refine callF [] (fun z : Option Addr × Nat => .tuple #[sV 0 z, iv 0, iv 7]) (fun z w2 => Q z w2) (fun β w' _ hbw => h46 y y2 w' hbw.1.2 hbw.2) ?_; intro z)
              | ((with_reducible show CallEv _ _ 25 _ _ _ _ _); refine callF [] (fun z : Option Addr × Nat => sV 0 z) (fun _ _ => True) (fun β w' _ hbw => h25 w' (by repeat (first | exact hbw | replace hbw := hbw.1))) ?_; intro z2)
              | ((with_reducible show CallEv _ _ 47 _ _ _ _ _); refine callF [] (fun z : Option Addr × Nat => .tuple #[.slice none 0 0, iv (0 - P), .bool false]) (fun _ _ => True) (fun β w' _ hbw => h47 w' (by repeat (first | exact hbw | replace hbw := hbw.1))) ?_; intro z3)
            all_goals first | (exfalso; omega) | exact ⟨fun β => rfl, fun w' h => (by repeat (first | exact h | replace h := h.1))⟩
           | some b =>
            have hb3 := (hok b hr).2.2
            rw [hr] at hV h47'
            dsimp only at hV
            have h25 : ∀ w', Below w.heap.size w w' → Calls Try.prog 25 #[x.v, .slice o S.length c] w' fun e w2 => ∃ z : Option Addr × Nat, e = .returned (sV 0 z) ∧ Below w'.heap.size w' w2 ∧ St w'.heap.size (fun _ => True) w2 := fun w' hb => (h25q w' hb).mono fun e w2 ⟨z, h1, h2, _⟩ => ⟨z, h1, h2, fun _ _ => trivial⟩
            obtain ⟨C, m⟩ := b
            have h47 : ∀ w', Below w.heap.size w w' → Calls Try.prog 47 #[x.v, .slice o S.length c, iv kn] w' fun e w2 => ∃ z : Option Addr × Nat, e = .returned (.tuple #[sV C.length z, iv (m - pfO x.d S), .bool true]) ∧ Below w'.heap.size w' w2 ∧ St w'.heap.size (fun w3 => Rd 3 spF (sV C.length z) C w3 ∧ C.length ≤ z.2) w2 := h47'
            dsimp only at hV hb3
            generalize pfO x.d S = P at *
            have h46 : ∀ (y : Tr) (y2 : Option Addr × Nat) w', TrIn y w' ∧ y.d = x.d → Rd 3 spF (sV S.length y2) S w' ∧ S.length ≤ y2.2 → Calls Try.prog 46 #[y.v, sV S.length y2, iv kn] w' fun e w2 => ∃ z : Option Addr × Nat, e = .returned (.tuple #[sV C.length z, iv (m - P), iv 0]) ∧ Below w'.heap.size w' w2 ∧ St w'.heap.size (fun w3 => Rd 3 spF (sV C.length z) C w3 ∧ C.length ≤ z.2) w2 := fun y y2 w' h1 h2 => by
             have := h46' y y2 w' h1 h2
             rw [h1.2, hV] at this
             exact this.mono fun e w2 ⟨z, h1, h2, h3⟩ => ⟨z, h1, h2, h3⟩
            clear h46'
            clear hI h hB hV hSp0 hSp htb hF hn h25q h47' hok hr
            obtain ⟨dy, sh, sz, to, tc, T, lo, lc, L⟩ := x
            refine calls_val env mixed Try.func12 has12 Try.ntmps12 [.agg #[iv dy, iv sh, iv sz, .slice to T.length tc, .slice lo L.length lc], .slice o S.length c, iv kn] (by simp) ?_
            repeat'
             conv => whnf
             first
              | refine zA ?_ | refine zB ?_ | refine zC ?_ | refine zD ?_ | refine zE ?_ | refine zF ?_ | refine zG ?_ | refine zH ?_ | refine zJ ?_ | refine zI ?_ | refine splT ?_ | refine splF ?_ | refine splNot ?_
              | ((first | refine splIn ?_ ?_ | refine splD ?_ ?_ | refine splE ?_ ?_ | refine splNE ?_ ?_) <;> intro hc <;> first | (exfalso; omega) | (exfalso; dsimp only at hc; omega) | skip)
              | ((with_reducible show CallEv _ _ 17 _ _ _ _ _); refine callE (k := 17) (fun β w' hbw => h17 w' (by repeat (first | exact hbw | replace hbw := hbw.1))) ?_)
              | ((with_reducible show CallEv _ _ 22 _ _ _ _ _); refine callE (k := 22) (fun β w' hbw => h22 w' (by repeat (first | exact hbw | replace hbw := hbw.1))) ?_)
              | ((with_reducible show CallEv _ _ 24 _ _ _ _ _); refine callE (k := 24) (fun β w' hbw => h24 w' (by repeat (first | exact hbw | replace hbw := hbw.1))) ?_)
              | ((with_reducible show CallEv _ _ 19 _ _ _ _ _); refine callE (k := 19) (fun β w' hbw => awake_ok w') ?_)
              | ((with_reducible show CallEv _ _ 21 _ _ _ _ _); refine callF [] (fun y : Tr => y.v) (fun y w2 => TrIn y w2 ∧ y.d = Tr.d ⟨dy, sh, sz, to, tc, T, lo, lc, L⟩) (fun β w' _ hbw => hT w' (by repeat (first | exact hbw | replace hbw := hbw.1))) ?_; intro y)
              | ((with_reducible show CallEv _ _ 41 _ _ _ _ _); refine callF [] (fun y2 : Option Addr × Nat => sV S.length y2) (fun y2 w2 => Rd 3 spF (sV S.length y2) S w2 ∧ S.length ≤ y2.2) (fun β w' _ hbw => h41 w' (by repeat (first | exact hbw | replace hbw := hbw.1))) ?_; intro y2)
              | ((with_reducible show CallEv _ _ 46 _ _ _ _ _); refine callF [] (fun z : Option Addr × Nat => .tuple #[sV C.length z, iv (m - P), iv 0]) (fun z w2 => Rd 3 spF (sV C.length z) C w2 ∧ C.length ≤ z.2) (fun β w' _ hbw => h46 y y2 w' hbw.1.2 hbw.2) ?_; intro z)
              | ((with_reducible show CallEv _ _ 25 _ _ _ _ _); refine callF [] (fun z : Option Addr × Nat => sV 0 z) (fun _ _ => True) (fun β w' _ hbw => h25 w' (by repeat (first | exact hbw | replace hbw := hbw.1))) ?_; intro z2)
              | ((with_reducible show CallEv _ _ 47 _ _ _ _ _); refine callF [] (fun z : Option Addr × Nat => .tuple #[sV C.length z, iv (m - P), .bool true]) (fun z w3 => Rd 3 spF (sV C.length z) C w3 ∧ C.length ≤ z.2) (fun β w' _ hbw => h47 w' (by repeat (first | exact hbw | replace hbw := hbw.1))) ?_; intro z3)
              | ((with_reducible show CallEv _ _ 48 _ _ _ _ _); refine callE (fun β w' hbw => stops_same C _ _ _ _ w' (by first | exact hbw.1.1.2.1 | exact hbw.1.2.1) hbw.2.1 (by omega)) ?_)
            all_goals first | (exfalso; omega) | exact ⟨fun β => rfl, fun w' h => (by repeat (first | exact h | replace h := h.1))⟩
         · have hV : rpV x.d S k = ([], 0, 2) := by unfold rpV; rw [if_pos htb, if_pos hs20, if_pos hF, if_neg hk]
           have h25 : ∀ w', Below w.heap.size w w' → Calls Try.prog 25 #[x.v, .slice o S.length c] w' fun e w2 => ∃ z : Option Addr × Nat, e = .returned (sV 0 z) ∧ Below w'.heap.size w' w2 ∧ St w'.heap.size (fun _ => True) w2 := fun w' hb => (h25q w' hb).mono fun e w2 ⟨z, h1, h2, _⟩ => ⟨z, h1, h2, fun _ _ => trivial⟩
           obtain ⟨Q, hQ⟩ : ∃ Q : Option Addr × Nat → World → Prop, Q = fun _ _ => True := ⟨_, rfl⟩
           have h46 : ∀ (y : Tr) (y2 : Option Addr × Nat) w', TrIn y w' ∧ y.d = x.d → Rd 3 spF (sV S.length y2) S w' ∧ S.length ≤ y2.2 → Calls Try.prog 46 #[y.v, sV S.length y2, iv k] w' fun e w2 => ∃ z : Option Addr × Nat, e = .returned (.tuple #[sV 0 z, iv 0, iv 2]) ∧ Below w'.heap.size w' w2 ∧ St w'.heap.size (Q z) w2 := fun y y2 w' h1 h2 => by
            have := h46' y y2 w' h1 h2
            rw [h1.2, hV] at this
            exact this.mono fun e w2 ⟨z, h1, h2, h3⟩ => ⟨z, h1, h2, fun _ _ => by rw [hQ]; trivial⟩
           clear h46'
           clear hI h hB hV hSp0 hSp htb hF hn h25q
           obtain ⟨dy, sh, sz, to, tc, T, lo, lc, L⟩ := x
           refine calls_val env mixed Try.func12 has12 Try.ntmps12 [.agg #[iv dy, iv sh, iv sz, .slice to T.length tc, .slice lo L.length lc], .slice o S.length c, iv k] (by simp) ?_
           repeat'
            conv => whnf
            first
             | refine zA ?_ | refine zB ?_ | refine zC ?_ | refine zD ?_ | refine zE ?_ | refine zF ?_ | refine zG ?_ | refine zH ?_ | refine zJ ?_ | refine zI ?_ | refine splT ?_ | refine splF ?_ | refine splNot ?_
             | ((first | refine splIn ?_ ?_ | refine splD ?_ ?_ | refine splE ?_ ?_ | refine splNE ?_ ?_) <;> intro hc <;> first | (exfalso; omega) | (exfalso; dsimp only at hc; omega) | skip)
             | ((with_reducible show CallEv _ _ 17 _ _ _ _ _); refine callE (k := 17) (fun β w' hbw => h17 w' (by repeat (first | exact hbw | replace hbw := hbw.1))) ?_)
             | ((with_reducible show CallEv _ _ 22 _ _ _ _ _); refine callE (k := 22) (fun β w' hbw => h22 w' (by repeat (first | exact hbw | replace hbw := hbw.1))) ?_)
             | ((with_reducible show CallEv _ _ 24 _ _ _ _ _); refine callE (k := 24) (fun β w' hbw => h24 w' (by repeat (first | exact hbw | replace hbw := hbw.1))) ?_)
             | ((with_reducible show CallEv _ _ 19 _ _ _ _ _); refine callE (k := 19) (fun β w' hbw => awake_ok w') ?_)
             | ((with_reducible show CallEv _ _ 21 _ _ _ _ _); refine callF [] (fun y : Tr => y.v) (fun y w2 => TrIn y w2 ∧ y.d = Tr.d ⟨dy, sh, sz, to, tc, T, lo, lc, L⟩) (fun β w' _ hbw => hT w' (by repeat (first | exact hbw | replace hbw := hbw.1))) ?_; intro y)
             | ((with_reducible show CallEv _ _ 41 _ _ _ _ _); refine callF [] (fun y2 : Option Addr × Nat => sV S.length y2) (fun y2 w2 => Rd 3 spF (sV S.length y2) S w2 ∧ S.length ≤ y2.2) (fun β w' _ hbw => h41 w' (by repeat (first | exact hbw | replace hbw := hbw.1))) ?_; intro y2)
             | ((with_reducible show CallEv _ _ 46 _ _ _ _ _); refine callF [] (fun z : Option Addr × Nat => .tuple #[sV 0 z, iv 0, iv 2]) (fun z w2 => Q z w2) (fun β w' _ hbw => h46 y y2 w' hbw.1.2 hbw.2) ?_; intro z)
             | ((with_reducible show CallEv _ _ 25 _ _ _ _ _); refine callF [] (fun z : Option Addr × Nat => sV 0 z) (fun _ _ => True) (fun β w' _ hbw => h25 w' (by repeat (first | exact hbw | replace hbw := hbw.1))) ?_; intro z2)
           all_goals first | (exfalso; omega) | exact ⟨fun β => rfl, fun w' h => (by repeat (first | exact h | replace h := h.1))⟩
       · have hV : rpV x.d S k = ([], 0, 9) := by unfold rpV; rw [if_pos htb, if_pos hs20, if_neg hF]
         have h25 : ∀ w', Below w.heap.size w w' → Calls Try.prog 25 #[x.v, .slice o S.length c] w' fun e w2 => ∃ z : Option Addr × Nat, e = .returned (sV (fsO x.d S).length z) ∧ Below w'.heap.size w' w2 ∧ St w'.heap.size (fun _ => True) w2 := fun w' hb => (h25q w' hb).mono fun e w2 ⟨z, h1, h2, _⟩ => ⟨z, h1, h2, fun _ _ => trivial⟩
         have hfl2 := fsP_len x.d S S.length
         change (fsO x.d S).length ≤ _ at hfl2
         have hfl1 : 1 ≤ (fsO x.d S).length := by
          cases hc : fsO x.d S with
          | nil => exact absurd hc hF
          | cons a l => simp
         obtain ⟨Q, hQ⟩ : ∃ Q : Option Addr × Nat → World → Prop, Q = fun _ _ => True := ⟨_, rfl⟩
         have h46 : ∀ (y : Tr) (y2 : Option Addr × Nat) w', TrIn y w' ∧ y.d = x.d → Rd 3 spF (sV S.length y2) S w' ∧ S.length ≤ y2.2 → Calls Try.prog 46 #[y.v, sV S.length y2, iv k] w' fun e w2 => ∃ z : Option Addr × Nat, e = .returned (.tuple #[sV 0 z, iv 0, iv 9]) ∧ Below w'.heap.size w' w2 ∧ St w'.heap.size (Q z) w2 := fun y y2 w' h1 h2 => by
          have := h46' y y2 w' h1 h2
          rw [h1.2, hV] at this
          exact this.mono fun e w2 ⟨z, h1, h2, h3⟩ => ⟨z, h1, h2, fun _ _ => by rw [hQ]; trivial⟩
         clear h46'
         generalize fsO x.d S = F at *; clear hI h hB hV hSp0 hSp htb hn h25q
         obtain ⟨dy, sh, sz, to, tc, T, lo, lc, L⟩ := x
         refine calls_val env mixed Try.func12 has12 Try.ntmps12 [.agg #[iv dy, iv sh, iv sz, .slice to T.length tc, .slice lo L.length lc], .slice o S.length c, iv k] (by simp) ?_
         repeat'
          conv => whnf
          first
           | refine zA ?_ | refine zB ?_ | refine zC ?_ | refine zD ?_ | refine zE ?_ | refine zF ?_ | refine zG ?_ | refine zH ?_ | refine zJ ?_ | refine zI ?_ | refine splT ?_ | refine splF ?_ | refine splNot ?_
           | ((first | refine splIn ?_ ?_ | refine splD ?_ ?_ | refine splE ?_ ?_ | refine splNE ?_ ?_) <;> intro hc <;> first | (exfalso; omega) | (exfalso; dsimp only at hc; omega) | skip)
           | ((with_reducible show CallEv _ _ 17 _ _ _ _ _); refine callE (k := 17) (fun β w' hbw => h17 w' (by repeat (first | exact hbw | replace hbw := hbw.1))) ?_)
           | ((with_reducible show CallEv _ _ 22 _ _ _ _ _); refine callE (k := 22) (fun β w' hbw => h22 w' (by repeat (first | exact hbw | replace hbw := hbw.1))) ?_)
           | ((with_reducible show CallEv _ _ 24 _ _ _ _ _); refine callE (k := 24) (fun β w' hbw => h24 w' (by repeat (first | exact hbw | replace hbw := hbw.1))) ?_)
           | ((with_reducible show CallEv _ _ 19 _ _ _ _ _); refine callE (k := 19) (fun β w' hbw => awake_ok w') ?_)
           | ((with_reducible show CallEv _ _ 21 _ _ _ _ _); refine callF [] (fun y : Tr => y.v) (fun y w2 => TrIn y w2 ∧ y.d = Tr.d ⟨dy, sh, sz, to, tc, T, lo, lc, L⟩) (fun β w' _ hbw => hT w' (by repeat (first | exact hbw | replace hbw := hbw.1))) ?_; intro y)
           | ((with_reducible show CallEv _ _ 41 _ _ _ _ _); refine callF [] (fun y2 : Option Addr × Nat => sV S.length y2) (fun y2 w2 => Rd 3 spF (sV S.length y2) S w2 ∧ S.length ≤ y2.2) (fun β w' _ hbw => h41 w' (by repeat (first | exact hbw | replace hbw := hbw.1))) ?_; intro y2)
           | ((with_reducible show CallEv _ _ 46 _ _ _ _ _); refine callF [] (fun z : Option Addr × Nat => .tuple #[sV 0 z, iv 0, iv 9]) (fun z w2 => Q z w2) (fun β w' _ hbw => h46 y y2 w' hbw.1.2 hbw.2) ?_; intro z)
           | ((with_reducible show CallEv _ _ 25 _ _ _ _ _); refine callF [] (fun z : Option Addr × Nat => sV F.length z) (fun _ _ => True) (fun β w' _ hbw => h25 w' (by repeat (first | exact hbw | replace hbw := hbw.1))) ?_; intro z2)
         all_goals first | (exfalso; omega) | exact ⟨fun β => rfl, fun w' h => (by repeat (first | exact h | replace h := h.1))⟩
     · have hV : rpV x.d S k = ([], 0, 3) := by unfold rpV; rw [if_pos htb, if_neg hs20]
       obtain ⟨Q, hQ⟩ : ∃ Q : Option Addr × Nat → World → Prop, Q = fun _ _ => True := ⟨_, rfl⟩
       have h46 : ∀ (y : Tr) (y2 : Option Addr × Nat) w', TrIn y w' ∧ y.d = x.d → Rd 3 spF (sV S.length y2) S w' ∧ S.length ≤ y2.2 → Calls Try.prog 46 #[y.v, sV S.length y2, iv k] w' fun e w2 => ∃ z : Option Addr × Nat, e = .returned (.tuple #[sV 0 z, iv 0, iv 3]) ∧ Below w'.heap.size w' w2 ∧ St w'.heap.size (Q z) w2 := fun y y2 w' h1 h2 => by
        have := h46' y y2 w' h1 h2
        rw [h1.2, hV] at this
        exact this.mono fun e w2 ⟨z, h1, h2, h3⟩ => ⟨z, h1, h2, fun _ _ => by rw [hQ]; trivial⟩
       clear h46'
       clear hI h hB hV hSp0 hSp htb hn
       obtain ⟨dy, sh, sz, to, tc, T, lo, lc, L⟩ := x
       refine calls_val env mixed Try.func12 has12 Try.ntmps12 [.agg #[iv dy, iv sh, iv sz, .slice to T.length tc, .slice lo L.length lc], .slice o S.length c, iv k] (by simp) ?_
       repeat'
        conv => whnf
        first
         | refine zA ?_ | refine zB ?_ | refine zC ?_ | refine zD ?_ | refine zE ?_ | refine zF ?_ | refine zG ?_ | refine zH ?_ | refine zJ ?_ | refine zI ?_ | refine splT ?_ | refine splF ?_ | refine splNot ?_
         | ((first | refine splIn ?_ ?_ | refine splD ?_ ?_ | refine splE ?_ ?_ | refine splNE ?_ ?_) <;> intro hc <;> first | (exfalso; omega) | (exfalso; dsimp only at hc; omega) | skip)
         | ((with_reducible show CallEv _ _ 17 _ _ _ _ _); refine callE (k := 17) (fun β w' hbw => h17 w' (by repeat (first | exact hbw | replace hbw := hbw.1))) ?_)
         | ((with_reducible show CallEv _ _ 22 _ _ _ _ _); refine callE (k := 22) (fun β w' hbw => h22 w' (by repeat (first | exact hbw | replace hbw := hbw.1))) ?_)
         | ((with_reducible show CallEv _ _ 24 _ _ _ _ _); refine callE (k := 24) (fun β w' hbw => h24 w' (by repeat (first | exact hbw | replace hbw := hbw.1))) ?_)
         | ((with_reducible show CallEv _ _ 19 _ _ _ _ _); refine callE (k := 19) (fun β w' hbw => awake_ok w') ?_)
         | ((with_reducible show CallEv _ _ 21 _ _ _ _ _); refine callF [] (fun y : Tr => y.v) (fun y w2 => TrIn y w2 ∧ y.d = Tr.d ⟨dy, sh, sz, to, tc, T, lo, lc, L⟩) (fun β w' _ hbw => hT w' (by repeat (first | exact hbw | replace hbw := hbw.1))) ?_; intro y)
         | ((with_reducible show CallEv _ _ 41 _ _ _ _ _); refine callF [] (fun y2 : Option Addr × Nat => sV S.length y2) (fun y2 w2 => Rd 3 spF (sV S.length y2) S w2 ∧ S.length ≤ y2.2) (fun β w' _ hbw => h41 w' (by repeat (first | exact hbw | replace hbw := hbw.1))) ?_; intro y2)
         | ((with_reducible show CallEv _ _ 46 _ _ _ _ _); refine callF [] (fun z : Option Addr × Nat => .tuple #[sV 0 z, iv 0, iv 3]) (fun z w2 => Q z w2) (fun β w' _ hbw => h46 y y2 w' hbw.1.2 hbw.2) ?_; intro z)
       all_goals first | (exfalso; omega) | exact ⟨fun β => rfl, fun w' h => (by repeat (first | exact h | replace h := h.1))⟩
 · obtain ⟨sb, hsb⟩ : ∃ b, smB x.d = b := ⟨_, rfl⟩
   rw [hsb] at h17 hg
   rw [htb] at h22 hg hday
   clear h hsb htb
   obtain ⟨dy, sh, sz, to, tc, T, lo, lc, L⟩ := x
   dsimp only at hg htl hday
   refine calls_val env mixed Try.func12 has12 Try.ntmps12 [.agg #[iv dy, iv sh, iv sz, .slice to T.length tc, .slice lo L.length lc], .slice o S.length c, iv k] (by simp) ?_
   cases sb
   · skip
     repeat'
      conv => whnf
      first
       | refine zA ?_ | refine zB ?_ | refine zC ?_ | refine zD ?_ | refine zE ?_ | refine zF ?_ | refine zG ?_ | refine zH ?_ | refine zJ ?_ | refine zI ?_ | refine splT ?_ | refine splF ?_ | refine splNot ?_
       | ((first | refine splIn ?_ ?_ | refine splD ?_ ?_ | refine splE ?_ ?_ | refine splNE ?_ ?_) <;> intro hc <;> first | (exfalso; omega) | (exfalso; dsimp only at hc; omega) | skip)
       | ((with_reducible show CallEv _ _ 17 _ _ _ _ _); refine callE (k := 17) (fun β w' hbw => h17 w' (by repeat (first | exact hbw | replace hbw := hbw.1))) ?_)
       | ((with_reducible show CallEv _ _ 19 _ _ _ _ _); refine callE (k := 19) (fun β w' hbw => awake_ok w') ?_)
     all_goals first | (exfalso; omega) | exact ⟨fun β => rfl, fun w' h => (by repeat (first | exact h | replace h := h.1))⟩
   · cases tb
     · have hl : ¬ S.length ≤ 25 := fun hl => hg ⟨rfl, fun h => (by cases h.1), hl⟩
       repeat'
        conv => whnf
        first
         | refine zA ?_ | refine zB ?_ | refine zC ?_ | refine zD ?_ | refine zE ?_ | refine zF ?_ | refine zG ?_ | refine zH ?_ | refine zJ ?_ | refine zI ?_ | refine splT ?_ | refine splF ?_ | refine splNot ?_
         | ((first | refine splIn ?_ ?_ | refine splD ?_ ?_ | refine splE ?_ ?_ | refine splNE ?_ ?_) <;> intro hc <;> first | (exfalso; omega) | (exfalso; dsimp only at hc; omega) | skip)
         | ((with_reducible show CallEv _ _ 17 _ _ _ _ _); refine callE (k := 17) (fun β w' hbw => h17 w' (by repeat (first | exact hbw | replace hbw := hbw.1))) ?_)
         | ((with_reducible show CallEv _ _ 22 _ _ _ _ _); refine callE (k := 22) (fun β w' hbw => h22 w' (by repeat (first | exact hbw | replace hbw := hbw.1))) ?_)
         | ((with_reducible show CallEv _ _ 19 _ _ _ _ _); refine callE (k := 19) (fun β w' hbw => awake_ok w') ?_)
       all_goals first | (exfalso; omega) | exact ⟨fun β => rfl, fun w' h => (by repeat (first | exact h | replace h := h.1))⟩
     · have hl : (5 < T.length ∨ 20 < dy) ∨ ¬ S.length ≤ 25 := by
        by_cases h1 : 5 < T.length ∨ 20 < dy
        · exact .inl h1
        · exact .inr fun hl => hg ⟨rfl, fun h => h1 h.2, hl⟩
       clear hg
       by_cases h5 : 5 < T.length
       · skip
         repeat'
          conv => whnf
          first
           | refine zA ?_ | refine zB ?_ | refine zC ?_ | refine zD ?_ | refine zE ?_ | refine zF ?_ | refine zG ?_ | refine zH ?_ | refine zJ ?_ | refine zI ?_ | refine splT ?_ | refine splF ?_ | refine splNot ?_
           | ((first | refine splIn ?_ ?_ | refine splD ?_ ?_ | refine splE ?_ ?_ | refine splNE ?_ ?_) <;> intro hc <;> first | (exfalso; omega) | (exfalso; dsimp only at hc; omega) | skip)
           | ((with_reducible show CallEv _ _ 17 _ _ _ _ _); refine callE (k := 17) (fun β w' hbw => h17 w' (by repeat (first | exact hbw | replace hbw := hbw.1))) ?_)
           | ((with_reducible show CallEv _ _ 22 _ _ _ _ _); refine callE (k := 22) (fun β w' hbw => h22 w' (by repeat (first | exact hbw | replace hbw := hbw.1))) ?_)
           | ((with_reducible show CallEv _ _ 19 _ _ _ _ _); refine callE (k := 19) (fun β w' hbw => awake_ok w') ?_)
         all_goals first | (exfalso; omega) | exact ⟨fun β => rfl, fun w' h => (by repeat (first | exact h | replace h := h.1))⟩
       · by_cases h6 : 20 < dy
         · skip
           repeat'
            conv => whnf
            first
             | refine zA ?_ | refine zB ?_ | refine zC ?_ | refine zD ?_ | refine zE ?_ | refine zF ?_ | refine zG ?_ | refine zH ?_ | refine zJ ?_ | refine zI ?_ | refine splT ?_ | refine splF ?_ | refine splNot ?_
             | ((first | refine splIn ?_ ?_ | refine splD ?_ ?_ | refine splE ?_ ?_ | refine splNE ?_ ?_) <;> intro hc <;> first | (exfalso; omega) | (exfalso; dsimp only at hc; omega) | skip)
             | ((with_reducible show CallEv _ _ 17 _ _ _ _ _); refine callE (k := 17) (fun β w' hbw => h17 w' (by repeat (first | exact hbw | replace hbw := hbw.1))) ?_)
             | ((with_reducible show CallEv _ _ 22 _ _ _ _ _); refine callE (k := 22) (fun β w' hbw => h22 w' (by repeat (first | exact hbw | replace hbw := hbw.1))) ?_)
             | ((with_reducible show CallEv _ _ 19 _ _ _ _ _); refine callE (k := 19) (fun β w' hbw => awake_ok w') ?_)
           all_goals first | (exfalso; omega) | exact ⟨fun β => rfl, fun w' h => (by repeat (first | exact h | replace h := h.1))⟩
         · skip
           repeat'
            conv => whnf
            first
             | refine zA ?_ | refine zB ?_ | refine zC ?_ | refine zD ?_ | refine zE ?_ | refine zF ?_ | refine zG ?_ | refine zH ?_ | refine zJ ?_ | refine zI ?_ | refine splT ?_ | refine splF ?_ | refine splNot ?_
             | ((first | refine splIn ?_ ?_ | refine splD ?_ ?_ | refine splE ?_ ?_ | refine splNE ?_ ?_) <;> intro hc <;> first | (exfalso; omega) | (exfalso; dsimp only at hc; omega) | skip)
             | ((with_reducible show CallEv _ _ 17 _ _ _ _ _); refine callE (k := 17) (fun β w' hbw => h17 w' (by repeat (first | exact hbw | replace hbw := hbw.1))) ?_)
             | ((with_reducible show CallEv _ _ 22 _ _ _ _ _); refine callE (k := 22) (fun β w' hbw => h22 w' (by repeat (first | exact hbw | replace hbw := hbw.1))) ?_)
             | ((with_reducible show CallEv _ _ 19 _ _ _ _ _); refine callE (k := 19) (fun β w' hbw => awake_ok w') ?_)
           all_goals first | (exfalso; omega) | exact ⟨fun β => rfl, fun w' h => (by repeat (first | exact h | replace h := h.1))⟩
end Go.Proofs.Ythfabodamhdhaaa
