/- Part 5 of the proof: texts merged. -/
import Derived.Test.YtkbfcofifhngfaaGreatXEd
set_option maxHeartbeats 8000000
set_option maxRecDepth 100000
set_option linter.unusedSectionVars false
set_option linter.unusedSimpArgs false
set_option linter.unusedVariables false
namespace Go.Proofs.YtkbfcofifhngfaaGreat
open Go Tx Go.RowKit
def bfP (L : List Ln) (p : Pn) (t : Int) (i : Nat) (te : Bool) : Int := if te = true then p.A (gAt (lnAt L i) t) else p.B (tAt (lnAt L i) t)
def fndP (L : List Ln) (p : Pn) (f t : Int) (chl : Nat → Bool → List Nat) (i : Nat) (te : Bool) : Prop := p.S i = f ∧ bfP L p t i te = -1 ∧ (i :: chl i te).length % 2 = 1
theorem even_ok (h : PH) (p : Pn) (f t : Int) (chl : Nat → Bool → List Nat) (i0 : Nat) (te0 : Bool) (hh : PhOK h) (hf : 0 ≤ f ∧ f ≤ 39) (ht : 0 ≤ t ∧ t ≤ 39) (hS : ∀ i, i < h.n → 0 ≤ p.S i ∧ p.S i ≤ 39)
 (hC : ∀ i, i < h.L.length → p.S i = f → ∀ te, ChL h.L p (f + t) i (i :: chl i te) (p.S i) te ∧ (i :: chl i te).length ≤ h.n ∧ (i :: chl i te).Nodup ∧ ∀ j ∈ i :: chl i te, p.S j = f ∨ p.S j = t)
 (hi0 : i0 < h.n) (hlt : ∀ i te, i < i0 → ¬ fndP h.L p f t chl i te) (h0 : fndP h.L p f t chl i0 te0) (hte : te0 = true → ¬ fndP h.L p f t chl i0 false) :
 PlTo 43 [.ptr 0 0, .v (iv f), .v (iv t)] h p (turnF h.L (f + t) (i0 :: chl i0 te0) p) := by
 intro β w hp
 have hcT := fun (σ : Sg) (rs : List Nat) (K : Ef → Prop) (KF : Option KT) (l : List Nat) (ii jj m : Nat) (hnd : l.Nodup) (hll : ∀ i ∈ l, i < h.L.length) (hSl : ∀ i ∈ l, p.S i = f ∨ p.S i = t) => callTurn (σ := σ) (rs := rs) (K := K) (KF := KF) h p f t l ii jj m hh hnd hll hSl hf ht
 have hcC := fun (σ : Sg) (rs : List Nat) (K : Ef → Prop) (KF : Option KT) (nb k : Nat) (te : Bool) (l : List Nat) (hl : ChL h.L p (f + t) k (k :: l) (p.S k) te) (hln : (k :: l).length ≤ h.n) (hSk : p.S k = f) => callChain (σ := σ) (rs := rs) (K := K) (KF := KF) nb h p k f t te l hh hl hln hf ht (.inl hSk)
 obtain ⟨hok, hinj, hst⟩ := hp
 obtain ⟨hn, hnl, hx⟩ := hh
 obtain ⟨sl, ro, su, gs, ts, lo, n, lc, L⟩ := h
 dsimp only at hn hnl hx hst hC hi0 hlt h0 hte hS
 have hrd0 := hst w (Chg.refl _ _)
 rw [← hn] at hrd0
 obtain ⟨_, ad, rfl, _⟩ := hrd0.ptr (by omega)
 refine calls_WS env mixed Tryz.func43 has43 Tryz.ntmps43 [.ptr 0 0, .v (iv f), .v (iv t)] (plM ⟨sl, ro, su, gs, ts, some ad, n, lc, L⟩ p) (plM ⟨sl, ro, su, gs, ts, some ad, n, lc, L⟩ (turnF L (f + t) (i0 :: chl i0 te0) p)) 3 (.tuple #[]) (Nat.le_of_ble_eq_true rfl) rfl (mPl _ _) (mPl _ _) livePl (Hp := fun w' => Rd 3 Ln.cs (.slice (some ad) L.length lc) L w') (fun h hh => ?_) hok hinj (fun w' hc => by rw [hn]; exact hst w' hc)
 have e1 := fun (i : Nat) (hi : i < L.length) (w' : World) (hw' : h w') => rd_atz (hh w' hw') (lnAt_get hi) (i : Int) rfl
 have hrd := fun (w' : World) (hw' : h w') => (by have := hh w' hw'; rw [hn] at this; exact this : Rd 3 Ln.cs (.slice (some ad) n lc) L w')
 dsimp only [plM, plC]
 repeat'
  conv => whnf
  first
   |refine zB ?_
   |refine nlC rfl rfl ?_
 conv => whnf
 refine loopN 3 (fun i : Nat => [(0, .ptr 0 0), (1, .v (iv f)), (2, .v (iv t)), (16, .os 1 2 n), (17, .v (iv n)), (18, .v (iv i))]) (fun _ => [(0, .cells (.v (iv sl) :: .v (iv ro) :: .v (iv su) :: .v gs :: .v ts :: .v (.slice (some ad) n lc) :: .os 1 2 n :: (tbS 320 p.A ++ tbS 320 p.B)) 93), (1, .own 2 n 1 (tbV n p.S) 3)]) (fun i => i ≤ i0) (fun i => n - i) 0 (Nat.zero_le _) ⟨rfl, rfl, rfl, rfl, rfl, rfl, trivial⟩ ⟨rfl, rfl, trivial⟩ (fun i _ => ⟨rfl, mPl ⟨sl, ro, su, gs, ts, some ad, n, lc, L⟩ p⟩) ?_
 intro i hi
 have hin : i < n := by omega
 have hil : i < L.length := by omega
 have e1 := e1 i hil
 have hSb := hS i hin
 have hro : ∀ (j : Nat) (v : Value), [iv (p.S i)][j]? = some v → (tbV n p.S)[(i : Int).toNat * 1 + j]? = some v := tbV_one (by omega) p.S hin
 obtain ⟨hg1, hg2, ht1, ht2⟩ := hx _ (List.mem_of_getElem? (lnAt_get hil))
 by_cases hSf : p.S i = f
 · rw [hSf] at hro
   repeat'
    conv => whnf
    first
     |refine zB ?_|refine zG ?_|refine splNot ?_
     |(refine splD ?_ ?_ <;> intro hc <;> first|(exfalso; omega)|skip)
     |refine eL [iv f] ⟨⟨rfl, hro⟩, ?_⟩
   conv => whnf
   refine loopN 3 (fun j : Nat => [(0, .ptr 0 0), (1, .v (iv f)), (2, .v (iv t)), (16, .os 1 2 n), (17, .v (iv n)), (6, .v (iv i)), (26, .agg [.v (.bool false), .v (.bool true)]), (18, .v (iv i)), (27, .v (iv j))]) (fun _ => [(0, .cells (.v (iv sl) :: .v (iv ro) :: .v (iv su) :: .v gs :: .v ts :: .v (.slice (some ad) n lc) :: .os 1 2 n :: (tbS 320 p.A ++ tbS 320 p.B)) 93), (1, .own 2 n 1 (tbV n p.S) 3)]) (fun j => j ≤ 2 ∧ (1 ≤ j → ¬ fndP L p f t chl i false) ∧ (2 ≤ j → ¬ fndP L p f t chl i true)) (fun j => 2 - j) 0 ⟨by omega, fun h => by omega, fun h => by omega⟩ ⟨rfl, rfl, rfl, rfl, rfl, rfl, rfl, rfl, rfl, trivial⟩ ⟨rfl, rfl, trivial⟩ (fun i _ => ⟨rfl, mPl ⟨sl, ro, su, gs, ts, some ad, n, lc, L⟩ p⟩) ?_
   intro j ⟨hj, hj1, hj2⟩
   rcases Nat.lt_or_ge j 1 with hj0 | hj0
   · obtain rfl : j = 0 := by omega
     have hC := hC i hil hSf false
     have hbf : bfP L p t i false = p.B (tAt (lnAt L i) t) := rfl
     by_cases hbv : p.B (tAt (lnAt L i) t) = -1
     · by_cases hpar : (i :: chl i false).length % 2 = 1
       · have hfd : fndP L p f t chl i false := ⟨hSf, hbf.trans hbv, hpar⟩
         obtain rfl : i = i0 := Classical.byContradiction fun hne => hlt i false (by omega) hfd
         obtain rfl : te0 = false := by
          cases te0 with
          | false => rfl
          | true => exact absurd hfd (hte rfl)
         have hch := hC.1
         have hcl := hC.2.1
         have hnd := hC.2.2.1
         have hSl := hC.2.2.2
         have hmod : ((i :: chl i false).length % 2 : Nat) = 1 := hpar
         repeat'
          conv => whnf
          first
           |refine zA ?_|refine zB ?_|refine zC ?_|refine zD ?_|refine zG ?_|refine splT ?_
           |(refine splD ?_ ?_ <;> intro hc <;> first|(exfalso; omega)|skip)
           |refine eL (Ln.cs (lnAt L i)) ⟨⟨rfl, fun w' hw' => e1 w' hw'⟩, ?_⟩
           |refine drA (k := gAt (lnAt L i) t) (by show 0 + 7 + (lnAt L i).g.toNat * 40 + t.toNat * 1 = 7 + ((lnAt L i).g.toNat * 40 + t.toNat); omega) (by show (lnAt L i).g.toNat * 40 + t.toNat < 320; omega) ?_
           |refine drBv (k := tAt (lnAt L i) t) (by show 0 + 327 + (lnAt L i).t.toNat * 40 + t.toNat * 1 = 327 + ((lnAt L i).t.toNat * 40 + t.toNat); omega) (by show (lnAt L i).t.toNat * 40 + t.toNat < 320; omega) hbv ?_
           |refine nlC rfl rfl ?_
           |refine idxS env rfl rfl rfl rfl (And.intro (by omega) (by omega)) rfl rfl (.inr ⟨rfl, rfl⟩) rfl ?_
           |(with_reducible show CallEv _ _ 88 ..); refine hcC _ _ _ _ 4 i false (chl i false) hch hcl hSf rfl rfl rfl (by decide) hrd ?_
           |refine Exists.intro (α := Int) (((i :: chl i false).length % 2 : Nat) : Int) ⟨⟨by decide, rfl⟩, ?_⟩
           |(with_reducible show CallEv _ _ 87 ..); refine hcT _ _ _ _ (i :: chl i false) 4 5 _ hnd (fun j hj => hch.lt j hj) hSl rfl rfl rfl rfl ⟨by decide, by show (4 : Nat) < 6; decide⟩ (by show (5 : Nat) < 6; decide) hrd ?_
         conv => whnf
         exact ⟨fun β => rfl, ⟨rfl, rfl, trivial⟩, fun _ h => h, rfl⟩
       ·
        have hch := hC.1
        have hcl := hC.2.1
        have hnd := hC.2.2.1
        have hSl := hC.2.2.2
        have hmod : ((i :: chl i false).length % 2 : Nat) ≠ 1 := hpar
        repeat'
         conv => whnf
         first
          |refine zA ?_|refine zB ?_|refine zC ?_|refine zD ?_|refine zF ?_|refine zG ?_|refine splT ?_
          |(refine splD ?_ ?_ <;> intro hc <;> first|(exfalso; omega)|skip)
          |refine eL (Ln.cs (lnAt L i)) ⟨⟨rfl, fun w' hw' => e1 w' hw'⟩, ?_⟩
          |refine drA (k := gAt (lnAt L i) t) (by show 0 + 7 + (lnAt L i).g.toNat * 40 + t.toNat * 1 = 7 + ((lnAt L i).g.toNat * 40 + t.toNat); omega) (by show (lnAt L i).g.toNat * 40 + t.toNat < 320; omega) ?_
          |refine drBv (k := tAt (lnAt L i) t) (by show 0 + 327 + (lnAt L i).t.toNat * 40 + t.toNat * 1 = 327 + ((lnAt L i).t.toNat * 40 + t.toNat); omega) (by show (lnAt L i).t.toNat * 40 + t.toNat < 320; omega) hbv ?_
          |refine nlC rfl rfl ?_
          |refine idxS env rfl rfl rfl rfl (And.intro (by omega) (by omega)) rfl rfl (.inr ⟨rfl, rfl⟩) rfl ?_
          |(with_reducible show CallEv _ _ 88 ..); refine hcC _ _ _ _ 4 i false (chl i false) hch hcl hSf rfl rfl rfl (by decide) hrd ?_
          |refine Exists.intro (α := Int) (((i :: chl i false).length % 2 : Nat) : Int) ⟨⟨by decide, rfl⟩, ?_⟩
        conv => whnf
        exact ⟨1, ⟨by omega, fun _ hfd => hpar hfd.2.2, fun h => by omega⟩, by omega, Ent.weak rfl ⟨rfl, rfl, rfl, rfl, rfl, rfl, rfl, rfl, rfl, trivial⟩ ⟨rfl, rfl, trivial⟩ fun _ h => h⟩
     ·
      have hch := hC.1
      have hcl := hC.2.1
      have hnd := hC.2.2.1
      have hSl := hC.2.2.2
      obtain ⟨bv, hbv2⟩ : ∃ v, p.B (tAt (lnAt L i) t) = v := ⟨_, rfl⟩
      rw [hbv2] at hbv
      repeat'
       conv => whnf
       first
        |refine zA ?_|refine zB ?_|refine zC ?_|refine zD ?_|refine zF ?_|refine zG ?_|refine splT ?_|refine splF ?_
        |(refine splD ?_ ?_ <;> intro hc <;> first|(exfalso; omega)|skip)
        |refine eL (Ln.cs (lnAt L i)) ⟨⟨rfl, fun w' hw' => e1 w' hw'⟩, ?_⟩
        |refine drA (k := gAt (lnAt L i) t) (by show 0 + 7 + (lnAt L i).g.toNat * 40 + t.toNat * 1 = 7 + ((lnAt L i).g.toNat * 40 + t.toNat); omega) (by show (lnAt L i).g.toNat * 40 + t.toNat < 320; omega) ?_
        |refine drBv (k := tAt (lnAt L i) t) (by show 0 + 327 + (lnAt L i).t.toNat * 40 + t.toNat * 1 = 327 + ((lnAt L i).t.toNat * 40 + t.toNat); omega) (by show (lnAt L i).t.toNat * 40 + t.toNat < 320; omega) hbv2 ?_
        |refine nlC rfl rfl ?_
        |refine idxS env rfl rfl rfl rfl (And.intro (by omega) (by omega)) rfl rfl (.inr ⟨rfl, rfl⟩) rfl ?_
        |(with_reducible show CallEv _ _ 88 ..); refine hcC _ _ _ _ 4 i false (chl i false) hch hcl hSf rfl rfl rfl (by decide) hrd ?_
      conv => whnf
      exact ⟨1, ⟨by omega, fun _ hfd => hbv (by have := hfd.2.1; rw [hbf, hbv2] at this; exact this), fun h => by omega⟩, by omega, Ent.weak rfl ⟨rfl, rfl, rfl, rfl, rfl, rfl, rfl, rfl, rfl, trivial⟩ ⟨rfl, rfl, trivial⟩ fun _ h => h⟩
   · rcases Nat.lt_or_ge j 2 with hj3 | hj3
     · obtain rfl : j = 1 := by omega
       have hC := hC i hil hSf true
       have hbf : bfP L p t i true = p.A (gAt (lnAt L i) t) := rfl
       by_cases hbv : p.A (gAt (lnAt L i) t) = -1
       · by_cases hpar : (i :: chl i true).length % 2 = 1
         · have hfd : fndP L p f t chl i true := ⟨hSf, hbf.trans hbv, hpar⟩
           obtain rfl : i = i0 := Classical.byContradiction fun hne => hlt i true (by omega) hfd
           obtain rfl : te0 = true := by
            cases te0 with
            | true => rfl
            | false => exact absurd h0 (hj1 (by omega))
           have hch := hC.1
           have hcl := hC.2.1
           have hnd := hC.2.2.1
           have hSl := hC.2.2.2
           have hmod : ((i :: chl i true).length % 2 : Nat) = 1 := hpar
           repeat'
            conv => whnf
            first
             |refine zA ?_|refine zB ?_|refine zC ?_|refine zD ?_|refine zG ?_|refine splT ?_|refine splF ?_
             |(refine splD ?_ ?_ <;> intro hc <;> first|(exfalso; omega)|skip)
             |refine eL (Ln.cs (lnAt L i)) ⟨⟨rfl, fun w' hw' => e1 w' hw'⟩, ?_⟩
             |refine drAv (k := gAt (lnAt L i) t) (by show 0 + 7 + (lnAt L i).g.toNat * 40 + t.toNat * 1 = 7 + ((lnAt L i).g.toNat * 40 + t.toNat); omega) (by show (lnAt L i).g.toNat * 40 + t.toNat < 320; omega) hbv ?_
             |refine nlC rfl rfl ?_
             |refine idxS env rfl rfl rfl rfl (And.intro (by omega) (by omega)) rfl rfl (.inr ⟨rfl, rfl⟩) rfl ?_
             |(with_reducible show CallEv _ _ 88 ..); refine hcC _ _ _ _ 4 i true (chl i true) hch hcl hSf rfl rfl rfl (by decide) hrd ?_
             |refine Exists.intro (α := Int) (((i :: chl i true).length % 2 : Nat) : Int) ⟨⟨by decide, rfl⟩, ?_⟩
             |(with_reducible show CallEv _ _ 87 ..); refine hcT _ _ _ _ (i :: chl i true) 4 5 _ hnd (fun j hj => hch.lt j hj) hSl rfl rfl rfl rfl ⟨by decide, by show (4 : Nat) < 6; decide⟩ (by show (5 : Nat) < 6; decide) hrd ?_
           conv => whnf
           exact ⟨fun β => rfl, ⟨rfl, rfl, trivial⟩, fun _ h => h, rfl⟩
         ·
          have hch := hC.1
          have hcl := hC.2.1
          have hnd := hC.2.2.1
          have hSl := hC.2.2.2
          have hmod : ((i :: chl i true).length % 2 : Nat) ≠ 1 := hpar
          repeat'
           conv => whnf
           first
            |refine zA ?_|refine zB ?_|refine zC ?_|refine zD ?_|refine zF ?_|refine zG ?_|refine splT ?_|refine splF ?_
            |(refine splD ?_ ?_ <;> intro hc <;> first|(exfalso; omega)|skip)
            |refine eL (Ln.cs (lnAt L i)) ⟨⟨rfl, fun w' hw' => e1 w' hw'⟩, ?_⟩
            |refine drAv (k := gAt (lnAt L i) t) (by show 0 + 7 + (lnAt L i).g.toNat * 40 + t.toNat * 1 = 7 + ((lnAt L i).g.toNat * 40 + t.toNat); omega) (by show (lnAt L i).g.toNat * 40 + t.toNat < 320; omega) hbv ?_
            |refine nlC rfl rfl ?_
            |refine idxS env rfl rfl rfl rfl (And.intro (by omega) (by omega)) rfl rfl (.inr ⟨rfl, rfl⟩) rfl ?_
            |(with_reducible show CallEv _ _ 88 ..); refine hcC _ _ _ _ 4 i true (chl i true) hch hcl hSf rfl rfl rfl (by decide) hrd ?_
            |refine Exists.intro (α := Int) (((i :: chl i true).length % 2 : Nat) : Int) ⟨⟨by decide, rfl⟩, ?_⟩
          conv => whnf
          exact ⟨2, ⟨by omega, fun _ => hj1 (by omega), fun _ hfd => hpar hfd.2.2⟩, by omega, Ent.weak rfl ⟨rfl, rfl, rfl, rfl, rfl, rfl, rfl, rfl, rfl, trivial⟩ ⟨rfl, rfl, trivial⟩ fun _ h => h⟩
       ·
        have hch := hC.1
        have hcl := hC.2.1
        have hnd := hC.2.2.1
        have hSl := hC.2.2.2
        obtain ⟨bv, hbv2⟩ : ∃ v, p.A (gAt (lnAt L i) t) = v := ⟨_, rfl⟩
        rw [hbv2] at hbv
        repeat'
         conv => whnf
         first
          |refine zA ?_|refine zB ?_|refine zC ?_|refine zD ?_|refine zF ?_|refine zG ?_|refine splT ?_|refine splF ?_
          |(refine splD ?_ ?_ <;> intro hc <;> first|(exfalso; omega)|skip)
          |refine eL (Ln.cs (lnAt L i)) ⟨⟨rfl, fun w' hw' => e1 w' hw'⟩, ?_⟩
          |refine drAv (k := gAt (lnAt L i) t) (by show 0 + 7 + (lnAt L i).g.toNat * 40 + t.toNat * 1 = 7 + ((lnAt L i).g.toNat * 40 + t.toNat); omega) (by show (lnAt L i).g.toNat * 40 + t.toNat < 320; omega) hbv2 ?_
          |refine nlC rfl rfl ?_
          |refine idxS env rfl rfl rfl rfl (And.intro (by omega) (by omega)) rfl rfl (.inr ⟨rfl, rfl⟩) rfl ?_
          |(with_reducible show CallEv _ _ 88 ..); refine hcC _ _ _ _ 4 i true (chl i true) hch hcl hSf rfl rfl rfl (by decide) hrd ?_
        conv => whnf
        exact ⟨2, ⟨by omega, fun _ => hj1 (by omega), fun _ hfd => hbv (by have := hfd.2.1; rw [hbf, hbv2] at this; exact this)⟩, by omega, Ent.weak rfl ⟨rfl, rfl, rfl, rfl, rfl, rfl, rfl, rfl, rfl, trivial⟩ ⟨rfl, rfl, trivial⟩ fun _ h => h⟩
     · obtain rfl : j = 2 := by omega
       have hne : i ≠ i0 := fun e => by
        subst e
        cases te0 with
        | false => exact hj1 (by omega) h0
        | true => exact hj2 (by omega) h0
       repeat'
        conv => whnf
        first
         |refine zF ?_|refine splF ?_
       conv => whnf
       exact ⟨i + 1, by omega, by omega, Ent.weak rfl ⟨rfl, rfl, rfl, rfl, rfl, rfl, trivial⟩ ⟨rfl, rfl, trivial⟩ fun _ h => h⟩
 · have hne : i ≠ i0 := fun e => hSf (e ▸ h0.1)
   obtain ⟨sv, hsv⟩ : ∃ v, p.S i = v := ⟨_, rfl⟩
   rw [hsv] at hro hSf
   repeat'
    conv => whnf
    first
     |refine zF ?_|refine zG ?_|refine splNot ?_
     |(refine splD ?_ ?_ <;> intro hc <;> first|(exfalso; omega)|skip)
     |refine eL [iv sv] ⟨⟨rfl, hro⟩, ?_⟩
   conv => whnf
   exact ⟨i + 1, by omega, by omega, Ent.weak rfl ⟨rfl, rfl, rfl, rfl, rfl, rfl, trivial⟩ ⟨rfl, rfl, trivial⟩ fun _ h => h⟩
end Go.Proofs.YtkbfcofifhngfaaGreat
namespace Go.Proofs.YtkbfcofifhngfaaGreat
open Go
def sumN (f : Nat → Int) : Nat → Int
 | 0 => 0
 | n + 1 => sumN f n + f n
theorem sumN_congr {f g : Nat → Int} : ∀ {n : Nat}, (∀ i, i < n → f i = g i) → sumN f n = sumN g n
 | 0, _ => rfl
 | n + 1, h => by rw [sumN, sumN, sumN_congr fun i hi => h i (by omega), h n (by omega)]
theorem sumN_upd {f : Nat → Int} {i : Nat} {v : Int} : ∀ {n : Nat}, i < n → sumN (fun k => if k = i then v else f k) n = sumN f n - f i + v
 | n + 1, h => by
  rw [sumN, sumN]
  by_cases hi : n = i
  · subst hi
    rw [if_pos rfl, sumN_congr (g := f) fun k hk => if_neg (by omega)]; omega
  · rw [if_neg hi, sumN_upd (by omega)]; omega
theorem sumN_nn {f : Nat → Int} : ∀ {n : Nat}, (∀ i, i < n → 0 ≤ f i) → 0 ≤ sumN f n
 | 0, _ => Int.le_refl _
 | n + 1, h => by rw [sumN]; have h1 : 0 ≤ sumN f n := sumN_nn fun i hi => h i (by omega); have := h n (by omega); omega
theorem sumN_ge {f : Nat → Int} {i : Nat} : ∀ {n : Nat}, (∀ i, i < n → 0 ≤ f i) → i < n → f i ≤ sumN f n
 | n + 1, h, hi => by
  rw [sumN]
  have h1 := h n (by omega)
  by_cases hin : i = n
  · subst hin; have h2 : 0 ≤ sumN f i := sumN_nn fun k hk => h k (by omega); omega
  · have h2 : f i ≤ sumN f n := sumN_ge (fun k hk => h k (by omega)) (by omega); omega
theorem sumN_add (f g : Nat → Int) : ∀ n, sumN (fun i => f i + g i) n = sumN f n + sumN g n
 | 0 => rfl
 | n + 1 => by rw [sumN, sumN, sumN, sumN_add f g n]; omega
theorem sumN_le {f g : Nat → Int} : ∀ {n : Nat}, (∀ i, i < n → f i ≤ g i) → sumN f n ≤ sumN g n
 | 0, _ => Int.le_refl _
 | n + 1, h => by rw [sumN, sumN]; have h1 : sumN f n ≤ sumN g n := sumN_le fun i hi => h i (by omega); have := h n (by omega); omega
theorem sumN_zero : ∀ n, sumN (fun _ => 0) n = 0
 | 0 => rfl
 | n + 1 => by rw [sumN, sumN_zero n]; rfl
theorem sumN_swap (f : Nat → Nat → Int) : ∀ n m, sumN (fun i => sumN (fun j => f i j) m) n = sumN (fun j => sumN (fun i => f i j) n) m
 | 0, m => by rw [sumN, ← sumN_zero m]; exact sumN_congr fun j _ => rfl
 | n + 1, m => by rw [sumN, sumN_swap f n m, ← sumN_add]; exact sumN_congr fun j _ => rfl
structure Gs where
 seen : Nat → Bool
 load : Nat → Int
 G : Nat → Nat → Int
def teachB (D : SD) (t j : Nat) : Bool := (D.T.getD t ([], 0)).1.contains (j : Int)
def tmB (D : SD) (t : Nat) : Int := timeP D (D.T.getD t ([], 0))
def updG (G : Nat → Nat → Int) (j t : Nat) (v : Int) : Nat → Nat → Int := fun a => if a = j then fun b => if b = t then v else G j b else G a
theorem updG_at (G : Nat → Nat → Int) (j t : Nat) (v : Int) (a b : Nat) : updG G j t v a b = if a = j ∧ b = t then v else G a b := by
 unfold updG
 by_cases ha : a = j
 · subst ha
   rw [if_pos rfl]
   by_cases hb : b = t
   · subst hb; simp
   · simp [hb]
 · simp [ha]
def markG (s : Gs) (t : Nat) : Gs := ⟨fun k => if k = t then true else s.seen k, s.load, s.G⟩
def giveG (s : Gs) (j t : Nat) : Gs := ⟨s.seen, fun k => if k = t then s.load t + 1 else s.load k, updG s.G j t (s.G j t + 1)⟩
def moveG (s : Gs) (i j t : Nat) : Gs := ⟨s.seen, s.load, updG (updG s.G i t (s.G i t - 1)) j t (updG s.G i t (s.G i t - 1) j t + 1)⟩
def innF (g : Nat → Gs → Bool × Gs) (j t : Nat) : Nat → Nat → Gs → Bool × Gs
 | 0, _, s => (false, s)
 | k + 1, i, s => if 0 < s.G i t then (if (g i s).1 = true then (true, moveG (g i s).2 i j t) else innF g j t k (i + 1) (g i s).2) else innF g j t k (i + 1) s
def outF (g : Nat → Gs → Bool × Gs) (D : SD) (j : Nat) : Nat → Nat → Gs → Bool × Gs
 | 0, _, s => (false, s)
 | k + 1, t, s => if (s.seen t || !teachB D t j) = true then outF g D j k (t + 1) s
  else if s.load t < tmB D t then (true, giveG (markG s t) j t)
  else if (innF g j t D.su.toNat 0 (markG s t)).1 = true then innF g j t D.su.toNat 0 (markG s t) else outF g D j k (t + 1) (innF g j t D.su.toNat 0 (markG s t)).2
def growF (D : SD) : Nat → Nat → Gs → Bool × Gs
 | 0, _, s => (false, s)
 | f + 1, j, s => outF (growF D f) D j D.T.length 0 s
structure GOK (D : SD) (s : Gs) : Prop where
 nn : ∀ t, t < D.T.length → ∀ i, i < D.su.toNat → 0 ≤ s.G i t
 ld : ∀ t, t < D.T.length → s.load t = sumN (fun i => s.G i t) D.su.toNat
 tm : ∀ t, t < D.T.length → s.load t ≤ tmB D t
 te : ∀ t, t < D.T.length → ∀ i, i < D.su.toNat → 0 < s.G i t → teachB D t i = true
def unS (s : Gs) : Nat → Nat
 | 0 => 0
 | n + 1 => unS s n + if s.seen n = true then 0 else 1
theorem unS_le {s s' : Gs} : ∀ {n : Nat}, (∀ t, t < n → s.seen t = true → s'.seen t = true) → unS s' n ≤ unS s n
 | 0, _ => Nat.le_refl _
 | n + 1, h => by
  rw [unS, unS]
  have h1 : unS s' n ≤ unS s n := unS_le fun t ht => h t (by omega)
  cases hs : s.seen n with
  | true => rw [h n (by omega) hs]; simp; omega
  | false => split <;> simp <;> omega
theorem unS_mark {s : Gs} {t : Nat} : ∀ {n : Nat}, t < n → s.seen t = false → unS (markG s t) n + 1 = unS s n
 | n + 1, h, hs => by
  rw [unS, unS]
  by_cases ht : t = n
  · subst ht
    have h1 : (markG s t).seen t = true := by simp [markG]
    have h2 : unS (markG s t) t = unS s t := by
     have : ∀ m, m ≤ t → unS (markG s t) m = unS s m := fun m => by
      induction m with
      | zero => intro _; rfl
      | succ m ih => intro hm; rw [unS, unS, ih (by omega)]; simp [markG, show ¬ m = t from by omega]
     exact this t (Nat.le_refl _)
    rw [h1, hs, h2]; simp
  · have h1 : unS (markG s t) n + 1 = unS s n := unS_mark (by omega) hs
    have h2 : (markG s t).seen n = s.seen n := by simp [markG, show ¬ n = t from fun e => ht e.symm]
    rw [h2]; omega
structure GSp (D : SD) (j : Nat) (s : Gs) (r : Bool × Gs) : Prop where
 ok : GOK D r.2
 mono : ∀ t, s.seen t = true → r.2.seen t = true
 col : ∀ t, s.seen t = true → ∀ i, r.2.G i t = s.G i t
 row : r.1 = true → ∀ i, sumN (r.2.G i) D.T.length = sumN (s.G i) D.T.length + if i = j then 1 else 0
 fG : r.1 = false → r.2.G = s.G ∧ r.2.load = s.load
 fT : r.1 = false → ∀ t, t < D.T.length → teachB D t j = true → r.2.seen t = true
 fC : r.1 = false → ∀ t, t < D.T.length → r.2.seen t = true → s.seen t = true ∨ (tmB D t ≤ s.load t ∧ ∀ i, i < D.su.toNat → 0 < s.G i t → ∀ t', t' < D.T.length → teachB D t' i = true → r.2.seen t' = true)
theorem GOK.mark {D : SD} {s : Gs} (h : GOK D s) (t : Nat) : GOK D (markG s t) := ⟨h.nn, h.ld, h.tm, h.te⟩
theorem updG_ne (G : Nat → Nat → Int) {j t : Nat} (v : Int) {a b : Nat} (h : ¬ (a = j ∧ b = t)) : updG G j t v a b = G a b := by rw [updG_at, if_neg h]
theorem sum_row_upd (G : Nat → Nat → Int) {j t n : Nat} (v : Int) (ht : t < n) (i : Nat) : sumN (updG G j t v i) n = sumN (G i) n + if i = j then v - G j t else 0 := by
 by_cases hi : i = j
 · subst hi
   rw [if_pos rfl]
   have h1 : sumN (updG G i t v i) n = sumN (fun k => if k = t then v else G i k) n := sumN_congr fun k _ => by rw [updG_at]; simp
   rw [h1, sumN_upd ht]; omega
 · rw [if_neg hi]
   have h1 : sumN (updG G j t v i) n = sumN (G i) n := sumN_congr fun k _ => updG_ne G v fun e => hi e.1
   rw [h1]; omega
theorem sum_col_upd (G : Nat → Nat → Int) {j t n : Nat} (v : Int) (hj : j < n) (b : Nat) : sumN (fun i => updG G j t v i b) n = sumN (fun i => G i b) n + if b = t then v - G j t else 0 := by
 by_cases hb : b = t
 · subst hb
   rw [if_pos rfl]
   have h1 : sumN (fun i => updG G j b v i b) n = sumN (fun k => if k = j then v else G k b) n := sumN_congr fun k _ => by rw [updG_at]; simp
   rw [h1, sumN_upd (f := fun k => G k b) hj]; omega
 · rw [if_neg hb]
   have h1 : sumN (fun i => updG G j t v i b) n = sumN (fun i => G i b) n := sumN_congr fun k _ => updG_ne G v fun e => hb e.2
   rw [h1]; omega
structure Keeps (s c : Gs) : Prop where
 G : c.G = s.G
 l : c.load = s.load
 mono : ∀ t, s.seen t = true → c.seen t = true
theorem Keeps.refl (s : Gs) : Keeps s s := ⟨rfl, rfl, fun _ h => h⟩
theorem Keeps.mark {s c : Gs} (h : Keeps s c) (t : Nat) : Keeps s (markG c t) := ⟨h.G, h.l, fun t' ht => by show (if t' = t then true else c.seen t') = true; rw [h.mono t' ht]; split <;> rfl⟩
theorem Keeps.trans {s c d : Gs} (h : Keeps s c) (h2 : Keeps c d) : Keeps s d := ⟨h2.G.trans h.G, h2.l.trans h.l, fun t ht => h2.mono t (h.mono t ht)⟩
theorem give_sp {D : SD} {s c : Gs} {j t : Nat} (hk : Keeps s c) (h : GOK D c) (hj : j < D.su.toNat) (ht : t < D.T.length) (hte : teachB D t j = true) (hu : s.seen t = false) (hlt : c.load t < tmB D t) : GSp D j s (true, giveG (markG c t) j t) := by
 refine ⟨⟨fun t' ht' i hi => ?_, fun t' ht' => ?_, fun t' ht' => ?_, fun t' ht' i hi h0 => ?_⟩, fun t' hs => ?_, fun t' hs i => ?_, fun _ i => ?_, fun h => (by cases h), fun h => (by cases h), fun h => (by cases h)⟩
 · show 0 ≤ updG c.G j t (c.G j t + 1) i t'
   rw [updG_at]; split
   · have := h.nn t ht j hj; omega
   · exact h.nn t' ht' i hi
 · show (if t' = t then c.load t + 1 else c.load t') = sumN (fun i => updG c.G j t (c.G j t + 1) i t') D.su.toNat
   rw [sum_col_upd _ _ hj]
   by_cases ht2 : t' = t
   · subst ht2; rw [if_pos rfl, if_pos rfl, h.ld t' ht']; omega
   · rw [if_neg ht2, if_neg ht2, h.ld t' ht']; omega
 · show (if t' = t then c.load t + 1 else c.load t') ≤ tmB D t'
   split
   · rename_i e; subst e; omega
   · exact h.tm t' ht'
 · have h0 : 0 < updG c.G j t (c.G j t + 1) i t' := h0
   rw [updG_at] at h0
   split at h0
   · rename_i e; obtain ⟨rfl, rfl⟩ := e; exact hte
   · exact h.te t' ht' i hi h0
 · exact (hk.mark t).mono t' hs
 · show updG c.G j t (c.G j t + 1) i t' = _
   rw [updG_ne _ _ (fun e => by rw [e.2, hu] at hs; cases hs), hk.G]
 · show sumN (updG c.G j t (c.G j t + 1) i) D.T.length = _
   rw [sum_row_upd _ _ ht, hk.G]; split <;> omega
theorem move_sp {D : SD} {s c s1 : Gs} {i j t : Nat} (hk : Keeps s c) (h : GSp D i c (true, s1)) (hj : j < D.su.toNat) (hi : i < D.su.toNat) (ht : t < D.T.length) (hte : teachB D t j = true) (hu : s.seen t = false) (hse : c.seen t = true) (h0 : 0 < c.G i t) : GSp D j s (true, moveG s1 i j t) := by
 have hci : s1.G i t = c.G i t := h.col t hse i
 refine ⟨⟨fun t' ht' k hk => ?_, fun t' ht' => ?_, fun t' ht' => h.ok.tm t' ht', fun t' ht' k hk h0 => ?_⟩, fun t' hs => h.mono t' (hk.mono t' hs), fun t' hs k => ?_, fun _ k => ?_, fun h => (by cases h), fun h => (by cases h), fun h => (by cases h)⟩
 · show 0 ≤ updG (updG s1.G i t (s1.G i t - 1)) j t (updG s1.G i t (s1.G i t - 1) j t + 1) k t'
   rw [updG_at]; split
   · rw [updG_at]; split
     · omega
     · have : 0 ≤ s1.G j t := h.ok.nn t ht j hj
       omega
   · rw [updG_at]; split
     · omega
     · exact h.ok.nn t' ht' k hk
 · show s1.load t' = sumN (fun k => updG (updG s1.G i t (s1.G i t - 1)) j t (updG s1.G i t (s1.G i t - 1) j t + 1) k t') D.su.toNat
   rw [sum_col_upd _ _ hj, sum_col_upd _ _ hi]
   have : s1.load t' = sumN (fun k => s1.G k t') D.su.toNat := h.ok.ld t' ht'
   split <;> omega
 · have h1 : 0 < updG (updG s1.G i t (s1.G i t - 1)) j t (updG s1.G i t (s1.G i t - 1) j t + 1) k t' := h0
   rw [updG_at] at h1
   split at h1
   · rename_i e; rw [e.1, e.2]; exact hte
   · rw [updG_at] at h1
     split at h1
     · rename_i e; rw [e.1, e.2]; exact h.ok.te t ht i hi (by show 0 < s1.G i t; omega)
     · exact h.ok.te t' ht' k hk h1
 · have htt : t' ≠ t := fun e => by rw [e, hu] at hs; cases hs
   show updG (updG s1.G i t (s1.G i t - 1)) j t (updG s1.G i t (s1.G i t - 1) j t + 1) k t' = _
   rw [updG_ne _ _ fun e => htt e.2, updG_ne _ _ fun e => htt e.2, ← hk.G]
   exact h.col t' (hk.mono t' hs) k
 · show sumN (updG (updG s1.G i t (s1.G i t - 1)) j t (updG s1.G i t (s1.G i t - 1) j t + 1) k) D.T.length = _
   rw [sum_row_upd _ _ ht, sum_row_upd _ _ ht]
   have : sumN (s1.G k) D.T.length = sumN (c.G k) D.T.length + if k = i then 1 else 0 := h.row rfl k
   rw [this, ← hk.G]
   split <;> split <;> omega
def ClG (D : SD) (s c : Gs) : Prop := ∀ t, t < D.T.length → c.seen t = true → s.seen t = true ∨ (tmB D t ≤ s.load t ∧ ∀ i, i < D.su.toNat → 0 < s.G i t → ∀ t', t' < D.T.length → teachB D t' i = true → c.seen t' = true)
theorem inn_sp {D : SD} {g : Nat → Gs → Bool × Gs} {N : Nat} (hg : ∀ j s, j < D.su.toNat → GOK D s → unS s D.T.length < N → GSp D j s (g j s)) {s : Gs} {j t : Nat} (hj : j < D.su.toNat) (ht : t < D.T.length) (hte : teachB D t j = true) (hu : s.seen t = false) (hful : tmB D t ≤ s.load t) :
 ∀ k i c, i + k = D.su.toNat → Keeps s c → GOK D c → unS c D.T.length < N → c.seen t = true →
  (∀ t', t' < D.T.length → c.seen t' = true → s.seen t' = true ∨ t' = t ∨ (tmB D t' ≤ s.load t' ∧ ∀ i, i < D.su.toNat → 0 < s.G i t' → ∀ t2, t2 < D.T.length → teachB D t2 i = true → c.seen t2 = true)) →
  (∀ i', i' < i → 0 < s.G i' t → ∀ t2, t2 < D.T.length → teachB D t2 i' = true → c.seen t2 = true) →
  ((innF g j t k i c).1 = true → GSp D j s (innF g j t k i c)) ∧ ((innF g j t k i c).1 = false → Keeps c (innF g j t k i c).2 ∧ GOK D (innF g j t k i c).2 ∧ ClG D s (innF g j t k i c).2)
 | 0, i, c, hik, hk, hok, hun, hse, hcl, hdo => by
  refine ⟨fun h => (by cases h), fun _ => ⟨Keeps.refl _, hok, fun t' ht' hs => ?_⟩⟩
  rcases hcl t' ht' hs with h | h | h
  · exact .inl h
  · subst h; exact .inr ⟨hful, fun i2 hi2 => hdo i2 (by omega)⟩
  · exact .inr h
 | k + 1, i, c, hik, hk, hok, hun, hse, hcl, hdo => by
  rw [innF]
  by_cases h0 : 0 < c.G i t
  · rw [if_pos h0]
    have hi : i < D.su.toNat := by omega
    have hgs := hg i c hi hok hun
    by_cases h1 : (g i c).1 = true
    · rw [if_pos h1]
      refine ⟨fun _ => move_sp (s1 := (g i c).2) hk ?_ hj hi ht hte hu hse h0, fun h => (by cases h)⟩
      rw [← h1]; exact hgs
    · rw [if_neg h1]
      have h1 : (g i c).1 = false := by cases h : (g i c).1 <;> simp_all
      have hkc : Keeps c (g i c).2 := ⟨(hgs.fG h1).1, (hgs.fG h1).2, hgs.mono⟩
      have hsm : ∀ t', c.seen t' = true → (g i c).2.seen t' = true := hgs.mono
      have := inn_sp hg hj ht hte hu hful k (i + 1) (g i c).2 (by omega) (hk.trans hkc) hgs.ok (Nat.lt_of_le_of_lt (unS_le fun t' _ h => hsm t' h) hun) (hsm t hse) (fun t' ht' hs => ?_) (fun i' hi' hp t2 ht2 hte2 => ?_)
      · exact ⟨this.1, fun h => ⟨hkc.trans (this.2 h).1, (this.2 h).2⟩⟩
      · rcases hgs.fC h1 t' ht' hs with h | ⟨h, h2⟩
        · rcases hcl t' ht' h with h | h | ⟨h, h2⟩
          · exact .inl h
          · exact .inr (.inl h)
          · exact .inr (.inr ⟨h, fun i2 hi2 hp t2 ht2 hte2 => hsm t2 (h2 i2 hi2 hp t2 ht2 hte2)⟩)
        · rw [hk.l] at h; rw [hk.G] at h2
          exact .inr (.inr ⟨h, h2⟩)
      · by_cases he : i' = i
        · subst he; exact hgs.fT h1 t2 ht2 hte2
        · exact hsm t2 (hdo i' (by omega) hp t2 ht2 hte2)
  · rw [if_neg h0]
    refine inn_sp hg hj ht hte hu hful k (i + 1) c (by omega) hk hok hun hse hcl fun i' hi' hp t2 ht2 hte2 => ?_
    by_cases he : i' = i
    · subst he; rw [hk.G] at h0; exact absurd hp h0
    · exact hdo i' (by omega) hp t2 ht2 hte2
theorem out_sp {D : SD} {g : Nat → Gs → Bool × Gs} {N : Nat} (hg : ∀ j s, j < D.su.toNat → GOK D s → unS s D.T.length < N → GSp D j s (g j s)) {s : Gs} {j : Nat} (hj : j < D.su.toNat) :
 ∀ k t c, t + k = D.T.length → Keeps s c → GOK D c → unS c D.T.length < N + 1 → ClG D s c → (∀ t', t' < t → teachB D t' j = true → c.seen t' = true) → GSp D j s (outF g D j k t c)
 | 0, t, c, htk, hk, hok, hun, hcl, hdo => by
  exact ⟨hok, hk.mono, fun t' hs i => by rw [outF, hk.G], fun h => (by cases h), fun _ => ⟨hk.G, hk.l⟩, fun _ t' ht' => hdo t' (by omega), fun _ => hcl⟩
 | k + 1, t, c, htk, hk, hok, hun, hcl, hdo => by
  have ht : t < D.T.length := by omega
  rw [outF]
  by_cases h0 : (c.seen t || !teachB D t j) = true
  · rw [if_pos h0]
    refine out_sp hg hj k (t + 1) c (by omega) hk hok hun hcl fun t' ht' hte => ?_
    by_cases he : t' = t
    · subst he; rw [hte] at h0; simpa using h0
    · exact hdo t' (by omega) hte
  · rw [if_neg h0]
    have h0' : c.seen t = false ∧ teachB D t j = true := by cases h1 : c.seen t <;> cases h2 : teachB D t j <;> simp_all
    obtain ⟨hcu, hte⟩ := h0'
    have hu : s.seen t = false := by cases h : s.seen t with | false => rfl | true => rw [hk.mono t h] at hcu; cases hcu
    by_cases hl : c.load t < tmB D t
    · rw [if_pos hl]; exact give_sp hk hok hj ht hte hu hl
    · rw [if_neg hl]
      have hum := unS_mark ht hcu
      have hmk : (markG c t).seen t = true := by simp [markG]
      have hsm : ∀ t', c.seen t' = true → (markG c t).seen t' = true := ((Keeps.refl c).mark t).mono
      have hin := inn_sp hg hj ht hte hu (by rw [hk.l] at hl; omega) D.su.toNat 0 (markG c t) (by omega) (hk.mark t) (hok.mark t) (by omega) hmk (fun t' ht' hs => ?_) (fun i' hi' => absurd hi' (by omega))
      · by_cases h1 : (innF g j t D.su.toNat 0 (markG c t)).1 = true
        · rw [if_pos h1]; exact hin.1 h1
        · rw [if_neg h1]
          have h1 : (innF g j t D.su.toNat 0 (markG c t)).1 = false := by cases h : (innF g j t D.su.toNat 0 (markG c t)).1 <;> simp_all
          obtain ⟨i1, i2, i3⟩ := hin.2 h1
          have hm2 : ∀ t', c.seen t' = true → (innF g j t D.su.toNat 0 (markG c t)).2.seen t' = true := fun t' h => i1.mono t' (hsm t' h)
          refine out_sp hg hj k (t + 1) _ (by omega) ((hk.mark t).trans i1) i2 (Nat.lt_of_le_of_lt (unS_le fun t' _ h => hm2 t' h) hun) i3 fun t' ht' hte' => ?_
          by_cases he : t' = t
          · subst he; exact i1.mono t' hmk
          · exact hm2 t' (hdo t' (by omega) hte')
      · by_cases he : t' = t
        · exact .inr (.inl he)
        · have hs' : c.seen t' = true := by have hs2 : (if t' = t then true else c.seen t') = true := hs; rwa [if_neg he] at hs2
          rcases hcl t' ht' hs' with h | ⟨h, h2⟩
          · exact .inl h
          · exact .inr (.inr ⟨h, fun i2 hi2 hp t2 ht2 hte2 => hsm t2 (h2 i2 hi2 hp t2 ht2 hte2)⟩)
theorem grow_sp {D : SD} : ∀ f j s, j < D.su.toNat → GOK D s → unS s D.T.length < f → GSp D j s (growF D f j s)
 | 0, _, _, _, _, h => absurd h (by omega)
 | f + 1, j, s, hj, hok, hun => out_sp (fun j s => grow_sp f j s) hj D.T.length 0 s (by omega) (Keeps.refl s) hok hun (fun t ht h => .inl h) (fun t' h => absurd h (by omega))
theorem sumN_lt {f g : Nat → Int} {j : Nat} : ∀ {n : Nat}, (∀ i, i < n → f i ≤ g i) → j < n → f j < g j → sumN f n < sumN g n
 | n + 1, h, hj, hlt => by
  rw [sumN, sumN]
  by_cases hn : j = n
  · subst hn
    have h1 : sumN f j ≤ sumN g j := sumN_le fun i hi => h i (by omega)
    omega
  · have h1 : sumN f n < sumN g n := sumN_lt (fun i hi => h i (by omega)) (by omega) hlt
    have h2 := h n (by omega)
    omega
theorem sumN_head (f : Nat → Int) : ∀ n, sumN f (n + 1) = f 0 + sumN (fun i => f (i + 1)) n
 | 0 => by rw [sumN, sumN, sumN]; omega
 | n + 1 => by rw [sumN, sumN_head f n, sumN]; omega
theorem sumN_list {α : Type} (f : α → Int) (d : α) : ∀ L : List α, (L.map f).sum = sumN (fun i => f (L.getD i d)) L.length
 | [] => rfl
 | x :: L => by
  rw [List.map_cons, List.sum_cons, sumN_list f d L, List.length_cons, sumN_head]
  rfl
theorem sumN_more {f : Nat → Int} {n : Nat} : ∀ {m : Nat}, n ≤ m → (∀ i, n ≤ i → i < m → f i = 0) → sumN f m = sumN f n
 | 0, h, _ => by rw [show n = 0 from by omega]
 | m + 1, h, h0 => by
  by_cases hn : n = m + 1
  · rw [hn]
  · rw [sumN, sumN_more (by omega) fun i h1 h2 => h0 i h1 (by omega), h0 m (by omega) (by omega)]; omega
theorem bits_of (p : Nat → Bool) : ∀ k, ∃ m, m < 2 ^ k ∧ ∀ i, i < k → m.testBit i = p i
 | 0 => ⟨0, by decide, fun i h => by omega⟩
 | k + 1 => by
  obtain ⟨m, hm, hb⟩ := bits_of p k
  have h2 : 2 ^ (k + 1) = 2 ^ k + 2 ^ k := by rw [Nat.pow_succ]; omega
  cases hp : p k with
  | false =>
   refine ⟨m, by omega, fun i hi => ?_⟩
   by_cases he : i = k
   · rw [he, hp, Nat.testBit_lt_two_pow hm]
   · exact hb i (by omega)
  | true =>
   refine ⟨2 ^ k + m, by omega, fun i hi => ?_⟩
   by_cases he : i = k
   · rw [he, hp, Nat.testBit_two_pow_add_eq, Nat.testBit_lt_two_pow hm]; rfl
   · rw [Nat.testBit_two_pow_add_gt (by omega)]; exact hb i (by omega)
def needP (D : SD) (i : Nat) : Int := (D.G.map fun g => g.getD i 0).sum
theorem needP_one (D : SD) (i : Nat) : hoursP D [(i : Int)] = needP D i := by
 unfold hoursP needP
 congr 1
 apply List.map_congr_left
 intro g _
 unfold rowH
 simp
theorem rowH_mem (m : Nat) (g : List Int) : ∀ k, rowH (memL m k) g = sumN (fun i => if m.testBit i = true then g.getD i 0 else 0) k
 | 0 => rfl
 | k + 1 => by
  have ih := rowH_mem m g k
  unfold rowH at ih ⊢
  rw [memL_step, List.map_append, List.sum_append, ih, sumN]
  congr 1
  cases h : m.testBit k <;> simp
theorem hours_mem (D : SD) (m k : Nat) : hoursP D (memL m k) = sumN (fun i => if m.testBit i = true then needP D i else 0) k := by
 unfold hoursP
 rw [sumN_list _ []]
 have h1 : sumN (fun a => rowH (memL m k) (D.G.getD a [])) D.G.length = sumN (fun a => sumN (fun i => if m.testBit i = true then (D.G.getD a []).getD i 0 else 0) k) D.G.length := sumN_congr fun a _ => rowH_mem m _ k
 rw [h1, sumN_swap]
 refine sumN_congr fun i _ => ?_
 by_cases h : m.testBit i = true
 · simp only [if_pos h]
   unfold needP
   rw [sumN_list _ []]
 · simp only [if_neg h]
   exact sumN_zero _
theorem times_mem (D : SD) (l : List Int) : timesP D l = sumN (fun t => bif (D.T.getD t ([], 0)).1.any (fun j => l.contains j) then tmB D t else 0) D.T.length := by
 unfold timesP
 rw [sumN_list _ ([], 0)]
 rfl
theorem mem_memL {m k : Nat} {x : Int} : x ∈ memL m k ↔ ∃ i : Nat, i < k ∧ m.testBit i = true ∧ x = i := by
 unfold memL
 rw [List.mem_map]
 constructor
 · rintro ⟨i, hi, rfl⟩
   exact ⟨i, List.mem_range.1 (List.mem_filter.1 hi).1, (List.mem_filter.1 hi).2, rfl⟩
 · rintro ⟨i, h1, h2, rfl⟩
   exact ⟨i, List.mem_filter.2 ⟨List.mem_range.2 h1, h2⟩, rfl⟩
theorem grow_hall {D : SD} (hv : scOk D = true) {f j : Nat} {s : Gs} (hj : j < D.su.toNat) (hok : GOK D s) (hun : unS s D.T.length < f) (hno : ∀ t, s.seen t = false)
 (hrow : ∀ i, i < D.su.toNat → sumN (s.G i) D.T.length ≤ needP D i) (hlt : sumN (s.G j) D.T.length < needP D j) (hfail : (growF D f j s).1 = false) :
 ∃ m, 1 ≤ m ∧ m ≤ 2 ^ D.su.toNat - 1 ∧ unB D (memL m 6) = true := by
 have hg := grow_sp f j s hj hok hun
 obtain ⟨-, -, hsu, -, -, -, -⟩ := scOk_iff.1 hv
 generalize growF D f j s = r at hg hfail
 obtain ⟨m, hm, hb⟩ := bits_of (fun i => decide (∀ t, t < D.T.length → teachB D t i = true → r.2.seen t = true)) D.su.toNat
 have hbj : m.testBit j = true := by rw [hb j hj]; exact decide_eq_true (hg.fT hfail)
 have h6 : D.su.toNat ≤ 6 := by omega
 have hhi : ∀ i, D.su.toNat ≤ i → m.testBit i = false := fun i hi => Nat.testBit_lt_two_pow (Nat.lt_of_lt_of_le hm (Nat.pow_le_pow_right (by omega) hi))
 refine ⟨m, ?_, by omega, ?_⟩
 · have := Nat.ge_two_pow_of_testBit hbj
   have := Nat.two_pow_pos j
   omega
 unfold unB
 refine decide_eq_true ?_
 rw [times_mem, hours_mem]
 have hle : sumN (fun t => bif (D.T.getD t ([], 0)).1.any (fun j => (memL m 6).contains j) then tmB D t else 0) D.T.length ≤ sumN (fun t => sumN (fun i => if m.testBit i = true then s.G i t else 0) D.su.toNat) D.T.length := by
  refine sumN_le fun t ht => ?_
  have hnn : 0 ≤ sumN (fun i => if m.testBit i = true then s.G i t else 0) D.su.toNat := sumN_nn fun i hi => by
   by_cases h : m.testBit i = true
   · simp only [if_pos h]; exact hok.nn t ht i hi
   · simp only [if_neg h]; exact Int.le_refl _
  cases ha : (D.T.getD t ([], 0)).1.any (fun j => (memL m 6).contains j) with
  | false => exact hnn
  | true =>
   show tmB D t ≤ _
   obtain ⟨x, hx, hx2⟩ := List.any_eq_true.1 ha
   obtain ⟨i, hi, hbi, rfl⟩ := mem_memL.1 (List.contains_iff_mem.1 hx2)
   have hisu : i < D.su.toNat := by
    by_cases h : i < D.su.toNat
    · exact h
    · rw [hhi i (by omega)] at hbi; cases hbi
   have hte : teachB D t i = true := List.contains_iff_mem.2 hx
   have hall := of_decide_eq_true ((hb i hisu).symm.trans hbi)
   rcases hg.fC hfail t ht (hall t ht hte) with h | ⟨h1, h2⟩
   · rw [hno t] at h; cases h
   · have e : s.load t = sumN (fun i => if m.testBit i = true then s.G i t else 0) D.su.toNat := by
      rw [hok.ld t ht]
      refine sumN_congr fun k hk => ?_
      by_cases hp : 0 < s.G k t
      · rw [if_pos (show m.testBit k = true from by rw [hb k hk]; exact decide_eq_true (h2 k hk hp))]
      · have := hok.nn t ht k hk
        split <;> omega
     omega
 rw [sumN_swap] at hle
 have hlt2 : sumN (fun i => sumN (fun t => if m.testBit i = true then s.G i t else 0) D.T.length) D.su.toNat < sumN (fun i => if m.testBit i = true then needP D i else 0) D.su.toNat := by
  refine sumN_lt (j := j) (fun i hi => ?_) hj ?_
  · by_cases h : m.testBit i = true
    · simp only [if_pos h]; exact hrow i hi
    · simp only [if_neg h]; rw [sumN_zero]; exact Int.le_refl _
  · simp only [if_pos hbj]; exact hlt
 rw [sumN_more h6 fun i h1 _ => by rw [if_neg (by rw [hhi i h1]; decide)]]
 omega
end Go.Proofs.YtkbfcofifhngfaaGreat
namespace Go.Proofs.YtkbfcofifhngfaaGreat.Tx
open Go Go.RowKit
theorem callFW {P : Program} {σ : Sg} {k : Nat} {args : List SV} {B : Ef → Bool} {rs : List Nat} {K : Ef → Prop} {ks : KT} (v : Value) (w0 : World) (Qo Qc F : Nat → Prop) (h' : World → Prop)
 (hC : ∀ β w, σ.h w → Calls P k (SV.cs β args).toArray w fun e w' => e = .returned v ∧ Chg F w w' ∧ h' w')
 (hB : ∀ w, σ.h w → ∀ b, Qo b → b < w.heap.size ∧ w.heap[b]? = w0.heap[b]?) (hF : ∀ b, F b → Qc b) (hcell : ∀ b, Qc b → ∀ w, σ.h w → ∃ cs ty fr, w.heap[b]? = some (.cells cs ty fr))
 (hdep : ∀ w w2, h' w → Chg (fun b => ¬ (Qo b ∨ Qc b)) w w2 → h' w2)
 (hK : ks (.v v) ⟨σ.nt, σ.t, σ.m, σ.nb, h', σ.z⟩) : CallEv P σ k args B rs K (some ks) := by
 refine .st ks rfl fun X β D a w hok hs => ?_
 have hw := hs.h w (Chg.refl _ _)
 have hQD : ∀ b, Qo b ∨ Qc b → D b := fun b hb => by
  rcases hb with hb | hb
  · exact hs.mem.holds (w0 := w0) (fun w' hw' => (hB w' hw' b hb).2) (hB w hw b hb).1
  · exact hs.dof fun w' hw' => hcell b hb w' hw'
 have hFc : ∀ b, F b → ∃ cs ty fr, w.heap[b]? = some (.cells cs ty fr) := fun b hb => hcell b (hF b hb) w hw
 refine (hC β w hw).mono fun e w' ⟨he, hch, hh⟩ => ⟨.v v, ⟨σ.nt, σ.t, σ.m, σ.nb, h', σ.z⟩, β, D, he, hK, rfl, ⟨⟨hok.wf.t, hok.wf.g, hok.wf.m⟩, hok.lt⟩, rfl, ?_⟩
 have hkeep : ∀ (b : Nat) (o : Obj), w.heap[b]? = some o → Other o → w'.heap[b]? = some o := fun b o hbo hot => by
  rw [hch.same b (Array.getElem?_eq_some_iff.1 hbo).1 fun hf => ?_]
  · exact hbo
  · obtain ⟨cs, ty, fr, h1⟩ := hFc b hf
    rw [hbo, Option.some.injEq] at h1
    subst h1
    exact hot trivial
 refine ⟨?_, hs.size, hs.t, fun i b hi => ?_, hs.inj, hs.out, fun b hb' => Nat.lt_of_lt_of_le (hs.dlt b hb') hch.size, fun w2 hc => ?_, hs.amb.keep (fun _ _ _ => rfl) hkeep (fun _ _ h => h)⟩
 · obtain ⟨l, l1, l2, l3⟩ := hs.defers
   exact ⟨l, l1, l2, fun d hd => ⟨hkeep _ _ (l3 d hd).1 (fun h => h), (l3 d hd).2⟩⟩
 · refine Blk.ok_congr (fr := []) (fun _ _ => rfl) b (Blk.av_nil b) (fun hl => ?_) (hs.m i b hi)
   obtain ⟨o, ho, _⟩ := Blk.ok_cells hl (hs.m i b hi)
   exact hch.same _ (Array.getElem?_eq_some_iff.1 ho).1 fun hf => hs.out i b hi hl (hQD _ (.inr (hF _ hf)))
 · exact hdep w' w2 hh ⟨hc.os, hc.tape, hc.output, hc.size, fun b hb hn => hc.same b hb fun hD => hD (hQD b (Classical.byContradiction hn))⟩
end Go.Proofs.YtkbfcofifhngfaaGreat.Tx
namespace Go.Proofs.YtkbfcofifhngfaaGreat
open Go Tx Go.RowKit
structure GA where
 sc : Nat
 sb : Nat
 lb : Nat
 gb : Nat
 kb : Nat
 se : Nat
 sec : Nat
 lo : Nat
 loc : Nat
 y : TbG
abbrev pt (b : Nat) : Value := .pointer (some ⟨b, 0, none⟩)
abbrev GA.fn (a : GA) : Value := .func (.func 126) #[] #[pt a.sc, pt a.sb, pt a.lb, pt a.gb, pt a.kb]
def GA.rows (a : GA) : List Nat := a.y.D.map Prod.fst
def GA.W (a : GA) (b : Nat) : Prop := b = a.se ∨ b = a.lo ∨ b ∈ a.rows
def GA.Q (a : GA) (b : Nat) : Prop := a.W b ∨ b = a.sc ∨ b = a.sb ∨ b = a.lb ∨ b = a.gb ∨ b = a.kb ∨ b = a.y.o
structure GA.Ok (a : GA) (m : Nat) : Prop where
 sc : m ≤ a.sc
 sb : m ≤ a.sb
 lb : m ≤ a.lb
 gb : m ≤ a.gb
 kb : m ≤ a.kb
 se : m ≤ a.se
 lo : m ≤ a.lo
 e1 : ∀ b, a.W b → b ≠ a.sc ∧ b ≠ a.sb ∧ b ≠ a.lb ∧ b ≠ a.gb ∧ b ≠ a.kb ∧ b ≠ a.y.o
 e2 : a.se ≠ a.lo
 e3 : a.se ∉ a.rows
 e4 : a.lo ∉ a.rows
def tbB (n : Nat) (f : Nat → Bool) : List Value := (List.range n).map fun p => .bool (f p)
theorem tbB_at {n : Nat} (f : Nat → Bool) {p : Nat} (h : p < n) : (tbB n f)[p]? = some (.bool (f p)) := by simp [tbB, h]
theorem tbB_set {n : Nat} (f : Nat → Bool) {p : Nat} (v : Bool) (h : p < n) : (tbB n f).set p (.bool v) = tbB n fun k => if k = p then v else f k := by
 apply List.ext_getElem?
 intro i
 rw [List.getElem?_set]
 by_cases hi : i < n
 · rw [tbB_at _ hi, tbB_at _ hi]
   by_cases hp : p = i
   · subst hp; simp [tbB, h]
   · rw [if_neg hp, if_neg (fun e => hp e.symm)]
 · rw [List.getElem?_eq_none (by simp [tbB]; omega), List.getElem?_eq_none (by simp [tbB]; omega)]
   split <;> simp [tbB]; omega
theorem tbV_set1 {n : Nat} (f : Nat → Int) {p : Nat} (v : Int) (h : p < n) : (tbV n f).set p (iv v) = tbV n fun k => if k = p then v else f k := by
 apply List.ext_getElem?
 intro i
 rw [List.getElem?_set]
 by_cases hi : i < n
 · rw [tbV_at _ hi, tbV_at _ hi]
   by_cases hp : p = i
   · subst hp; simp [tbV, h]
   · rw [if_neg hp, if_neg (fun e => hp e.symm)]
 · rw [List.getElem?_eq_none (by simp [tbV]; omega), List.getElem?_eq_none (by simp [tbV]; omega)]
   split <;> simp [tbV]; omega
def mkR (n : Nat) (g : Nat → Int) : List Int := (List.range n).map g
def mkC (su n : Nat) (G : Nat → Nat → Int) : List (List Int) := (List.range su).map fun i => mkR n (G i)
theorem mkC_at {su n : Nat} (G : Nat → Nat → Int) {i : Nat} (h : i < su) : (mkC su n G)[i]? = some (mkR n (G i)) := by simp [mkC, h]
theorem mkR_at {n : Nat} (g : Nat → Int) {i : Nat} (h : i < n) : (mkR n g)[i]? = some (g i) := by simp [mkR, h]
theorem mkR_len (n : Nat) (g : Nat → Int) : (mkR n g).length = n := by simp [mkR]
theorem mkC_len (su n : Nat) (G : Nat → Nat → Int) : (mkC su n G).length = su := by simp [mkC]
theorem mkC_set {su n : Nat} (G : Nat → Nat → Int) {j t : Nat} (v : Int) (hj : j < su) (ht : t < n) : (mkC su n G).set j ((mkR n (G j)).set t v) = mkC su n (updG G j t v) := by
 apply List.ext_getElem?
 intro i
 rw [List.getElem?_set]
 by_cases hi : i < su
 · rw [mkC_at _ hi, mkC_at _ hi]
   by_cases hp : j = i
   · subst hp
     rw [if_pos rfl, if_pos (by rw [mkC_len]; exact hj), Option.some.injEq]
     apply List.ext_getElem?
     intro k
     rw [List.getElem?_set]
     by_cases hk : k < n
     · rw [mkR_at _ hk, mkR_at _ hk, updG_at]
       by_cases ht2 : t = k
       · subst ht2; rw [if_pos rfl, if_pos (by rw [mkR_len]; exact ht), if_pos ⟨rfl, rfl⟩]
       · rw [if_neg ht2, if_neg (fun e => ht2 e.2.symm)]
     · rw [List.getElem?_eq_none (by rw [mkR_len]; omega), List.getElem?_eq_none (by rw [mkR_len]; omega)]
       split
       · rw [if_neg (by rw [mkR_len]; omega)]
       · rfl
   · rw [if_neg hp]
     have : updG G j t v i = G i := by
      funext k; rw [updG_at, if_neg (fun e => hp e.1.symm)]
     rw [this]
 · rw [List.getElem?_eq_none (by rw [mkC_len]; omega), List.getElem?_eq_none (by rw [mkC_len]; omega)]
   split
   · rw [if_neg (by rw [mkC_len]; omega)]
   · rfl
structure MG (m n su : Nat) (S : List Value) (a : GA) (s : Gs) (w : World) : Prop where
 sc : w.heap[a.sc]? = some (.cells S.toArray 34 (0, 0))
 sb : w.heap[a.sb]? = some (.cells #[.slice (some ⟨a.se, 0, none⟩) n a.sec] 167 (0, 0))
 lb : w.heap[a.lb]? = some (.cells #[.slice (some ⟨a.lo, 0, none⟩) n a.loc] 36 (0, 0))
 gb : w.heap[a.gb]? = some (.cells #[.slice (some ⟨a.y.o, 0, none⟩) su a.y.c] 22 (0, 0))
 kb : w.heap[a.kb]? = some (.cells #[a.fn] 127 (0, 0))
 se : w.ownsRow 0 4 1 (.slice (some ⟨a.se, 0, none⟩) n a.sec) n (tbB n s.seen)
 lo : w.ownsRow 0 3 1 (.slice (some ⟨a.lo, 0, none⟩) n a.loc) n (tbV n s.load)
 gi : TbIn m n a.y (mkC su n s.G) w
def MW (w0 : World) (n su : Nat) (S : List Value) (a : GA) (s : Gs) (w : World) : Prop := Below w0.heap.size w0 w ∧ MG w0.heap.size n su S a s w
theorem own_cells {w : World} {b n c sz ty : Nat} {xs : List Value} (h : w.ownsRow 0 ty sz (.slice (some ⟨b, 0, none⟩) n c) n xs) : ∃ cs ty fr, w.heap[b]? = some (.cells cs ty fr) := by
 obtain ⟨c, hc⟩ := own_heap h
 exact ⟨_, _, _, hc⟩
theorem MG.dl {m n su : Nat} {S : List Value} {a : GA} {s : Gs} {w : World} (h : MG m n su S a s w) : a.y.D.length = su := by
 have := h.gi.l; rw [mkC_len] at this; exact this.symm
theorem MG.row {m n su : Nat} {S : List Value} {a : GA} {s : Gs} {w : World} (h : MG m n su S a s w) {b : Nat} (hb : b ∈ a.rows) : ∃ (i : Nat) (p : Nat × Nat), i < su ∧ a.y.D[i]? = some p ∧ p.1 = b := by
 obtain ⟨p, hp, rfl⟩ := List.mem_map.1 hb
 obtain ⟨i, hi⟩ := List.mem_iff_getElem?.1 hp
 refine ⟨i, p, ?_, hi, rfl⟩
 rw [← h.dl]; exact (List.getElem?_eq_some_iff.1 hi).1
theorem MG.cells {m n su : Nat} {S : List Value} {a : GA} {s : Gs} {w : World} (h : MG m n su S a s w) {b : Nat} (hb : a.Q b) : ∃ cs ty fr, w.heap[b]? = some (.cells cs ty fr) := by
 rcases hb with (rfl | rfl | hb) | rfl | rfl | rfl | rfl | rfl | rfl
 · exact own_cells h.se
 · exact own_cells h.lo
 · obtain ⟨i, p, hi, hp, rfl⟩ := h.row hb
   exact own_cells (h.gi.r i p _ hp (mkC_at s.G hi))
 · exact ⟨_, _, _, h.sc⟩
 · exact ⟨_, _, _, h.sb⟩
 · exact ⟨_, _, _, h.lb⟩
 · exact ⟨_, _, _, h.gb⟩
 · exact ⟨_, _, _, h.kb⟩
 · exact own_cells h.gi.h
theorem MG.keep {m n su : Nat} {S : List Value} {a : GA} {s : Gs} {w w2 : World} (h : MG m n su S a s w) (hs : ∀ b, a.Q b → w2.heap[b]? = w.heap[b]?) : MG m n su S a s w2 := by
 have hr : ∀ p ∈ a.y.D, a.Q p.1 := fun p hp => .inl (.inr (.inr (List.mem_map_of_mem hp)))
 refine ⟨(hs _ (by simp [GA.Q])).trans h.sc, (hs _ (by simp [GA.Q])).trans h.sb, (hs _ (by simp [GA.Q])).trans h.lb, (hs _ (by simp [GA.Q])).trans h.gb, (hs _ (by simp [GA.Q])).trans h.kb, own_keep h.se (hs _ (.inl (.inl rfl))), own_keep h.lo (hs _ (.inl (.inr (.inl rfl)))), ?_⟩
 exact ⟨h.gi.l, h.gi.n, own_keep h.gi.h (hs _ (by simp [GA.Q])), fun i p xs h1 h2 => own_keep (h.gi.r i p xs h1 h2) (hs _ (hr p (List.mem_of_getElem? h1))), h.gi.d, h.gi.a, h.gi.m⟩
theorem below_chg {w0 w w2 : World} {Q : Nat → Prop} (h : Below w0.heap.size w0 w) (hc : Chg (fun b => ¬ (b < w0.heap.size ∨ Q b)) w w2) : Below w0.heap.size w0 w2 :=
 ⟨hc.os.trans h.os, hc.tape.trans h.tape, hc.output.trans h.output, Nat.le_trans h.size hc.size, fun b hb => (hc.same b (Nat.lt_of_lt_of_le hb h.size) fun hn => hn (.inl hb)).trans (h.block b hb)⟩
theorem MW.dep {w0 : World} {n su : Nat} {S : List Value} {a : GA} {s : Gs} {w w2 : World} (h : MW w0 n su S a s w) (hc : Chg (fun b => ¬ (b < w0.heap.size ∨ a.Q b)) w w2) : MW w0 n su S a s w2 := by
 refine ⟨below_chg h.1 hc, h.2.keep fun b hb => ?_⟩
 obtain ⟨cs, ty, fr, h1⟩ := h.2.cells hb
 exact hc.same b (Array.getElem?_eq_some_iff.1 h1).1 fun hn => hn (.inr hb)
theorem own_atS {w : World} {b n c ty : Nat} {xs : List Value} (h : w.ownsRow 0 ty 1 (.slice (some ⟨b, 0, none⟩) n c) n xs) {j : Nat} (hj : j < n) : (∃ cs ty fr, w.heap[b]? = some (.cells cs ty fr) ∧ j < cs.size) ∧ w.frozen? ⟨b, j, none⟩ = false := by
 have q3 := h
 obtain ⟨e1, (⟨h1, _⟩ | ⟨g, cap, cur, h1, _, h2, h3, _, h4, h5⟩)⟩ := h
 · cases h1
 · simp only [Value.slice.injEq, Option.some.injEq, Addr.mk.injEq] at h1
   obtain ⟨⟨rfl, _⟩, _⟩ := h1
   refine ⟨⟨cur, _, _, h2, ?_⟩, World.ownsRow.frozenAt q3 j⟩
   have h3 : n ≤ _ := h3
   omega
theorem chg_set {F : Nat → Prop} {w w2 : World} {ad : Addr} {v : Value} (h : Chg F w w2) (hn : F ad.block) : Chg F w (w2.setCell ad v) := by
 have h3 : (w2.setCell ad v).heap.size = w2.heap.size := setCell_size
 exact ⟨h.os, h.tape, h.output, by rw [h3]; exact h.size, fun b hb hF => (setCell_other (fun e => hF (by rw [e]; exact hn))).trans (h.same b hb hF)⟩
theorem chg_trans {F : Nat → Prop} {w w1 w2 : World} (h : Chg F w w1) (h2 : Chg F w1 w2) : Chg F w w2 :=
 ⟨h2.os.trans h.os, h2.tape.trans h.tape, h2.output.trans h.output, Nat.le_trans h.size h2.size, fun b hb hF => (h2.same b (Nat.lt_of_lt_of_le hb h.size) hF).trans (h.same b hb hF)⟩
theorem chg_dep {F Q : Nat → Prop} {w w1 w2 : World} (h : Chg F w w1) (hc : Chg (fun b => ¬ ((b < w.heap.size ∧ ¬ F b) ∨ Q b)) w1 w2) : Chg F w w2 :=
 ⟨hc.os.trans h.os, hc.tape.trans h.tape, hc.output.trans h.output, Nat.le_trans h.size hc.size, fun b hb hF => (hc.same b (Nat.lt_of_lt_of_le hb h.size) fun hn => hn (.inl ⟨hb, hF⟩)).trans (h.same b hb hF)⟩
theorem MW.dep2 {w0 wb : World} {n su : Nat} {S : List Value} {a : GA} {s : Gs} {w w2 : World} (h : MW w0 n su S a s w) (ha : a.Ok w0.heap.size) (hle : w0.heap.size ≤ wb.heap.size) (hc : Chg (fun b => ¬ ((b < wb.heap.size ∧ ¬ a.W b) ∨ a.Q b)) w w2) : MW w0 n su S a s w2 :=
 h.dep ⟨hc.os, hc.tape, hc.output, hc.size, fun b hb hn => hc.same b hb fun hn2 => hn fun h3 => hn2 (by
  rcases h3 with h3 | h3
  · by_cases hW : a.W b
    · exact .inr (.inl hW)
    · exact .inl ⟨by omega, hW⟩
  · exact .inr h3)⟩
section
variable {w0 : World} {n su : Nat} {S : List Value} {a : GA} {s : Gs} {w : World}
theorem MW.mark (ha : a.Ok w0.heap.size) (h : MW w0 n su S a s w) {t : Nat} (ht : t < n) : MW w0 n su S a (markG s t) (w.setCell ⟨a.se, t, none⟩ (.bool true)) := by
 obtain ⟨hb, h⟩ := h
 have e := ha.e1 a.se (.inl rfl)
 refine ⟨below_set hb ha.se, ?_⟩
 have ho : ∀ b, b ≠ a.se → (w.setCell ⟨a.se, t, none⟩ (.bool true)).heap[b]? = w.heap[b]? := fun b hb => setCell_other hb
 refine ⟨(ho _ e.1.symm).trans h.sc, (ho _ e.2.1.symm).trans h.sb, (ho _ e.2.2.1.symm).trans h.lb, (ho _ e.2.2.2.1.symm).trans h.gb, (ho _ e.2.2.2.2.1.symm).trans h.kb, ?_, own_keep h.lo (ho _ ha.e2.symm), ?_⟩
 · have := (World.ownsRow.stored h.se t (.bool true)).1
   rw [tbB_set _ _ ht] at this
   exact this
 · exact ⟨h.gi.l, h.gi.n, own_keep h.gi.h (ho _ e.2.2.2.2.2.symm), fun i p xs h1 h2 => own_keep (h.gi.r i p xs h1 h2) (ho _ fun he => ha.e3 (he ▸ List.mem_map_of_mem (List.mem_of_getElem? h1))), h.gi.d, h.gi.a, h.gi.m⟩
theorem MW.load (ha : a.Ok w0.heap.size) (h : MW w0 n su S a s w) {t : Nat} (ht : t < n) (v : Int) : MW w0 n su S a ⟨s.seen, fun k => if k = t then v else s.load k, s.G⟩ (w.setCell ⟨a.lo, t, none⟩ (iv v)) := by
 obtain ⟨hb, h⟩ := h
 have e := ha.e1 a.lo (.inr (.inl rfl))
 refine ⟨below_set hb ha.lo, ?_⟩
 have ho : ∀ b, b ≠ a.lo → (w.setCell ⟨a.lo, t, none⟩ (iv v)).heap[b]? = w.heap[b]? := fun b hb => setCell_other hb
 refine ⟨(ho _ e.1.symm).trans h.sc, (ho _ e.2.1.symm).trans h.sb, (ho _ e.2.2.1.symm).trans h.lb, (ho _ e.2.2.2.1.symm).trans h.gb, (ho _ e.2.2.2.2.1.symm).trans h.kb, own_keep h.se (ho _ ha.e2), ?_, ?_⟩
 · have := (World.ownsRow.stored h.lo t (iv v)).1
   rw [tbV_set1 _ _ ht] at this
   exact this
 · exact ⟨h.gi.l, h.gi.n, own_keep h.gi.h (ho _ e.2.2.2.2.2.symm), fun i p xs h1 h2 => own_keep (h.gi.r i p xs h1 h2) (ho _ fun he => ha.e4 (he ▸ List.mem_map_of_mem (List.mem_of_getElem? h1))), h.gi.d, h.gi.a, h.gi.m⟩
theorem MW.give (ha : a.Ok w0.heap.size) (h : MW w0 n su S a s w) {j t : Nat} (hj : j < su) (ht : t < n) {p : Nat × Nat} (hp : a.y.D[j]? = some p) (v : Int) : MW w0 n su S a ⟨s.seen, s.load, updG s.G j t v⟩ (w.setCell ⟨p.1, t, none⟩ (iv v)) := by
 obtain ⟨hb, h⟩ := h
 have hr : p.1 ∈ a.rows := List.mem_map_of_mem (List.mem_of_getElem? hp)
 have e := ha.e1 p.1 (.inr (.inr hr))
 have ho : ∀ b, b ≠ p.1 → (w.setCell ⟨p.1, t, none⟩ (iv v)).heap[b]? = w.heap[b]? := fun b hb => setCell_other hb
 refine ⟨below_set hb (h.gi.a p (List.mem_of_getElem? hp)).1, (ho _ e.1.symm).trans h.sc, (ho _ e.2.1.symm).trans h.sb, (ho _ e.2.2.1.symm).trans h.lb, (ho _ e.2.2.2.1.symm).trans h.gb, (ho _ e.2.2.2.2.1.symm).trans h.kb, own_keep h.se (ho _ fun he => ha.e3 (he ▸ hr)), own_keep h.lo (ho _ fun he => ha.e4 (he ▸ hr)), ?_⟩
 rw [← mkC_set s.G v hj ht]
 exact h.gi.set hp (mkC_at s.G hj) ht
end
end Go.Proofs.YtkbfcofifhngfaaGreat
namespace Go.Proofs.YtkbfcofifhngfaaGreat.Tx
open Go Go.RowKit
theorem calls_h {P : Program} (T : Env P) (hm : P.follows .mixedOrders = true) {k : Nat} {fn : Func} {c : Code} (hfn : P.funcs[k]? = some fn) (hb : fn.body = some c) {nt : Nat} (hnt : fn.ntmps = nt) (args : List Value)
 (hlen : args.length ≤ nt) {w : World} {v : Value} (h0 : World → Prop) {Q : World → Prop} (hst : ∀ w', Chg (fun b => ¬ b < w.heap.size) w w' → h0 w')
 (hvc : VC P c ⟨nt, slotsOf 0 (args.map .v), [], 0, h0, z0⟩ (endΦ T fn fun s σ => (∀ β, s.c β = v) ∧ ∀ w', σ.h w' → Q w')) :
 Calls P k args.toArray w fun e w' => e = .returned v ∧ Q w' := by
 have hm0 : Mem ⟨nt, slotsOf 0 (args.map .v), [], 0, h0, z0⟩ (fun _ => 0) (fun b => b < w.heap.size) w :=
  ⟨fun i b h => (by simp [lk] at h), fun i j bi bj h => (by simp [lk] at h), fun i b h => (by simp [lk] at h), fun b h => h, hst⟩
 have h1 := calls_VC T hm hfn hb hnt (args := args.map .v) (m0 := []) (nb0 := 0) (h := h0) (K := fun s σ => (∀ β, s.c β = v) ∧ ∀ w', σ.h w' → Q w') (by simpa using hlen) (lts_v _ _) (fun i b h => by simp [lk] at h) (fun k s h => by simp [z0, lk] at h) hvc cx0 (amb0 _ _ _) hm0
 rw [cs_v] at h1
 exact h1.mono fun e w' ⟨s, σ', β', D', he, hv, _, _, hmem, _⟩ => ⟨by rw [he, hv.1 β'], hv.2 w' (hmem.h w' (Chg.refl _ _))⟩
end Go.Proofs.YtkbfcofifhngfaaGreat.Tx
namespace Go.Proofs.YtkbfcofifhngfaaGreat
open Go Tx Go.RowKit
theorem box_at {w : World} {b ty : Nat} {cs : List Value} (h : w.heap[b]? = some (.cells cs.toArray ty (0, 0))) (o : Nat) (vs : List Value) (hv : ∀ (q : Nat) (z : Value), vs[q]? = some z → cs[o + q]? = some z) :
 ∀ (q : Nat) (z : Value), vs[q]? = some z → w.cell? (((⟨b, 0, none⟩ : Addr).add o).add q) = some z := fun q z hq => by
 rw [own_add, own_add, Nat.zero_add]
 have := hv q z hq
 simp only [World.cell?, h]
 simpa using this
theorem box_at0 {w : World} {b ty : Nat} {cs : List Value} (h : w.heap[b]? = some (.cells cs.toArray ty (0, 0))) (vs : List Value) (hv : ∀ (q : Nat) (z : Value), vs[q]? = some z → cs[q]? = some z) :
 ∀ (q : Nat) (z : Value), vs[q]? = some z → w.cell? ((⟨b, 0, none⟩ : Addr).add q) = some z := fun q z hq => by
 rw [own_add, Nat.zero_add]
 have := hv q z hq
 simp only [World.cell?, h]
 simpa using this
theorem own_at1 {w : World} {b n c ty : Nat} {xs : List Value} (h : w.ownsRow 0 ty 1 (.slice (some ⟨b, 0, none⟩) n c) n xs) (t : Nat) {v : Value} (hv : xs[t]? = some v) :
 ∀ q z, [v][q]? = some z → w.cell? (((⟨b, 0, none⟩ : Addr).add ((t : Int).toNat * 1)).add q) = some z := fun q z hq => by
 match q, hq with
 | 0, hq =>
  have hq : some v = some z := hq
  cases hq
  have := h.cells (g := b) rfl t v hv
  rw [own_add, Nat.zero_add] at this
  rw [own_add, own_add, Int.toNat_natCast, Nat.mul_one, Nat.zero_add]
  exact this
theorem mkR_fm (n : Nat) (g : Nat → Int) : (mkR n g).flatMap iF = tbV n g := by
 unfold mkR tbV
 rw [List.flatMap_map]
 simp only [iF]
 induction List.range n with
 | nil => rfl
 | cons a l ih => rw [List.flatMap_cons, ih]; rfl
theorem Time_ok (sl ro su : Int) (go to : Option Addr) (gn gc tn tc : Nat) (o : Option Addr) (n c : Nat) (hh : Int) (w : World) :
 Calls Tryz.prog 128 #[.agg #[iv sl, iv ro, iv su, .slice go gn gc, .slice to tn tc], .agg #[.slice o n c, iv hh]] w fun e w' => e = .returned (iv (imin hh sl)) ∧ Below w.heap.size w w' := by
 refine calls_val env mixed Tryz.func128 has128 Tryz.ntmps128 [.agg #[iv sl, iv ro, iv su, .slice go gn gc, .slice to tn tc], .agg #[.slice o n c, iv hh]] (by simp) ?_
 repeat'
  conv => whnf
  first
   |refine zB ?_
 all_goals first | exact ⟨fun β => rfl, fun w' h => h⟩
theorem GOK.bd {D : SD} {s : Gs} (h : GOK D s) {t i : Nat} (ht : t < D.T.length) (hi : i < D.su.toNat) : 0 ≤ s.G i t ∧ s.G i t ≤ tmB D t := by
 have h1 := h.ld t ht
 have h2 := h.tm t ht
 have h3 : s.G i t ≤ sumN (fun i => s.G i t) D.su.toNat := sumN_ge (f := fun i => s.G i t) (fun k hk => h.nn t ht k hk) hi
 exact ⟨h.nn t ht i hi, by omega⟩
theorem grow_ok (s : Sc) (su : Nat) (hsu : s.su = su) (w0 : World) (a : GA) (ha : a.Ok w0.heap.size) (hs : ScIn s w0) (hB : ScB s) (hv : scOk s.d = true) : ∀ (f : Nat) (st : Gs) (j : Nat) (w : World),
 j < su → GOK s.d st → unS st s.T.length < f → MW w0 s.T.length su [iv s.sl, iv s.ro, iv s.su, .slice s.go s.G.length s.gc, .slice s.to s.T.length s.tc] a st w →
 Calls Tryz.prog 126 #[iv j, pt a.sc, pt a.sb, pt a.lb, pt a.gb, pt a.kb] w fun e w' => e = .returned (.bool (growF s.d f j st).1) ∧ MW w0 s.T.length su [iv s.sl, iv s.ro, iv s.su, .slice s.go s.G.length s.gc, .slice s.to s.T.length s.tc] a (growF s.d f j st).2 w' ∧ Chg a.W w w' := by
 obtain ⟨sl, ro, su', go, gc, G, to, tc, T⟩ := s
 dsimp only at hsu
 subst hsu
 intro f
 induction f with
 | zero => intro st j w _ _ h; exact absurd h (by omega)
 | succ f ih =>
  intro st j w hj hok hun hw
  dsimp only [Sc.d] at hv hok ih hw ⊢
  have htea := fun (t : List Int × Int) (ht : t ∈ (⟨sl, ro, (su : Int), G.map Rw.xs, T.map Tc.d⟩ : SD).T) => tea_at hv ht
  obtain ⟨hv1, hv2, hv3, hv4, hv5, hv6, hv7⟩ := scOk_iff.1 hv
  have hsp := grow_sp (D := (⟨sl, ro, (su : Int), G.map Rw.xs, T.map Tc.d⟩ : SD)) f
  have hDl : (⟨sl, ro, (su : Int), G.map Rw.xs, T.map Tc.d⟩ : SD).T.length = T.length := by simp
  have hDsu : (⟨sl, ro, (su : Int), G.map Rw.xs, T.map Tc.d⟩ : SD).su.toNat = su := by simp
  rw [hDl, hDsu] at hsp
  have hb4 := hB.h
  obtain ⟨hg, hr, ht, hh⟩ := hs
  dsimp only at hv1 hv5 hv3 ht hh hb4
  rw [List.length_map] at hv5
  dsimp only at hun
  generalize hSS : [iv sl, iv ro, iv su, .slice go G.length gc, .slice to T.length tc] = SS at *
  refine calls_h env mixed Tryz.func126 has126 Tryz.ntmps126 [iv j, pt a.sc, pt a.sb, pt a.lb, pt a.gb, pt a.kb] (by simp) (fun w' => MW w0 T.length su SS a (st) w' ∧ Chg a.W w w') (fun w' hc => ⟨hw.dep ⟨hc.os, hc.tape, hc.output, hc.size, fun b hb hn => hc.same b hb fun h => absurd hb h⟩, ⟨hc.os, hc.tape, hc.output, hc.size, fun b hb hn => hc.same b hb fun h => h hb⟩⟩) ?_
  have hmi := imin_eq
  have hsp1 : ∀ (b q : Nat), ((⟨b, 0, none⟩ : Addr).add q).spot = none := fun b q => by rw [own_add]
  have had : ∀ (b : Nat) (t : Nat), (⟨b, 0, none⟩ : Addr).add ((t : Int).toNat * 1) = ⟨b, t, none⟩ := fun b t => by rw [own_add, Int.toNat_natCast, Nat.mul_one, Nat.zero_add]
  have eT : ∀ (c : Gs) w', (MW w0 T.length su SS a (c) w' ∧ Chg a.W w w') → ∀ q z, [Value.slice to T.length tc][q]? = some z → w'.cell? (((⟨a.sc, 0, none⟩ : Addr).add 4).add q) = some z := fun c w' hw' => box_at hw'.1.2.sc 4 _ (fun q z hq => by subst hSS; match q, hq with | 0, hq => exact hq)
  have eS : ∀ (c : Gs) w', (MW w0 T.length su SS a (c) w' ∧ Chg a.W w w') → ∀ q z, SS[q]? = some z → w'.cell? ((⟨a.sc, 0, none⟩ : Addr).add q) = some z := fun c w' hw' => box_at0 hw'.1.2.sc _ (fun q z hq => hq)
  have eSB : ∀ (c : Gs) w', (MW w0 T.length su SS a (c) w' ∧ Chg a.W w w') → ∀ q z, [Value.slice (some ⟨a.se, 0, none⟩) T.length a.sec][q]? = some z → w'.cell? ((⟨a.sb, 0, none⟩ : Addr).add q) = some z := fun c w' hw' => box_at0 hw'.1.2.sb _ (fun q z hq => hq)
  have eLB : ∀ (c : Gs) w', (MW w0 T.length su SS a (c) w' ∧ Chg a.W w w') → ∀ q z, [Value.slice (some ⟨a.lo, 0, none⟩) T.length a.loc][q]? = some z → w'.cell? ((⟨a.lb, 0, none⟩ : Addr).add q) = some z := fun c w' hw' => box_at0 hw'.1.2.lb _ (fun q z hq => hq)
  have eGB : ∀ (c : Gs) w', (MW w0 T.length su SS a (c) w' ∧ Chg a.W w w') → ∀ q z, [Value.slice (some ⟨a.y.o, 0, none⟩) su a.y.c][q]? = some z → w'.cell? ((⟨a.gb, 0, none⟩ : Addr).add q) = some z := fun c w' hw' => box_at0 hw'.1.2.gb _ (fun q z hq => hq)
  have eKB : ∀ (c : Gs) w', (MW w0 T.length su SS a (c) w' ∧ Chg a.W w w') → ∀ q z, [a.fn][q]? = some z → w'.cell? ((⟨a.kb, 0, none⟩ : Addr).add q) = some z := fun c w' hw' => box_at0 hw'.1.2.kb _ (fun q z hq => hq)
  have eSE : ∀ (c : Gs) (t : Nat), t < T.length → ∀ w', (MW w0 T.length su SS a (c) w' ∧ Chg a.W w w') → ∀ q z, [Value.bool (c.seen t)][q]? = some z → w'.cell? (((⟨a.se, 0, none⟩ : Addr).add ((t : Int).toNat * 1)).add q) = some z := fun c t htl w' hw' => own_at1 hw'.1.2.se t (tbB_at _ htl)
  have eLO : ∀ (c : Gs) (t : Nat), t < T.length → ∀ w', (MW w0 T.length su SS a (c) w' ∧ Chg a.W w w') → ∀ q z, [iv (c.load t)][q]? = some z → w'.cell? (((⟨a.lo, 0, none⟩ : Addr).add ((t : Int).toNat * 1)).add q) = some z := fun c t htl w' hw' => own_at1 hw'.1.2.lo t (tbV_at _ htl)
  have eGR : ∀ (c : Gs) (i : Nat) (p : Nat × Nat), a.y.D[i]? = some p → ∀ w', (MW w0 T.length su SS a (c) w' ∧ Chg a.W w w') → ∀ q z, [Value.slice (some ⟨p.1, 0, none⟩) T.length p.2][q]? = some z → w'.cell? (((⟨a.y.o, 0, none⟩ : Addr).add ((i : Int).toNat * 1)).add q) = some z := fun c i p hp w' hw' => own_at1 hw'.1.2.gi.h i (by rw [List.getElem?_map, hp]; rfl)
  have eGI : ∀ (c : Gs) (i t : Nat) (p : Nat × Nat), a.y.D[i]? = some p → i < su → t < T.length → ∀ w', (MW w0 T.length su SS a (c) w' ∧ Chg a.W w w') → ∀ q z, [iv (c.G i t)][q]? = some z → w'.cell? (((⟨p.1, 0, none⟩ : Addr).add ((t : Int).toNat * 1)).add q) = some z := fun c i t p hp hi htl w' hw' => own_at1 (hw'.1.2.gi.r i p _ hp (mkC_at c.G hi)) t (by rw [mkR_fm, tbV_at _ htl])
  have sSE : ∀ (c : Gs) (t : Nat), t < T.length → ∀ w', (MW w0 T.length su SS a (c) w' ∧ Chg a.W w w') → MW w0 T.length su SS a (markG c t) (w'.setCell ((⟨a.se, 0, none⟩ : Addr).add ((t : Int).toNat * 1)) (.bool true)) ∧ Chg a.W w (w'.setCell ((⟨a.se, 0, none⟩ : Addr).add ((t : Int).toNat * 1)) (.bool true)) := fun c t htl w' hw' => by rw [had]; exact ⟨hw'.1.mark ha htl, chg_set hw'.2 (.inl rfl)⟩
  have sLO : ∀ (c : Gs) (t : Nat) (v : Int), t < T.length → ∀ w', (MW w0 T.length su SS a (c) w' ∧ Chg a.W w w') → MW w0 T.length su SS a ⟨c.seen, fun k => if k = t then v else c.load k, c.G⟩ (w'.setCell ((⟨a.lo, 0, none⟩ : Addr).add ((t : Int).toNat * 1)) (iv v)) ∧ Chg a.W w (w'.setCell ((⟨a.lo, 0, none⟩ : Addr).add ((t : Int).toNat * 1)) (iv v)) := fun c t v htl w' hw' => by rw [had]; exact ⟨hw'.1.load ha htl v, chg_set hw'.2 (.inr (.inl rfl))⟩
  have sGI : ∀ (c : Gs) (i t : Nat) (p : Nat × Nat) (v : Int), a.y.D[i]? = some p → i < su → t < T.length → ∀ w', (MW w0 T.length su SS a (c) w' ∧ Chg a.W w w') → MW w0 T.length su SS a ⟨c.seen, c.load, updG c.G i t v⟩ (w'.setCell ((⟨p.1, 0, none⟩ : Addr).add ((t : Int).toNat * 1)) (iv v)) ∧ Chg a.W w (w'.setCell ((⟨p.1, 0, none⟩ : Addr).add ((t : Int).toNat * 1)) (iv v)) := fun c i t p v hp hi htl w' hw' => by rw [had]; exact ⟨hw'.1.give ha hi htl hp v, chg_set hw'.2 (.inr (.inr (List.mem_map_of_mem (List.mem_of_getElem? hp))))⟩
  have aSE : ∀ (c : Gs) (t : Nat), t < T.length → ∀ w', (MW w0 T.length su SS a (c) w' ∧ Chg a.W w w') → (∃ cs ty fr, w'.heap[((⟨a.se, 0, none⟩ : Addr).add ((t : Int).toNat * 1)).block]? = some (.cells cs ty fr) ∧ ((⟨a.se, 0, none⟩ : Addr).add ((t : Int).toNat * 1)).off < cs.size) ∧ w'.frozen? ((⟨a.se, 0, none⟩ : Addr).add ((t : Int).toNat * 1)) = false := fun c t htl w' hw' => by rw [had]; exact own_atS hw'.1.2.se htl
  have aLO : ∀ (c : Gs) (t : Nat), t < T.length → ∀ w', (MW w0 T.length su SS a (c) w' ∧ Chg a.W w w') → (∃ cs ty fr, w'.heap[((⟨a.lo, 0, none⟩ : Addr).add ((t : Int).toNat * 1)).block]? = some (.cells cs ty fr) ∧ ((⟨a.lo, 0, none⟩ : Addr).add ((t : Int).toNat * 1)).off < cs.size) ∧ w'.frozen? ((⟨a.lo, 0, none⟩ : Addr).add ((t : Int).toNat * 1)) = false := fun c t htl w' hw' => by rw [had]; exact own_atS hw'.1.2.lo htl
  have aGI : ∀ (c : Gs) (i t : Nat) (p : Nat × Nat), a.y.D[i]? = some p → i < su → t < T.length → ∀ w', (MW w0 T.length su SS a (c) w' ∧ Chg a.W w w') → (∃ cs ty fr, w'.heap[((⟨p.1, 0, none⟩ : Addr).add ((t : Int).toNat * 1)).block]? = some (.cells cs ty fr) ∧ ((⟨p.1, 0, none⟩ : Addr).add ((t : Int).toNat * 1)).off < cs.size) ∧ w'.frozen? ((⟨p.1, 0, none⟩ : Addr).add ((t : Int).toNat * 1)) = false := fun c i t p hp hi htl w' hw' => by rw [had]; exact own_atS (hw'.1.2.gi.r i p _ hp (mkC_at c.G hi)) htl
  have hDl2 : (⟨sl, ro, (su : Int), G.map Rw.xs, T.map Tc.d⟩ : SD).T.length = T.length := hDl
  have hDT : ∀ t : Nat, (⟨sl, ro, (su : Int), G.map Rw.xs, T.map Tc.d⟩ : SD).T[t]? = (T[t]?).map Tc.d := fun t => by simp
  have hDs : (⟨sl, ro, (su : Int), G.map Rw.xs, T.map Tc.d⟩ : SD).sl = sl := rfl
  change ∀ (st : Gs) (j : Nat) (w : World), _ at ih
  generalize hD : (⟨sl, ro, (su : Int), G.map Rw.xs, T.map Tc.d⟩ : SD) = D at *
  have hdlen : a.y.D.length = su := hw.2.dl
  have hroot : outF (growF D f) D j T.length 0 st = growF D (f + 1) j st := by rw [growF, hDl]
  generalize hR : growF D (f + 1) j st = R at *
  refine VC.of env mixed ?_
  repeat'
   conv => whnf
   first
    |refine zB ?_
    |refine eL [.slice to T.length tc] ⟨⟨rfl, fun w' hw' => eT _ w' hw'⟩, ?_⟩
  refine loopH 0 (fun x : Nat × Gs => [(0, .v (iv j)), (1, .v (pt a.sc)), (2, .v (pt a.sb)), (3, .v (pt a.lb)), (4, .v (pt a.gb)), (5, .v (pt a.kb)), (12, .v (.slice to T.length tc)), (13, .v (iv T.length)), (14, .v (iv x.1))]) (fun _ => []) (fun x w' => MW w0 T.length su SS a (x.2) w' ∧ Chg a.W w w') (fun x => x.1 ≤ T.length ∧ Keeps st x.2 ∧ GOK D x.2 ∧ unS x.2 T.length < f + 1 ∧ outF (growF D f) D j (T.length - x.1) x.1 x.2 = R) (fun x => T.length - x.1) (0, st) ⟨Nat.zero_le _, Keeps.refl _, hok, hun, hroot⟩ ⟨rfl, rfl, rfl, rfl, rfl, rfl, rfl, rfl, rfl, trivial⟩ trivial (fun _ h => h) (fun _ _ => ⟨rfl, rfl⟩) ?_
  intro ⟨t, c⟩ ⟨htn, hkc, hokc, hunc, hrest⟩
  dsimp only at htn hkc hokc hunc hrest ⊢
  rcases Nat.lt_or_ge t T.length with htl | htl
  · obtain ⟨⟨ro', rc, xs, hh'⟩, hx⟩ : ∃ b, T[t]? = some b := ⟨_, List.getElem?_eq_getElem htl⟩
    obtain ⟨_, ad, rfl, _⟩ := ht.ptr (by omega)
    have e0 := fun (w' : World) hw' => rd_ati (ht.below (w' := w') hw') hx
    have hrr := hh _ (List.mem_of_getElem? hx)
    have hrb := hb4 _ (List.mem_of_getElem? hx)
    change Rd 1 iF (.slice ro' xs.length rc) xs w0 at hrr
    change xs.length ≤ 1000000 at hrb
    have hDt : D.T[t]? = some (xs, hh') := by rw [hDT, hx]; rfl
    have h5 := htea _ (List.mem_of_getElem? hDt)
    have hgD : D.T.getD t ([], 0) = (xs, hh') := by rw [List.getD_eq_getElem?_getD, hDt]; rfl
    have hteq : teachB D t j = xs.contains (j : Int) := by unfold teachB; rw [hgD]
    have htmq : tmB D t = min hh' sl := by unfold tmB timeP; rw [hgD, hDs]
    unfold timeP at h5
    rw [hDs] at h5
    dsimp only at h5
    have c127 := fun (w' : World) (hb : Below w0.heap.size w0 w') => Contains_ok xs ro' rc j w' (hrr.below hb) hrb
    have hk1 : T.length - t = (T.length - (t + 1)) + 1 := by omega
    rw [hk1, outF, hteq, htmq] at hrest
    cases hse : c.seen t with
    | true =>
     rw [hse, Bool.true_or, if_pos rfl] at hrest
     have eSE1 := eSE c t htl
     rw [hse] at eSE1
     repeat'
      conv => whnf
      first
       |refine zC ?_|refine zF ?_|refine zG ?_|refine splT ?_
       |(refine splD ?_ ?_ <;> intro hc <;> first|(exfalso; omega)|skip)
       |refine eL [.slice ro' xs.length rc, iv hh'] ⟨⟨rfl, fun w' hw' => e0 w' hw'.1.1⟩, ?_⟩
       |refine eL [.slice (some ⟨a.se, 0, none⟩) T.length a.sec] ⟨⟨rfl, fun w' hw' => eSB _ w' hw'⟩, ?_⟩
       |refine eL [.bool true] ⟨⟨rfl, fun w' hw' => eSE1 w' hw'⟩, ?_⟩
     all_goals exact ⟨(t + 1, c), ⟨by dsimp only; omega, hkc, hokc, hunc, hrest⟩, by dsimp only; omega, Ent.weak rfl ⟨rfl, rfl, rfl, rfl, rfl, rfl, rfl, rfl, rfl, trivial⟩ trivial fun _ h => h⟩
    | false =>
     have eSE1 := eSE c t htl
     rw [hse] at eSE1
     cases hct : xs.contains (j : Int) with
     | false =>
      rw [hse, hct, if_pos (show (false || !false) = true from rfl)] at hrest
      rw [hct] at c127
      repeat'
       conv => whnf
       first
        |refine zB ?_|refine zC ?_|refine zD ?_|refine zF ?_|refine zG ?_|refine splT ?_|refine splF ?_
        |(refine splD ?_ ?_ <;> intro hc <;> first|(exfalso; omega)|skip)
        |refine eL [.slice ro' xs.length rc, iv hh'] ⟨⟨rfl, fun w' hw' => e0 w' hw'.1.1⟩, ?_⟩
        |refine eL [.slice (some ⟨a.se, 0, none⟩) T.length a.sec] ⟨⟨rfl, fun w' hw' => eSB _ w' hw'⟩, ?_⟩
        |refine eL [.bool false] ⟨⟨rfl, fun w' hw' => eSE1 w' hw'⟩, ?_⟩
        |((with_reducible show CallEv _ _ 127 ..); refine callE (fun β w' hbw => c127 w' hbw.1.1) ?_)
      all_goals exact ⟨(t + 1, c), ⟨by dsimp only; omega, hkc, hokc, hunc, hrest⟩, by dsimp only; omega, Ent.weak rfl ⟨rfl, rfl, rfl, rfl, rfl, rfl, rfl, rfl, rfl, trivial⟩ trivial fun _ h => h⟩
     | true =>
      rw [hse, hct, if_neg (by decide)] at hrest
      rw [hct] at c127
      have eS5 : ∀ (c : Gs) w', (MW w0 T.length su SS a (c) w' ∧ Chg a.W w w') → ∀ q z, [iv sl, iv ro, iv su, .slice go G.length gc, .slice (some ad) T.length tc][q]? = some z → w'.cell? ((⟨a.sc, 0, none⟩ : Addr).add q) = some z := fun c w' hw' => by rw [hSS]; exact eS c w' hw'
      have c128 := fun (w' : World) (_ : Below w0.heap.size w0 w') => Time_ok sl ro su go (some ad) G.length gc T.length tc ro' xs.length rc hh' w'
      have hmi1 := hmi hh' sl
      have hlb : 0 ≤ c.load t ∧ c.load t ≤ 40 := by
       have h1 := hokc.ld t (by omega)
       have h2 := hokc.tm t (by omega)
       have h3 : 0 ≤ sumN (fun i => c.G i t) D.su.toNat := sumN_nn fun i hi => hokc.nn t (by omega) i hi
       rw [htmq] at h2
       omega
      by_cases hlt : c.load t < min hh' sl
      · rw [if_pos hlt] at hrest
        obtain ⟨p, hp⟩ : ∃ p, a.y.D[j]? = some p := ⟨_, List.getElem?_eq_getElem (by omega)⟩
        have hgb := GOK.bd hokc (show t < D.T.length by omega) (show j < D.su.toNat by omega)
        obtain ⟨c2, hc2⟩ : ∃ c2 : Gs, c2 = ⟨(markG c t).seen, fun k => if k = t then c.load t + 1 else c.load k, c.G⟩ := ⟨_, rfl⟩
        have hR2 : R = (true, ⟨c2.seen, c2.load, updG c2.G j t (c.G j t + 1)⟩) := by rw [← hrest, hc2]; rfl
        have hcg : c2.G = c.G := by rw [hc2]
        have eG2 := eGI c2 j t p hp hj htl
        rw [hcg] at eG2
        have sLO2 := sLO (markG c t) t (c.load t + 1) htl
        change ∀ w', _ → MW w0 T.length su SS a (⟨(markG c t).seen, fun k => if k = t then c.load t + 1 else c.load k, c.G⟩ : Gs) _ ∧ _ at sLO2
        rw [← hc2] at sLO2
        rw [hR2]
        repeat'
         conv => whnf
         first
          |refine zA ?_|refine zB ?_|refine zC ?_|refine zD ?_|refine zF ?_|refine zG ?_|refine splF ?_
          |(refine splD ?_ ?_ <;> intro hc <;> first|(exfalso; omega)|skip)
          |refine eL [.slice ro' xs.length rc, iv hh'] ⟨⟨rfl, fun w' hw' => e0 w' hw'.1.1⟩, ?_⟩
          |refine eL [.slice (some ⟨a.se, 0, none⟩) T.length a.sec] ⟨⟨rfl, fun w' hw' => eSB _ w' hw'⟩, ?_⟩
          |refine eL [.bool false] ⟨⟨rfl, fun w' hw' => eSE1 w' hw'⟩, ?_⟩
          |((with_reducible show CallEv _ _ 127 ..); refine callE (fun β w' hbw => c127 w' hbw.1.1) ?_)
          |refine stF env rfl rfl rfl rfl rfl rfl (hsp1 _ _) (fun w' => MW w0 T.length su SS a (markG c t) w' ∧ Chg a.W w w') (fun w' hw' => aSE c t htl w' hw') (fun w' hw' => sSE c t htl w' hw') ?_
          |refine eL [.slice (some ⟨a.lo, 0, none⟩) T.length a.loc] ⟨⟨rfl, fun w' hw' => eLB _ w' hw'⟩, ?_⟩
          |refine eL [iv (c.load t)] ⟨⟨rfl, fun w' hw' => eLO (markG c t) t htl w' hw'⟩, ?_⟩
          |refine eL [iv sl, iv ro, iv su, .slice go G.length gc, .slice (some ad) T.length tc] ⟨⟨rfl, fun w' hw' => eS5 _ w' hw'⟩, ?_⟩
          |((with_reducible show CallEv _ _ 128 ..); refine callE (fun β w' hbw => c128 w' hbw.1.1) ?_)
          |refine stF env rfl rfl rfl rfl rfl rfl (hsp1 _ _) (fun w' => MW w0 T.length su SS a (c2) w' ∧ Chg a.W w w') (fun w' hw' => aLO (markG c t) t htl w' hw') (fun w' hw' => sLO2 w' hw') ?_
          |refine eL [.slice (some ⟨a.y.o, 0, none⟩) su a.y.c] ⟨⟨rfl, fun w' hw' => eGB _ w' hw'⟩, ?_⟩
          |refine eL [.slice (some ⟨p.1, 0, none⟩) T.length p.2] ⟨⟨rfl, fun w' hw' => eGR _ j p hp w' hw'⟩, ?_⟩
          |refine eL [iv (c.G j t)] ⟨⟨rfl, fun w' hw' => eG2 w' hw'⟩, ?_⟩
          |refine stF env rfl rfl rfl rfl rfl rfl (hsp1 _ _) (fun w' => MW w0 T.length su SS a (⟨c2.seen, c2.load, updG c2.G j t (c.G j t + 1)⟩) w' ∧ Chg a.W w w') (fun w' hw' => aGI (c2) j t p hp hj htl w' hw') (fun w' hw' => sGI (c2) j t p (c.G j t + 1) hp hj htl w' hw') ?_
        all_goals exact ⟨fun β => rfl, fun w' h => h⟩
      · rw [if_neg hlt] at hrest
        have hum : unS (markG c t) T.length + 1 = unS c T.length := unS_mark htl hse
        have hle : w0.heap.size ≤ w.heap.size := hw.1.size
        obtain ⟨pj, hpj⟩ : ∃ p, a.y.D[j]? = some p := ⟨_, List.getElem?_eq_getElem (by omega)⟩
        rw [hDsu] at hrest
        repeat'
         conv => whnf
         first
          |refine zA ?_|refine zB ?_|refine zC ?_|refine zD ?_|refine zG ?_|refine splF ?_
          |(refine splD ?_ ?_ <;> intro hc <;> first|(exfalso; omega)|skip)
          |refine eL [.slice ro' xs.length rc, iv hh'] ⟨⟨rfl, fun w' hw' => e0 w' hw'.1.1⟩, ?_⟩
          |refine eL [.slice (some ⟨a.se, 0, none⟩) T.length a.sec] ⟨⟨rfl, fun w' hw' => eSB _ w' hw'⟩, ?_⟩
          |refine eL [.bool false] ⟨⟨rfl, fun w' hw' => eSE1 w' hw'⟩, ?_⟩
          |((with_reducible show CallEv _ _ 127 ..); refine callE (fun β w' hbw => c127 w' hbw.1.1) ?_)
          |refine stF env rfl rfl rfl rfl rfl rfl (hsp1 _ _) (fun w' => MW w0 T.length su SS a (markG c t) w' ∧ Chg a.W w w') (fun w' hw' => aSE c t htl w' hw') (fun w' hw' => sSE c t htl w' hw') ?_
          |refine eL [.slice (some ⟨a.lo, 0, none⟩) T.length a.loc] ⟨⟨rfl, fun w' hw' => eLB _ w' hw'⟩, ?_⟩
          |refine eL [iv (c.load t)] ⟨⟨rfl, fun w' hw' => eLO (markG c t) t htl w' hw'⟩, ?_⟩
          |refine eL [iv sl, iv ro, iv su, .slice go G.length gc, .slice (some ad) T.length tc] ⟨⟨rfl, fun w' hw' => eS5 _ w' hw'⟩, ?_⟩
          |((with_reducible show CallEv _ _ 128 ..); refine callE (fun β w' hbw => c128 w' hbw.1.1) ?_)
          |refine eL [.slice (some ⟨a.y.o, 0, none⟩) su a.y.c] ⟨⟨rfl, fun w' hw' => eGB _ w' hw'⟩, ?_⟩
        refine loopH 0 (fun x : Nat × Gs => [(0, .v (iv j)), (1, .v (pt a.sc)), (2, .v (pt a.sb)), (3, .v (pt a.lb)), (4, .v (pt a.gb)), (5, .v (pt a.kb)), (8, .v (iv t)), (12, .v (.slice (some ad) T.length tc)), (13, .v (iv T.length)), (14, .v (iv t)), (57, .v (iv su)), (58, .v (iv x.1))]) (fun _ => []) (fun x w' => MW w0 T.length su SS a (x.2) w' ∧ Chg a.W w w') (fun x => x.1 ≤ su ∧ Keeps st x.2 ∧ GOK D x.2 ∧ unS x.2 T.length < f ∧ (if (innF (growF D f) j t (su - x.1) x.1 x.2).1 = true then innF (growF D f) j t (su - x.1) x.1 x.2 else outF (growF D f) D j (T.length - (t + 1)) (t + 1) (innF (growF D f) j t (su - x.1) x.1 x.2).2) = R) (fun x => su - x.1) (0, markG c t) ⟨Nat.zero_le _, hkc.mark t, hokc.mark t, (by dsimp only; omega), hrest⟩ ⟨rfl, rfl, rfl, rfl, rfl, rfl, rfl, rfl, rfl, rfl, rfl, rfl, trivial⟩ trivial (fun _ h => h) (fun _ _ => ⟨rfl, rfl⟩) ?_
        clear hrest hse
        intro ⟨i, d⟩ ⟨hin, hkd, hokd, hund, hrest⟩
        dsimp only at hin hkd hokd hund hrest ⊢
        rcases Nat.lt_or_ge i su with hil | hil
        · obtain ⟨p, hp⟩ : ∃ p, a.y.D[i]? = some p := ⟨_, List.getElem?_eq_getElem (by omega)⟩
          have hgs := hsp i d hil hokd hund
          have hgb := GOK.bd hokd (show t < D.T.length by omega) (show i < D.su.toNat by omega)
          have hk2 : su - i = (su - (i + 1)) + 1 := by omega
          rw [hk2, innF] at hrest
          have hcall : ∀ w', (MW w0 T.length su SS a (d) w' ∧ Chg a.W w w') → Calls Tryz.prog 126 #[iv i, pt a.sc, pt a.sb, pt a.lb, pt a.gb, pt a.kb] w' fun e w2 => e = .returned (.bool (growF D f i d).1) ∧ Chg a.W w' w2 ∧ (MW w0 T.length su SS a (growF D f i d).2 w2 ∧ Chg a.W w w2) := fun w' hw' => (ih d i w' hil hokd hund hw'.1).mono fun e w2 h => ⟨h.1, h.2.2, h.2.1, chg_trans hw'.2 h.2.2⟩
          by_cases h0 : 0 < d.G i t
          · rw [if_pos h0] at hrest
            generalize hr0 : growF D f i d = r at *
            cases hb : r.1 with
            | true =>
             rw [if_pos hb] at hrest
             rw [if_pos rfl] at hrest
             rw [hb] at hcall
             have hgb1 := GOK.bd hgs.ok (show t < D.T.length by omega) (show i < D.su.toNat by omega)
             have hgb2 := GOK.bd hgs.ok (show t < D.T.length by omega) (show j < D.su.toNat by omega)
             obtain ⟨r2, hr2⟩ : ∃ r2 : Gs, r2 = ⟨r.2.seen, r.2.load, updG r.2.G i t (r.2.G i t - 1)⟩ := ⟨_, rfl⟩
             have hR2 : R = (true, ⟨r2.seen, r2.load, updG r2.G j t (r2.G j t + 1)⟩) := by rw [← hrest, hr2]; rfl
             have hgb3 : -1 ≤ r2.G j t ∧ r2.G j t ≤ 40 := by
              rw [hr2]
              show -1 ≤ updG r.2.G i t (r.2.G i t - 1) j t ∧ updG r.2.G i t (r.2.G i t - 1) j t ≤ 40
              rw [updG_at]
              split <;> omega
             have sG2 := sGI r.2 i t p (r.2.G i t - 1) hp hil htl
             rw [← hr2] at sG2
             rw [hR2]
             clear hR2 hrest hr2
             repeat'
              conv => whnf
              first
               |refine zD ?_|refine zF ?_|refine zG ?_|refine splT ?_
               |(refine splD ?_ ?_ <;> intro hc <;> first|(exfalso; omega)|skip)
               |refine eL [.slice (some ⟨a.y.o, 0, none⟩) su a.y.c] ⟨⟨rfl, fun w' hw' => eGB _ w' hw'⟩, ?_⟩
               |refine eL [.slice (some ⟨p.1, 0, none⟩) T.length p.2] ⟨⟨rfl, fun w' hw' => eGR _ i p hp w' hw'⟩, ?_⟩
               |refine eL [iv (d.G i t)] ⟨⟨rfl, fun w' hw' => eGI d i t p hp hil htl w' hw'⟩, ?_⟩
               |refine eL [a.fn] ⟨⟨rfl, fun w' hw' => eKB _ w' hw'⟩, ?_⟩
               |((with_reducible show CallEv _ _ 126 ..); refine callFW (.bool true) w (fun b => b < w.heap.size ∧ ¬ a.W b) a.Q a.W (fun w' => MW w0 T.length su SS a (r.2) w' ∧ Chg a.W w w') (fun β w' hw' => hcall w' hw') (fun w' hw' b hb => ⟨Nat.lt_of_lt_of_le hb.1 hw'.2.size, hw'.2.same b hb.1 hb.2⟩) (fun b hb => .inl hb) (fun b hb w' hw' => hw'.1.2.cells hb) (fun w' w2 hw' hc => ⟨hw'.1.dep2 ha hle hc, chg_dep hw'.2 hc⟩) ?_)
               |refine eL [iv (r.2.G i t)] ⟨⟨rfl, fun w' hw' => eGI r.2 i t p hp hil htl w' hw'⟩, ?_⟩
               |refine stF env rfl rfl rfl rfl rfl rfl (hsp1 _ _) (fun w' => MW w0 T.length su SS a (r2) w' ∧ Chg a.W w w') (fun w' hw' => aGI (r.2) i t p hp hil htl w' hw') (fun w' hw' => sG2 w' hw') ?_
               |refine eL [.slice (some ⟨pj.1, 0, none⟩) T.length pj.2] ⟨⟨rfl, fun w' hw' => eGR _ j pj hpj w' hw'⟩, ?_⟩
               |refine eL [iv (r2.G j t)] ⟨⟨rfl, fun w' hw' => eGI r2 j t pj hpj hj htl w' hw'⟩, ?_⟩
               |refine stF env rfl rfl rfl rfl rfl rfl (hsp1 _ _) (fun w' => MW w0 T.length su SS a (⟨r2.seen, r2.load, updG r2.G j t (r2.G j t + 1)⟩) w' ∧ Chg a.W w w') (fun w' hw' => aGI (r2) j t pj hpj hj htl w' hw') (fun w' hw' => sGI (r2) j t pj (r2.G j t + 1) hpj hj htl w' hw') ?_
             all_goals exact ⟨fun β => rfl, fun w' h => h⟩
            | false =>
             simp only [hb, Bool.false_eq_true, if_false] at hrest
             rw [hb] at hcall
             have hkr : Keeps d r.2 := ⟨(hgs.fG hb).1, (hgs.fG hb).2, hgs.mono⟩
             have hunr : unS r.2 T.length ≤ unS d T.length := unS_le fun t' _ h => hgs.mono t' h
             repeat'
              conv => whnf
              first
               |refine zD ?_|refine zF ?_|refine zG ?_|refine splF ?_
               |(refine splD ?_ ?_ <;> intro hc <;> first|(exfalso; omega)|skip)
               |refine eL [.slice (some ⟨a.y.o, 0, none⟩) su a.y.c] ⟨⟨rfl, fun w' hw' => eGB _ w' hw'⟩, ?_⟩
               |refine eL [.slice (some ⟨p.1, 0, none⟩) T.length p.2] ⟨⟨rfl, fun w' hw' => eGR _ i p hp w' hw'⟩, ?_⟩
               |refine eL [iv (d.G i t)] ⟨⟨rfl, fun w' hw' => eGI d i t p hp hil htl w' hw'⟩, ?_⟩
               |refine eL [a.fn] ⟨⟨rfl, fun w' hw' => eKB _ w' hw'⟩, ?_⟩
               |((with_reducible show CallEv _ _ 126 ..); refine callFW (.bool false) w (fun b => b < w.heap.size ∧ ¬ a.W b) a.Q a.W (fun w' => MW w0 T.length su SS a (r.2) w' ∧ Chg a.W w w') (fun β w' hw' => hcall w' hw') (fun w' hw' b hb => ⟨Nat.lt_of_lt_of_le hb.1 hw'.2.size, hw'.2.same b hb.1 hb.2⟩) (fun b hb => .inl hb) (fun b hb w' hw' => hw'.1.2.cells hb) (fun w' w2 hw' hc => ⟨hw'.1.dep2 ha hle hc, chg_dep hw'.2 hc⟩) ?_)
             all_goals exact ⟨(i + 1, r.2), ⟨by dsimp only; omega, hkd.trans hkr, hgs.ok, by dsimp only; omega, hrest⟩, by dsimp only; omega, Ent.weak rfl ⟨rfl, rfl, rfl, rfl, rfl, rfl, rfl, rfl, rfl, rfl, rfl, rfl, trivial⟩ trivial fun _ h => h⟩
          · rw [if_neg h0] at hrest
            repeat'
             conv => whnf
             first
              |refine zF ?_|refine zG ?_|refine splF ?_
              |(refine splD ?_ ?_ <;> intro hc <;> first|(exfalso; omega)|skip)
              |refine eL [.slice (some ⟨a.y.o, 0, none⟩) su a.y.c] ⟨⟨rfl, fun w' hw' => eGB _ w' hw'⟩, ?_⟩
              |refine eL [.slice (some ⟨p.1, 0, none⟩) T.length p.2] ⟨⟨rfl, fun w' hw' => eGR _ i p hp w' hw'⟩, ?_⟩
              |refine eL [iv (d.G i t)] ⟨⟨rfl, fun w' hw' => eGI d i t p hp hil htl w' hw'⟩, ?_⟩
            all_goals exact ⟨(i + 1, d), ⟨by dsimp only; omega, hkd, hokd, hund, hrest⟩, by dsimp only; omega, Ent.weak rfl ⟨rfl, rfl, rfl, rfl, rfl, rfl, rfl, rfl, rfl, rfl, rfl, rfl, trivial⟩ trivial fun _ h => h⟩
        · obtain rfl : i = su := by omega
          rw [Nat.sub_self, innF] at hrest
          simp only [Bool.false_eq_true, if_false] at hrest
          repeat'
           conv => whnf
           first
            |refine zF ?_
            |(refine splD ?_ ?_ <;> intro hc <;> first|(exfalso; omega)|skip)
          all_goals exact ⟨(t + 1, d), ⟨by dsimp only; omega, hkd, hokd, by dsimp only; omega, hrest⟩, by dsimp only; omega, Ent.weak rfl ⟨rfl, rfl, rfl, rfl, rfl, rfl, rfl, rfl, rfl, trivial⟩ trivial fun _ h => h⟩
  · obtain rfl : t = T.length := by omega
    rw [Nat.sub_self, outF] at hrest
    subst hrest
    repeat'
     conv => whnf
     first
      |(refine splD ?_ ?_ <;> intro hc <;> first|(exfalso; omega)|skip)
    all_goals exact ⟨fun β => rfl, fun w' h => h⟩
end Go.Proofs.YtkbfcofifhngfaaGreat
namespace Go.Proofs.YtkbfcofifhngfaaGreat.Tx
open Go Go.RowKit
theorem stG {P : Program} (T : Env P) {dst : Option Tmp} {ty t : TypeId} {pos : String} {after : Array Edge} {gd : Option (Nat × Bool)} {gs : List Nat} {σ : Sg} {K : Ef → Prop} {ks : KT} {x y : Operand} {ad : Addr} {ti : TI} {i j n sz : Nat} {e : TypeId} {xs : List Value} (w0 : World) (t' : List (Nat × SV))
 (hx : gv σ x = some (.v (.pointer (some ad)))) (hy : gv σ y = some (.os i j n)) (hi : lk σ.m i = some (.own j n sz xs e)) (ht : T.ty t = some ti) (hsz : ti.size = 1) (hsp : ad.spot = none) (hz : σ.z.g = []) (htt : TSub σ.t t') (hbel : ∀ w, σ.h w → Below w0.heap.size w0 w) (h' : Nat → Nat → World → Prop)
 (hold : ∀ w, σ.h w → (∃ cs ty fr, w.heap[ad.block]? = some (.cells cs ty fr) ∧ ad.off < cs.size) ∧ w.frozen? ad = false)
 (hnew : ∀ w b d, σ.h w → w0.heap.size ≤ b → (∀ c, (∀ w, σ.h w → ∃ cs ty fr, w.heap[c]? = some (.cells cs ty fr)) → b ≠ c) → w.ownsRow 0 e sz (.slice (some ⟨b, 0, none⟩) n d) n xs → h' b d (w.setCell ad (.slice (some ⟨b, 0, none⟩) n d)))
 (hK : ∀ b d, w0.heap.size ≤ b → (∀ c, (∀ w, σ.h w → ∃ cs ty fr, w.heap[c]? = some (.cells cs ty fr)) → b ≠ c) → ks (.v undef) ⟨σ.nt, t', [], σ.nb, h' b d, σ.z⟩) :
 OpEvS P ⟨dst, .store t x y, ty, pos, after, gd⟩ gs σ K (some ks) := by
 refine .sk ks rfl rfl fun X β D a w hok hs => ?_
 have hb : D ad.block := hs.dof fun w hw => by obtain ⟨⟨cs, ty, fr, h, _⟩, _⟩ := hold w hw; exact ⟨cs, ty, fr, h⟩
 have hw := hs.h w (Chg.refl _ _)
 obtain ⟨⟨cs, ty', fr, h1, h2⟩, h3⟩ := hold w hw
 have hmem := hs.mem
 have hge : w0.heap.size ≤ β i := Nat.le_of_not_lt fun hlt => hmem.out i _ hi rfl (hmem.old hbel hlt)
 have hne : ∀ c, (∀ w, σ.h w → ∃ cs ty fr, w.heap[c]? = some (.cells cs ty fr)) → β i ≠ c := fun c hc e => hs.out i _ hi rfl (by rw [e]; exact hs.dof hc)
 obtain ⟨oo, ho1, ho2⟩ := Blk.ok_cells (k := .own j n sz xs e) rfl (hs.m i _ hi)
 have hown := hs.m i _ hi
 simp only [Blk.ok] at hown
 have hno : ∀ (d : Nat) (o : Obj), w.heap[d]? = some o → Other o → ¬ β i = d := by
  rintro d o h1 h2 rfl
  rw [h1] at ho1
  cases ho1
  exact h2 ho2
 have hm := setCell_at (v := .slice (some ⟨β i, 0, none⟩) n (β j)) h1 hsp
 have hab : ad.block ≠ β i := fun e => hs.out i _ hi rfl (by rw [← e]; exact hb)
 refine ⟨⟨σ.nt, t', [], σ.nb, h' (β i) (β j), σ.z⟩, β, fun b => D b ∨ β i = b, w.setCell ad (.slice (some ⟨β i, 0, none⟩) n (β j)), ?_, hK _ _ hge hne, ⟨⟨fun k s hk => hok.wf.t k s (htt.get k s hk), hok.wf.g, fun i b hi => by simp [lk] at hi⟩, fun k s hk => hok.lt k s (htt.get k s hk)⟩, rfl, ?_⟩
 · have hse := hs.sees ⟨.v undef, [], [], os x ++ os y, []⟩
   have e1 := gv_eval hse hx (fun k hk => by simp [hk])
   have e2 := gv_eval hse hy (fun k hk => by simp [hk])
   have htok := T.tok t ti ht
   have hcell : ∃ u, w.cell? ad = some u := ⟨cs[ad.off], by simp only [World.cell?, h1, hsp]; simp [h2]⟩
   obtain ⟨u, hcell⟩ := hcell
   have hadd : ad.add 0 = ad := by simp [Addr.add]
   have hst : (store ad (.slice (some ⟨β i, 0, none⟩) n (β j))).run P w = .ok () (w.setCell ad (.slice (some ⟨β i, 0, none⟩) n (β j))) := by
    rw [run_store P w _ _ _ rfl, hcell]
    simp [h3]
   have hvc : (Value.slice (some ⟨β i, 0, none⟩) n (β j)).cells = #[Value.slice (some ⟨β i, 0, none⟩) n (β j)] := rfl
   simp only [execOp, Instr.storeAt, Instr.sureAddr, e1, e2, SV.c, Sem.run_bind, Sem.run_pure, Result.andThen_ok, storeVar, htok.run_sizeOf w, hsz, hvc, List.size_toArray, List.length_singleton, ne_eq, not_true_eq_false, if_false, storeCells, hadd, hst]
 · have hkeep : ∀ (b : Nat) (o : Obj), w.heap[b]? = some o → Other o → (w.setCell ad (.slice (some ⟨β i, 0, none⟩) n (β j))).heap[b]? = some o := fun b o hbo hot => by
    rw [setCell_other (fun e => by subst e; rw [h1, Option.some.injEq] at hbo; subst hbo; exact hot trivial)]
    exact hbo
   refine ⟨?_, hs.size, fun k s hk => hs.t k s (htt.get k s hk), fun i b hi => (by simp [lk] at hi), fun i j bi bj hi => (by simp [lk] at hi), fun i b hi => (by simp [lk] at hi), fun b hb' => ?_, fun w2 hc => ?_, ?_⟩
   · obtain ⟨l, l1, l2, l3⟩ := hs.defers
     refine ⟨l, l1, l2, fun d hd => ⟨hkeep _ _ (l3 d hd).1 (fun h => h), ?_, (l3 d hd).2.2⟩⟩
     rintro (h | h)
     · exact (l3 d hd).2.1 h
     · exact hno d _ (l3 d hd).1 (fun h => h) h
   · rw [setCell_size]
     rcases hb' with h | rfl
     · exact hs.dlt b h
     · exact (Array.getElem?_eq_some_iff.1 ho1).1
   · let w1 : World := w2.putObj ad.block (.cells cs ty' fr)
     have hl2 : ad.block < w2.heap.size := Nat.lt_of_lt_of_le (Array.getElem?_eq_some_iff.1 hm).1 hc.size
     have e1 : w1.heap[ad.block]? = some (.cells cs ty' fr) := World.putObj_heap_same hl2
     have hsz2 : w.heap.size ≤ w2.heap.size := by have := hc.size; rw [setCell_size] at this; exact this
     have hw1 : σ.h w1 := hs.h w1 ⟨hc.os, hc.tape, hc.output, Nat.le_trans hsz2 (Nat.le_of_eq World.putObj_size.symm), fun b hlt hn => by
      by_cases hbe : b = ad.block
      · subst hbe; rw [e1, h1]
      · show (w2.putObj ad.block _).heap[b]? = _
        rw [World.putObj_heap_other hbe, hc.same b (by rw [setCell_size]; exact hlt) (fun h => hn fun h2 => h (.inl h2)), setCell_other hbe]⟩
     have hfin : w1.setCell ad (.slice (some ⟨β i, 0, none⟩) n (β j)) = w2 := by
      have e4 := setCell_at (v := .slice (some ⟨β i, 0, none⟩) n (β j)) e1 hsp
      have e5 : w2.heap[ad.block]? = some (.cells (cs.setIfInBounds ad.off (.slice (some ⟨β i, 0, none⟩) n (β j))) ty' fr) := by
       rw [hc.same _ (by rw [setCell_size]; exact (Array.getElem?_eq_some_iff.1 h1).1) (fun h => h (.inl hb))]; exact hm
      have e6 : (w1.setCell ad (.slice (some ⟨β i, 0, none⟩) n (β j))).heap = w2.heap := Array.ext_getElem? fun i => by
       by_cases hi : i = ad.block
       · subst hi; rw [e4, e5]
       · rw [setCell_other hi]; exact World.putObj_heap_other hi
      have e7 : w1.setCell ad (.slice (some ⟨β i, 0, none⟩) n (β j)) = { w2 with heap := (w1.setCell ad (.slice (some ⟨β i, 0, none⟩) n (β j))).heap } := rfl
      rw [e7, e6]
     have hown1 : (Blk.own j n sz xs e).ok β w1 (β i) := Blk.keep_at (by
      show (w2.putObj ad.block _).heap[β i]? = _
      rw [World.putObj_heap_other hab.symm, hc.same _ (by rw [setCell_size]; exact (Array.getElem?_eq_some_iff.1 ho1).1) (fun h => h (.inr rfl)), setCell_other hab.symm]) (hs.m i _ hi)
     simp only [Blk.ok] at hown1
     have := hnew w1 (β i) (β j) hw1 hge hne hown1
     rw [hfin] at this
     exact this
   · refine ⟨fun k s hk => (by have hk : lk σ.z.g k = some s := hk; rw [hz] at hk; simp [lk] at hk), fun p hp' => ⟨?_, ?_⟩, fun i2 e2 hi2 => ?_, hs.amb.dep, hs.amb.nd, fun d hd => ⟨hkeep _ _ (hs.amb.pr d hd).1 (fun h => h), ?_⟩⟩
     · obtain ⟨st, pd, h2⟩ := (hs.amb.la p hp').1
       exact ⟨st, pd, hkeep _ _ h2 (fun h => h)⟩
     · rintro (h1 | h1)
       · exact (hs.amb.la p hp').2 h1
       · obtain ⟨st, pd, h2⟩ := (hs.amb.la p hp').1
         exact hno _ _ h2 (fun h => h) h1
     · obtain ⟨r, q1, q2, q3⟩ := hs.amb.lq i2 e2 hi2
       exact ⟨r, q1, q2, hkeep _ _ q3 (fun h => h)⟩
     · rintro (h1 | h1)
       · exact (hs.amb.pr d hd).2 h1
       · exact hno _ _ (hs.amb.pr d hd).1 (fun h => h) h1
end Go.Proofs.YtkbfcofifhngfaaGreat.Tx
namespace Go.Proofs.YtkbfcofifhngfaaGreat
open Go Tx Go.RowKit
structure MN (m n su : Nat) (S : List Value) (a : GA) (s : Gs) (w : World) : Prop where
 sc : w.heap[a.sc]? = some (.cells S.toArray 34 (0, 0))
 sb : ∃ v, w.heap[a.sb]? = some (.cells #[v] 167 (0, 0))
 lb : w.heap[a.lb]? = some (.cells #[.slice (some ⟨a.lo, 0, none⟩) n a.loc] 36 (0, 0))
 gb : w.heap[a.gb]? = some (.cells #[.slice (some ⟨a.y.o, 0, none⟩) su a.y.c] 22 (0, 0))
 kb : w.heap[a.kb]? = some (.cells #[a.fn] 127 (0, 0))
 lo : w.ownsRow 0 3 1 (.slice (some ⟨a.lo, 0, none⟩) n a.loc) n (tbV n s.load)
 gi : TbIn m n a.y (mkC su n s.G) w
structure GA.OkN (a : GA) (m : Nat) : Prop where
 sc : m ≤ a.sc
 sb : m ≤ a.sb
 lb : m ≤ a.lb
 gb : m ≤ a.gb
 kb : m ≤ a.kb
 lo : m ≤ a.lo
 e1 : ∀ b, b = a.lo ∨ b ∈ a.rows → b ≠ a.sc ∧ b ≠ a.sb ∧ b ≠ a.lb ∧ b ≠ a.gb ∧ b ≠ a.kb ∧ b ≠ a.y.o
 e4 : a.lo ∉ a.rows
 e5 : a.sb ≠ a.sc ∧ a.sb ≠ a.lb ∧ a.sb ≠ a.gb ∧ a.sb ≠ a.kb ∧ a.sb ≠ a.y.o
def MV (w0 : World) (n su : Nat) (S : List Value) (a : GA) (s : Gs) (w : World) : Prop := Below w0.heap.size w0 w ∧ MN w0.heap.size n su S a s w
theorem MW.n {w0 : World} {n su : Nat} {S : List Value} {a : GA} {s : Gs} {w : World} (h : MW w0 n su S a s w) : MV w0 n su S a s w := ⟨h.1, h.2.sc, ⟨_, h.2.sb⟩, h.2.lb, h.2.gb, h.2.kb, h.2.lo, h.2.gi⟩
def GA.at (a : GA) (b d : Nat) : GA := { a with se := b, sec := d }
def GA.Qn (a : GA) (b : Nat) : Prop := b = a.lo ∨ b ∈ a.rows ∨ b = a.sc ∨ b = a.sb ∨ b = a.lb ∨ b = a.gb ∨ b = a.kb ∨ b = a.y.o
theorem MN.cells {m n su : Nat} {S : List Value} {a : GA} {s : Gs} {w : World} (h : MN m n su S a s w) {b : Nat} (hb : a.Qn b) : ∃ cs ty fr, w.heap[b]? = some (.cells cs ty fr) := by
 rcases hb with rfl | hb | rfl | rfl | rfl | rfl | rfl | rfl
 · exact own_cells h.lo
 · obtain ⟨p, hp, rfl⟩ := List.mem_map.1 hb
   obtain ⟨i, hi⟩ := List.mem_iff_getElem?.1 hp
   have hl := h.gi.l
   rw [mkC_len] at hl
   exact own_cells (h.gi.r i p _ hi (mkC_at s.G (by rw [hl]; exact (List.getElem?_eq_some_iff.1 hi).1)))
 · exact ⟨_, _, _, h.sc⟩
 · obtain ⟨v, hv⟩ := h.sb; exact ⟨_, _, _, hv⟩
 · exact ⟨_, _, _, h.lb⟩
 · exact ⟨_, _, _, h.gb⟩
 · exact ⟨_, _, _, h.kb⟩
 · exact own_cells h.gi.h
theorem GA.OkN.at {a : GA} {m b d : Nat} (h : a.OkN m) (hb : m ≤ b) (hne : ∀ c, a.Qn c → b ≠ c) : (a.at b d).Ok m := by
 refine ⟨h.sc, h.sb, h.lb, h.gb, h.kb, hb, h.lo, fun c hc => ?_, hne _ (.inl rfl), fun hr => hne _ (.inr (.inl hr)) rfl, h.e4⟩
 rcases hc with rfl | hc | hc
 · exact ⟨hne _ (by simp [GA.Qn, GA.at]), hne _ (by simp [GA.Qn, GA.at]), hne _ (by simp [GA.Qn, GA.at]), hne _ (by simp [GA.Qn, GA.at]), hne _ (by simp [GA.Qn, GA.at]), hne _ (by simp [GA.Qn, GA.at])⟩
 · exact h.e1 c (.inl hc)
 · exact h.e1 c (.inr hc)
theorem MV.ask {w0 : World} {n su : Nat} {S : List Value} {a : GA} {s : Gs} {w : World} {b d : Nat} (ha : a.OkN w0.heap.size) (h : MV w0 n su S a s w) (hne : ∀ c, a.Qn c → b ≠ c) (ho : w.ownsRow 0 4 1 (.slice (some ⟨b, 0, none⟩) n d) n (tbB n fun _ => false)) :
 MW w0 n su S (a.at b d) ⟨fun _ => false, s.load, s.G⟩ (w.setCell ⟨a.sb, 0, none⟩ (.slice (some ⟨b, 0, none⟩) n d)) := by
 obtain ⟨hb, h⟩ := h
 have hk : ∀ c, c ≠ a.sb → (w.setCell ⟨a.sb, 0, none⟩ (.slice (some ⟨b, 0, none⟩) n d)).heap[c]? = w.heap[c]? := fun c hc => setCell_other hc
 have e5 := ha.e5
 refine ⟨below_set hb ha.sb, (hk _ e5.1.symm).trans h.sc, ?_, (hk _ e5.2.1.symm).trans h.lb, (hk _ e5.2.2.1.symm).trans h.gb, (hk _ e5.2.2.2.1.symm).trans h.kb, own_keep ho (hk _ (hne _ (by simp [GA.Qn]))), own_keep h.lo (hk _ (ha.e1 _ (.inl rfl)).2.1), ?_⟩
 · obtain ⟨v, hv⟩ := h.sb
   have := setCell_at (v := .slice (some ⟨b, 0, none⟩) n d) (ad := ⟨a.sb, 0, none⟩) hv rfl
   exact this
 · exact ⟨h.gi.l, h.gi.n, own_keep h.gi.h (hk _ e5.2.2.2.2.symm), fun i p xs h1 h2 => own_keep (h.gi.r i p xs h1 h2) (hk _ (ha.e1 _ (.inr (List.mem_map_of_mem (List.mem_of_getElem? h1)))).2.1), h.gi.d, h.gi.a, h.gi.m⟩
end Go.Proofs.YtkbfcofifhngfaaGreat
namespace Go.Proofs.YtkbfcofifhngfaaGreat
open Go Tx Go.RowKit
def askG (D : SD) (j : Nat) (s : Gs) : Gs := (growF D (D.T.length + 1) j ⟨fun _ => false, s.load, s.G⟩).2
def asgIn (D : SD) (j : Nat) : Nat → Gs → Gs
 | 0, s => s
 | k + 1, s => askG D j (asgIn D j k s)
def asgF (D : SD) : Nat → Gs
 | 0 => ⟨fun _ => false, fun _ => 0, fun _ _ => 0⟩
 | j + 1 => asgIn D j (needP D j).toNat (asgF D j)
theorem unS_bd (s : Gs) : ∀ n, unS s n ≤ n
 | 0 => Nat.le_refl _
 | n + 1 => by rw [unS]; have := unS_bd s n; split <;> omega
theorem askG_ok {D : SD} {j : Nat} {s : Gs} (hj : j < D.su.toNat) (h : GOK D s) : GOK D (askG D j s) :=
 (grow_sp (D.T.length + 1) j ⟨fun _ => false, s.load, s.G⟩ hj ⟨h.nn, h.ld, h.tm, h.te⟩ (Nat.lt_succ_of_le (unS_bd _ _))).ok
theorem asgIn_ok {D : SD} {j : Nat} {s : Gs} (hj : j < D.su.toNat) (h : GOK D s) : ∀ k, GOK D (asgIn D j k s)
 | 0 => h
 | k + 1 => askG_ok hj (asgIn_ok hj h k)
theorem asgF_ok {D : SD} (hv : scOk D = true) : ∀ j, j ≤ D.su.toNat → GOK D (asgF D j)
 | 0, _ => ⟨fun _ _ _ _ => Int.le_refl _, fun t ht => (sumN_zero _).symm, fun t ht => (tea_at hv (by
  rw [List.getD_eq_getElem?_getD, List.getElem?_eq_getElem ht]; exact List.getElem_mem ht)).1, fun t ht i hi h => absurd (show (0 : Int) < 0 from h) (by decide)⟩
 | j + 1, hj => asgIn_ok (by omega) (asgF_ok hv j (by omega)) _
theorem tb_conv7 {su n : Nat} {D : List (Nat × Nat)} {p : Nat × Nat} {β : Nat → Nat} {w : World} {y : Nat} (hl : D.length < n) (hb : p.1 = β 7) (hc : p.2 = β 8) (h : (Blk.mix 2 n 1 [] (((rwV su n D).map SV.v).set ((D.length : Int).toNat * 1) (.os 7 8 su)) 36).ok β w y) :
 (Blk.mix 2 n 1 [] ((rwV su n (D ++ [p])).map SV.v) 36).ok (fun i => β (id i)) w y := by
 have e : (D.length : Int).toNat * 1 = D.length := by rw [Int.toNat_natCast]; exact Nat.mul_one _
 rw [e] at h
 simp only [Blk.ok, cs_v, cs_set] at h ⊢
 rw [← rwV_set p hl, hb, hc]
 exact h
theorem MV.dep {w0 : World} {n su : Nat} {S : List Value} {a : GA} {s : Gs} {w w2 : World} {Q : Nat → Prop} (h : MV w0 n su S a s w) (hQ : ∀ b, a.Qn b → Q b) (hc : Chg (fun b => ¬ (b < w0.heap.size ∨ Q b)) w w2) : MV w0 n su S a s w2 := by
 have hk : ∀ b, a.Qn b → w2.heap[b]? = w.heap[b]? := fun b hb => by
  obtain ⟨cs, ty, fr, h1⟩ := h.2.cells hb
  exact hc.same b (Array.getElem?_eq_some_iff.1 h1).1 fun hn => hn (.inr (hQ b hb))
 refine ⟨below_chg h.1 hc, ?_⟩
 obtain ⟨-, h⟩ := h
 refine ⟨(hk _ (by simp [GA.Qn])).trans h.sc, ?_, (hk _ (by simp [GA.Qn])).trans h.lb, (hk _ (by simp [GA.Qn])).trans h.gb, (hk _ (by simp [GA.Qn])).trans h.kb, own_keep h.lo (hk _ (.inl rfl)), ?_⟩
 · obtain ⟨v, hv⟩ := h.sb
   exact ⟨v, (hk _ (by simp [GA.Qn])).trans hv⟩
 · exact ⟨h.gi.l, h.gi.n, own_keep h.gi.h (hk _ (by simp [GA.Qn])), fun i p xs h1 h2 => own_keep (h.gi.r i p xs h1 h2) (hk _ (.inr (.inl (List.mem_map_of_mem (List.mem_of_getElem? h1))))), h.gi.d, h.gi.a, h.gi.m⟩
theorem MV.un {w0 : World} {n su b d : Nat} {S : List Value} {a : GA} {s : Gs} {w : World} (h : MV w0 n su S (a.at b d) s w) : MV w0 n su S a s w := ⟨h.1, h.2.sc, h.2.sb, h.2.lb, h.2.gb, h.2.kb, h.2.lo, h.2.gi⟩
theorem GA.Qn_Q {a : GA} {b d x : Nat} (h : a.Qn x) : (a.at b d).Q x := by
 rcases h with h | h | h | h | h | h | h | h
 · exact .inl (.inr (.inl h))
 · exact .inl (.inr (.inr h))
 · exact .inr (.inl h)
 · exact .inr (.inr (.inl h))
 · exact .inr (.inr (.inr (.inl h)))
 · exact .inr (.inr (.inr (.inr (.inl h))))
 · exact .inr (.inr (.inr (.inr (.inr (.inl h)))))
 · exact .inr (.inr (.inr (.inr (.inr (.inr h)))))
theorem frz_box {w : World} {b ty : Nat} {cs : Array Value} (h : w.heap[b]? = some (.cells cs ty (0, 0))) (o : Nat) : w.frozen? ⟨b, o, none⟩ = false := by
 simp [World.frozen?, h]
theorem mkB0 (n : Nat) : (tbB n fun _ => false) = (List.replicate n [Value.bool false]).flatten := by
 unfold tbB
 induction n with
 | zero => rfl
 | succ n ih => rw [List.range_succ, List.map_append, ih, List.replicate_succ', List.flatten_append]; rfl
theorem rd_one {w : World} {b ty : Nat} {x : Int} (h : w.heap[b]? = some (.cells #[iv x] ty (0, 0))) : Rd 1 iF (.slice (some ⟨b, 0, none⟩) [x].length 1) [x] w :=
 .inr ⟨⟨b, 0, none⟩, 1, rfl, fun k y hk j v hv => by
  match k, hk with
  | 0, hk =>
   have hk : some x = some y := hk
   cases hk
   match j, hv with
   | 0, hv =>
    have hv : some (iv x) = some v := hv
    cases hv
    rw [own_add, own_add]
    simp [World.cell?, h]⟩
theorem assign_ok (s : Sc) (w : World) (h : ScIn s w) (hB : ScB s) (hv : scOk s.d = true) :
 Calls Tryz.prog 86 #[s.v] w fun e w' => ∃ y : {y : TbG // y.D.length = s.su.toNat}, e = .returned y.1.v ∧ Below w.heap.size w w' ∧ St w.heap.size (TbIn w.heap.size s.T.length y.1 (mkC s.su.toNat s.T.length (asgF s.d s.su.toNat).G)) w' := by
 have h93 := fun (l : List Int) (o : Option Addr) (c : Nat) (hs : subIn s.d l) (w' : World) (hw : Below w.heap.size w w') (hr : Rd 1 iF (.slice o l.length c) l w') => hours_ok s l o c w' (h.below hw) hv hr hs
 have hgr := fun (su : Nat) (hsu : s.su = su) (a : GA) (ha : a.Ok w.heap.size) => grow_ok s su hsu w a ha h hB hv
 have hok0 := asgF_ok hv
 have hv0 := hv
 obtain ⟨hv1, hv2, hv3, hv4, hv5, hv6, hv7⟩ := scOk_iff.1 hv
 obtain ⟨sl, ro, su, go, gc, G, to, tc, T⟩ := s
 dsimp only [Sc.d] at hv0 hv1 hv2 hv3 hv4 hv5 hv6 hv7 h93 hgr hok0 ⊢
 obtain ⟨su, rfl⟩ := Int.eq_ofNat_of_zero_le (show 0 ≤ su by omega)
 simp only [Int.toNat_natCast, List.length_map] at hv4 hv5 hok0 h93 ⊢
 have hgr := hgr su rfl
 refine calls_fam env mixed Tryz.func86 has86 Tryz.ntmps86 [.agg #[iv sl, iv ro, iv su, .slice go G.length gc, .slice to T.length tc]] (by simp) ?_
 repeat'
  conv => whnf
  first
   |refine zA ?_|refine zB ?_|refine zC ?_
   |refine mkO env 1 su (rwV T.length su []) rfl rfl rfl (by decide) rfl (by omega) (by decide) (rwV_nil _ _) rfl ?_
   |refine mkO env 3 T.length (tbV T.length fun _ => 0) rfl rfl rfl (by decide) rfl (by omega) (by decide) (mk0 _) rfl ?_
 refine loopD 7 (fun D : List (Nat × Nat) => [(1, .ptr 0 0), (3, .ptr 5 0), (4, .ptr 6 0), (16, .os 1 2 su), (17, .v (iv su)), (18, .v (iv D.length))]) (fun D => [(0, .cells [.v (iv sl), .v (iv ro), .v (iv su), .v (.slice go G.length gc), .v (.slice to T.length tc)] 34), (1, .mix 2 su 1 [] ((rwV T.length su D).map .v) 36), (3, .own 4 T.length 1 (tbV T.length fun _ => 0) 3), (5, .cells [.os 1 2 su] 22), (6, .cells [.os 3 4 T.length] 36)])
  (fun (D : List (Nat × Nat)) w' => Below w.heap.size w w' ∧ ∀ p ∈ D, w.heap.size ≤ p.1 ∧ w'.ownsRow 0 3 1 (.slice (some ⟨p.1, 0, none⟩) T.length p.2) T.length (tbV T.length fun _ => 0)) (fun D => D.length ≤ su ∧ (D.map Prod.fst).Nodup) (fun D => su - D.length)
  (Dis.mk3 (w0 := w) id [] rfl (fun i hi => by cases hi) (fun w' h => h) (fun β w1 hok hw1 hge => ⟨[], ⟨Nat.zero_le _, List.nodup_nil⟩, ⟨⟨_, rfl, rfl⟩, ⟨_, rfl, rfl⟩, ⟨_, rfl, rfl⟩, ⟨_, rfl, rfl⟩, ⟨_, rfl, rfl⟩, ⟨_, rfl, rfl⟩, trivial⟩, ⟨⟨rfl, _, rfl, fun _ => rfl, fun w2 y hy => hy⟩, ⟨rfl, _, rfl, fun _ => rfl, fun w2 y hy => by simp only [Blk.ok, cs_v] at hy ⊢; exact hy⟩, ⟨rfl, _, rfl, fun _ => rfl, fun w2 y hy => hy⟩, ⟨rfl, _, rfl, fun _ => rfl, fun w2 y hy => hy⟩, ⟨rfl, _, rfl, fun _ => rfl, fun w2 y hy => hy⟩, trivial⟩, rfl, fun w2 hw2 _ => ⟨hw2, fun a hr => by cases hr⟩⟩))
  (fun D hD => ⟨rfl, by simp only [mB, Blk.lt, lts_v]; rfl⟩) ?_
 intro D ⟨hD, hDn⟩
 rcases Nat.lt_or_ge D.length su with hkl | hkl
 · have hVl := rwV_len (su := T.length) (n := su) hD
   repeat'
    conv => whnf
    first
     |refine zA ?_|refine zB ?_|refine zF ?_|refine zG ?_
     |(refine splD ?_ ?_ <;> intro hc <;> first|(exfalso; omega)|skip)
     |refine mkO env 7 T.length (tbV T.length fun _ => 0) rfl rfl rfl (by decide) rfl (by omega) (by decide) (mk0 _) rfl ?_
     |refine Tx.stM env (.os 7 8 T.length) rfl rfl rfl rfl rfl rfl rfl (by rw [List.length_map, hVl, Int.toNat_natCast]; show D.length * 1 < _; omega) rfl rfl (lts_v _ _) rfl ?_
   refine Dis.mk5 (w0 := w) id [7] trivial (fun i hi => by rw [List.mem_singleton] at hi; subst hi; exact ⟨_, rfl, rfl⟩) (fun w' h => h.1) (fun β w1 hok hw1 hge hout hne => ⟨D ++ [(β 7, β 8)], ⟨⟨by simp; omega, ?_⟩, by simp; omega⟩, ⟨⟨_, rfl, rfl⟩, ⟨_, rfl, rfl⟩, ⟨_, rfl, rfl⟩, ⟨_, rfl, rfl⟩, ⟨_, rfl, rfl⟩, ⟨_, rfl, by rw [List.length_append, Int.natCast_add]; rfl⟩, trivial⟩, ⟨⟨rfl, _, rfl, fun _ => rfl, fun w2 y hy => hy⟩, ⟨rfl, _, rfl, fun _ => rfl, fun w2 y hy => tb_conv7 hkl rfl rfl hy⟩, ⟨rfl, _, rfl, fun _ => rfl, fun w2 y hy => hy⟩, ⟨rfl, _, rfl, fun _ => rfl, fun w2 y hy => hy⟩, ⟨rfl, _, rfl, fun _ => rfl, fun w2 y hy => hy⟩, trivial⟩, rfl, fun w2 hw2 hLo => ⟨hw2.1, fun p hp => ?_⟩⟩)
   · rw [List.map_append, List.nodup_append]
     refine ⟨hDn, by simp, fun a ha b hb => ?_⟩
     simp only [List.map_cons, List.map_nil, List.mem_singleton] at hb
     subst hb
     obtain ⟨p, hp, rfl⟩ := List.mem_map.1 ha
     exact fun e => hout 7 _ p.1 rfl rfl (fun w3 hw3 => by obtain ⟨cur, hc⟩ := own_heap (hw3.2 p hp).2; exact ⟨_, _, _, hc⟩) e.symm
   · rcases List.mem_append.1 hp with hp | hp
     · exact hw2.2 p hp
     · rw [List.mem_singleton] at hp
       subst hp
       exact ⟨hge 7 _ rfl rfl, hLo 7 (by simp) _ rfl⟩
 · have hDl : D.length = su := by omega
   repeat'
    conv => whnf
    first
     |refine zC ?_
     |(refine splD ?_ ?_ <;> intro hc <;> first|(exfalso; omega)|skip)
   refine loopD 0 (fun x : GA × Nat => [(1, .v (pt x.1.sc)), (3, .v (pt x.1.gb)), (4, .v (pt x.1.lb)), (6, .v (pt x.1.sb)), (7, .v (pt x.1.kb)), (31, .v (iv su)), (32, .v (iv x.2))]) (fun _ => []) (fun x w' => MV w T.length su [iv sl, iv ro, iv su, .slice go G.length gc, .slice to T.length tc] x.1 (asgF (⟨sl, ro, (su : Int), G.map Rw.xs, T.map Tc.d⟩ : SD) x.2) w') (fun x => x.1.OkN w.heap.size ∧ x.1.y.D.length = su ∧ x.2 ≤ su) (fun x => su - x.2)
    (Dis.mk5 (w0 := w) id [0, 1, 3, 5, 6, 7, 8] trivial (fun i hi => by simp only [List.mem_cons, List.not_mem_nil, or_false] at hi; rcases hi with rfl | rfl | rfl | rfl | rfl | rfl | rfl <;> exact ⟨_, rfl, rfl⟩) (fun w' h => h.1) (fun β w1 hok hw1 hge hout hne => ⟨(⟨β 0, β 7, β 6, β 5, β 8, 0, 0, β 3, β 4, ⟨β 1, β 2, D⟩⟩, 0), ⟨?_, hDl, Nat.zero_le _⟩, ⟨⟨_, rfl, rfl⟩, ⟨_, rfl, rfl⟩, ⟨_, rfl, rfl⟩, ⟨_, rfl, rfl⟩, ⟨_, rfl, rfl⟩, ⟨_, rfl, rfl⟩, ⟨_, rfl, rfl⟩, trivial⟩, trivial, rfl, fun w2 hw2 hLo => ?_⟩))
    (fun x hx => ⟨rfl, rfl⟩) ?_
   · have hrw : ∀ i bk, lk (_ : List (Nat × Blk)) i = some bk → bk.live = true → ∀ b ∈ D.map Prod.fst, β i ≠ b := fun i bk hi hl b hb => by
      obtain ⟨p, hp, rfl⟩ := List.mem_map.1 hb
      exact hout i bk p.1 hi hl (fun w3 hw3 => by obtain ⟨cur, hc⟩ := own_heap (hw3.2 p hp).2; exact ⟨_, _, _, hc⟩)
     have r0 := hrw 0 _ rfl rfl
     have r1 := hrw 1 _ rfl rfl
     have r3 := hrw 3 _ rfl rfl
     have r5 := hrw 5 _ rfl rfl
     have r6 := hrw 6 _ rfl rfl
     have r7 := hrw 7 _ rfl rfl
     have r8 := hrw 8 _ rfl rfl
     refine ⟨hge 0 _ rfl rfl, hge 7 _ rfl rfl, hge 6 _ rfl rfl, hge 5 _ rfl rfl, hge 8 _ rfl rfl, hge 3 _ rfl rfl, fun b hb => ?_, fun hb => r3 _ hb rfl, ⟨hne 7 0 _ _ rfl rfl rfl rfl (by decide), hne 7 6 _ _ rfl rfl rfl rfl (by decide), hne 7 5 _ _ rfl rfl rfl rfl (by decide), hne 7 8 _ _ rfl rfl rfl rfl (by decide), hne 7 1 _ _ rfl rfl rfl rfl (by decide)⟩⟩
     rcases hb with rfl | hb
     · exact ⟨hne 3 0 _ _ rfl rfl rfl rfl (by decide), hne 3 7 _ _ rfl rfl rfl rfl (by decide), hne 3 6 _ _ rfl rfl rfl rfl (by decide), hne 3 5 _ _ rfl rfl rfl rfl (by decide), hne 3 8 _ _ rfl rfl rfl rfl (by decide), hne 3 1 _ _ rfl rfl rfl rfl (by decide)⟩
     · exact ⟨fun e => r0 b hb e.symm, fun e => r7 b hb e.symm, fun e => r6 b hb e.symm, fun e => r5 b hb e.symm, fun e => r8 b hb e.symm, fun e => r1 b hb e.symm⟩
   · have h1 : w2.ownsRow 0 36 1 (.slice (some ⟨β 1, 0, none⟩) su (β 2)) su (rwV T.length su D) := by
      have := hLo 1 (by simp) _ rfl
      simpa [Blk.ok, cs_v] using this
     have e1 : rwV T.length su D = D.map fun p => .slice (some ⟨p.1, 0, none⟩) T.length p.2 := by simp [rwV, hDl]
     have h3 : w2.ownsRow 0 3 1 (.slice (some ⟨β 3, 0, none⟩) T.length (β 4)) T.length (tbV T.length fun _ => 0) := hLo 3 (by simp) _ rfl
     refine ⟨hw2.1, hLo 0 (by simp) _ rfl, ⟨_, hLo 7 (by simp) _ rfl⟩, hLo 6 (by simp) _ rfl, hLo 5 (by simp) _ rfl, hLo 8 (by simp) _ rfl, h3, ?_⟩
     refine ⟨by rw [mkC_len]; exact hDl.symm, fun r hr => ?_, by dsimp only; rw [hDl, ← e1]; exact h1, fun i p xs h2 h3 => ?_, hDn, fun p hp => ⟨(hw2.2 p hp).1, fun e => ?_⟩, hge 1 _ rfl rfl⟩
     · obtain ⟨i, _, rfl⟩ := List.mem_map.1 hr
       exact mkR_len _ _
     · have h2 : D[i]? = some p := h2
       have hi : i < su := by have := (List.getElem?_eq_some_iff.1 h2).1; omega
       rw [mkC_at _ hi, Option.some.injEq] at h3
       subst h3
       rw [mkR_fm]
       exact (hw2.2 p (List.mem_of_getElem? h2)).2
     · exact hout 1 _ p.1 rfl rfl (fun w3 hw3 => by obtain ⟨cur, hc⟩ := own_heap (hw3.2 p hp).2; exact ⟨_, _, _, hc⟩) e.symm
   · rintro ⟨a, j⟩ ⟨ha, hyl, hj⟩
     dsimp only at ha hyl hj ⊢
     have eS : ∀ (c : Gs) w', (MV w T.length su [iv sl, iv ro, iv su, .slice go G.length gc, .slice to T.length tc] a c w') → ∀ (q : Nat) (z : Value), [iv sl, iv ro, iv su, .slice go G.length gc, .slice to T.length tc][q]? = some z → w'.cell? ((⟨a.sc, 0, none⟩ : Addr).add q) = some z := fun c w' hw' => box_at0 hw'.2.sc _ (fun q z hq => hq)
     have eT : ∀ (c : Gs) w', (MV w T.length su [iv sl, iv ro, iv su, .slice go G.length gc, .slice to T.length tc] a c w') → ∀ (q : Nat) (z : Value), [Value.slice to T.length tc][q]? = some z → w'.cell? (((⟨a.sc, 0, none⟩ : Addr).add 4).add q) = some z := fun c w' hw' => box_at hw'.2.sc 4 _ (fun q z hq => match q, hq with | 0, hq => hq)
     have eGB : ∀ (c : Gs) w', (MV w T.length su [iv sl, iv ro, iv su, .slice go G.length gc, .slice to T.length tc] a c w') → ∀ (q : Nat) (z : Value), [Value.slice (some ⟨a.y.o, 0, none⟩) su a.y.c][q]? = some z → w'.cell? ((⟨a.gb, 0, none⟩ : Addr).add q) = some z := fun c w' hw' => box_at0 hw'.2.gb _ (fun q z hq => hq)
     rcases Nat.lt_or_ge j su with hjl | hjl
     · have hsub : subIn (⟨sl, ro, (su : Int), G.map Rw.xs, T.map Tc.d⟩ : SD) [(j : Int)] := ⟨by simp, fun x hx => by
        rw [List.mem_singleton] at hx; subst hx; dsimp only; omega⟩
       have h93j := fun (b : Nat) (w' : World) (hw : Below w.heap.size w w') (hb : w'.heap[b]? = some (.cells #[iv (j : Int)] 3 (0, 0))) => h93 [(j : Int)] (some ⟨b, 0, none⟩) 1 hsub w' hw (rd_one hb)
       rw [needP_one] at h93j
       have hnb : 0 ≤ needP (⟨sl, ro, (su : Int), G.map Rw.xs, T.map Tc.d⟩ : SD) j ∧ needP (⟨sl, ro, (su : Int), G.map Rw.xs, T.map Tc.d⟩ : SD) j ≤ 10000 := by
        rw [← needP_one]
        have := sum_b (f := rowH [(j : Int)]) (M := 200) (G.map Rw.xs) (fun g hg => rowH_bd hv0 hg [(j : Int)] (by simp))
        rw [List.length_map] at this
        show 0 ≤ ((G.map Rw.xs).map (rowH [(j : Int)])).sum ∧ ((G.map Rw.xs).map (rowH [(j : Int)])).sum ≤ 10000
        omega
       have hasg : asgF (⟨sl, ro, (su : Int), G.map Rw.xs, T.map Tc.d⟩ : SD) (j + 1) = asgIn (⟨sl, ro, (su : Int), G.map Rw.xs, T.map Tc.d⟩ : SD) j (needP (⟨sl, ro, (su : Int), G.map Rw.xs, T.map Tc.d⟩ : SD) j).toNat (asgF (⟨sl, ro, (su : Int), G.map Rw.xs, T.map Tc.d⟩ : SD) j) := rfl
       obtain ⟨kn, hkn⟩ := Int.eq_ofNat_of_zero_le hnb.1
       rw [hkn] at h93j hnb
       rw [hkn, Int.toNat_natCast] at hasg
       have hokj := hok0 j (by omega)
       repeat'
        conv => whnf
        first
         |refine zB ?_|refine zD ?_
         |(refine splD ?_ ?_ <;> intro hc <;> first|(exfalso; omega)|skip)
         |refine eL [iv sl, iv ro, iv su, .slice go G.length gc, .slice to T.length tc] ⟨⟨rfl, fun w' hw' => eS _ w' hw'⟩, ?_⟩
         |((with_reducible show CallEv _ _ 93 ..); refine callM [0] (fun β w' hbk hbw => h93j _ _ (by repeat (first | exact hbw | replace hbw := hbw.1)) (hbk 0 (by simp) _ rfl)) ?_)
       refine loopH 0 (fun k : Nat => [(1, .v (pt a.sc)), (3, .v (pt a.gb)), (4, .v (pt a.lb)), (6, .v (pt a.sb)), (7, .v (pt a.kb)), (8, .v (iv j)), (31, .v (iv su)), (32, .v (iv j)), (38, .v (iv kn)), (39, .v (iv k))]) (fun _ => []) (fun k w' => MV w T.length su [iv sl, iv ro, iv su, .slice go G.length gc, .slice to T.length tc] a (asgIn (⟨sl, ro, (su : Int), G.map Rw.xs, T.map Tc.d⟩ : SD) j k (asgF (⟨sl, ro, (su : Int), G.map Rw.xs, T.map Tc.d⟩ : SD) j)) w') (fun k => k ≤ kn) (fun k => kn - k) 0 (Nat.zero_le _) ⟨rfl, rfl, rfl, rfl, rfl, rfl, rfl, rfl, rfl, rfl, trivial⟩ trivial (fun _ h => h) (fun _ _ => ⟨rfl, rfl⟩) ?_
       intro k hk
       have hokk := asgIn_ok (D := (⟨sl, ro, (su : Int), G.map Rw.xs, T.map Tc.d⟩ : SD)) (j := j) (by dsimp only; omega) hokj k
       have hstep : asgIn (⟨sl, ro, (su : Int), G.map Rw.xs, T.map Tc.d⟩ : SD) j (k + 1) (asgF (⟨sl, ro, (su : Int), G.map Rw.xs, T.map Tc.d⟩ : SD) j) = askG (⟨sl, ro, (su : Int), G.map Rw.xs, T.map Tc.d⟩ : SD) j (asgIn (⟨sl, ro, (su : Int), G.map Rw.xs, T.map Tc.d⟩ : SD) j k (asgF (⟨sl, ro, (su : Int), G.map Rw.xs, T.map Tc.d⟩ : SD) j)) := rfl
       have hDl3 : (⟨sl, ro, (su : Int), G.map Rw.xs, T.map Tc.d⟩ : SD).T.length = T.length := by simp
       rcases Nat.lt_or_ge k kn with hkl2 | hkl2
       · generalize hc : asgIn (⟨sl, ro, (su : Int), G.map Rw.xs, T.map Tc.d⟩ : SD) j k (asgF (⟨sl, ro, (su : Int), G.map Rw.xs, T.map Tc.d⟩ : SD) j) = c at *
         have hgrow := fun (a : GA) (ha : a.Ok w.heap.size) => hgr a ha (T.length + 1) ⟨fun _ => false, c.load, c.G⟩ j
         have hask : askG (⟨sl, ro, (su : Int), G.map Rw.xs, T.map Tc.d⟩ : SD) j c = (growF (⟨sl, ro, (su : Int), G.map Rw.xs, T.map Tc.d⟩ : SD) (T.length + 1) j ⟨fun _ => false, c.load, c.G⟩).2 := by unfold askG; rw [hDl3]
         generalize hr : growF (⟨sl, ro, (su : Int), G.map Rw.xs, T.map Tc.d⟩ : SD) (T.length + 1) j ⟨fun _ => false, c.load, c.G⟩ = r at *
         have hcall : ∀ (b d : Nat), (a.at b d).Ok w.heap.size → ∀ w', MW w T.length su [iv sl, iv ro, iv su, .slice go G.length gc, .slice to T.length tc] (a.at b d) ⟨fun _ => false, c.load, c.G⟩ w' → Calls Tryz.prog 126 #[iv j, pt a.sc, pt a.sb, pt a.lb, pt a.gb, pt a.kb] w' fun e w2 => e = .returned (.bool r.1) ∧ Chg (a.at b d).W w' w2 ∧ MV w T.length su [iv sl, iv ro, iv su, .slice go G.length gc, .slice to T.length tc] a r.2 w2 := fun b d hk w' hw' => by
          have h9 := hgrow (a.at b d) hk w' hjl ⟨hokk.nn, hokk.ld, hokk.tm, hokk.te⟩ (Nat.lt_succ_of_le (unS_bd _ _)) hw'
          exact h9.mono fun e w2 h => ⟨h.1, h.2.2, h.2.1.n.un⟩
         have hfrz : ∀ w', (MV w T.length su [iv sl, iv ro, iv su, .slice go G.length gc, .slice to T.length tc] a c w') → (∃ cs ty fr, w'.heap[(⟨a.sb, 0, none⟩ : Addr).block]? = some (.cells cs ty fr) ∧ (⟨a.sb, 0, none⟩ : Addr).off < cs.size) ∧ w'.frozen? ⟨a.sb, 0, none⟩ = false := fun w' hw' => by
          obtain ⟨v, hv⟩ := hw'.2.sb
          exact ⟨⟨_, _, _, hv, by show 0 < 1; decide⟩, frz_box hv 0⟩
         have hask2 : ∀ (w' : World) (b d : Nat), MV w T.length su [iv sl, iv ro, iv su, .slice go G.length gc, .slice to T.length tc] a c w' → w.heap.size ≤ b → (∀ x, (∀ w', MV w T.length su [iv sl, iv ro, iv su, .slice go G.length gc, .slice to T.length tc] a c w' → ∃ cs ty fr, w'.heap[x]? = some (.cells cs ty fr)) → b ≠ x) → w'.ownsRow 0 4 1 (.slice (some ⟨b, 0, none⟩) T.length d) T.length (tbB T.length fun _ => false) → MW w T.length su [iv sl, iv ro, iv su, .slice go G.length gc, .slice to T.length tc] (a.at b d) ⟨fun _ => false, c.load, c.G⟩ (w'.setCell ⟨a.sb, 0, none⟩ (.slice (some ⟨b, 0, none⟩) T.length d)) := fun w' b d hw' hb hne ho => hw'.ask ha (fun x hx => hne x fun w2 hw2 => hw2.2.cells hx) ho
         repeat'
          conv => whnf
          first
           |refine zB ?_|refine zD ?_|refine zF ?_
           |(refine splD ?_ ?_ <;> intro hc <;> first|(exfalso; omega)|skip)
           |refine eL [.slice to T.length tc] ⟨⟨rfl, fun w' hw' => eT _ w' hw'⟩, ?_⟩
           |refine mkO env 0 T.length (tbB T.length fun _ => false) rfl rfl rfl (by decide) rfl (by omega) (by decide) (mkB0 _) rfl ?_
           |refine stG env w [(1, .v (pt a.sc)), (3, .v (pt a.gb)), (4, .v (pt a.lb)), (6, .v (pt a.sb)), (7, .v (pt a.kb)), (8, .v (iv j)), (31, .v (iv su)), (32, .v (iv j)), (38, .v (iv kn)), (39, .v (iv k))] rfl rfl rfl rfl rfl rfl rfl ⟨rfl, rfl, rfl, rfl, rfl, rfl, rfl, rfl, rfl, rfl, trivial⟩ (fun w' h => h.1) (fun b d w' => MW w T.length su [iv sl, iv ro, iv su, .slice go G.length gc, .slice to T.length tc] (a.at b d) ⟨fun _ => false, c.load, c.G⟩ w') hfrz hask2 ?_; intro b d hge hne
           |refine eL [a.fn] ⟨⟨rfl, fun w' hw' => box_at0 hw'.2.kb _ (fun q z hq => hq)⟩, ?_⟩
           |((with_reducible show CallEv _ _ 126 ..); refine callFW (.bool r.1) w (fun x => x < w.heap.size) (a.at b d).Q (a.at b d).W (fun w' => MV w T.length su [iv sl, iv ro, iv su, .slice go G.length gc, .slice to T.length tc] a r.2 w') (fun β w' hw' => hcall b d (ha.at hge fun c hc => hne c fun w2 hw2 => hw2.2.cells hc) w' hw') (fun w' hw' x hx => ⟨Nat.lt_of_lt_of_le hx hw'.1.size, hw'.1.block x hx⟩) (fun x hx => .inl hx) (fun x hx w' hw' => hw'.2.cells hx) (fun w' w2 hw' hc => hw'.dep (fun x hx => GA.Qn_Q hx) hc) ?_)
         all_goals exact ⟨k + 1, by omega, by omega, Ent.weak rfl ⟨rfl, rfl, rfl, rfl, rfl, rfl, rfl, rfl, rfl, rfl, trivial⟩ trivial fun w2 h => by rw [hstep, hask]; exact h⟩
       · obtain rfl : k = kn := by omega
         rw [← hasg]
         repeat'
          conv => whnf
          first
           |refine zF ?_
           |(refine splD ?_ ?_ <;> intro hc <;> first|(exfalso; omega)|skip)
         all_goals exact Dis.ent (x := (a, j + 1)) ⟨⟨ha, hyl, by dsimp only; omega⟩, by dsimp only; omega⟩ (Ent.weak rfl ⟨rfl, rfl, rfl, rfl, rfl, rfl, rfl, trivial⟩ trivial fun _ h => h)
     · obtain rfl : j = su := by omega
       repeat'
        conv => whnf
        first
         |(refine splD ?_ ?_ <;> intro hc <;> first|(exfalso; omega)|skip)
         |refine eL [.slice (some ⟨a.y.o, 0, none⟩) j a.y.c] ⟨⟨rfl, fun w' hw' => eGB _ w' hw'⟩, ?_⟩
       all_goals exact ⟨fun w' h => h.1, fun β w' hB hblk => ⟨⟨a.y, hyl⟩, by show Value.slice _ _ _ = Value.slice _ _ _; rw [hyl], hB.2.gi.st⟩⟩
end Go.Proofs.YtkbfcofifhngfaaGreat
namespace Go.Proofs.YtkbfcofifhngfaaGreat
open Go
theorem askG_row {D : SD} (hv : scOk D = true) (hno : ∀ m, 1 ≤ m → m ≤ 2 ^ D.su.toNat - 1 → unB D (memL m 6) = false) {j : Nat} {s : Gs} (hj : j < D.su.toNat) (h : GOK D s) (hrow : ∀ i, i < D.su.toNat → sumN (s.G i) D.T.length ≤ needP D i) (hlt : sumN (s.G j) D.T.length < needP D j) :
 ∀ i, sumN ((askG D j s).G i) D.T.length = sumN (s.G i) D.T.length + if i = j then 1 else 0 := by
 have hok : GOK D ⟨fun _ => false, s.load, s.G⟩ := ⟨h.nn, h.ld, h.tm, h.te⟩
 have hun : unS ⟨fun _ => false, s.load, s.G⟩ D.T.length < D.T.length + 1 := Nat.lt_succ_of_le (unS_bd _ _)
 cases hr : (growF D (D.T.length + 1) j ⟨fun _ => false, s.load, s.G⟩).1 with
 | true => exact (grow_sp (D.T.length + 1) j ⟨fun _ => false, s.load, s.G⟩ hj hok hun).row hr
 | false =>
  obtain ⟨m, h1, h2, h3⟩ := grow_hall hv hj hok hun (fun _ => rfl) hrow hlt hr
  rw [hno m h1 h2] at h3; cases h3
theorem asgIn_row {D : SD} (hv : scOk D = true) (hno : ∀ m, 1 ≤ m → m ≤ 2 ^ D.su.toNat - 1 → unB D (memL m 6) = false) {j : Nat} {s : Gs} (hj : j < D.su.toNat) (h : GOK D s) (hrow : ∀ i, i < D.su.toNat → sumN (s.G i) D.T.length ≤ needP D i) :
 ∀ k : Nat, sumN (s.G j) D.T.length + k ≤ needP D j → ∀ i, sumN ((asgIn D j k s).G i) D.T.length = sumN (s.G i) D.T.length + if i = j then (k : Int) else 0
 | 0, _, i => by rw [asgIn]; split <;> simp
 | k + 1, hk, i => by
  have ih := asgIn_row hv hno hj h hrow k (by omega)
  have hok := asgIn_ok hj h k
  have := askG_row hv hno hj hok (fun i hi => by
   rw [ih i]
   have := hrow i hi
   split
   · rename_i e; subst e; omega
   · omega) (by rw [ih j, if_pos rfl]; omega) i
  rw [asgIn, this, ih i]
  split <;> omega
theorem asgF_row {D : SD} (hv : scOk D = true) (hnn : ∀ i, 0 ≤ needP D i) (hno : ∀ m, 1 ≤ m → m ≤ 2 ^ D.su.toNat - 1 → unB D (memL m 6) = false) :
 ∀ j, j ≤ D.su.toNat → ∀ i, sumN ((asgF D j).G i) D.T.length = if i < j then needP D i else 0
 | 0, _, i => by rw [if_neg (by omega)]; exact sumN_zero _
 | j + 1, hj, i => by
  have ih := asgF_row hv hnn hno j (by omega)
  have := asgIn_row hv hno (j := j) (by omega) (asgF_ok hv j (by omega)) (fun i hi => by rw [ih i]; have := hnn i; split <;> omega) (needP D j).toNat (by rw [ih j, if_neg (by omega)]; have := hnn j; omega) i
  rw [asgF, this, ih i]
  have := hnn j
  by_cases h1 : i = j
  · subst h1; rw [if_neg (by omega), if_pos rfl, if_pos (by omega)]; omega
  · rw [if_neg h1]
    by_cases h2 : i < j
    · rw [if_pos h2, if_pos (by omega)]; omega
    · rw [if_neg h2, if_neg (by omega)]; omega
def rowP (D : SD) (g i : Nat) : Int := (D.G.getD g []).getD i 0
def remG (D : SD) (g i : Nat) : Int := ((D.G.drop g).map fun r => r.getD i 0).sum
theorem remG_step (D : SD) (g i : Nat) : remG D g i = rowP D g i + remG D (g + 1) i := by
 unfold remG rowP
 by_cases h : g < D.G.length
 · have e : D.G.getD g [] = D.G[g] := by rw [List.getD_eq_getElem?_getD, List.getElem?_eq_getElem h]; rfl
   rw [e, List.drop_eq_getElem_cons h, List.map_cons, List.sum_cons]
 · have e : D.G.getD g [] = [] := by rw [List.getD_eq_getElem?_getD, List.getElem?_eq_none (by omega)]; rfl
   rw [e, List.drop_eq_nil_of_le (by omega), List.drop_eq_nil_of_le (by omega)]; rfl
theorem remG_zero (D : SD) (i : Nat) : remG D 0 i = needP D i := rfl
def b1 (b : Bool) : Int := bif b then 1 else 0
def cUT (L : List Ln) (i t : Nat) : Int := (L.map fun x => b1 (decide (x.j = (i : Int) ∧ x.t = (t : Int)))).sum
def cGU (L : List Ln) (g i : Nat) : Int := (L.map fun x => b1 (decide (x.g = (g : Int) ∧ x.j = (i : Int)))).sum
def remI (D : SD) (g i h i' : Nat) : Int := remG D (g + 1) i' + (if i' < i then 0 else if i' = i then rowP D g i - h else rowP D g i')
def doneI (D : SD) (g i h g' i' : Nat) : Int := if g' < g then rowP D g' i' else if g' = g then (if i' < i then rowP D g i' else if i' = i then h else 0) else 0
structure AInv (D : SD) (G0 : Nat → Nat → Int) (g i h : Nat) (G : Nat → Nat → Int) (L : List Ln) : Prop where
 nn : ∀ i', i' < D.su.toNat → ∀ t, t < D.T.length → 0 ≤ G i' t
 sum : ∀ i', i' < D.su.toNat → sumN (G i') D.T.length = remI D g i h i'
 use : ∀ i', i' < D.su.toNat → ∀ t, t < D.T.length → G i' t + cUT L i' t = G0 i' t
 cnt : ∀ g', g' < D.G.length → ∀ i', i' < D.su.toNat → cGU L g' i' = doneI D g i h g' i'
 rng : ∀ x ∈ L, ∃ a b t : Nat, x = ⟨a, b, t⟩ ∧ a < D.G.length ∧ b < D.su.toNat ∧ t < D.T.length ∧ teachB D t b = true
 len : (L.length : Int) + sumN (fun i' => sumN (G i') D.T.length) D.su.toNat ≤ 320
theorem cUT_snoc (L : List Ln) (x : Ln) (i t : Nat) : cUT (L ++ [x]) i t = cUT L i t + b1 (decide (x.j = (i : Int) ∧ x.t = (t : Int))) := by
 unfold cUT; rw [List.map_append, List.sum_append]; simp
theorem cGU_snoc (L : List Ln) (x : Ln) (g i : Nat) : cGU (L ++ [x]) g i = cGU L g i + b1 (decide (x.g = (g : Int) ∧ x.j = (i : Int))) := by
 unfold cGU; rw [List.map_append, List.sum_append]; simp
theorem b1_eq {p : Prop} [Decidable p] : b1 (decide p) = if p then 1 else 0 := by
 by_cases h : p
 · rw [decide_eq_true h, if_pos h]; rfl
 · rw [decide_eq_false h, if_neg h]; rfl
theorem cUT_nn : ∀ (L : List Ln) (i t : Nat), 0 ≤ cUT L i t
 | [], _, _ => Int.le_refl _
 | a :: l, i, t => by
  have ih := cUT_nn l i t
  have e : cUT (a :: l) i t = b1 (decide (a.j = (i : Int) ∧ a.t = (t : Int))) + cUT l i t := rfl
  rw [e, b1_eq]; split <;> omega
theorem AInv.step {D : SD} {G0 G : Nat → Nat → Int} {g i h p : Nat} {L : List Ln} (H : AInv D G0 g i h G L) (hg : g < D.G.length) (hi : i < D.su.toNat) (hp : p < D.T.length) (h0 : 0 < G i p) (hte : ∀ t, t < D.T.length → 0 < G0 i t → teachB D t i = true) :
 AInv D G0 g i (h + 1) (updG G i p (G i p - 1)) (L ++ [⟨g, i, p⟩]) := by
 have hsum : ∀ i', sumN (updG G i p (G i p - 1) i') D.T.length = sumN (G i') D.T.length + if i' = i then -1 else 0 := fun i' => by
  rw [sum_row_upd _ _ hp]; split <;> omega
 refine ⟨fun i' hi' t ht => ?_, fun i' hi' => ?_, fun i' hi' t ht => ?_, fun g' hg' i' hi' => ?_, fun x hx => ?_, ?_⟩
 · rw [updG_at]; split
   · omega
   · exact H.nn i' hi' t ht
 · rw [hsum, H.sum i' hi']
   unfold remI
   by_cases e : i' = i
   · subst e; simp; omega
   · simp [e]
 · rw [cUT_snoc, b1_eq, updG_at]
   have := H.use i' hi' t ht
   by_cases e : i' = i ∧ t = p
   · obtain ⟨rfl, rfl⟩ := e
     rw [if_pos ⟨rfl, rfl⟩, if_pos ⟨rfl, rfl⟩]; omega
   · rw [if_neg e, if_neg (fun e2 => e ⟨by have := e2.1; dsimp only at this; omega, by have := e2.2; dsimp only at this; omega⟩)]; omega
 · rw [cGU_snoc, b1_eq, H.cnt g' hg' i' hi']
   unfold doneI
   by_cases e1 : g' < g
   · rw [if_pos e1, if_pos e1, if_neg (fun e2 => by have := e2.1; dsimp only at this; omega)]; omega
   · rw [if_neg e1, if_neg e1]
     by_cases e2 : g' = g
     · subst e2
       rw [if_pos rfl, if_pos rfl]
       by_cases e3 : i' < i
       · rw [if_pos e3, if_pos e3, if_neg (fun e => by have := e.2; dsimp only at this; omega)]; omega
       · rw [if_neg e3, if_neg e3]
         by_cases e4 : i' = i
         · subst e4; rw [if_pos rfl, if_pos rfl, if_pos ⟨rfl, rfl⟩]; omega
         · rw [if_neg e4, if_neg e4, if_neg (fun e => by have := e.2; dsimp only at this; omega)]; rfl
     · rw [if_neg e2, if_neg e2, if_neg (fun e => by have := e.1; dsimp only at this; omega)]; rfl
 · rcases List.mem_append.1 hx with hx | hx
   · exact H.rng x hx
   · rw [List.mem_singleton] at hx
     subst hx
     refine ⟨g, i, p, rfl, hg, hi, hp, hte p hp ?_⟩
     have := H.use i hi p hp
     have hc := cUT_nn L i p
     omega
 · have hL := H.len
   rw [List.length_append, List.length_singleton]
   have e : sumN (fun i' => sumN (updG G i p (G i p - 1) i') D.T.length) D.su.toNat = sumN (fun i' => sumN (G i') D.T.length) D.su.toNat - 1 := by
    rw [sumN_congr (g := fun k => if k = i then sumN (G i) D.T.length - 1 else sumN (G k) D.T.length) (fun i' _ => by
     rw [hsum]; split
     · rename_i e; subst e; omega
     · omega), sumN_upd (f := fun k => sumN (G k) D.T.length) hi]; omega
   rw [e]; omega
theorem AInv.nexti {D : SD} {G0 G : Nat → Nat → Int} {g i h : Nat} {L : List Ln} (H : AInv D G0 g i h G L) (hh : (h : Int) = rowP D g i) : AInv D G0 g (i + 1) 0 G L := by
 refine ⟨H.nn, fun i' hi' => ?_, H.use, fun g' hg' i' hi' => ?_, H.rng, H.len⟩
 · rw [H.sum i' hi']
   unfold remI
   congr 1
   by_cases e1 : i' < i
   · rw [if_pos e1, if_pos (by omega)]
   · rw [if_neg e1]
     by_cases e2 : i' = i
     · subst e2; rw [if_pos rfl, if_pos (by omega)]; omega
     · rw [if_neg e2, if_neg (by omega)]
       split
       · rename_i e; subst e; simp
       · rfl
 · rw [H.cnt g' hg' i' hi']
   unfold doneI
   split
   · rfl
   · split
     · by_cases e1 : i' < i
       · rw [if_pos e1, if_pos (by omega)]
       · rw [if_neg e1]
         by_cases e2 : i' = i
         · subst e2; rw [if_pos rfl, if_pos (by omega), hh]
         · rw [if_neg e2, if_neg (by omega)]; split <;> rfl
     · rfl
theorem AInv.nextg {D : SD} {G0 G : Nat → Nat → Int} {g h : Nat} {L : List Ln} (H : AInv D G0 g D.su.toNat h G L) : AInv D G0 (g + 1) 0 0 G L := by
 refine ⟨H.nn, fun i' hi' => ?_, H.use, fun g' hg' i' hi' => ?_, H.rng, H.len⟩
 · rw [H.sum i' hi']
   unfold remI
   rw [if_pos hi', if_neg (by omega), remG_step D (g + 1)]
   split
   · rename_i e; subst e; simp; omega
   · omega
 · rw [H.cnt g' hg' i' hi']
   unfold doneI
   by_cases e1 : g' < g
   · rw [if_pos e1, if_pos (by omega)]
   · rw [if_neg e1]
     by_cases e2 : g' = g
     · subst e2; rw [if_pos rfl, if_pos hi', if_pos (by omega)]
     · rw [if_neg e2, if_neg (by omega)]
       split
       · rw [if_neg (by omega)]; split <;> rfl
       · rfl
structure AllOK (D : SD) (L : List Ln) : Prop where
 cnt : ∀ g, g < D.G.length → ∀ i, i < D.su.toNat → cGU L g i = rowP D g i
 tea : ∀ t, t < D.T.length → cntT L t ≤ tmB D t
 rng : ∀ x ∈ L, ∃ a b t : Nat, x = ⟨a, b, t⟩ ∧ a < D.G.length ∧ b < D.su.toNat ∧ t < D.T.length ∧ teachB D t b = true
 len : L.length ≤ 320
theorem cntT_cUT {L : List Ln} {n : Nat} (h : ∀ x ∈ L, ∃ b : Nat, x.j = b ∧ b < n) (t : Nat) : cntT L t = sumN (fun i => cUT L i t) n := by
 induction L with
 | nil =>
  show (0 : Int) = _
  exact (sumN_zero n).symm
 | cons x l ih =>
  have e1 : cntT (x :: l) t = b1 (decide (x.t = (t : Int))) + cntT l t := rfl
  have e2 : ∀ i, cUT (x :: l) i t = b1 (decide (x.j = (i : Int) ∧ x.t = (t : Int))) + cUT l i t := fun i => rfl
  rw [e1, sumN_congr fun i _ => e2 i, sumN_add, ih fun y hy => h y (List.mem_cons_of_mem _ hy)]
  congr 1
  obtain ⟨b, hb, hbn⟩ := h x List.mem_cons_self
  rw [b1_eq]
  by_cases ht : x.t = (t : Int)
  · rw [if_pos ht]
    have : sumN (fun i => b1 (decide (x.j = (i : Int) ∧ x.t = (t : Int)))) n = sumN (fun k => if k = b then 1 else (fun _ : Nat => (0 : Int)) k) n := sumN_congr fun i _ => by
     rw [b1_eq]
     by_cases hi : i = b
     · subst hi; rw [if_pos ⟨hb, ht⟩, if_pos rfl]
     · rw [if_neg (fun e => hi (by have := e.1; omega)), if_neg hi]
    rw [this, sumN_upd hbn, sumN_zero]; omega
  · rw [if_neg ht]
    have : sumN (fun i => b1 (decide (x.j = (i : Int) ∧ x.t = (t : Int)))) n = sumN (fun _ => 0) n := sumN_congr fun i _ => by
     rw [b1_eq, if_neg (fun e => ht e.2)]
    rw [this, sumN_zero]
theorem AInv.all {D : SD} {G : Nat → Nat → Int} {L : List Ln} {s0 : Gs} (h0 : GOK D s0) (H : AInv D s0.G D.G.length 0 0 G L) : AllOK D L := by
 refine ⟨fun g hg i hi => ?_, fun t ht => ?_, H.rng, ?_⟩
 · rw [H.cnt g hg i hi]; unfold doneI; rw [if_pos hg]
 · rw [cntT_cUT (n := D.su.toNat) (fun x hx => by obtain ⟨a, b, t, rfl, _, hb, _⟩ := H.rng x hx; exact ⟨b, rfl, hb⟩)]
   have h1 := h0.ld t ht
   have h2 := h0.tm t ht
   have : sumN (fun i => cUT L i t) D.su.toNat ≤ sumN (fun i => s0.G i t) D.su.toNat := sumN_le fun i hi => by
    have := H.use i hi t ht
    have := H.nn i hi t ht
    omega
   omega
 · have := H.len
   have h2 : 0 ≤ sumN (fun i' => sumN (G i') D.T.length) D.su.toNat := sumN_nn fun i hi => sumN_nn fun t ht => H.nn i hi t ht
   omega
theorem AInv.start {D : SD} (hv : scOk D = true) {s0 : Gs} (h0 : GOK D s0) (hs : ∀ i, i < D.su.toNat → sumN (s0.G i) D.T.length = needP D i) : AInv D s0.G 0 0 0 s0.G [] := by
 refine ⟨fun i hi t ht => h0.nn t ht i hi, fun i hi => ?_, fun i hi t ht => by show _ + (0 : Int) = _; omega, fun g hg i hi => ?_, fun x hx => (by cases hx), ?_⟩
 · rw [hs i hi, ← remG_zero, remG_step]
   unfold remI
   rw [if_neg (by omega)]
   split
   · rename_i e; subst e; simp; omega
   · omega
 · show (0 : Int) = _
   unfold doneI
   rw [if_neg (by omega)]
   split
   · rw [if_neg (by omega)]; split <;> rfl
   · rfl
 · rw [sumN_swap]
   obtain ⟨-, -, -, -, hT, -, -⟩ := scOk_iff.1 hv
   have : sumN (fun t => sumN (fun i => s0.G i t) D.su.toNat) D.T.length ≤ sumN (fun _ => 40) D.T.length := sumN_le fun t ht => by
    rw [← h0.ld t ht]
    have h1 := h0.tm t ht
    have h2 := (tea_at hv (t := D.T.getD t ([], 0)) (by rw [List.getD_eq_getElem?_getD, List.getElem?_eq_getElem ht]; exact List.getElem_mem ht)).2.1
    unfold tmB at h1
    omega
   have h3 : ∀ n, sumN (fun _ => 40) n = 40 * n := fun n => by
    induction n with
    | zero => rfl
    | succ n ih => rw [sumN, ih]; omega
   rw [h3] at this
   show (0 : Int) + _ ≤ _
   omega
theorem some_pos {f : Nat → Int} : ∀ {n : Nat}, (∀ i, i < n → 0 ≤ f i) → 0 < sumN f n → ∃ i, i < n ∧ 0 < f i
 | 0, _, h => absurd h (by rw [sumN]; decide)
 | n + 1, hn, h => by
  rw [sumN] at h
  by_cases h1 : 0 < f n
  · exact ⟨n, by omega, h1⟩
  · obtain ⟨i, h2, h3⟩ := some_pos (f := f) (n := n) (fun i hi => hn i (by omega)) (by omega)
    exact ⟨i, by omega, h3⟩
end Go.Proofs.YtkbfcofifhngfaaGreat
namespace Go.Proofs.YtkbfcofifhngfaaGreat
open Go Tx Go.RowKit
theorem needP_nn {D : SD} (hv : scOk D = true) (i : Nat) : 0 ≤ needP D i := by
 rw [← needP_one]
 exact (sum_b (f := rowH [(i : Int)]) (M := 200) D.G (fun g hg => rowH_bd hv hg [(i : Int)] (by simp))).1
theorem TbIn.mono {m m' N : Nat} {y : TbG} {C : List (List Int)} {w : World} (h : TbIn m' N y C w) (hm : m ≤ m') : TbIn m N y C w :=
 ⟨h.l, h.n, h.h, h.r, h.d, fun p hp => ⟨Nat.le_trans hm (h.a p hp).1, (h.a p hp).2⟩, Nat.le_trans hm h.m⟩
theorem rowP_nn {D : SD} (hv : scOk D = true) (g i : Nat) : 0 ≤ rowP D g i := by
 unfold rowP
 by_cases hg : g < D.G.length
 · have e : D.G.getD g [] = D.G[g] := by rw [List.getD_eq_getElem?_getD, List.getElem?_eq_getElem hg]; rfl
   rw [e]
   have h1 := (grp_at hv (List.getElem_mem hg)).2
   by_cases hi : i < D.G[g].length
   · have e2 : D.G[g].getD i 0 = D.G[g][i] := by rw [List.getD_eq_getElem?_getD, List.getElem?_eq_getElem hi]; rfl
     rw [e2]; exact (h1 _ (List.getElem_mem hi)).1
   · rw [List.getD_eq_getElem?_getD, List.getElem?_eq_none (by omega)]; exact Int.le_refl _
 · have e : D.G.getD g [] = [] := by rw [List.getD_eq_getElem?_getD, List.getElem?_eq_none (by omega)]; rfl
   rw [e, List.getD_eq_getElem?_getD, List.getElem?_eq_none (by simp)]; exact Int.le_refl _
theorem remG_nn {D : SD} (h : ∀ g i : Nat, 0 ≤ rowP D g i) (g i : Nat) : 0 ≤ remG D g i := by
 have : ∀ n g, D.G.length ≤ g + n → 0 ≤ remG D g i := fun n => by
  induction n with
  | zero => intro g hg; unfold remG; rw [List.drop_eq_nil_of_le (by omega)]; exact Int.le_refl _
  | succ n ih => intro g hg; rw [remG_step]; have := ih (g + 1) (by omega); have := h g i; omega
 exact this D.G.length g (by omega)
theorem hbd {D : SD} {G : Nat → Nat → Int} {l : Nat} (nn : ∀ i', i' < D.su.toNat → ∀ t, t < D.T.length → 0 ≤ G i' t) (len : (l : Int) + sumN (fun i' => sumN (G i') D.T.length) D.su.toNat ≤ 320) (i t : Nat) (hi : i < D.su.toNat) (ht : t < D.T.length) : G i t ≤ 320 ∧ l ≤ 320 := by
 have h1 : G i t ≤ sumN (G i) D.T.length := sumN_ge (f := G i) (fun k hk => nn i hi k hk) ht
 have h2 : sumN (G i) D.T.length ≤ sumN (fun i' => sumN (G i') D.T.length) D.su.toNat := sumN_ge (f := fun i' => sumN (G i') D.T.length) (fun k hk => sumN_nn fun t ht => nn k hk t ht) hi
 have h3 : 0 ≤ sumN (fun i' => sumN (G i') D.T.length) D.su.toNat := sumN_nn fun k hk => sumN_nn fun t ht => nn k hk t ht
 have h4 := nn i hi t ht
 omega
structure AllF (D : SD) where
 o : Option Addr
 c : Nat
 L : List Ln
 h : AllOK D L
abbrev AllF.v {D : SD} (y : AllF D) : Value := .slice y.o y.L.length y.c
theorem all_ok (s : Sc) (w : World) (h : ScIn s w) (hB : ScB s) (hv : scOk s.d = true) (hno : ∀ m, 1 ≤ m → m ≤ 2 ^ s.d.su.toNat - 1 → unB s.d (memL m 6) = false) :
 Calls Tryz.prog 39 #[s.v] w fun e w' => ∃ y : AllF s.d, e = .returned y.v ∧ Below w.heap.size w w' ∧ St w.heap.size (Rd 3 Ln.cs y.v y.L) w' := by
 have h86 := fun (w' : World) (hw : Below w.heap.size w w') => (assign_ok s w' (h.below hw) hB hv).mono fun e w2 ⟨y, h1, h2, h3⟩ => (⟨y, h1, h2, fun w3 hk => (h3 w3 hk).mono hw.size⟩ : ∃ y : {y : TbG // y.D.length = s.su.toNat}, e = Ending.returned y.1.v ∧ Below w'.heap.size w' w2 ∧ St w'.heap.size (TbIn w.heap.size s.T.length y.1 (mkC s.su.toNat s.T.length (asgF s.d s.su.toNat).G)) w2)
 have hok0 := asgF_ok hv s.d.su.toNat (Nat.le_refl _)
 have hst0 := AInv.start hv hok0 (fun i hi => by rw [asgF_row hv (needP_nn hv) hno _ (Nat.le_refl _) i, if_pos hi])
 have hgrp := fun (g : List Int) (hg : g ∈ s.d.G) => grp_at hv hg
 obtain ⟨hv1, hv2, hv3, hv4, hv5, hv6, hv7⟩ := scOk_iff.1 hv
 obtain ⟨hg, hr, ht, hh⟩ := h
 have hb2 := hB.r
 obtain ⟨sl, ro, su, go, gc, G, to, tc, T⟩ := s
 dsimp only [Sc.d] at hv hno hok0 hst0 hgrp hv1 hv2 hv3 hv4 hv5 hv6 hv7 hg hr ht hh hb2 h86 ⊢
 obtain ⟨su, rfl⟩ := Int.eq_ofNat_of_zero_le (show 0 ≤ su by omega)
 simp only [Int.toNat_natCast] at hok0 hst0 h86 hno
 simp only [List.length_map] at hv4 hv5
 have hDG : ∀ g : Nat, (⟨sl, ro, (su : Int), G.map Rw.xs, T.map Tc.d⟩ : SD).G[g]? = (G[g]?).map Rw.xs := fun g => by simp
 have hDn : (⟨sl, ro, (su : Int), G.map Rw.xs, T.map Tc.d⟩ : SD).T.length = T.length := by simp
 have hDg : (⟨sl, ro, (su : Int), G.map Rw.xs, T.map Tc.d⟩ : SD).G.length = G.length := by simp
 have hDsu : (⟨sl, ro, (su : Int), G.map Rw.xs, T.map Tc.d⟩ : SD).su.toNat = su := by simp
 have hgrD : ∀ (g i : Nat), 0 ≤ rowP (⟨sl, ro, (su : Int), G.map Rw.xs, T.map Tc.d⟩ : SD) g i := fun g i => rowP_nn hv g i
 generalize hD : (⟨sl, ro, (su : Int), G.map Rw.xs, T.map Tc.d⟩ : SD) = D at *
 generalize hs0 : asgF D su = s0 at *
 have hfin : ∀ {G' : Nat → Nat → Int} {L : List Ln}, AInv D s0.G G.length 0 0 G' L → AllOK D L := fun H => AInv.all hok0 (by rw [hDg]; exact H)
 refine calls_fam env mixed Tryz.func39 has39 Tryz.ntmps39 [.agg #[iv sl, iv ro, iv su, .slice go G.length gc, .slice to T.length tc]] (by simp) ?_
 repeat'
  conv => whnf
  first
   |refine zB ?_|refine zD ?_
   |((with_reducible show CallEv _ _ 86 ..); refine callF [] (fun y : {y : TbG // y.D.length = su} => y.1.v) (fun y => TbIn w.heap.size T.length y.1 (mkC su T.length s0.G)) (fun β w' _ hbw => h86 w' (by repeat (first | exact hbw | replace hbw := hbw.1))) ?_; intro ⟨y, hyl⟩; dsimp only)
 refine loopH 3 (fun x : Nat × (Nat → Nat → Int) × List Ln => [(1, .ptr 0 0), (2, oSV 1 2 x.2.2), (3, .v (.slice (some ⟨y.o, 0, none⟩) y.D.length y.c)), (12, .v (.slice go G.length gc)), (13, .v (iv G.length)), (14, .v (iv x.1))]) (fun x => (0, .cells [.v (iv sl), .v (iv ro), .v (iv su), .v (.slice go G.length gc), .v (.slice to T.length tc)] 34) :: oM 1 2 3 Ln.cs 46 x.2.2) (fun x w' => Below w.heap.size w w' ∧ TbIn w.heap.size T.length y (mkC su T.length (x.2.1)) w') (fun x => x.1 ≤ G.length ∧ AInv D s0.G x.1 0 0 x.2.1 x.2.2) (fun x => G.length - x.1) (0, s0.G, []) ⟨Nat.zero_le _, hst0⟩ ⟨rfl, rfl, rfl, rfl, rfl, rfl, trivial⟩ ⟨rfl, trivial⟩ (fun _ h => h) (fun x _ => by cases x.2.2 <;> exact ⟨rfl, rfl⟩) ?_
 intro ⟨g, G1, L1⟩ ⟨hgn, hI⟩
 dsimp only at hgn hI ⊢
 have er : ∀ (G1 : Nat → Nat → Int) (i : Nat) (p : Nat × Nat), y.D[i]? = some p → ∀ w', (Below w.heap.size w w' ∧ TbIn w.heap.size T.length y (mkC su T.length (G1)) w') → ∀ (q : Nat) (z : Value), [Value.slice (some ⟨p.1, 0, none⟩) T.length p.2][q]? = some z → w'.cell? (((⟨y.o, 0, none⟩ : Addr).add ((i : Int).toNat * 1)).add q) = some z := fun G1 i p hp w' hw' => own_at1 hw'.2.h i (by rw [List.getElem?_map, hp]; rfl)
 have ei : ∀ (G1 : Nat → Nat → Int) (i t : Nat) (p : Nat × Nat), y.D[i]? = some p → i < su → t < T.length → ∀ w', (Below w.heap.size w w' ∧ TbIn w.heap.size T.length y (mkC su T.length (G1)) w') → ∀ (q : Nat) (z : Value), [iv (G1 i t)][q]? = some z → w'.cell? (((⟨p.1, 0, none⟩ : Addr).add ((t : Int).toNat * 1)).add q) = some z := fun G1 i t p hp hi htl w' hw' => own_at1 (hw'.2.r i p _ hp (mkC_at G1 hi)) t (by rw [mkR_fm, tbV_at _ htl])
 have had : ∀ (b : Nat) (t : Nat), (⟨b, 0, none⟩ : Addr).add ((t : Int).toNat * 1) = ⟨b, t, none⟩ := fun b t => by rw [own_add, Int.toNat_natCast, Nat.mul_one, Nat.zero_add]
 have hsp1 : ∀ (b q : Nat), ((⟨b, 0, none⟩ : Addr).add q).spot = none := fun b q => by rw [own_add]
 have ast : ∀ (G1 : Nat → Nat → Int) (i t : Nat) (p : Nat × Nat), y.D[i]? = some p → i < su → t < T.length → ∀ w', (Below w.heap.size w w' ∧ TbIn w.heap.size T.length y (mkC su T.length (G1)) w') → (∃ cs ty fr, w'.heap[((⟨p.1, 0, none⟩ : Addr).add ((t : Int).toNat * 1)).block]? = some (.cells cs ty fr) ∧ ((⟨p.1, 0, none⟩ : Addr).add ((t : Int).toNat * 1)).off < cs.size) ∧ w'.frozen? ((⟨p.1, 0, none⟩ : Addr).add ((t : Int).toNat * 1)) = false := fun G1 i t p hp hi htl w' hw' => by rw [had]; exact own_atS (hw'.2.r i p _ hp (mkC_at G1 hi)) htl
 have sst : ∀ (G1 : Nat → Nat → Int) (i t : Nat) (p : Nat × Nat) (v : Int), y.D[i]? = some p → i < su → t < T.length → ∀ w', (Below w.heap.size w w' ∧ TbIn w.heap.size T.length y (mkC su T.length (G1)) w') → Below w.heap.size w (w'.setCell ((⟨p.1, 0, none⟩ : Addr).add ((t : Int).toNat * 1)) (iv v)) ∧ TbIn w.heap.size T.length y (mkC su T.length (updG G1 i t v)) (w'.setCell ((⟨p.1, 0, none⟩ : Addr).add ((t : Int).toNat * 1)) (iv v)) := fun G1 i t p v hp hi htl w' hw' => by
  rw [had, ← mkC_set G1 v hi htl]
  exact ⟨below_set hw'.1 (hw'.2.a p (List.mem_of_getElem? hp)).1, hw'.2.set hp (mkC_at G1 hi) htl⟩
 rcases Nat.lt_or_ge g G.length with hgl | hgl
 · obtain ⟨⟨go', gc', gs⟩, hgx⟩ : ∃ b, G[g]? = some b := ⟨_, List.getElem?_eq_getElem hgl⟩
   obtain ⟨_, adg, rfl, _⟩ := hg.ptr (by omega)
   have e6 := fun (w' : World) hw' => rd_ati (hg.below (w' := w') hw') hgx
   have hgr := hr _ (List.mem_of_getElem? hgx)
   change Rd 1 iF (.slice go' gs.length gc') gs w at hgr
   have hgm : D.G[g]? = some gs := by rw [hDG, hgx]; rfl
   have hgm2 : (G.map Rw.xs)[g]? = some gs := by rw [List.getElem?_map, hgx]; rfl
   have hgl2 := hgrp gs (List.mem_of_getElem? hgm2)
   have hrowP : ∀ i, rowP D g i = gs.getD i 0 := fun i => by unfold rowP; rw [show D.G.getD g [] = gs from by rw [List.getD_eq_getElem?_getD, hgm]; rfl]
   repeat'
    conv => whnf
    first
     |refine zG ?_
     |(refine splD ?_ ?_ <;> intro hc <;> first|(exfalso; omega)|skip)
     |refine eL [.slice go' gs.length gc'] ⟨⟨rfl, fun w' hw' => e6 w' hw'.1⟩, ?_⟩
   refine loopH 3 (fun x : Nat × (Nat → Nat → Int) × List Ln => [(1, .ptr 0 0), (2, oSV 1 2 x.2.2), (3, .v (.slice (some ⟨y.o, 0, none⟩) y.D.length y.c)), (12, .v (.slice (some adg) G.length gc)), (13, .v (iv G.length)), (14, .v (iv g)), (4, .v (iv g)), (19, .v (.slice go' gs.length gc')), (20, .v (iv gs.length)), (21, .v (iv x.1))]) (fun x => (0, .cells [.v (iv sl), .v (iv ro), .v (iv su), .v (.slice (some adg) G.length gc), .v (.slice to T.length tc)] 34) :: oM 1 2 3 Ln.cs 46 x.2.2) (fun x w' => Below w.heap.size w w' ∧ TbIn w.heap.size T.length y (mkC su T.length (x.2.1)) w') (fun x => x.1 ≤ gs.length ∧ AInv D s0.G g x.1 0 x.2.1 x.2.2) (fun x => gs.length - x.1) (0, G1, L1) ⟨Nat.zero_le _, hI⟩ ⟨rfl, rfl, rfl, rfl, rfl, rfl, rfl, rfl, rfl, rfl, trivial⟩ (by cases L1 <;> first | exact ⟨rfl, trivial⟩ | exact ⟨rfl, rfl, trivial⟩) (fun _ h => h) (fun x _ => by cases x.2.2 <;> exact ⟨rfl, rfl⟩) ?_
   clear hI
   intro ⟨i, G2, L2⟩ ⟨hin, hI⟩
   dsimp only at hin hI ⊢
   rcases Nat.lt_or_ge i gs.length with hil2 | hil2
   · obtain ⟨v, hvx⟩ : ∃ v, gs[i]? = some v := ⟨_, List.getElem?_eq_getElem hil2⟩
     obtain ⟨_, adr, rfl, _⟩ := hgr.ptr (by omega)
     have e7 := fun (w' : World) hw' => rd_ati (hgr.below (w' := w') hw') hvx
     have hvb := hgl2.2 v (List.mem_of_getElem? hvx)
     have hvr : rowP D g i = v := by rw [hrowP, List.getD_eq_getElem?_getD, hvx]; rfl
     obtain ⟨vn, rfl⟩ := Int.eq_ofNat_of_zero_le hvb.1
     have hil : i < su := by omega
     obtain ⟨p, hp⟩ : ∃ p, y.D[i]? = some p := ⟨_, List.getElem?_eq_getElem (by omega)⟩
     repeat'
      conv => whnf
      first
       |refine zG ?_
       |(refine splD ?_ ?_ <;> intro hc <;> first|(exfalso; omega)|skip)
       |refine eL [iv (vn : Int)] ⟨⟨rfl, fun w' hw' => e7 w' hw'.1⟩, ?_⟩
     refine loopH 3 (fun x : Nat × (Nat → Nat → Int) × List Ln × Nat => [(1, .ptr 0 0), (2, oSV 1 2 x.2.2.1), (3, .v (.slice (some ⟨y.o, 0, none⟩) y.D.length y.c)), (12, .v (.slice (some adg) G.length gc)), (13, .v (iv G.length)), (14, .v (iv g)), (4, .v (iv g)), (19, .v (.slice (some adr) gs.length gc')), (20, .v (iv gs.length)), (21, .v (iv i)), (6, .v (iv i)), (26, .v (iv vn)), (27, .v (iv x.1)), (8, .v (iv x.2.2.2))]) (fun x => (0, .cells [.v (iv sl), .v (iv ro), .v (iv su), .v (.slice (some adg) G.length gc), .v (.slice to T.length tc)] 34) :: oM 1 2 3 Ln.cs 46 x.2.2.1) (fun x w' => Below w.heap.size w w' ∧ TbIn w.heap.size T.length y (mkC su T.length (x.2.1)) w') (fun x => x.1 ≤ vn ∧ AInv D s0.G g i x.1 x.2.1 x.2.2.1 ∧ ∀ t, t < x.2.2.2 → x.2.1 i t = 0) (fun x => vn - x.1) (0, G2, L2, 0) ⟨Nat.zero_le _, hI, fun t h => absurd h (by dsimp only; omega)⟩ ⟨rfl, rfl, rfl, rfl, rfl, rfl, rfl, rfl, rfl, rfl, rfl, rfl, rfl, rfl, trivial⟩ (by cases L2 <;> first | exact ⟨rfl, trivial⟩ | exact ⟨rfl, rfl, trivial⟩) (fun _ h => h) (fun x _ => by cases x.2.2.1 <;> exact ⟨rfl, rfl⟩) ?_
     clear hI
     intro ⟨k, G3, L3, q0⟩ ⟨hkn, hI, hz0⟩
     dsimp only at hkn hI hz0 ⊢
     rcases Nat.lt_or_ge k vn with hkl | hkl
     · have hpos : ∃ t, t < D.T.length ∧ 0 < G3 i t := some_pos (fun t ht => hI.nn i (by omega) t ht) (by
        rw [hI.sum i (by omega)]
        unfold remI
        rw [if_neg (by omega), if_pos rfl, hvr]
        have := remG_nn hgrD (g + 1) i
        omega)
       obtain ⟨t0, ht0, hpos⟩ := hpos
       repeat'
        conv => whnf
        first
         |(refine splD ?_ ?_ <;> intro hc <;> first|(exfalso; omega)|skip)
       refine loopN 3 (fun q : Nat => [(1, .ptr 0 0), (2, oSV 1 2 L3), (3, .v (.slice (some ⟨y.o, 0, none⟩) y.D.length y.c)), (12, .v (.slice (some adg) G.length gc)), (13, .v (iv G.length)), (14, .v (iv g)), (4, .v (iv g)), (19, .v (.slice (some adr) gs.length gc')), (20, .v (iv gs.length)), (21, .v (iv i)), (6, .v (iv i)), (26, .v (iv vn)), (27, .v (iv k)), (8, .v (iv q))]) (fun q => (0, .cells [.v (iv sl), .v (iv ro), .v (iv su), .v (.slice (some adg) G.length gc), .v (.slice to T.length tc)] 34) :: oM 1 2 3 Ln.cs 46 L3) (fun q => q ≤ t0 ∧ ∀ t, t < q → G3 i t = 0) (fun q => t0 - q) q0 ⟨Nat.le_of_not_lt fun h => absurd (hz0 t0 h) (by omega), hz0⟩ ⟨rfl, rfl, rfl, rfl, rfl, rfl, rfl, rfl, rfl, rfl, rfl, rfl, rfl, rfl, trivial⟩ (by cases L3 <;> first | exact ⟨rfl, trivial⟩ | exact ⟨rfl, rfl, trivial⟩) (fun q _ => by cases L3 <;> exact ⟨rfl, rfl⟩) ?_
       intro q ⟨hq, hz⟩
       have hqn : q < T.length := by omega
       have hnn := hI.nn i (by omega) q (by omega)
       have hgb3 := hbd hI.nn hI.len i q (by omega) (by omega)
       by_cases hq0 : G3 i q = 0
       · have hne : q ≠ t0 := fun e => by rw [e] at hq0; omega
         repeat'
          conv => whnf
          first
           |refine zF ?_|refine zG ?_|refine splT ?_
           |refine eL [.slice (some ⟨p.1, 0, none⟩) T.length p.2] ⟨⟨rfl, fun w' hw' => er _ i p hp w' hw'⟩, ?_⟩
           |refine eL [iv ((0 : Int))] ⟨⟨rfl, fun w' hw' => by have := ei G3 i q p hp hil hqn w' hw'; rw [hq0] at this; exact this⟩, ?_⟩
         all_goals first | (exfalso; omega) | exact ⟨q + 1, ⟨by omega, fun t h => by
          by_cases e : t = q
          · rw [e]; exact hq0
          · exact hz t (by omega)⟩, by omega, Ent.weak rfl ⟨rfl, rfl, rfl, rfl, rfl, rfl, rfl, rfl, rfl, rfl, rfl, rfl, rfl, rfl, trivial⟩ (by cases L3 <;> first | exact ⟨rfl, trivial⟩ | exact ⟨rfl, rfl, trivial⟩) fun _ h => h⟩
       · have hI2 := hI.step (p := q) (by omega) (by omega) (by omega) (by omega) (fun t ht h => hok0.te t ht i (by omega) h)
         have hbd3 := hgb3
         have hlen3 := hI.len
         cases L3 with
         | nil =>
          repeat'
           conv => whnf
           first
            |refine zB ?_|refine zF ?_|refine zG ?_|refine zI ?_
            |(refine splD ?_ ?_ <;> intro hc <;> first|(exfalso; omega)|skip)
            |refine eL [.slice (some ⟨p.1, 0, none⟩) T.length p.2] ⟨⟨rfl, fun w' hw' => er _ i p hp w' hw'⟩, ?_⟩
            |refine eL [iv (G3 i q)] ⟨⟨rfl, fun w' hw' => ei _ i q p hp hil hqn w' hw'⟩, ?_⟩
            |refine stF env rfl rfl rfl rfl rfl rfl (hsp1 _ _) (fun w' => Below w.heap.size w w' ∧ TbIn w.heap.size T.length y (mkC su T.length (updG G3 i q (G3 i q - 1))) w') (fun w' hw' => ast G3 i q p hp hil hqn w' hw') (fun w' hw' => sst G3 i q p (G3 i q - 1) hp hil hqn w' hw') ?_
          all_goals exact ⟨(k + 1, updG G3 i q (G3 i q - 1), [] ++ [⟨(g : Int), (i : Int), (q : Int)⟩], q), ⟨by dsimp only; omega, hI2, fun t ht => by dsimp only at ht ⊢; rw [updG_ne _ _ (fun e => by omega)]; exact hz t ht⟩, by dsimp only; omega, Ent.ren (rho [(1, 4), (2, 5)]) rfl rfl ⟨rfl, rfl, rfl, rfl, rfl, rfl, rfl, rfl, rfl, rfl, rfl, rfl, rfl, rfl, trivial⟩ (by exact ⟨rfl, rfl, trivial⟩) fun _ h => h⟩
         | cons a0 L3 =>
          simp only [List.length_cons] at hbd3
          repeat'
           conv => whnf
           first
            |refine zB ?_|refine zF ?_|refine zG ?_|refine zH ?_|refine zI ?_
            |(refine splD ?_ ?_ <;> intro hc <;> first|(exfalso; omega)|skip)
            |refine eL [.slice (some ⟨p.1, 0, none⟩) T.length p.2] ⟨⟨rfl, fun w' hw' => er _ i p hp w' hw'⟩, ?_⟩
            |refine eL [iv (G3 i q)] ⟨⟨rfl, fun w' hw' => ei _ i q p hp hil hqn w' hw'⟩, ?_⟩
            |refine stF env rfl rfl rfl rfl rfl rfl (hsp1 _ _) (fun w' => Below w.heap.size w w' ∧ TbIn w.heap.size T.length y (mkC su T.length (updG G3 i q (G3 i q - 1))) w') (fun w' hw' => ast G3 i q p hp hil hqn w' hw') (fun w' hw' => sst G3 i q p (G3 i q - 1) hp hil hqn w' hw') ?_
          all_goals exact ⟨(k + 1, updG G3 i q (G3 i q - 1), a0 :: L3 ++ [⟨(g : Int), (i : Int), (q : Int)⟩], q), ⟨by dsimp only; omega, hI2, fun t ht => by dsimp only at ht ⊢; rw [updG_ne _ _ (fun e => by omega)]; exact hz t ht⟩, by dsimp only; omega, Ent.ren (rho [(1, 4), (2, 5)]) rfl rfl ⟨rfl, by simp [oSV]; rfl, rfl, rfl, rfl, rfl, rfl, rfl, rfl, rfl, rfl, rfl, rfl, rfl, trivial⟩ (by exact ⟨rfl, by simp [oM]; rfl, trivial⟩) fun _ h => h⟩
     · obtain rfl : k = vn := by omega
       have hI2 := hI.nexti hvr.symm
       repeat'
        conv => whnf
        first
         |refine zF ?_
         |(refine splD ?_ ?_ <;> intro hc <;> first|(exfalso; omega)|skip)
       all_goals exact ⟨(i + 1, G3, L3), ⟨by dsimp only; omega, hI2⟩, by dsimp only; omega, Ent.weak rfl ⟨rfl, rfl, rfl, rfl, rfl, rfl, rfl, rfl, rfl, rfl, trivial⟩ (by cases L3 <;> first | exact ⟨rfl, trivial⟩ | exact ⟨rfl, rfl, trivial⟩) fun _ h => h⟩
   · obtain rfl : i = gs.length := by omega
     have hI2 := AInv.nextg (by rw [show D.su.toNat = gs.length from by omega]; exact hI)
     repeat'
      conv => whnf
      first
       |refine zF ?_
       |(refine splD ?_ ?_ <;> intro hc <;> first|(exfalso; omega)|skip)
     all_goals exact ⟨(g + 1, G2, L2), ⟨by dsimp only; omega, hI2⟩, by dsimp only; omega, Ent.weak rfl ⟨rfl, rfl, rfl, rfl, rfl, rfl, trivial⟩ (by cases L2 <;> first | exact ⟨rfl, trivial⟩ | exact ⟨rfl, rfl, trivial⟩) fun _ h => h⟩
 · obtain rfl : g = G.length := by omega
   have hA := hfin hI
   cases L1 with
   | nil =>
    repeat'
     conv => whnf
     first
      |(refine splD ?_ ?_ <;> intro hc <;> first|(exfalso; omega)|skip)
    all_goals exact ⟨fun w' h => h.1, fun β w' hB hblk => ⟨⟨none, 0, [], hA⟩, rfl, fun w2 k2 => .inl ⟨rfl, rfl⟩⟩⟩
   | cons a0 L1 =>
    repeat'
     conv => whnf
     first
      |(refine splD ?_ ?_ <;> intro hc <;> first|(exfalso; omega)|skip)
    all_goals exact ⟨fun w' h => h.1, fun β w' hB hblk => by obtain ⟨y, h1, h2⟩ := oEnd (sz := 3) (f := Ln.cs) (fun _ => rfl) a0 L1 (hblk 1 _ rfl rfl); exact ⟨⟨y.1, y.2, a0 :: L1, hA⟩, h1, h2⟩⟩
end Go.Proofs.YtkbfcofifhngfaaGreat
namespace Go.Proofs.YtkbfcofifhngfaaGreat
open Go
def vP (p : Pn) (te : Bool) (g s : Nat) : Int := if te = true then p.B (g * 40 + s) else p.A (g * 40 + s)
def vx (L : List Ln) (i : Nat) (te : Bool) : Nat := if te = true then (lnAt L i).t.toNat else (lnAt L i).g.toNat
theorem nxP_v (L : List Ln) (p : Pn) (i : Nat) (s : Int) (te : Bool) : nxP L p i s te = vP p te (vx L i te) s.toNat := by
 cases te <;> rfl
theorem vP_off {L : List Ln} {p : Pn} {i s0 : Nat} (hS : p.S i = (s0 : Int)) (h0 : s0 < 40) (te : Bool) (g s : Nat) (hs : s < 40) :
 vP (putF (lnAt L i) p i (-1)) te g s = if g = vx L i te ∧ s = s0 then -1 else vP p te g s := by
 have e : putF (lnAt L i) p i (-1) = ⟨updF p.S i (-1), updF p.A (gAt (lnAt L i) s0) (-1), updF p.B (tAt (lnAt L i) s0) (-1)⟩ := by
  unfold putF
  dsimp only
  rw [if_pos rfl, if_neg (show ¬ p.S i = -1 by rw [hS]; omega), hS]
 rw [e]
 cases te with
 | true =>
  show updF p.B (tAt (lnAt L i) s0) (-1) (g * 40 + s) = if g = (lnAt L i).t.toNat ∧ s = s0 then -1 else p.B (g * 40 + s)
  unfold updF tAt
  rw [Int.toNat_natCast]
  by_cases h : g = (lnAt L i).t.toNat ∧ s = s0
  · rw [if_pos h, if_pos (by omega)]
  · rw [if_neg h, if_neg (by omega)]
 | false =>
  show updF p.A (gAt (lnAt L i) s0) (-1) (g * 40 + s) = if g = (lnAt L i).g.toNat ∧ s = s0 then -1 else p.A (g * 40 + s)
  unfold updF gAt
  rw [Int.toNat_natCast]
  by_cases h : g = (lnAt L i).g.toNat ∧ s = s0
  · rw [if_pos h, if_pos (by omega)]
  · rw [if_neg h, if_neg (by omega)]
theorem vP_on {L : List Ln} {p : Pn} {i s1 : Nat} (hS : p.S i = -1) (h1 : s1 < 40) (te : Bool) (g s : Nat) (hs : s < 40) :
 vP (putF (lnAt L i) p i (s1 : Int)) te g s = if g = vx L i te ∧ s = s1 then (i : Int) else vP p te g s := by
 have e : putF (lnAt L i) p i (s1 : Int) = ⟨updF p.S i s1, updF p.A (gAt (lnAt L i) s1) i, updF p.B (tAt (lnAt L i) s1) i⟩ := by
  unfold putF
  rw [if_pos hS, if_neg (by omega)]
 rw [e]
 cases te with
 | true =>
  show updF p.B (tAt (lnAt L i) s1) i (g * 40 + s) = if g = (lnAt L i).t.toNat ∧ s = s1 then (i : Int) else p.B (g * 40 + s)
  unfold updF tAt
  rw [Int.toNat_natCast]
  by_cases h : g = (lnAt L i).t.toNat ∧ s = s1
  · rw [if_pos h, if_pos (by omega)]
  · rw [if_neg h, if_neg (by omega)]
 | false =>
  show updF p.A (gAt (lnAt L i) s1) i (g * 40 + s) = if g = (lnAt L i).g.toNat ∧ s = s1 then (i : Int) else p.A (g * 40 + s)
  unfold updF gAt
  rw [Int.toNat_natCast]
  by_cases h : g = (lnAt L i).g.toNat ∧ s = s1
  · rw [if_pos h, if_pos (by omega)]
  · rw [if_neg h, if_neg (by omega)]
structure Cons (L : List Ln) (z : Nat) (p : Pn) : Prop where
 r : ∀ i, i < L.length → p.S i = -1 ∨ ∃ s : Nat, s < z ∧ p.S i = s
 a : ∀ i, i < L.length → ∀ s : Nat, p.S i = s → ∀ te, vP p te (vx L i te) s = i
 v : ∀ te g s, g < 8 → s < z → vP p te g s = -1 ∨ ∃ i : Nat, i < L.length ∧ vP p te g s = i ∧ vx L i te = g ∧ p.S i = s
theorem upd_at (f : Nat → Int) (i j : Nat) (v : Int) : updF f i v j = if j = i then v else f j := rfl
theorem Cons.off {L : List Ln} {z : Nat} {p : Pn} (h : Cons L z p) (hz : z ≤ 40) {i s0 : Nat} (hi : i < L.length) (hS : p.S i = (s0 : Int)) : Cons L z (putF (lnAt L i) p i (-1)) := by
 have h0 : s0 < z := by
  rcases h.r i hi with e | ⟨s, hs, e⟩
  · rw [hS] at e; omega
  · rw [hS] at e; omega
 refine ⟨fun j hj => ?_, fun j hj s hs te => ?_, fun te g s hg hsz => ?_⟩
 · rw [putF_S, upd_at]
   split
   · exact .inl rfl
   · exact h.r j hj
 · rw [putF_S, upd_at] at hs
   split at hs
   · omega
   · rename_i hne
     have hsz : s < z := by
      rcases h.r j hj with e | ⟨s', hs', e⟩
      · rw [hs] at e; omega
      · rw [hs] at e; omega
     rw [vP_off hS (by omega) te _ s (by omega), if_neg]
     · exact h.a j hj s hs te
     · rintro ⟨e1, e2⟩
       subst e2
       have q1 := h.a j hj s hs te
       have q2 := h.a i hi s hS te
       rw [e1, q2] at q1
       omega
 · rw [vP_off hS (by omega) te g s (by omega)]
   split
   · exact .inl rfl
   · rename_i hne
     rcases h.v te g s hg hsz with e | ⟨j, hj, e1, e2, e3⟩
     · exact .inl e
     · refine .inr ⟨j, hj, e1, e2, ?_⟩
       rw [putF_S, upd_at, if_neg]
       · exact e3
       · intro e; subst e
         rw [hS] at e3
         exact hne ⟨e2.symm, by omega⟩
theorem Cons.on {L : List Ln} {z : Nat} {p : Pn} (h : Cons L z p) (hz : z ≤ 40) {i s1 : Nat} (hi : i < L.length) (hS : p.S i = -1) (h1 : s1 < z) (hf : ∀ te, vP p te (vx L i te) s1 = -1) : Cons L z (putF (lnAt L i) p i (s1 : Int)) := by
 refine ⟨fun j hj => ?_, fun j hj s hs te => ?_, fun te g s hg hsz => ?_⟩
 · rw [putF_S, upd_at]
   split
   · exact .inr ⟨s1, h1, rfl⟩
   · exact h.r j hj
 · rw [putF_S, upd_at] at hs
   split at hs
   · rename_i e; subst e
     have : s = s1 := by omega
     subst this
     rw [vP_on hS (by omega) te _ s (by omega), if_pos ⟨rfl, rfl⟩]
   · rename_i hne
     have hsz : s < z := by
      rcases h.r j hj with e | ⟨s', hs', e⟩
      · rw [hs] at e; omega
      · rw [hs] at e; omega
     rw [vP_on hS (by omega) te _ s (by omega), if_neg]
     · exact h.a j hj s hs te
     · rintro ⟨e1, e2⟩
       subst e2
       have q1 := h.a j hj s hs te
       rw [e1, hf te] at q1
       omega
 · rw [vP_on hS (by omega) te g s (by omega)]
   split
   · rename_i e
     exact .inr ⟨i, hi, rfl, e.1.symm, by rw [putF_S, upd_at, if_pos rfl, e.2]⟩
   · rename_i hne
     rcases h.v te g s hg hsz with e | ⟨j, hj, e1, e2, e3⟩
     · exact .inl e
     · refine .inr ⟨j, hj, e1, e2, ?_⟩
       rw [putF_S, upd_at, if_neg]
       · exact e3
       · intro e; subst e
         rw [hS] at e3; omega
theorem off_cons {L : List Ln} {z : Nat} (hz : z ≤ 40) : ∀ (l : List Nat) (p : Pn), Cons L z p → l.Nodup → (∀ i ∈ l, i < L.length ∧ ∃ s : Nat, p.S i = s) → Cons L z (offF L l p)
 | [], p, h, _, _ => h
 | i :: r, p, h, hn, hl => by
  rw [offF]
  obtain ⟨hi, s, hs⟩ := hl i List.mem_cons_self
  rw [List.nodup_cons] at hn
  refine off_cons hz r _ (h.off hz hi hs) hn.2 fun j hj => ?_
  obtain ⟨hj1, s', hs'⟩ := hl j (List.mem_cons_of_mem _ hj)
  refine ⟨hj1, s', ?_⟩
  rw [putF_S, upd_at, if_neg (fun e : j = i => hn.1 (e ▸ hj))]; exact hs'
def Clo (L : List Ln) (q : Nat) (l : List Nat) (p : Pn) : Prop := ∀ i ∈ l, ∀ te, ∀ s : Nat, p.S i = s → vP p te (vx L i te) (q - s) = -1 ∨ ∃ j ∈ l, vP p te (vx L i te) (q - s) = (j : Int)
theorem on_cons {L : List Ln} {z q : Nat} (hz : z ≤ 40) (hx : ∀ i, i < L.length → ∀ te, vx L i te < 8) {p : Pn} (h : Cons L z p) {l : List Nat} (hl : ∀ i ∈ l, i < L.length ∧ ∃ s : Nat, p.S i = s ∧ s ≤ q ∧ q - s < z) (hc : Clo L q l p) :
 ∀ (r d : List Nat) (p1 : Pn), (d ++ r).Nodup → (∀ i, i ∈ l ↔ i ∈ d ++ r) → Cons L z p1 → (∀ j, p1.S j = if j ∈ d then (q : Int) - p.S j else if j ∈ l then -1 else p.S j) → Cons L z (onF L (fun i => (q : Int) - p.S i) r p1)
 | [], d, p1, _, _, h1, _ => h1
 | i :: r, d, p1, hn, hm, h1, hS => by
  rw [onF]
  have hil : i ∈ l := (hm i).2 (List.mem_append.2 (.inr List.mem_cons_self))
  obtain ⟨hi, s, hs, hsq, hqz⟩ := hl i hil
  have hnd : i ∉ d := fun hd => (List.nodup_append.1 hn).2.2 i hd i List.mem_cons_self rfl
  have hS1 : p1.S i = -1 := by rw [hS, if_neg hnd, if_pos hil]
  have e : (q : Int) - p.S i = ((q - s : Nat) : Int) := by rw [hs]; omega
  rw [e]
  refine on_cons hz hx h hl hc r (d ++ [i]) _ (by rw [List.append_assoc]; exact hn) (fun j => by rw [hm j, List.append_assoc]; rfl) (h1.on hz hi hS1 hqz fun te => ?_) fun j => ?_
  · rcases h1.v te (vx L i te) (q - s) (hx i hi te) hqz with e1 | ⟨j, hj, e1, e2, e3⟩
    · exact e1
    · exfalso
      rw [hS] at e3
      split at e3
      · rename_i hjd
        have hjl : j ∈ l := (hm j).2 (List.mem_append.2 (.inl hjd))
        obtain ⟨_, s', hs', hsq', _⟩ := hl j hjl
        have : s' = s := by rw [hs'] at e3; omega
        subst this
        have q1 := h.a j hj s' hs' te
        have q2 := h.a i hi s' hs te
        rw [e2, q2] at q1
        have : i = j := by omega
        subst this
        exact hnd hjd
      · split at e3
        · omega
        · rename_i hjl
          have q1 := h.a j hj (q - s) e3 te
          rw [e2] at q1
          rcases hc i hil te s hs with c1 | ⟨k, hk, c1⟩
          · rw [q1] at c1; omega
          · rw [q1] at c1
            have : j = k := by omega
            subst this
            exact hjl hk
  · rw [putF_S, upd_at, hS]
    by_cases hji : j = i
    · subst hji
      rw [if_pos rfl, if_pos (by simp), hs]; omega
    · rw [if_neg hji]
      by_cases hjd : j ∈ d
      · rw [if_pos hjd, if_pos (by simp [hjd])]
      · rw [if_neg hjd, if_neg (show ¬ j ∈ d ++ [i] by simp [hjd, hji])]
theorem turn_cons {L : List Ln} {z q : Nat} (hz : z ≤ 40) (hx : ∀ i, i < L.length → ∀ te, vx L i te < 8) {p : Pn} (h : Cons L z p) {l : List Nat} (hn : l.Nodup) (hl : ∀ i ∈ l, i < L.length ∧ ∃ s : Nat, p.S i = s ∧ s ≤ q ∧ q - s < z) (hc : Clo L q l p) :
 Cons L z (turnF L q l p) ∧ ∀ j, (turnF L q l p).S j = if j ∈ l then (q : Int) - p.S j else p.S j := by
 unfold turnF
 have ho := off_cons hz l p h hn fun i hi => by obtain ⟨h1, s, h2, _⟩ := hl i hi; exact ⟨h1, s, h2⟩
 refine ⟨on_cons hz hx h hl hc l [] _ (by simpa using hn) (fun i => by simp) ho fun j => by rw [offF_S]; simp, fun j => ?_⟩
 rw [onF_S, offF_S]
 split <;> rfl
end Go.Proofs.YtkbfcofifhngfaaGreat
namespace Go.Proofs.YtkbfcofifhngfaaGreat
open Go
theorem nodup_len : ∀ (n : Nat) (l : List Nat), l.Nodup → (∀ x ∈ l, x < n) → l.length ≤ n
 | 0, l, _, h => by
  cases l with
  | nil => exact Nat.le_refl _
  | cons a l => exact absurd (h a List.mem_cons_self) (by omega)
 | n + 1, l, hn, h => by
  have h1 : (l.erase n).Nodup := hn.erase n
  have h2 := nodup_len n (l.erase n) h1 fun x hx => by
   have := (hn.mem_erase_iff.1 hx)
   have := h x this.2
   omega
  by_cases hm : n ∈ l
  · rw [List.length_erase_of_mem hm] at h2; omega
  · rw [List.erase_of_not_mem hm] at h2; omega
def tfB (s0 : Int) (te0 : Bool) (s : Int) : Bool := if s = s0 then te0 else !te0
def stp (L : List Ln) (p : Pn) (q s0 : Int) (te0 : Bool) (i : Nat) : Int := nxP L p i (q - p.S i) (tfB s0 te0 (p.S i))
section
variable {L : List Ln} {z f t : Nat} {p : Pn} {s0 : Int} {te0 : Bool}
theorem stp_some (h : Cons L z p) (hx : ∀ i, i < L.length → ∀ te, vx L i te < 8) (hf : f < z) (ht : t < z) {i : Nat} (hi : i < L.length) (hS : p.S i = f ∨ p.S i = t) :
 stp L p ((f + t : Nat) : Int) s0 te0 i = -1 ∨ ∃ j : Nat, j < L.length ∧ stp L p ((f + t : Nat) : Int) s0 te0 i = j ∧ p.S j = ((f + t : Nat) : Int) - p.S i ∧ vx L j (tfB s0 te0 (p.S i)) = vx L i (tfB s0 te0 (p.S i)) := by
 have e : ∃ s : Nat, s < z ∧ ((f + t : Nat) : Int) - p.S i = s := by
  rcases hS with hS | hS
  · exact ⟨t, ht, by rw [hS]; omega⟩
  · exact ⟨f, hf, by rw [hS]; omega⟩
 obtain ⟨s, hs, e⟩ := e
 unfold stp
 rw [e, nxP_v, Int.toNat_natCast]
 rcases h.v (tfB s0 te0 (p.S i)) (vx L i (tfB s0 te0 (p.S i))) s (hx i hi _) hs with e1 | ⟨j, hj, e1, e2, e3⟩
 · exact .inl e1
 · exact .inr ⟨j, hj, e1, e3, e2⟩
theorem stp_inj (h : Cons L z p) (hx : ∀ i, i < L.length → ∀ te, vx L i te < 8) (hf : f < z) (ht : t < z) {i i' j : Nat} (hi : i < L.length) (hi' : i' < L.length) (hS : p.S i = f ∨ p.S i = t) (hS' : p.S i' = f ∨ p.S i' = t)
 (h1 : stp L p ((f + t : Nat) : Int) s0 te0 i = (j : Int)) (h2 : stp L p ((f + t : Nat) : Int) s0 te0 i' = (j : Int)) : i = i' := by
 rcases stp_some (s0 := s0) (te0 := te0) h hx hf ht hi hS with e | ⟨k, hk, e1, e2, e3⟩
 · omega
 · rcases stp_some (s0 := s0) (te0 := te0) h hx hf ht hi' hS' with e' | ⟨k', hk', e1', e2', e3'⟩
   · omega
   · have ek : k = j := by omega
     have ek' : k' = j := by omega
     subst ek; subst ek'
     have es : p.S i = p.S i' := by omega
     rw [es] at e3
     have ev := e3.symm.trans e3'
     obtain ⟨s, hs⟩ : ∃ s : Nat, p.S i = s := by rcases hS with h | h <;> exact ⟨_, h⟩
     have q1 := h.a i hi s hs (tfB s0 te0 (p.S i'))
     have q2 := h.a i' hi' s (es ▸ hs) (tfB s0 te0 (p.S i'))
     rw [ev, q2] at q1
     omega
def sgF (f : Nat) (s : Int) : Int := if s = f then 1 else -1
theorem tfB_not (hft : f ≠ t) (hs0 : s0 = f ∨ s0 = t) {s : Int} (hs : s = f ∨ s = t) : tfB s0 te0 (((f + t : Nat) : Int) - s) = !tfB s0 te0 s := by
 unfold tfB
 by_cases e : s = s0
 · rw [if_pos e, if_neg (by omega)]
 · rw [if_neg e, if_pos (by omega), Bool.not_not]
theorem sg_not (hft : f ≠ t) {s : Int} (hs : s = f ∨ s = t) : sgF f (((f + t : Nat) : Int) - s) = - sgF f s := by
 unfold sgF
 by_cases e : s = f
 · rw [if_pos e, if_neg (by omega)]
 · rw [if_neg e, if_pos (by omega)]; rfl
def Rch (L : List Ln) (p : Pn) (f t : Nat) (s0 : Int) (te0 : Bool) : Nat → Nat → Nat → Prop
 | 0, i, e => i = e
 | k + 1, i, e => ∃ d, Rch L p f t s0 te0 k i d ∧ (d < L.length ∧ (p.S d = f ∨ p.S d = t)) ∧ stp L p ((f + t : Nat) : Int) s0 te0 d = (e : Int)
theorem Rch.cons {i j : Nat} (hi : i < L.length ∧ (p.S i = f ∨ p.S i = t)) (hs : stp L p ((f + t : Nat) : Int) s0 te0 i = (j : Int)) : ∀ {k e : Nat}, Rch L p f t s0 te0 k j e → Rch L p f t s0 te0 (k + 1) i e
 | 0, e, h => by
  have h : j = e := h
  subst h
  exact ⟨i, rfl, hi, hs⟩
 | k + 1, e, h => by
  obtain ⟨d, h1, h2, h3⟩ := h
  exact ⟨d, Rch.cons hi hs h1, h2, h3⟩
theorem Rch.back (h : Cons L z p) (hx : ∀ i, i < L.length → ∀ te, vx L i te < 8) (hf : f < z) (ht : t < z) : ∀ {k k' i i' e : Nat}, Rch L p f t s0 te0 k i e → Rch L p f t s0 te0 (k + k') i' e → Rch L p f t s0 te0 k' i' i
 | 0, k', i, i', e, h1, h2 => by
  have h1 : i = e := h1
  subst h1
  rw [Nat.zero_add] at h2; exact h2
 | k + 1, k', i, i', e, h1, h2 => by
  rw [show k + 1 + k' = (k + k') + 1 from by omega] at h2
  obtain ⟨d, a1, a2, a3⟩ := h1
  obtain ⟨d', b1, b2, b3⟩ := h2
  have := stp_inj h hx hf ht a2.1 b2.1 a2.2 b2.2 a3 b3
  subst this
  exact Rch.back h hx hf ht a1 b1
theorem ch_ex (h : Cons L z p) (hx : ∀ i, i < L.length → ∀ te, vx L i te < 8) (hf : f < z) (ht : t < z) (hft : f ≠ t) (hs0 : s0 = f ∨ s0 = t) (first : Nat) :
 ∀ (k : Nat) (vis : List Nat) (cur : Nat), L.length ≤ vis.length + 1 + k → (cur :: vis).Nodup → (∀ i ∈ cur :: vis, i < L.length ∧ (p.S i = f ∨ p.S i = t)) → (∀ u ∈ cur :: vis, u = first ∨ ∃ v ∈ vis, stp L p ((f + t : Nat) : Int) s0 te0 v = (u : Int)) →
  ∃ r, ChL L p ((f + t : Nat) : Int) first (cur :: r) (p.S cur) (tfB s0 te0 (p.S cur)) ∧ ((cur :: r) ++ vis).Nodup ∧ (∀ i ∈ cur :: r, i < L.length ∧ (p.S i = f ∨ p.S i = t)) ∧
   (∀ i ∈ cur :: r, stp L p ((f + t : Nat) : Int) s0 te0 i = -1 ∨ stp L p ((f + t : Nat) : Int) s0 te0 i = first ∨ ∃ j ∈ r, stp L p ((f + t : Nat) : Int) s0 te0 i = (j : Int)) ∧
   (∀ j ∈ r, ∃ i ∈ cur :: r, stp L p ((f + t : Nat) : Int) s0 te0 i = (j : Int)) ∧
   (∃ e ∈ cur :: r, (stp L p ((f + t : Nat) : Int) s0 te0 e = -1 ∨ stp L p ((f + t : Nat) : Int) s0 te0 e = first) ∧ p.S e = if (cur :: r).length % 2 = 1 then p.S cur else ((f + t : Nat) : Int) - p.S cur) ∧
   (((cur :: r).map fun i => sgF f (p.S i)).sum = if (cur :: r).length % 2 = 1 then sgF f (p.S cur) else 0) ∧ ∀ e ∈ cur :: r, ∃ k, Rch L p f t s0 te0 k cur e := by
 intro k
 induction k with
 | zero =>
  intro vis cur hlen hn hall hprev
  obtain ⟨hc, hS⟩ := hall cur List.mem_cons_self
  have hstop : stp L p ((f + t : Nat) : Int) s0 te0 cur = -1 ∨ stp L p ((f + t : Nat) : Int) s0 te0 cur = first := by
   rcases stp_some (s0 := s0) (te0 := te0) h hx hf ht hc hS with e | ⟨j, hj, e1, e2, e3⟩
   · exact .inl e
   · by_cases hjf : j = first
     · exact .inr (by rw [e1, hjf])
     · exfalso
       have hnew : j ∉ cur :: vis := fun hm => by
        rcases hprev j hm with e | ⟨v, hv, e⟩
        · exact hjf e
        · obtain ⟨hv1, hv2⟩ := hall v (List.mem_cons_of_mem _ hv)
          have := stp_inj h hx hf ht hc hv1 hS hv2 e1 e
          subst this
          exact (List.nodup_cons.1 hn).1 hv
       have := nodup_len L.length (j :: cur :: vis) (List.nodup_cons.2 ⟨hnew, hn⟩) fun x hx => by
        rcases List.mem_cons.1 hx with rfl | hx
        · exact hj
        · exact (hall x hx).1
       simp only [List.length_cons] at this
       omega
  exact ⟨[], ⟨hc, hstop⟩, by simpa using hn, fun i hi => by simp only [List.mem_singleton] at hi; subst hi; exact ⟨hc, hS⟩, fun i hi => by
   simp only [List.mem_singleton] at hi; subst hi
   rcases hstop with e | e
   · exact .inl e
   · exact .inr (.inl e), fun j hj => (by cases hj), ⟨cur, List.mem_cons_self, hstop, by simp⟩, by simp, fun e he => by simp only [List.mem_singleton] at he; subst he; exact ⟨0, rfl⟩⟩
 | succ k ih =>
  intro vis cur hlen hn hall hprev
  obtain ⟨hc, hS⟩ := hall cur List.mem_cons_self
  have hdone : (stp L p ((f + t : Nat) : Int) s0 te0 cur = -1 ∨ stp L p ((f + t : Nat) : Int) s0 te0 cur = first) → _ := fun hstop => (⟨[], ⟨hc, hstop⟩, by simpa using hn, fun i hi => by simp only [List.mem_singleton] at hi; subst hi; exact ⟨hc, hS⟩, fun i hi => by
   simp only [List.mem_singleton] at hi; subst hi
   rcases hstop with e | e
   · exact .inl e
   · exact .inr (.inl e), fun j hj => (by cases hj), ⟨cur, List.mem_cons_self, hstop, by simp⟩, by simp, fun e he => by simp only [List.mem_singleton] at he; subst he; exact ⟨0, rfl⟩⟩ : ∃ r, ChL L p ((f + t : Nat) : Int) first (cur :: r) (p.S cur) (tfB s0 te0 (p.S cur)) ∧ ((cur :: r) ++ vis).Nodup ∧ (∀ i ∈ cur :: r, i < L.length ∧ (p.S i = f ∨ p.S i = t)) ∧
     (∀ i ∈ cur :: r, stp L p ((f + t : Nat) : Int) s0 te0 i = -1 ∨ stp L p ((f + t : Nat) : Int) s0 te0 i = first ∨ ∃ j ∈ r, stp L p ((f + t : Nat) : Int) s0 te0 i = (j : Int)) ∧
     (∀ j ∈ r, ∃ i ∈ cur :: r, stp L p ((f + t : Nat) : Int) s0 te0 i = (j : Int)) ∧
     (∃ e ∈ cur :: r, (stp L p ((f + t : Nat) : Int) s0 te0 e = -1 ∨ stp L p ((f + t : Nat) : Int) s0 te0 e = first) ∧ p.S e = if (cur :: r).length % 2 = 1 then p.S cur else ((f + t : Nat) : Int) - p.S cur) ∧
     (((cur :: r).map fun i => sgF f (p.S i)).sum = if (cur :: r).length % 2 = 1 then sgF f (p.S cur) else 0) ∧ ∀ e ∈ cur :: r, ∃ k, Rch L p f t s0 te0 k cur e)
  rcases stp_some (s0 := s0) (te0 := te0) h hx hf ht hc hS with e | ⟨j, hj, e1, e2, e3⟩
  · exact hdone (.inl e)
  · by_cases hjf : j = first
    · exact hdone (.inr (by rw [e1, hjf]))
    · have hnew : j ∉ cur :: vis := fun hm => by
       rcases hprev j hm with e | ⟨v, hv, e⟩
       · exact hjf e
       · obtain ⟨hv1, hv2⟩ := hall v (List.mem_cons_of_mem _ hv)
         have := stp_inj h hx hf ht hc hv1 hS hv2 e1 e
         subst this
         exact (List.nodup_cons.1 hn).1 hv
      have hSj : p.S j = f ∨ p.S j = t := by clear hdone; rw [e2]; omega
      obtain ⟨r, c1, c2, c3, c4, c5, c6, c7, c8⟩ := ih (cur :: vis) j (by simp only [List.length_cons]; omega) (List.nodup_cons.2 ⟨hnew, hn⟩) (fun i hi => by
       rcases List.mem_cons.1 hi with rfl | hi
       · exact ⟨hj, hSj⟩
       · exact hall i hi) (fun u hu => by
       rcases List.mem_cons.1 hu with rfl | hu
       · exact .inr ⟨cur, List.mem_cons_self, e1⟩
       · rcases hprev u hu with e | ⟨v, hv, e⟩
         · exact .inl e
         · exact .inr ⟨v, List.mem_cons_of_mem _ hv, e⟩)
      have hte : tfB s0 te0 (p.S j) = !tfB s0 te0 (p.S cur) := by rw [e2]; exact tfB_not hft hs0 hS
      refine ⟨j :: r, ⟨⟨hc, e1, hjf⟩, by rw [← e2, ← hte]; exact c1⟩, ?_, fun i hi => ?_, fun i hi => ?_, fun u hu => ?_, ?_, ?_, fun e he => ?_⟩
      · have := c2
        rw [List.cons_append, List.nodup_cons, List.nodup_append] at this
        rw [List.cons_append, List.cons_append, List.nodup_cons, List.nodup_cons]
        obtain ⟨q1, q2, q3, q4⟩ := this
        rw [List.nodup_cons] at q3
        refine ⟨?_, ?_, ?_⟩
        · intro hm
          rcases List.mem_cons.1 hm with e | hm
          · exact hnew (e ▸ List.mem_cons_self)
          · rcases List.mem_append.1 hm with hm | hm
            · exact q4 cur hm cur List.mem_cons_self rfl
            · exact q3.1 hm
        · intro hm
          rcases List.mem_append.1 hm with hm | hm
          · exact q1 (List.mem_append.2 (.inl hm))
          · exact hnew (List.mem_cons_of_mem _ hm)
        · exact List.nodup_append.2 ⟨q2, q3.2, fun a ha b hb => q4 a ha b (List.mem_cons_of_mem _ hb)⟩
      · rcases List.mem_cons.1 hi with rfl | hi
        · exact ⟨hc, hS⟩
        · exact c3 i hi
      · rcases List.mem_cons.1 hi with rfl | hi
        · exact .inr (.inr ⟨j, List.mem_cons_self, e1⟩)
        · rcases c4 i hi with e | e | ⟨u, hu, e⟩
          · exact .inl e
          · exact .inr (.inl e)
          · exact .inr (.inr ⟨u, List.mem_cons_of_mem _ hu, e⟩)
      · rcases List.mem_cons.1 hu with rfl | hu
        · exact ⟨cur, List.mem_cons_self, e1⟩
        · obtain ⟨v, hv, e⟩ := c5 u hu
          exact ⟨v, List.mem_cons_of_mem _ hv, e⟩
      · obtain ⟨e, he, h1, h2⟩ := c6
        refine ⟨e, List.mem_cons_of_mem _ he, h1, ?_⟩
        rw [h2, e2]
        clear hdone ih
        simp only [List.length_cons]
        split <;> split <;> omega
      · rw [List.map_cons, List.sum_cons, c7, e2]
        rw [sg_not hft hS]
        clear hdone c6 ih
        simp only [List.length_cons]
        split <;> split <;> omega
      · rcases List.mem_cons.1 he with rfl | he
        · exact ⟨0, rfl⟩
        · obtain ⟨k, hk⟩ := c8 e he
          exact ⟨k + 1, Rch.cons ⟨hc, hS⟩ e1 hk⟩
end
theorem ch_clo {L : List Ln} {z f t : Nat} {p : Pn} {te0 : Bool} {first : Nat} {r : List Nat} (h : Cons L z p) (hx : ∀ i, i < L.length → ∀ te, vx L i te < 8) (hf : f < z) (ht : t < z) (hft : f ≠ t) (hS0 : p.S first = f)
 (hall : ∀ i ∈ first :: r, i < L.length ∧ (p.S i = f ∨ p.S i = t)) (c4 : ∀ i ∈ first :: r, stp L p ((f + t : Nat) : Int) f te0 i = -1 ∨ stp L p ((f + t : Nat) : Int) f te0 i = first ∨ ∃ j ∈ r, stp L p ((f + t : Nat) : Int) f te0 i = (j : Int))
 (c5 : ∀ j ∈ r, ∃ i ∈ first :: r, stp L p ((f + t : Nat) : Int) f te0 i = (j : Int)) (hb : vP p (!te0) (vx L first (!te0)) t = -1) : Clo L (f + t) (first :: r) p := by
 intro i hi te s hs
 obtain ⟨hil, hS⟩ := hall i hi
 have hsq : s = f ∨ s = t := by omega
 by_cases hte : te = tfB f te0 (p.S i)
 · have e : vP p te (vx L i te) (f + t - s) = stp L p ((f + t : Nat) : Int) f te0 i := by
    unfold stp
    rw [nxP_v, ← hte, hs, show (((f + t : Nat) : Int) - (s : Int)).toNat = f + t - s from by omega]
   rw [e]
   rcases c4 i hi with e | e | ⟨j, hj, e⟩
   · exact .inl e
   · exact .inr ⟨first, List.mem_cons_self, e⟩
   · exact .inr ⟨j, List.mem_cons_of_mem _ hj, e⟩
 · have hte2 : te = !tfB f te0 (p.S i) := by
    cases te <;> cases h2 : tfB f te0 (p.S i) <;> simp_all
   rcases List.mem_cons.1 hi with rfl | hir
   · left
     rw [hS0] at hs
     have es : s = f := by omega
     have e2 : tfB f te0 (p.S i) = te0 := by unfold tfB; rw [hS0, if_pos rfl]
     rw [hte2, e2, show f + t - s = t from by omega]
     exact hb
   · right
     obtain ⟨u, hu, e⟩ := c5 i hir
     obtain ⟨hul, huS⟩ := hall u hu
     refine ⟨u, hu, ?_⟩
     rcases stp_some (s0 := (f : Int)) (te0 := te0) h hx hf ht hul huS with e1 | ⟨j, hj, e1, e2, e3⟩
     · omega
     · have : j = i := by omega
       subst this
       have htu : te = tfB f te0 (p.S u) := by
        rw [hte2, e2, tfB_not hft (.inl rfl) huS, Bool.not_not]
       rw [htu, e3]
       obtain ⟨su, hsu⟩ : ∃ s : Nat, p.S u = s := by rcases huS with h | h <;> exact ⟨_, h⟩
       have := h.a u hul su hsu (tfB f te0 (p.S u))
       rw [show f + t - s = su from by omega]
       exact this
end Go.Proofs.YtkbfcofifhngfaaGreat
namespace Go.Proofs.YtkbfcofifhngfaaGreat
open Go
theorem nodup_sub : ∀ (l F : List Nat), l.Nodup → (∀ x ∈ l, x ∈ F) → l.length ≤ F.length
 | [], F, _, _ => Nat.zero_le _
 | a :: l, F, hn, h => by
  rw [List.nodup_cons] at hn
  have ha := h a List.mem_cons_self
  have := nodup_sub l (F.erase a) hn.2 fun x hx => (List.mem_erase_of_ne (fun e : x = a => hn.1 (e ▸ hx))).2 (h x (List.mem_cons_of_mem _ hx))
  rw [List.length_erase_of_mem ha] at this
  have := List.length_pos_of_mem ha
  rw [List.length_cons]; omega
theorem least_ex {P : Nat → Prop} : ∀ n, P n → ∃ m, m ≤ n ∧ P m ∧ ∀ j, j < m → ¬ P j
 | n, h => by
  by_cases hlt : ∃ j, j < n ∧ P j
  · obtain ⟨j, hj, hp⟩ := hlt
    obtain ⟨m, h1, h2, h3⟩ := least_ex j hp
    exact ⟨m, by omega, h2, h3⟩
  · exact ⟨n, Nat.le_refl _, h, fun j hj hp => hlt ⟨j, hj, hp⟩⟩
def memV (L : List Ln) (te : Bool) (g : Nat) : List Nat := (List.range L.length).filter fun i => vx L i te == g
theorem mem_memV {L : List Ln} {te : Bool} {g i : Nat} : i ∈ memV L te g ↔ i < L.length ∧ vx L i te = g := by
 unfold memV
 rw [List.mem_filter, List.mem_range, beq_iff_eq]
theorem free_ex {L : List Ln} {z : Nat} {p : Pn} (h : Cons L z p) {te : Bool} {g i : Nat} (hg : g < 8) (hi : i < L.length) (hv : vx L i te = g) (hS : p.S i = -1) (hc : (memV L te g).length ≤ z) : ∃ s, s < z ∧ vP p te g s = -1 ∧ ∀ s', s' < s → vP p te g s' ≠ -1 := by
 have hex : ∃ s, s < z ∧ vP p te g s = -1 := by
  refine Classical.byContradiction fun hno => ?_
  have hall : ∀ s, s < z → ∃ j : Nat, j < L.length ∧ vP p te g s = j ∧ vx L j te = g ∧ p.S j = s := fun s hs => by
   rcases h.v te g s hg hs with e | e
   · exact absurd ⟨s, hs, e⟩ hno
   · exact e
  have hn : (i :: (List.range z).map fun s => (vP p te g s).toNat).Nodup := by
   rw [List.nodup_cons]
   refine ⟨fun hm => ?_, ?_⟩
   · obtain ⟨s, hs, e⟩ := List.mem_map.1 hm
     obtain ⟨j, hj, e1, e2, e3⟩ := hall s (List.mem_range.1 hs)
     have e : (vP p te g s).toNat = i := e
     rw [e1, Int.toNat_natCast] at e
     subst e
     omega
   · unfold List.Nodup
     rw [List.pairwise_map]
     refine List.Pairwise.imp_of_mem ?_ List.nodup_range
     intro s s' hs hs' hne
     obtain ⟨j, hj, e1, e2, e3⟩ := hall s (List.mem_range.1 hs)
     obtain ⟨j', hj', e1', e2', e3'⟩ := hall s' (List.mem_range.1 hs')
     rw [e1, e1', Int.toNat_natCast, Int.toNat_natCast]
     intro e
     subst e
     omega
  have := nodup_sub _ (memV L te g) hn fun x hx => by
   rcases List.mem_cons.1 hx with rfl | hx
   · exact mem_memV.2 ⟨hi, hv⟩
   · obtain ⟨s, hs, e⟩ := List.mem_map.1 hx
     obtain ⟨j, hj, e1, e2, e3⟩ := hall s (List.mem_range.1 hs)
     have e : (vP p te g s).toNat = x := e
     rw [e1, Int.toNat_natCast] at e
     subst e
     exact mem_memV.2 ⟨hj, e2⟩
  rw [List.length_cons, List.length_map, List.length_range] at this
  omega
 obtain ⟨s, hs, e⟩ := hex
 obtain ⟨m, h1, h2, h3⟩ := least_ex (P := fun s => vP p te g s = -1) s e
 exact ⟨m, by omega, h2, h3⟩
theorem place_cons {L : List Ln} {z : Nat} {p : Pn} (h : Cons L z p) (hz : z ≤ 40) (hx : ∀ i, i < L.length → ∀ te, vx L i te < 8) {i : Nat} (hi : i < L.length) (hS : p.S i = -1) (hc : ∀ te, (memV L te (vx L i te)).length ≤ z) :
 ∃ (p' : Pn) (a b : Nat), a < z ∧ b < z ∧ p.A ((lnAt L i).g.toNat * 40 + a) = -1 ∧ (∀ s, s < a → p.A ((lnAt L i).g.toNat * 40 + s) ≠ -1) ∧ p.B ((lnAt L i).t.toNat * 40 + b) = -1 ∧ (∀ s, s < b → p.B ((lnAt L i).t.toNat * 40 + s) ≠ -1) ∧
  ((p.B (tAt (lnAt L i) a) = -1 ∧ p' = putF (lnAt L i) p i a) ∨ ∃ (k : Nat) (l : List Nat), p.B (tAt (lnAt L i) a) = (k : Int) ∧ p.S k = a ∧ ChL L p ((a : Int) + b) k (k :: l) (p.S k) false ∧ (k :: l).Nodup ∧ (∀ j ∈ k :: l, p.S j = a ∨ p.S j = b) ∧ p' = putF (lnAt L i) (turnF L ((a : Int) + b) (k :: l) p) i a) ∧
  Cons L z p' ∧ ∀ j, p'.S j = -1 ↔ (p.S j = -1 ∧ j ≠ i) := by
 obtain ⟨a, ha, ha1, ha2⟩ := free_ex h (te := false) (hx i hi false) hi rfl hS (hc false)
 obtain ⟨b, hb, hb1, hb2⟩ := free_ex h (te := true) (hx i hi true) hi rfl hS (hc true)
 rcases h.v true (vx L i true) a (hx i hi true) ha with e | ⟨k, hk, e1, e2, e3⟩
 · refine ⟨putF (lnAt L i) p i a, a, b, ha, hb, ha1, ha2, hb1, hb2, .inl ⟨by unfold tAt; rw [Int.toNat_natCast]; exact e, rfl⟩, h.on hz hi hS ha fun te => by cases te <;> assumption, fun j => ?_⟩
   rw [putF_S, upd_at]
   by_cases hj : j = i
   · subst hj; simp
   · simp [hj]
 · have hab : a ≠ b := fun e => by rw [e] at e1; rw [hb1] at e1; omega
   obtain ⟨r, c1, c2, c3, c4, c5, c6, c7⟩ := ch_ex (s0 := (a : Int)) (te0 := false) h hx ha hb hab (.inl rfl) k L.length [] k (by simp) (by simp) (fun j hj => by simp only [List.mem_singleton] at hj; subst hj; exact ⟨hk, .inl e3⟩) (fun u hu => by simp only [List.mem_singleton] at hu; exact .inl hu)
   have e4 : tfB (a : Int) false (p.S k) = false := by unfold tfB; rw [e3, if_pos rfl]
   rw [e4] at c1
   rw [List.append_nil] at c2
   have hclo := ch_clo h hx ha hb hab e3 c3 c4 c5 (by rw [show vx L k (!false) = vx L i true from e2]; exact hb1)
   have eq : ((a : Int) + b) = ((a + b : Nat) : Int) := by omega
   obtain ⟨t1, t2⟩ := turn_cons hz hx h c2 (fun j hj => by
    obtain ⟨q1, q2⟩ := c3 j hj
    refine ⟨q1, ?_⟩
    rcases q2 with q2 | q2
    · exact ⟨a, q2, by omega, by omega⟩
    · exact ⟨b, q2, by omega, by omega⟩) hclo
   have hil : i ∉ k :: r := fun hm => by rcases (c3 i hm).2 with e | e <;> omega
   have hS2 : (turnF L ((a + b : Nat) : Int) (k :: r) p).S i = -1 := by rw [t2, if_neg hil]; exact hS
   have hfree : ∀ te, vP (turnF L ((a + b : Nat) : Int) (k :: r) p) te (vx L i te) a = -1 := fun te => by
    rcases t1.v te (vx L i te) a (hx i hi te) ha with e | ⟨j, hj, f1, f2, f3⟩
    · exact e
    · exfalso
      rw [t2] at f3
      by_cases hjl : j ∈ k :: r
      · rw [if_pos hjl] at f3
        have hSj : p.S j = b := by omega
        cases te with
        | true =>
         have := h.a j hj b hSj true
         rw [f2, hb1] at this; omega
        | false =>
         rcases List.mem_cons.1 hjl with e | hjr
         · rw [e, e3] at hSj; omega
         · obtain ⟨u, hu, hst⟩ := c5 j hjr
           obtain ⟨hul, huS⟩ := c3 u hu
           rcases stp_some (s0 := (a : Int)) (te0 := false) h hx ha hb hul huS with e | ⟨j', _, g1, g2, g3⟩
           · omega
           · have : j' = j := by omega
             subst this
             have hSu : p.S u = a := by omega
             have htf : tfB (a : Int) false (p.S u) = false := by unfold tfB; rw [hSu, if_pos rfl]
             rw [htf] at g3
             have := h.a u hul a hSu false
             rw [← g3, f2, ha1] at this; omega
      · rw [if_neg hjl] at f3
        have := h.a j hj a f3 te
        rw [f2] at this
        cases te with
        | true =>
         rw [e1] at this
         have : k = j := by omega
         subst this
         exact hjl List.mem_cons_self
        | false => rw [ha1] at this; omega
   refine ⟨putF (lnAt L i) (turnF L ((a : Int) + b) (k :: r) p) i a, a, b, ha, hb, ha1, ha2, hb1, hb2, .inr ⟨k, r, by unfold tAt; rw [Int.toNat_natCast]; exact e1, e3, by rw [eq]; exact c1, c2, fun j hj => (c3 j hj).2, rfl⟩, ?_, fun j => ?_⟩
   · rw [eq]; exact t1.on hz hi hS2 ha hfree
   · rw [eq, putF_S, upd_at]
     by_cases hj : j = i
     · subst hj; simp
     · rw [if_neg hj, t2]
       split
       · rename_i hjl
         have := (c3 j hjl).2
         constructor
         · intro e; omega
         · intro e; omega
       · simp [hj]
end Go.Proofs.YtkbfcofifhngfaaGreat
namespace Go.Proofs.YtkbfcofifhngfaaGreat
open Go
theorem cntS_list (S : Nat → Int) (s : Nat) : ∀ n, cntS S n s = (((List.range n).filter fun i => decide (S i = s)).length : Nat)
 | 0 => rfl
 | n + 1 => by
  rw [cntS, cntS_list S s n, List.range_succ, List.filter_append, List.length_append]
  by_cases h : S n = s
  · rw [if_pos h, List.filter_cons_of_pos (by simpa using h)]; simp
  · rw [if_neg h, List.filter_cons_of_neg (by simpa using h)]; simp
theorem cntS_upd (S : Nat → Int) (j : Nat) (v : Int) (s : Nat) : ∀ {n}, j < n → cntS (updF S j v) n s = cntS S n s - (if S j = s then 1 else 0) + (if v = s then 1 else 0)
 | n + 1, h => by
  have hc : ∀ m, m ≤ j → cntS (updF S j v) m s = cntS S m s := fun m => by
   induction m with
   | zero => intro _; rfl
   | succ m ih => intro hm; rw [cntS, cntS, ih (by omega), show updF S j v m = S m from if_neg (by omega)]
  by_cases hj : j = n
  · subst hj
    rw [cntS, cntS, hc j (Nat.le_refl _), show updF S j v j = v from if_pos rfl]; omega
  · rw [cntS, cntS, cntS_upd S j v s (by omega), show updF S j v n = S n from if_neg (fun e => hj e.symm)]; omega
theorem cntS_congr {S S' : Nat → Int} {s : Nat} : ∀ {n}, (∀ i, i < n → S i = S' i) → cntS S n s = cntS S' n s
 | 0, _ => rfl
 | n + 1, h => by rw [cntS, cntS, cntS_congr fun i hi => h i (by omega), h n (by omega)]
theorem cntS_turn (g : Nat → Int) (s n : Nat) : ∀ (l : List Nat) (S : Nat → Int), l.Nodup → (∀ i ∈ l, i < n) → cntS (fun j => if j ∈ l then g j else S j) n s = cntS S n s + (l.map fun j => (if g j = s then 1 else 0) - (if S j = s then (1 : Int) else 0)).sum
 | [], S, _, _ => by
  rw [cntS_congr (S' := S) fun i _ => if_neg (by simp)]; simp
 | a :: l, S, hn, hl => by
  rw [List.nodup_cons] at hn
  have ih := cntS_turn g s n l (updF S a (g a)) hn.2 fun i hi => hl i (List.mem_cons_of_mem _ hi)
  rw [cntS_upd S a (g a) s (hl a List.mem_cons_self)] at ih
  have e1 : (fun j => if j ∈ l then g j else updF S a (g a) j) = fun j => if j ∈ a :: l then g j else S j := by
   funext j
   rw [upd_at]
   by_cases hj : j ∈ l
   · simp [hj]
   · by_cases hja : j = a
     · subst hja; simp
     · simp [hj, hja]
  have e2 : (l.map fun j => (if g j = s then 1 else 0) - (if updF S a (g a) j = s then (1 : Int) else 0)) = l.map fun j => (if g j = s then 1 else 0) - (if S j = s then (1 : Int) else 0) := List.map_congr_left fun j hj => by
   rw [show updF S a (g a) j = S j from if_neg (fun e : j = a => hn.1 (e ▸ hj))]
  rw [e1, e2] at ih
  rw [ih, List.map_cons, List.sum_cons]
  omega
section
variable {L : List Ln} {z f t : Nat} {p : Pn}
theorem bfP_v (i : Nat) (te : Bool) : bfP L p (t : Int) i te = vP p (!te) (vx L i (!te)) t := by
 cases te with
 | true =>
  show p.A (gAt (lnAt L i) t) = p.A ((lnAt L i).g.toNat * 40 + t)
  unfold gAt; rw [Int.toNat_natCast]
 | false =>
  show p.B (tAt (lnAt L i) t) = p.B ((lnAt L i).t.toNat * 40 + t)
  unfold tAt; rw [Int.toNat_natCast]
theorem chl_ex (h : Cons L z p) (hx : ∀ i, i < L.length → ∀ te, vx L i te < 8) (hf : f < z) (ht : t < z) (hft : f ≠ t) : ∃ chl : Nat → Bool → List Nat, ∀ i, i < L.length → p.S i = f → ∀ te,
 ChL L p ((f + t : Nat) : Int) i (i :: chl i te) (p.S i) te ∧ (i :: chl i te).Nodup ∧ (∀ j ∈ i :: chl i te, j < L.length ∧ (p.S j = f ∨ p.S j = t)) ∧
  (∀ j ∈ i :: chl i te, stp L p ((f + t : Nat) : Int) f te j = -1 ∨ stp L p ((f + t : Nat) : Int) f te j = i ∨ ∃ u ∈ chl i te, stp L p ((f + t : Nat) : Int) f te j = (u : Int)) ∧
  (∀ j ∈ chl i te, ∃ u ∈ i :: chl i te, stp L p ((f + t : Nat) : Int) f te u = (j : Int)) ∧
  (∃ e ∈ i :: chl i te, (stp L p ((f + t : Nat) : Int) f te e = -1 ∨ stp L p ((f + t : Nat) : Int) f te e = i) ∧ p.S e = if (i :: chl i te).length % 2 = 1 then p.S i else ((f + t : Nat) : Int) - p.S i) ∧
  (((i :: chl i te).map fun j => sgF f (p.S j)).sum = if (i :: chl i te).length % 2 = 1 then sgF f (p.S i) else 0) ∧ ∀ e ∈ i :: chl i te, ∃ k, Rch L p f t f te k i e := by
 have key : ∀ (x : Nat × Bool), ∃ r : List Nat, x.1 < L.length → p.S x.1 = f →
  ChL L p ((f + t : Nat) : Int) x.1 (x.1 :: r) (p.S x.1) x.2 ∧ (x.1 :: r).Nodup ∧ (∀ j ∈ x.1 :: r, j < L.length ∧ (p.S j = f ∨ p.S j = t)) ∧
   (∀ j ∈ x.1 :: r, stp L p ((f + t : Nat) : Int) f x.2 j = -1 ∨ stp L p ((f + t : Nat) : Int) f x.2 j = x.1 ∨ ∃ u ∈ r, stp L p ((f + t : Nat) : Int) f x.2 j = (u : Int)) ∧
   (∀ j ∈ r, ∃ u ∈ x.1 :: r, stp L p ((f + t : Nat) : Int) f x.2 u = (j : Int)) ∧
   (∃ e ∈ x.1 :: r, (stp L p ((f + t : Nat) : Int) f x.2 e = -1 ∨ stp L p ((f + t : Nat) : Int) f x.2 e = x.1) ∧ p.S e = if (x.1 :: r).length % 2 = 1 then p.S x.1 else ((f + t : Nat) : Int) - p.S x.1) ∧
   (((x.1 :: r).map fun j => sgF f (p.S j)).sum = if (x.1 :: r).length % 2 = 1 then sgF f (p.S x.1) else 0) ∧ ∀ e ∈ x.1 :: r, ∃ k, Rch L p f t f x.2 k x.1 e := by
  rintro ⟨i, te⟩
  by_cases hi : i < L.length ∧ p.S i = f
  · obtain ⟨r, c1, c2, c3, c4, c5, c6, c7, c8⟩ := ch_ex (s0 := (f : Int)) (te0 := te) h hx hf ht hft (.inl rfl) i L.length [] i (by simp) (by simp) (fun j hj => by simp only [List.mem_singleton] at hj; subst hj; exact ⟨hi.1, .inl hi.2⟩) (fun u hu => by simp only [List.mem_singleton] at hu; exact .inl hu)
    rw [List.append_nil] at c2
    rw [show tfB (f : Int) te (p.S i) = te from by unfold tfB; rw [hi.2, if_pos rfl]] at c1
    exact ⟨r, fun _ _ => ⟨c1, c2, c3, c4, c5, c6, c7, c8⟩⟩
  · exact ⟨[], fun h1 h2 => absurd ⟨h1, h2⟩ hi⟩
 exact ⟨fun i te => Classical.choose (key (i, te)), fun i hi hS te => Classical.choose_spec (key (i, te)) hi hS⟩
theorem find_ex (h : Cons L z p) (hx : ∀ i, i < L.length → ∀ te, vx L i te < 8) (hf : f < z) (ht : t < z) (hft : f ≠ t) (hlt : cntS p.S L.length t < cntS p.S L.length f) {chl : Nat → Bool → List Nat}
 (hC : ∀ i, i < L.length → p.S i = f → ∀ te, (∃ e ∈ i :: chl i te, (stp L p ((f + t : Nat) : Int) f te e = -1 ∨ stp L p ((f + t : Nat) : Int) f te e = i) ∧ p.S e = if (i :: chl i te).length % 2 = 1 then p.S i else ((f + t : Nat) : Int) - p.S i) ∧ (∀ j ∈ i :: chl i te, j < L.length ∧ (p.S j = f ∨ p.S j = t)) ∧ ∀ e ∈ i :: chl i te, ∃ k, Rch L p f t f te k i e) :
 ∃ i te, i < L.length ∧ fndP L p f t chl i te := by
 refine Classical.byContradiction fun hno => ?_
 let R : Nat → Nat → Prop := fun i j => vP p true (vx L i true) t = j ∨ (vP p true (vx L i true) t = -1 ∧ (stp L p ((f + t : Nat) : Int) f false j = -1 ∨ stp L p ((f + t : Nat) : Int) f false j = i) ∧ ∃ k, Rch L p f t f false k i j)
 have hR : ∀ i, i < L.length → p.S i = f → ∃ j, R i j ∧ j < L.length ∧ p.S j = t := fun i hi hS => by
  rcases h.v true (vx L i true) t (hx i hi true) ht with e | ⟨j, hj, e1, e2, e3⟩
  · obtain ⟨⟨e', he, h1, h2⟩, h3, h4⟩ := hC i hi hS false
    by_cases hodd : (i :: chl i false).length % 2 = 1
    · exact absurd ⟨i, false, hi, hS, by rw [bfP_v]; exact e, hodd⟩ hno
    · rw [if_neg hodd, hS] at h2
      exact ⟨e', .inr ⟨e, h1, h4 e' he⟩, (h3 e' he).1, by omega⟩
  · exact ⟨j, .inl e1, hj, e3⟩
 have hst : ∀ j, p.S j = t → stp L p ((f + t : Nat) : Int) f false j = vP p true (vx L j true) f := fun j hS => by
  unfold stp
  rw [nxP_v, hS, show tfB (f : Int) false (t : Int) = true from by unfold tfB; rw [if_neg (by omega)]; rfl, show (((f + t : Nat) : Int) - (t : Int)).toNat = f from by omega]
 have hnb : ∀ i j, i < L.length → p.S i = f → j < L.length → p.S j = t → vP p true (vx L i true) t = j → vP p true (vx L j true) f = i := fun i j hi hS hj hSj e => by
  rcases h.v true (vx L i true) t (hx i hi true) ht with e' | ⟨j', hj', e1, e2, e3⟩
  · rw [e] at e'; omega
  · have : j' = j := by omega
    subst this
    rw [e2]; exact h.a i hi f hS true
 have hinj : ∀ i i' j, i < L.length → p.S i = f → i' < L.length → p.S i' = f → j < L.length → p.S j = t → R i j → R i' j → i = i' := by
  have hAB : ∀ i i' j, i < L.length → p.S i = f → i' < L.length → p.S i' = f → j < L.length → p.S j = t → vP p true (vx L i true) t = j → (stp L p ((f + t : Nat) : Int) f false j = -1 ∨ stp L p ((f + t : Nat) : Int) f false j = i') → i = i' := fun i i' j hi hS hi' hS' hj hSj e h2 => by
   have := hnb i j hi hS hj hSj e
   rw [hst j hSj, this] at h2
   omega
  have hBB : ∀ k k' i i' j, i < L.length → p.S i = f → vP p true (vx L i true) t = -1 → Rch L p f t f false k i j → Rch L p f t f false (k + k') i' j → i = i' := fun k k' i i' j hi hS hm h1 h2 => by
   have := Rch.back h hx hf ht h1 h2
   cases k' with
   | zero => exact (show i' = i from this).symm
   | succ k' =>
    exfalso
    obtain ⟨d, d1, d2, d3⟩ := this
    rcases stp_some (s0 := (f : Int)) (te0 := false) h hx hf ht d2.1 d2.2 with e | ⟨u, hu, u1, u2, u3⟩
    · omega
    · have : u = i := by omega
      subst this
      have hSd : p.S d = t := by omega
      rw [hSd, show tfB (f : Int) false (t : Int) = true from by unfold tfB; rw [if_neg (by omega)]; rfl] at u3
      have := h.a d d2.1 t hSd true
      rw [← u3, hm] at this; omega
  intro i i' j hi hS hi' hS' hj hSj h1 h2
  rcases h1 with h1 | ⟨a1, a2, k, a3⟩
  · rcases h2 with h2 | ⟨b1, b2, k', b3⟩
    · have q1 := hnb i j hi hS hj hSj h1
      have q2 := hnb i' j hi' hS' hj hSj h2
      omega
    · exact hAB i i' j hi hS hi' hS' hj hSj h1 b2
  · rcases h2 with h2 | ⟨b1, b2, k', b3⟩
    · exact (hAB i' i j hi' hS' hi hS hj hSj h2 a2).symm
    · rcases Nat.le_total k k' with hk | hk
      · obtain ⟨m, rfl⟩ := Nat.exists_eq_add_of_le hk
        exact hBB k m i i' j hi hS a1 a3 b3
      · obtain ⟨m, rfl⟩ := Nat.exists_eq_add_of_le hk
        exact (hBB k' m i' i j hi' hS' b1 b3 a3).symm
 have hR2 : ∀ i, ∃ j, i < L.length → p.S i = f → R i j ∧ j < L.length ∧ p.S j = t := fun i => by
  by_cases hi : i < L.length ∧ p.S i = f
  · obtain ⟨j, hj⟩ := hR i hi.1 hi.2
    exact ⟨j, fun _ _ => hj⟩
  · exact ⟨0, fun h1 h2 => absurd ⟨h1, h2⟩ hi⟩
 have hφ : ∃ φ : Nat → Nat, ∀ i, i < L.length → p.S i = f → R i (φ i) ∧ φ i < L.length ∧ p.S (φ i) = t := ⟨fun i => Classical.choose (hR2 i), fun i => Classical.choose_spec (hR2 i)⟩
 obtain ⟨φ, hφ⟩ := hφ
 have hle := nodup_sub (((List.range L.length).filter fun i => decide (p.S i = f)).map φ) ((List.range L.length).filter fun i => decide (p.S i = t)) (by
  unfold List.Nodup
  rw [List.pairwise_map]
  refine List.Pairwise.imp_of_mem ?_ (List.Pairwise.filter _ List.nodup_range)
  intro i i' hi hi' hne
  have q := List.mem_filter.1 hi
  have q' := List.mem_filter.1 hi'
  obtain ⟨r1, r2, r3⟩ := hφ i (List.mem_range.1 q.1) (of_decide_eq_true q.2)
  obtain ⟨r1', r2', r3'⟩ := hφ i' (List.mem_range.1 q'.1) (of_decide_eq_true q'.2)
  intro e
  rw [← e] at r1' r2' r3'
  exact hne (hinj i i' (φ i) (List.mem_range.1 q.1) (of_decide_eq_true q.2) (List.mem_range.1 q'.1) (of_decide_eq_true q'.2) r2 r3 r1 r1')) (fun x hx => by
  obtain ⟨i, hi, rfl⟩ := List.mem_map.1 hx
  have q := List.mem_filter.1 hi
  obtain ⟨r1, r2, r3⟩ := hφ i (List.mem_range.1 q.1) (of_decide_eq_true q.2)
  exact List.mem_filter.2 ⟨List.mem_range.2 r2, decide_eq_true r3⟩)
 rw [List.length_map] at hle
 rw [cntS_list, cntS_list] at hlt
 omega
theorem even_cons (h : Cons L z p) (hz : z ≤ 40) (hx : ∀ i, i < L.length → ∀ te, vx L i te < 8) (hall : ∀ i, i < L.length → ∃ s : Nat, s < z ∧ p.S i = s) (hf : f < z) (ht : t < z) (hlt : cntS p.S L.length t < cntS p.S L.length f) :
 ∃ (chl : Nat → Bool → List Nat) (i0 : Nat) (te0 : Bool),
  (∀ i, i < L.length → p.S i = f → ∀ te, ChL L p ((f : Int) + t) i (i :: chl i te) (p.S i) te ∧ (i :: chl i te).length ≤ L.length ∧ (i :: chl i te).Nodup ∧ ∀ j ∈ i :: chl i te, p.S j = f ∨ p.S j = t) ∧
  i0 < L.length ∧ (∀ i te, i < i0 → ¬ fndP L p f t chl i te) ∧ fndP L p f t chl i0 te0 ∧ (te0 = true → ¬ fndP L p f t chl i0 false) ∧
  Cons L z (turnF L ((f : Int) + t) (i0 :: chl i0 te0) p) ∧ (∀ i, i < L.length → ∃ s : Nat, s < z ∧ (turnF L ((f : Int) + t) (i0 :: chl i0 te0) p).S i = s) ∧
  ∀ s : Nat, cntS (turnF L ((f : Int) + t) (i0 :: chl i0 te0) p).S L.length s = cntS p.S L.length s + (if s = t then 1 else 0) - (if s = f then 1 else 0) := by
 have hft : f ≠ t := fun e => by subst e; omega
 obtain ⟨chl, hC⟩ := chl_ex h hx hf ht hft
 have hfx := find_ex h hx hf ht hft hlt (chl := chl) fun i hi hS te => by
  obtain ⟨c1, c2, c3, c4, c5, c6, c7, c8⟩ := hC i hi hS te
  exact ⟨c6, c3, c8⟩
 obtain ⟨i1, te1, hi1, hf1⟩ := hfx
 obtain ⟨i0, h1, ⟨te', h2⟩, h3⟩ := least_ex (P := fun i => ∃ te, fndP L p f t chl i te) i1 ⟨te1, hf1⟩
 have hi0 : i0 < L.length := by omega
 have hte : ∃ te0, fndP L p f t chl i0 te0 ∧ (te0 = true → ¬ fndP L p f t chl i0 false) := by
  by_cases hfa : fndP L p f t chl i0 false
  · exact ⟨false, hfa, fun e => by cases e⟩
  · cases te' with
    | false => exact absurd h2 hfa
    | true => exact ⟨true, h2, fun _ => hfa⟩
 obtain ⟨te0, h4, h5⟩ := hte
 have eq : ((f : Int) + t) = ((f + t : Nat) : Int) := by omega
 obtain ⟨hS0, hb0, hodd⟩ := h4
 obtain ⟨c1, c2, c3, c4, c5, c6, c7, c8⟩ := hC i0 hi0 hS0 te0
 rw [bfP_v] at hb0
 have hclo := ch_clo h hx hf ht hft hS0 c3 c4 c5 hb0
 obtain ⟨t1, t2⟩ := turn_cons hz hx h c2 (fun j hj => by
  obtain ⟨q1, q2⟩ := c3 j hj
  refine ⟨q1, ?_⟩
  rcases q2 with q2 | q2
  · exact ⟨f, q2, by omega, by omega⟩
  · exact ⟨t, q2, by omega, by omega⟩) hclo
 rw [eq]
 refine ⟨chl, i0, te0, fun i hi hS te => ?_, hi0, fun i te hlt hfn => h3 i hlt ⟨te, hfn⟩, ⟨hS0, by rw [bfP_v]; exact hb0, hodd⟩, h5, t1, fun i hi => ?_, fun s => ?_⟩
 · obtain ⟨d1, d2, d3, d4, d5, d6, d7, d8⟩ := hC i hi hS te
   exact ⟨d1, nodup_len _ _ d2 fun x hx => (d3 x hx).1, d2, fun j hj => (d3 j hj).2⟩
 · rw [t2]
   split
   · rename_i hm
     rcases (c3 i hm).2 with q | q
     · exact ⟨t, ht, by rw [q]; omega⟩
     · exact ⟨f, hf, by rw [q]; omega⟩
   · exact hall i hi
 · have e : (turnF L ((f + t : Nat) : Int) (i0 :: chl i0 te0) p).S = fun j => if j ∈ i0 :: chl i0 te0 then ((f + t : Nat) : Int) - p.S j else p.S j := funext t2
   rw [e, cntS_turn _ _ _ _ _ c2 fun i hi => (c3 i hi).1]
   rw [if_pos hodd, hS0, show sgF f (f : Int) = 1 from if_pos rfl] at c7
   have key : ∀ l : List Nat, (∀ j ∈ l, p.S j = f ∨ p.S j = t) → (l.map fun j => (if ((f + t : Nat) : Int) - p.S j = s then 1 else 0) - (if p.S j = s then (1 : Int) else 0)).sum = (if s = t then (l.map fun j => sgF f (p.S j)).sum else 0) - (if s = f then (l.map fun j => sgF f (p.S j)).sum else 0) := fun l => by
    induction l with
    | nil => intro _; simp
    | cons a l ih =>
     intro hl
     rw [List.map_cons, List.sum_cons, ih fun j hj => hl j (List.mem_cons_of_mem _ hj), List.map_cons, List.sum_cons]
     have ha := hl a List.mem_cons_self
     unfold sgF
     generalize (l.map fun j => sgF f (p.S j)).sum = X
     generalize p.S a = y at *
     clear ih c1 c2 c3 c4 c5 c6 c7 c8 t1 t2 hC hclo
     by_cases e1 : s = t
     · have e2 : ¬ s = f := by omega
       rw [if_pos e1, if_neg e2, if_pos e1, if_neg e2]
       rcases ha with ha | ha
       · rw [if_pos (show ((f + t : Nat) : Int) - y = s by omega), if_neg (show ¬ y = s by omega), if_pos ha]; omega
       · rw [if_neg (show ¬ ((f + t : Nat) : Int) - y = s by omega), if_pos (show y = s by omega), if_neg (show ¬ y = f by omega)]; omega
     · rw [if_neg e1, if_neg e1]
       by_cases e2 : s = f
       · rw [if_pos e2, if_pos e2]
         rcases ha with ha | ha
         · rw [if_neg (show ¬ ((f + t : Nat) : Int) - y = s by omega), if_pos (show y = s by omega), if_pos ha]; omega
         · rw [if_pos (show ((f + t : Nat) : Int) - y = s by omega), if_neg (show ¬ y = s by omega), if_neg (show ¬ y = f by omega)]; omega
       · rw [if_neg e2, if_neg e2, if_neg (show ¬ ((f + t : Nat) : Int) - y = s by omega), if_neg (show ¬ y = s by omega)]; omega
   rw [key _ fun j hj => (c3 j hj).2, c7]
   omega
end
end Go.Proofs.YtkbfcofifhngfaaGreat
namespace Go.Proofs.YtkbfcofifhngfaaGreat
open Go
theorem sum_split {α : Type} (Q : α → Bool) (key : α → Int) (n : Nat) : ∀ L : List α, (∀ x ∈ L, ∃ b : Nat, key x = b ∧ b < n) → (L.map fun x => b1 (Q x)).sum = sumN (fun i => (L.map fun x => b1 (Q x && decide (key x = (i : Int)))).sum) n
 | [], _ => (sumN_zero n).symm
 | x :: l, h => by
  have ih := sum_split Q key n l fun y hy => h y (List.mem_cons_of_mem _ hy)
  rw [List.map_cons, List.sum_cons, ih]
  have e2 : ∀ i : Nat, ((x :: l).map fun x => b1 (Q x && decide (key x = (i : Int)))).sum = b1 (Q x && decide (key x = (i : Int))) + (l.map fun x => b1 (Q x && decide (key x = (i : Int)))).sum := fun i => by rw [List.map_cons, List.sum_cons]
  rw [sumN_congr fun i _ => e2 i, sumN_add]
  congr 1
  obtain ⟨b, hb, hbn⟩ := h x List.mem_cons_self
  cases hq : Q x with
  | true =>
   have : sumN (fun i => b1 (true && decide (key x = (i : Int)))) n = sumN (fun k => if k = b then 1 else (fun _ : Nat => (0 : Int)) k) n := sumN_congr fun i _ => by
    rw [Bool.true_and, b1_eq]
    by_cases hi : i = b
    · subst hi; rw [if_pos hb, if_pos rfl]
    · rw [if_neg (fun e => hi (by omega)), if_neg hi]
   rw [this, sumN_upd hbn, sumN_zero]; rfl
  | false =>
   have : sumN (fun i => b1 (false && decide (key x = (i : Int)))) n = sumN (fun _ => 0) n := sumN_congr fun i _ => rfl
   rw [this, sumN_zero]; rfl
theorem filter_b1 {α : Type} (P : α → Bool) : ∀ L : List α, ((L.filter P).length : Int) = (L.map fun x => b1 (P x)).sum
 | [] => rfl
 | x :: l => by
  have ih := filter_b1 P l
  rw [List.map_cons, List.sum_cons, ← ih]
  cases h : P x with
  | true => rw [List.filter_cons_of_pos h, List.length_cons]; show ((_ + 1 : Nat) : Int) = 1 + _; omega
  | false => rw [List.filter_cons_of_neg (by rw [h]; decide)]; show _ = 0 + _; omega
theorem lnAt_all (L : List Ln) : (List.range L.length).map (lnAt L) = L := by
 apply List.ext_getElem?
 intro i
 by_cases h : i < L.length
 · rw [List.getElem?_map, List.getElem?_range h, Option.map_some, lnAt_get h]
 · rw [List.getElem?_eq_none (by simp; omega), List.getElem?_eq_none (by omega)]
theorem memV_len (L : List Ln) (te : Bool) (g : Nat) : ((memV L te g).length : Int) = (L.map fun x => b1 (decide ((if te = true then x.t.toNat else x.g.toNat) = g))).sum := by
 rw [← filter_b1]
 congr 1
 have : L.filter (fun x => decide ((if te = true then x.t.toNat else x.g.toNat) = g)) = ((List.range L.length).filter fun i => vx L i te == g).map (lnAt L) := by
  conv => lhs; rw [← lnAt_all L]
  rw [List.filter_map]
  congr 1
 rw [this, List.length_map]
 rfl
theorem rowP_sum {D : SD} (hv : scOk D = true) {g : Nat} (hg : g < D.G.length) : sumN (fun i => rowP D g i) D.su.toNat = ((D.G.getD g []).map id).sum := by
 have e : D.G.getD g [] = D.G[g] := by rw [List.getD_eq_getElem?_getD, List.getElem?_eq_getElem hg]; rfl
 have h1 := (grp_at hv (List.getElem_mem hg)).1
 rw [sumN_list id 0, e, show D.su.toNat = D.G[g].length from by omega]
 exact sumN_congr fun i _ => by unfold rowP; rw [e]; rfl
theorem crF_none {D : SD} : ∀ (n k : Nat), crF D k n = none → ∀ g, k ≤ g → g < k + n → crB D g = false
 | 0, k, _, g, h1, h2 => by omega
 | n + 1, k, h, g, h1, h2 => by
  rw [crF] at h
  split at h
  · cases h
  · rename_i hc
    by_cases hg : g = k
    · subst hg; cases hb : crB D g with
      | false => rfl
      | true => exact absurd hb hc
    · exact crF_none n (k + 1) h g (by omega) (by omega)
structure NoWhy (D : SD) : Prop where
 cr : ∀ g, g < D.G.length → ((D.G.getD g []).map id).sum ≤ D.sl
 un : ∀ m, 1 ≤ m → m ≤ 2 ^ D.su.toNat - 1 → unB D (memL m 6) = false
 fu : hoursP D (numL D.su.toNat) ≤ D.ro * D.sl
theorem noWhy {D : SD} (h : rWhy D = none) : NoWhy D := by
 unfold rWhy at h
 split at h
 · cases h
 · rename_i h1
   split at h
   · cases h
   · rename_i h2
     split at h
     · cases h
     · rename_i h3
       refine ⟨fun g hg => ?_, ?_, by omega⟩
       · have := crF_none D.G.length 0 h1 g (Nat.zero_le _) (by omega)
         unfold crB at this
         have := of_decide_eq_false this
         omega
       · rw [bestK_G] at h2
         exact bestG_none h2
theorem tmB_le {D : SD} (t : Nat) : tmB D t ≤ D.sl := by
 unfold tmB timeP; omega
theorem all_memV {D : SD} (hv : scOk D = true) {L : List Ln} (h : AllOK D L) (hn : NoWhy D) : ∀ i, i < L.length → ∀ te, ((memV L te (vx L i te)).length : Int) ≤ D.sl := by
 intro i hi te
 obtain ⟨a, b, t, hx, ha, hb, ht, hte⟩ := h.rng (lnAt L i) (List.mem_of_getElem? (lnAt_get hi))
 rw [memV_len]
 cases te with
 | true =>
  have e : vx L i true = t := by show (lnAt L i).t.toNat = t; rw [hx]; rfl
  rw [e]
  have : (L.map fun x => b1 (decide ((if (true : Bool) = true then x.t.toNat else x.g.toNat) = t))).sum = cntT L t := by
   unfold cntT
   congr 1
   refine List.map_congr_left fun x hx => ?_
   obtain ⟨a', b', t', rfl, _, _, _, _⟩ := h.rng x hx
   show b1 (decide ((t' : Int).toNat = t)) = b1 (decide ((t' : Int) = (t : Int)))
   rw [b1_eq, b1_eq]
   by_cases e : t' = t
   · rw [if_pos (by omega), if_pos (by omega)]
   · rw [if_neg (by omega), if_neg (by omega)]
  rw [this]
  have := h.tea t ht
  have := tmB_le (D := D) t
  omega
 | false =>
  have e : vx L i false = a := by show (lnAt L i).g.toNat = a; rw [hx]; rfl
  rw [e]
  have h1 := sum_split (fun x : Ln => decide (x.g = (a : Int))) (fun x => x.j) D.su.toNat L fun x hx => by
   obtain ⟨a', b', t', rfl, _, hb', _, _⟩ := h.rng x hx
   exact ⟨b', rfl, hb'⟩
  have : (L.map fun x => b1 (decide ((if (false : Bool) = true then x.t.toNat else x.g.toNat) = a))).sum = (L.map fun x => b1 (decide (x.g = (a : Int)))).sum := by
   congr 1
   refine List.map_congr_left fun x hx => ?_
   obtain ⟨a', b', t', rfl, _, _, _, _⟩ := h.rng x hx
   show b1 (decide ((a' : Int).toNat = a)) = b1 (decide ((a' : Int) = (a : Int)))
   rw [b1_eq, b1_eq]
   by_cases e : a' = a
   · rw [if_pos (by omega), if_pos (by omega)]
   · rw [if_neg (by omega), if_neg (by omega)]
  rw [this, h1, sumN_congr (g := fun i => rowP D a i) fun i hi => by
   rw [← h.cnt a ha i hi]
   unfold cGU
   congr 1
   refine List.map_congr_left fun x _ => ?_
   rw [Bool.decide_and], rowP_sum hv ha]
  exact hn.cr a ha
theorem all_len {D : SD} (hv : scOk D = true) {L : List Ln} (h : AllOK D L) (hn : NoWhy D) : (L.length : Int) ≤ D.ro * D.sl := by
 have h0 : (L.length : Int) = (L.map fun x => b1 ((fun _ : Ln => true) x)).sum := by
  rw [← filter_b1]; congr 1; rw [List.filter_eq_self.2 fun _ _ => rfl]
 have h1 := sum_split (fun _ : Ln => true) (fun x => x.g) D.G.length L fun x hx => by
  obtain ⟨a', b', t', rfl, ha', _, _, _⟩ := h.rng x hx
  exact ⟨a', rfl, ha'⟩
 have h2 : ∀ g, g < D.G.length → (L.map fun x => b1 (true && decide (x.g = (g : Int)))).sum = sumN (fun i => rowP D g i) D.su.toNat := fun g hg => by
  have h3 := sum_split (fun x : Ln => decide (x.g = (g : Int))) (fun x => x.j) D.su.toNat L fun x hx => by
   obtain ⟨a', b', t', rfl, _, hb', _, _⟩ := h.rng x hx
   exact ⟨b', rfl, hb'⟩
  simp only [Bool.true_and]
  rw [h3]
  exact sumN_congr fun i hi => by
   rw [← h.cnt g hg i hi]
   unfold cGU
   congr 1
   refine List.map_congr_left fun x _ => ?_
   rw [Bool.decide_and]
 rw [h0, h1, sumN_congr (g := fun g => sumN (fun i => rowP D g i) D.su.toNat) h2]
 have h4 : hoursP D (numL D.su.toNat) = sumN (fun g => sumN (fun i => rowP D g i) D.su.toNat) D.G.length := by
  unfold hoursP
  rw [sumN_list (rowH (numL D.su.toNat)) []]
  refine sumN_congr fun g _ => ?_
  unfold rowH numL
  rw [List.map_map, sumN_list (α := Nat) _ 0, List.length_range]
  refine sumN_congr fun i hi => ?_
  have : (List.range D.su.toNat).getD i 0 = i := by rw [List.getD_eq_getElem?_getD, List.getElem?_range hi]; rfl
  rw [this]
  show (D.G.getD g []).getD ((i : Int)).toNat 0 = _
  rw [Int.toNat_natCast]; rfl
 have := hn.fu
 omega
end Go.Proofs.YtkbfcofifhngfaaGreat
namespace Go.Proofs.YtkbfcofifhngfaaGreat
open Go Tx Go.RowKit
def swF (f : Nat → Ln) (j : Nat) : Nat → Ln := fun k => if k = j then f (j - 1) else if k = j - 1 then f j else f k
def insF : Nat → (Nat → Ln) → (Nat → Ln)
 | 0, f => f
 | j + 1, f => if (f (j + 1)).g < (f j).g then insF j (swF f (j + 1)) else f
def srtF : Nat → (Nat → Ln) → (Nat → Ln)
 | 0, f => f
 | i + 1, f => insF i (srtF i f)
theorem sw_sum (F : Ln → Int) (f : Nat → Ln) {n j : Nat} (h0 : 0 < j) (h : j < n) : sumN (fun k => F (swF f j k)) n = sumN (fun k => F (f k)) n := by
 have e : ∀ k, F (swF f j k) = (fun k => if k = j then F (f (j - 1)) else (fun k => if k = j - 1 then F (f j) else (fun k => F (f k)) k) k) k := fun k => by
  unfold swF
  dsimp only
  split
  · rfl
  · split <;> rfl
 rw [sumN_congr fun k _ => e k, sumN_upd h, sumN_upd (show j - 1 < n by omega)]
 rw [if_neg (by omega)]
 dsimp only
 omega
theorem ins_sum (F : Ln → Int) {n : Nat} : ∀ (j : Nat) (f : Nat → Ln), j < n → sumN (fun k => F (insF j f k)) n = sumN (fun k => F (f k)) n
 | 0, f, _ => rfl
 | j + 1, f, h => by
  rw [insF]
  split
  · rw [ins_sum F j _ (by omega), sw_sum F f (by omega) h]
  · rfl
theorem srt_sum (F : Ln → Int) {n : Nat} (f : Nat → Ln) : ∀ i, i ≤ n → sumN (fun k => F (srtF i f k)) n = sumN (fun k => F (f k)) n
 | 0, _ => rfl
 | i + 1, h => by rw [srtF, ins_sum F i _ (by omega), srt_sum F f i (by omega)]
def InsI (f : Nat → Ln) (i j : Nat) : Prop := ∀ p q, p < q → q ≤ i → q ≠ j → (f p).g ≤ (f q).g
theorem ins_sorted (i : Nat) : ∀ (j : Nat) (f : Nat → Ln), j ≤ i → InsI f i j → ∀ p q, p < q → q ≤ i → (insF j f p).g ≤ (insF j f q).g
 | 0, f, _, h, p, q, h1, h2 => h p q h1 h2 (by omega)
 | j + 1, f, hj, h, p, q, h1, h2 => by
  rw [insF]
  split
  · rename_i hlt
    refine ins_sorted i j _ (by omega) (fun p q h1 h2 h3 => ?_) p q h1 h2
    have a1 : ∀ k, swF f (j + 1) k = if k = j + 1 then f j else if k = j then f (j + 1) else f k := fun k => rfl
    rw [a1, a1]
    by_cases e1 : q = j + 1
    · subst e1
      rw [if_pos rfl, if_neg (by omega)]
      by_cases e2 : p = j
      · rw [if_pos e2]; omega
      · rw [if_neg e2]; exact h p j (by omega) (by omega) (by omega)
    · rw [if_neg e1, if_neg h3]
      by_cases e2 : p = j + 1
      · rw [if_pos e2]; exact h j q (by omega) h2 e1
      · rw [if_neg e2]
        by_cases e3 : p = j
        · rw [if_pos e3]; exact h (j + 1) q (by omega) h2 e1
        · rw [if_neg e3]; exact h p q h1 h2 e1
  · rename_i hge
    by_cases e : q = j + 1
    · subst e
      by_cases e2 : p = j
      · subst e2; omega
      · have := h p j (by omega) (by omega) (by omega); omega
    · exact h p q h1 h2 e
theorem srt_sorted (f : Nat → Ln) : ∀ i p q, p < q → q < i → (srtF i f p).g ≤ (srtF i f q).g
 | 0, p, q, _, h => absurd h (by omega)
 | i + 1, p, q, h1, h2 => by
  rw [srtF]
  exact ins_sorted i i _ (Nat.le_refl _) (fun p q h1 h2 h3 => srt_sorted f i p q h1 (by omega)) p q h1 (by omega)
def lnV (n : Nat) (f : Nat → Ln) : List Value := (List.range n).flatMap fun i => Ln.cs (f i)
theorem lnV_len (n : Nat) (f : Nat → Ln) : (lnV n f).length = n * 3 := by unfold lnV; rw [fm_len (sz := 3) (fun _ => rfl), List.length_range]
theorem lnV_get {n : Nat} (f : Nat → Ln) {k : Nat} (hk : k < n) : ∀ j v, (Ln.cs (f k))[j]? = some v → (lnV n f)[k * 3 + j]? = some v := fun j v hv => fm_get (sz := 3) (f := fun i => Ln.cs (f i)) (fun _ => rfl) hk hv
theorem lnV_set {n : Nat} (f : Nat → Ln) {k : Nat} (hk : k < n) (x : Ln) : lnV n (fun i => if i = k then x else f i) = (lnV n f).take (k * 3) ++ Ln.cs x ++ (lnV n f).drop (k * 3 + 3) := by
 have := fm_set (sz := 3) (f := fun i => Ln.cs (f i)) (fun _ => rfl) (n := n) (k := k) (o := 0) (v := Ln.cs x) hk (by simp)
 simp only [Nat.add_zero] at this
 unfold lnV
 rw [show (Ln.cs x).length = 3 from rfl] at this
 rw [this]
 refine fm_congr fun j _ => ?_
 by_cases e : j = k
 · simp only [if_pos e]; rfl
 · simp only [if_neg e]
theorem cl47_ok (x : Ln) (w : World) : Calls Tryz.prog 47 #[.agg #[iv x.g, iv x.j, iv x.t]] w fun e w' => e = .returned (iv x.g) ∧ Below w.heap.size w w' := by
 obtain ⟨g, j, t⟩ := x
 refine calls_val env mixed Tryz.func47 has47 Tryz.ntmps47 [.agg #[iv g, iv j, iv t]] (by simp) ?_
 repeat'
  conv => whnf
  first
   |refine zB ?_
 all_goals first | exact ⟨fun β => rfl, fun w' h => h⟩
theorem cl91_ok (b : Nat) (x y : Ln) (w : World) (hb : w.heap[b]? = some (.cells #[.func (.func 47) #[] #[]] 100 (0, 0))) (hx : -1000 ≤ x.g ∧ x.g ≤ 1000) (hy : -1000 ≤ y.g ∧ y.g ≤ 1000) :
 Calls Tryz.prog 91 #[.agg #[iv x.g, iv x.j, iv x.t], .agg #[iv y.g, iv y.j, iv y.t], pt b] w fun e w' => e = .returned (iv (x.g - y.g)) ∧ Below w.heap.size w w' := by
 have cx := fun (w' : World) => cl47_ok x w'
 have cy := fun (w' : World) => cl47_ok y w'
 obtain ⟨g, j, t⟩ := x
 obtain ⟨g', j', t'⟩ := y
 dsimp only at hx hy cx cy ⊢
 have e0 := fun (w' : World) (hw : Below w.heap.size w w') => cell_at (C := [.func (.func 47) #[] #[]]) (heap_below hb hw) (o := 0) (v := .func (.func 47) #[] #[]) rfl
 refine calls_val env mixed Tryz.func91 has91 Tryz.ntmps91 [.agg #[iv g, iv j, iv t], .agg #[iv g', iv j', iv t'], pt b] (by simp) ?_
 repeat'
  conv => whnf
  first
   |refine zA ?_|refine zD ?_|refine zF ?_
   |refine eL [.func (.func 47) #[] #[]] ⟨⟨rfl, fun w' hw' => e0 w' hw'⟩, ?_⟩
   |((with_reducible show CallEv _ _ 47 ..); first | refine callE (k := 47) (fun β w' hbw => cx w') ?_ | refine callE (k := 47) (fun β w' hbw => cy w') ?_)
 all_goals exact ⟨fun β => rfl, fun w' h => h⟩
theorem lnV_sw {n : Nat} (f : Nat → Ln) {j : Nat} (h0 : 0 < j) (hj : j < n) : lnV n (swF f j) = ((lnV n (fun i => if i = j then f (j - 1) else f i)).take ((j - 1) * 3) ++ Ln.cs (f j) ++ (lnV n (fun i => if i = j then f (j - 1) else f i)).drop ((j - 1) * 3 + 3)) := by
 rw [← lnV_set (fun i => if i = j then f (j - 1) else f i) (show j - 1 < n by omega) (f j)]
 congr 1
 funext k
 unfold swF
 by_cases e : k = j
 · subst e; rw [if_pos rfl, if_neg (by omega), if_pos rfl]
 · rw [if_neg e]
   split
   · rfl
   · rfl
theorem ins_all {P : Ln → Prop} {n : Nat} : ∀ (j : Nat) (f : Nat → Ln), j < n → (∀ k, k < n → P (f k)) → ∀ k, k < n → P (insF j f k)
 | 0, f, _, h, k, hk => h k hk
 | j + 1, f, hj, h, k, hk => by
  rw [insF]
  split
  · refine ins_all j _ (by omega) (fun k hk => ?_) k hk
    unfold swF
    split
    · exact h _ (by omega)
    · split
      · exact h _ hj
      · exact h k hk
  · exact h k hk
theorem srt_all {P : Ln → Prop} {n : Nat} (f : Nat → Ln) (h : ∀ k, k < n → P (f k)) : ∀ i, i ≤ n → ∀ k, k < n → P (srtF i f k)
 | 0, _, k, hk => h k hk
 | i + 1, hi, k, hk => ins_all i _ (by omega) (srt_all f h i (by omega)) k hk
theorem lnV_ro {n k o : Nat} (f : Nat → Ln) (ho : o = k * 3) (hk : k < n) : ∀ q v, (Ln.cs (f k))[q]? = some v → (lnV n f)[o + q]? = some v := fun q v hq => by subst ho; exact lnV_get f hk q v hq
theorem ins152 (n : Nat) (f0 : Nat → Ln) (bx : Nat) (hn : n ≤ 12) (hb : ∀ k, k < n → 0 ≤ (f0 k).g ∧ (f0 k).g ≤ 7) {β : Nat → Nat} {w : World} (hok : Blk.ok β w (β 0) (.own 1 n 3 (lnV n f0) 46))
 (hbx : ∀ w', Chg (fun b => b = β 0) w w' → w'.heap[bx]? = some (.cells #[.func (.func 47) #[] #[]] 100 (0, 0))) :
 Calls Tryz.prog 152 (SV.cs β [.os 0 1 n, .v (iv 0), .v (iv n), .v (.func (.func 91) #[] #[pt bx])]).toArray w fun e w' => e = .returned (.tuple #[]) ∧ Chg (fun b => b = β 0) w w' ∧ Blk.ok β w' (β 0) (.own 1 n 3 (lnV n (srtF n f0)) 46) := by
 have hl0 : ∀ (x : List Value) i b, lk [(0, Blk.own 1 n 3 x 46)] i = some b → i = 0 ∧ b = .own 1 n 3 x 46 := fun x i b hi => by
  by_cases h : i = 0
  · subst h; rw [lk_cons_eq] at hi; exact ⟨rfl, (Option.some.inj hi).symm⟩
  · rw [lk_cons_ne h] at hi; simp [lk] at hi
 have hch : ∀ w', Chg (fun b => ∃ i bk, lk [(0, Blk.own 1 n 3 (lnV n f0) 46)] i = some bk ∧ β i = b) w w' → Chg (fun b => b = β 0) w w' := fun w' hc => ⟨hc.os, hc.tape, hc.output, hc.size, fun b hlt hne => hc.same b hlt fun ⟨i, bk, h1, h2⟩ => hne (by rw [(hl0 _ i bk h1).1] at h2; exact h2.symm)⟩
 refine (calls_WS env mixed Tryz.func152 has152 Tryz.ntmps152 [.os 0 1 n, .v (iv 0), .v (iv n), .v (.func (.func 91) #[] #[pt bx])] [(0, .own 1 n 3 (lnV n f0) 46)] [(0, .own 1 n 3 (lnV n (srtF n f0)) 46)] 2 (.tuple #[]) (by simp) rfl rfl rfl (fun i b hi => by obtain ⟨_, rfl⟩ := hl0 _ i b hi; rfl) (Hp := fun w' => w'.heap[bx]? = some (.cells #[.func (.func 47) #[] #[]] 100 (0, 0))) (fun h hh => ?_) (β := β) (w := w) (fun i b hi => by obtain ⟨rfl, rfl⟩ := hl0 _ i b hi; exact hok) (fun i j bi bj h1 h2 hne => absurd ((hl0 _ i bi h1).1.trans (hl0 _ j bj h2).1.symm) hne) (fun w' hc => hbx w' (hch w' hc))).mono fun e w' ⟨h1, h2, h3⟩ => ⟨h1, hch w' h2, h3 0 _ lk_cons_eq⟩
 have ha0 := srt_all (P := fun x : Ln => 0 ≤ x.g ∧ x.g ≤ 7) f0 hb
 repeat'
  conv => whnf
  first
   |refine zF ?_
 refine loopN 2 (fun x : Nat × (Nat → Ln) => [(0, .os 0 1 n), (1, .v (iv 0)), (2, .v (iv n)), (3, .v (.func (.func 91) #[] #[pt bx])), (8, .v (iv x.1))]) (fun x => [(0, .own 1 n 3 (lnV n x.2) 46)]) (fun x => 1 ≤ x.1 ∧ (x.1 ≤ n ∨ n = 0) ∧ x.2 = srtF x.1 f0 ∧ ∀ k, k < n → 0 ≤ (x.2 k).g ∧ (x.2 k).g ≤ 7) (fun x => n - x.1) (1, f0) ⟨Nat.le_refl _, by dsimp only; omega, rfl, hb⟩ ⟨rfl, rfl, rfl, rfl, rfl, trivial⟩ ⟨rfl, trivial⟩ (fun _ _ => ⟨rfl, rfl⟩) ?_
 intro ⟨i, fi⟩ ⟨hi1, hin, hfi, hbi⟩
 dsimp only at hi1 hin hfi hbi ⊢
 rcases Nat.lt_or_ge i n with hil | hil
 · have hnx : srtF (i + 1) f0 = insF i fi := by rw [srtF, hfi]
   repeat'
    conv => whnf
    first
     |(refine splD ?_ ?_ <;> intro hc <;> first|(exfalso; omega)|skip)
   refine loopN 2 (fun x : Nat × (Nat → Ln) => [(0, .os 0 1 n), (1, .v (iv 0)), (2, .v (iv n)), (3, .v (.func (.func 91) #[] #[pt bx])), (8, .v (iv i)), (9, .v (iv x.1))]) (fun x => [(0, .own 1 n 3 (lnV n x.2) 46)]) (fun x => x.1 ≤ i ∧ insF x.1 x.2 = srtF (i + 1) f0 ∧ ∀ k, k < n → 0 ≤ (x.2 k).g ∧ (x.2 k).g ≤ 7) (fun x => x.1) (i, fi) ⟨Nat.le_refl _, hnx.symm, hbi⟩ ⟨rfl, rfl, rfl, rfl, rfl, rfl, trivial⟩ ⟨rfl, trivial⟩ (fun _ _ => ⟨rfl, rfl⟩) ?_
   intro ⟨j, f⟩ ⟨hji, hR, hbf⟩
   dsimp only at hji hR hbf ⊢
   have hbR := ha0 (i + 1) (by omega)
   cases j with
   | zero =>
    have hR : f = srtF (i + 1) f0 := hR
    repeat'
     conv => whnf
     first
      |refine zA ?_|refine zF ?_|refine splF ?_
    all_goals exact ⟨(i + 1, f), ⟨by dsimp only; omega, by dsimp only; omega, hR, hbf⟩, by dsimp only; omega, Ent.weak rfl ⟨rfl, rfl, rfl, rfl, rfl, trivial⟩ ⟨rfl, trivial⟩ fun _ h => h⟩
   | succ j =>
    have hj1 : j + 1 < n := by omega
    have hj0 : j < n := by omega
    have b1 := hbf (j + 1) hj1
    have b0 := hbf j hj0
    have c91 := fun (w' : World) (hw : w'.heap[bx]? = some (.cells #[.func (.func 47) #[] #[]] 100 (0, 0))) => cl91_ok bx (f (j + 1)) (f j) w' hw (by omega) (by omega)
    rw [insF] at hR
    by_cases hlt : (f (j + 1)).g < (f j).g
    · rw [if_pos hlt] at hR
      have hmem : lnV n (swF f (j + 1)) = ((lnV n f).take ((((j + 1 : Nat) : Int)).toNat * 3) ++ Ln.cs (f j) ++ (lnV n f).drop ((((j + 1 : Nat) : Int)).toNat * 3 + 3)).take ((((j + 1 : Nat) : Int) - 1).toNat * 3) ++ Ln.cs (f (j + 1)) ++ ((lnV n f).take ((((j + 1 : Nat) : Int)).toNat * 3) ++ Ln.cs (f j) ++ (lnV n f).drop ((((j + 1 : Nat) : Int)).toNat * 3 + 3)).drop ((((j + 1 : Nat) : Int) - 1).toNat * 3 + 3) := by
       have := lnV_sw f (Nat.succ_pos j) hj1
       rw [lnV_set f hj1] at this
       rw [show (((j + 1 : Nat) : Int)).toNat = j + 1 from by omega, show (((j + 1 : Nat) : Int) - 1).toNat = j from by omega]
       exact this
      have hbs : ∀ k, k < n → 0 ≤ (swF f (j + 1) k).g ∧ (swF f (j + 1) k).g ≤ 7 := fun k hk => by
       unfold swF
       split
       · exact b0
       · split
         · exact b1
         · exact hbf k hk
      repeat'
       conv => whnf
       first
        |refine zA ?_|refine zC ?_|refine zD ?_|refine zF ?_|refine zG ?_
        |(refine splD ?_ ?_ <;> intro hc <;> first|(exfalso; omega)|skip)
        |refine eL [iv (f (j + 1)).g, iv (f (j + 1)).j, iv (f (j + 1)).t] ⟨⟨rfl, lnV_ro (k := j + 1) f (by show (((j + 1 : Nat) : Int)).toNat * 3 = (j + 1) * 3; omega) hj1⟩, ?_⟩
        |refine eL [iv (f (j)).g, iv (f (j)).j, iv (f (j)).t] ⟨⟨rfl, lnV_ro (k := j) f (by show (((j + 1 : Nat) : Int) - 1).toNat * 3 = (j) * 3; omega) hj0⟩, ?_⟩
        |((with_reducible show CallEv _ _ 91 ..); refine callE (fun β w' hbw => c91 w' (hh w' hbw)) ?_)
        |refine And.intro (a := (_ : Nat) ≤ List.length _) (by simp only [show ti46.size = 3 from rfl, List.length_append, List.length_take, List.length_drop, lnV_len, List.length_cons, List.length_nil]; omega) ?_
      all_goals exact ⟨(j, swF f (j + 1)), ⟨by dsimp only; omega, hR, hbs⟩, by dsimp only; omega, Ent.weak rfl ⟨rfl, rfl, rfl, rfl, rfl, congrArg (fun z => some (SV.v (iv z))) (show ((j + 1 : Nat) : Int) - 1 = (j : Int) by omega), trivial⟩ ⟨by rw [hmem]; rfl, trivial⟩ fun _ h => h⟩
    · rw [if_neg hlt] at hR
      repeat'
       conv => whnf
       first
        |refine zA ?_|refine zD ?_|refine zF ?_|refine zG ?_
        |(refine splD ?_ ?_ <;> intro hc <;> first|(exfalso; omega)|skip)
        |refine eL [iv (f (j + 1)).g, iv (f (j + 1)).j, iv (f (j + 1)).t] ⟨⟨rfl, lnV_ro (k := j + 1) f (by show (((j + 1 : Nat) : Int)).toNat * 3 = (j + 1) * 3; omega) hj1⟩, ?_⟩
        |refine eL [iv (f (j)).g, iv (f (j)).j, iv (f (j)).t] ⟨⟨rfl, lnV_ro (k := j) f (by show (((j + 1 : Nat) : Int) - 1).toNat * 3 = (j) * 3; omega) hj0⟩, ?_⟩
        |((with_reducible show CallEv _ _ 91 ..); refine callE (fun β w' hbw => c91 w' (hh w' hbw)) ?_)
      all_goals exact ⟨(i + 1, f), ⟨by dsimp only; omega, by dsimp only; omega, hR, hbf⟩, by dsimp only; omega, Ent.weak rfl ⟨rfl, rfl, rfl, rfl, rfl, trivial⟩ ⟨rfl, trivial⟩ fun _ h => h⟩
 · have hfin : lnV n fi = lnV n (srtF n f0) := by
    rcases hin with h | h
    · rw [hfi, show i = n from by omega]
    · subst h; rfl
   repeat'
    conv => whnf
    first
     |(refine splD ?_ ?_ <;> intro hc <;> first|(exfalso; omega)|skip)
   all_goals exact ⟨fun β => rfl, by rw [← hfin]; exact ⟨rfl, trivial⟩, fun w' h => h, rfl⟩
theorem strE {P : Program} {dst : Option Tmp} {ty : TypeId} {pos : String} {after : Array Edge} {gd : Option (Nat × Bool)} {gs : List Nat} {σ : Sg} {K : Ef → Prop} {KF : Option KT} {t : TypeId} {x ix : Operand} {s : ByteArray} {k : IntKind} {z : Int} {b : UInt8}
 (hx : gv σ x = some (.v (.string s))) (hix : gv σ ix = some (.v (.int k z))) (hu : P.underlying t = some .string) (h0 : 0 ≤ z) (hb : s[z.toNat]? = some b) (hK : K ⟨.v (.int .u8 b.toNat), [], [], gs ++ (os x ++ os ix), []⟩) : OpEvS P ⟨dst, .index t x ix, ty, pos, after, gd⟩ gs σ K KF := by
 refine .mk _ (by simp [efB, eqs, modsLt, oldB, keysB, nodupB, SV.lt]) (fun k hk => by simp [hk]) rfl (runOK_pure fun β a w hss => ?_) hK
 have e1 := gv_eval hss hx (fun k hk => by simp [hk])
 have e2 := gv_eval hss hix (fun k hk => by simp [hk])
 simp only [execOp, Instr.index, e1, e2, SV.c, asIntOf, Sem.run_bind, Sem.run_pure, Result.andThen_ok, Go.run_underlying hu w, h0, if_true, hb]
def blF (n : Nat) : Int := ([0, 1, 2, 2, 3, 3, 3, 3, 4, 4, 4, 4, 4] : List Int).getD n 0
theorem cv193 (t : Nat) (h : t < 256) : RunIs Tryz.prog (convert 193 5 (.int .u64 t)) (.int .u8 t) := fun w => by
 have h3 : IntKind.u8.wrap (t : Int) = t := IR.wrap (k := .u8) ⟨by omega, by omega⟩
 simp [convert, Conv.intToInt, Go.run_underlying (show Tryz.prog.underlying 193 = some (.int .u64) from by kernel_rfl) w, Go.run_underlying (show Tryz.prog.underlying 5 = some (.int .u8) from by kernel_rfl) w, h3]
theorem cv5i (t : Nat) (h : t < 256) : RunIs Tryz.prog (convert 5 3 (.int .u8 t)) (iv t) := fun w => by
 have h3 : IntKind.i64.wrap (t : Int) = t := IR.wrap (k := .i64) ⟨by omega, by omega⟩
 simp [convert, Conv.intToInt, Go.run_underlying (show Tryz.prog.underlying 5 = some (.int .u8) from by kernel_rfl) w, Go.run_underlying und3 w, h3]
theorem len161 (n : Nat) (h : n ≤ 12) (w : World) : Calls Tryz.prog 161 #[.int .u64 n] w fun e w' => e = .returned (iv (blF n)) ∧ Below w.heap.size w w' := by
 have hn : n = 0 ∨ n = 1 ∨ n = 2 ∨ n = 3 ∨ n = 4 ∨ n = 5 ∨ n = 6 ∨ n = 7 ∨ n = 8 ∨ n = 9 ∨ n = 10 ∨ n = 11 ∨ n = 12 := by omega
 obtain ⟨b, hb, hbn⟩ : ∃ b : UInt8, b = UInt8.ofNat (blF n).toNat ∧ (b.toNat : Int) = blF n := ⟨_, rfl, by rcases hn with rfl | rfl | rfl | rfl | rfl | rfl | rfl | rfl | rfl | rfl | rfl | rfl | rfl <;> kernel_rfl⟩
 have hb2 : 0 ≤ blF n ∧ blF n ≤ 4 := by rcases hn with rfl | rfl | rfl | rfl | rfl | rfl | rfl | rfl | rfl | rfl | rfl | rfl | rfl <;> decide
 refine calls_val env mixed Tryz.func161 has161 Tryz.ntmps161 [.int .u64 n] (by simp) ?_
 repeat'
  conv => whnf
  first
   |refine zF ?_
   |(refine splD ?_ ?_ <;> intro hc <;> first|(exfalso; omega)|skip)
   |refine Exists.intro (α := Value) (.int .u8 n) ⟨cv193 n (by omega), ?_⟩
   |refine strE (b := b) rfl rfl (by kernel_rfl) (Int.natCast_nonneg n) (by rw [Int.toNat_natCast, hb]; rcases hn with rfl | rfl | rfl | rfl | rfl | rfl | rfl | rfl | rfl | rfl | rfl | rfl | rfl <;> kernel_rfl) ?_
   |refine Exists.intro (α := Value) (iv b.toNat) ⟨cv5i b.toNat (by omega), ?_⟩
 all_goals exact ⟨fun β => congrArg iv (by omega), fun w' h => h⟩
theorem len130 (w : World) (n : Nat) (h : n ≤ 12) : Calls Tryz.prog 130 #[.int .u64 n] w fun e w' => e = .returned (iv (blF n)) ∧ Below w.heap.size w w' := by
 have h161 := len161 n h
 refine calls_val env mixed Tryz.func130 has130 Tryz.ntmps130 [.int .u64 n] (by simp) ?_
 repeat'
  conv => whnf
  first
   |refine zD ?_|refine splF ?_
   |((with_reducible show CallEv _ _ 161 ..); refine callE (fun β w' hbw => h161 w') ?_)
 all_goals exact ⟨fun β => rfl, fun w' h => h⟩
theorem row0 {n : Nat} {x : List Value} {i : Nat} {b : Blk} (hi : lk [(0, Blk.own 1 n 3 x 46)] i = some b) : i = 0 ∧ b = .own 1 n 3 x 46 := by
 by_cases h : i = 0
 · subst h; rw [lk_cons_eq] at hi; exact ⟨rfl, (Option.some.inj hi).symm⟩
 · rw [lk_cons_ne h] at hi; simp [lk] at hi
theorem row_chg {n : Nat} {x : List Value} {β : Nat → Nat} {w w' : World} (hc : Chg (fun b => ∃ i bk, lk [(0, Blk.own 1 n 3 x 46)] i = some bk ∧ β i = b) w w') : Chg (fun b => b = β 0) w w' :=
 ⟨hc.os, hc.tape, hc.output, hc.size, fun b hlt hne => hc.same b hlt fun ⟨i, bk, h1, h2⟩ => hne (by rw [(row0 h1).1] at h2; exact h2.symm)⟩
theorem pdq129 (n : Nat) (f0 : Nat → Ln) (bx : Nat) (lim : Int) (hn : n ≤ 12) (hb : ∀ k, k < n → 0 ≤ (f0 k).g ∧ (f0 k).g ≤ 7) {β : Nat → Nat} {w : World} (hok : Blk.ok β w (β 0) (.own 1 n 3 (lnV n f0) 46))
 (hbx : ∀ w', Chg (fun b => b = β 0) w w' → w'.heap[bx]? = some (.cells #[.func (.func 47) #[] #[]] 100 (0, 0))) :
 Calls Tryz.prog 129 (SV.cs β [.os 0 1 n, .v (iv 0), .v (iv n), .v (iv lim), .v (.func (.func 91) #[] #[pt bx])]).toArray w fun e w' => e = .returned (.tuple #[]) ∧ Chg (fun b => b = β 0) w w' ∧ Blk.ok β w' (β 0) (.own 1 n 3 (lnV n (srtF n f0)) 46) := by
 refine (calls_WS env mixed Tryz.func129 has129 Tryz.ntmps129 [.os 0 1 n, .v (iv 0), .v (iv n), .v (iv lim), .v (.func (.func 91) #[] #[pt bx])] [(0, .own 1 n 3 (lnV n f0) 46)] [(0, .own 1 n 3 (lnV n (srtF n f0)) 46)] 2 (.tuple #[]) (by simp) rfl rfl rfl (fun i b hi => by obtain ⟨_, rfl⟩ := row0 hi; rfl) (Hp := fun w' => w'.heap[bx]? = some (.cells #[.func (.func 47) #[] #[]] 100 (0, 0))) (fun h hh => ?_) (β := β) (w := w) (fun i b hi => by obtain ⟨rfl, rfl⟩ := row0 hi; exact hok) (fun i j bi bj h1 h2 hne => absurd ((row0 h1).1.trans (row0 h2).1.symm) hne) (fun w' hc => hbx w' (row_chg hc))).mono fun e w' ⟨h1, h2, h3⟩ => ⟨h1, row_chg h2, h3 0 _ lk_cons_eq⟩
 skip
 refine loopN 2 (fun _ : Unit => [(0, .os 0 1 n), (1, .v (iv 0)), (2, .v (iv n)), (3, .v (iv lim)), (4, .v (.func (.func 91) #[] #[pt bx]))]) (fun _ => [(0, .own 1 n 3 (lnV n f0) 46)]) (fun _ => True) (fun _ => 0) () trivial ⟨rfl, rfl, rfl, rfl, rfl, trivial⟩ ⟨rfl, trivial⟩ (fun _ _ => ⟨rfl, rfl⟩) ?_
 intro _ _
 repeat'
  conv => whnf
  first
   |refine zD ?_|refine zF ?_
   |(refine splD ?_ ?_ <;> intro hc <;> first|(exfalso; omega)|skip)
   |((with_reducible show CallEv _ _ 152 ..); refine callWS [0] [(0, .own 1 n 3 (lnV n (srtF n f0)) 46)] (.tuple #[]) rfl (fun i hi => by simp only [List.mem_singleton] at hi; subst hi; exact ⟨_, List.mem_singleton.2 rfl⟩) (fun β w h1 h2 hst => (ins152 n f0 bx hn hb (h1 0 (by simp) _ rfl) (fun w' hc => hh _ (hst w' ⟨hc.os, hc.tape, hc.output, hc.size, fun b hlt hne => hc.same b hlt fun e => hne ⟨0, by simp, ⟨_, rfl, rfl⟩, e.symm⟩⟩))).mono fun e w' ⟨g1, g2, g3⟩ => ⟨g1, ⟨g2.os, g2.tape, g2.output, g2.size, fun b hlt hne => g2.same b hlt fun e => hne ⟨0, by simp, e.symm⟩⟩, fun i b hi => by simp only [List.mem_singleton, Prod.mk.injEq] at hi; obtain ⟨rfl, rfl⟩ := hi; exact g3⟩) ?_)
 all_goals exact ⟨fun β => rfl, ⟨rfl, trivial⟩, fun w' h => h, rfl⟩
theorem sort90 (n : Nat) (f0 : Nat → Ln) (bx : Nat) (hn : n ≤ 12) (hb : ∀ k, k < n → 0 ≤ (f0 k).g ∧ (f0 k).g ≤ 7) {β : Nat → Nat} {w : World} (hok : Blk.ok β w (β 0) (.own 1 n 3 (lnV n f0) 46))
 (hbx : ∀ w', Chg (fun b => b = β 0) w w' → w'.heap[bx]? = some (.cells #[.func (.func 47) #[] #[]] 100 (0, 0))) :
 Calls Tryz.prog 90 (SV.cs β [.os 0 1 n, .v (.func (.func 91) #[] #[pt bx])]).toArray w fun e w' => e = .returned (.tuple #[]) ∧ Chg (fun b => b = β 0) w w' ∧ Blk.ok β w' (β 0) (.own 1 n 3 (lnV n (srtF n f0)) 46) := by
 refine (calls_WS env mixed Tryz.func90 has90 Tryz.ntmps90 [.os 0 1 n, .v (.func (.func 91) #[] #[pt bx])] [(0, .own 1 n 3 (lnV n f0) 46)] [(0, .own 1 n 3 (lnV n (srtF n f0)) 46)] 2 (.tuple #[]) (by simp) rfl rfl rfl (fun i b hi => by obtain ⟨_, rfl⟩ := row0 hi; rfl) (Hp := fun w' => w'.heap[bx]? = some (.cells #[.func (.func 47) #[] #[]] 100 (0, 0))) (fun h hh => ?_) (β := β) (w := w) (fun i b hi => by obtain ⟨rfl, rfl⟩ := row0 hi; exact hok) (fun i j bi bj h1 h2 hne => absurd ((row0 h1).1.trans (row0 h2).1.symm) hne) (fun w' hc => hbx w' (row_chg hc))).mono fun e w' ⟨h1, h2, h3⟩ => ⟨h1, row_chg h2, h3 0 _ lk_cons_eq⟩
 have hlim := fun (w' : World) => len130 w' n hn
 generalize blF n = lim at hlim
 repeat'
  conv => whnf
  first
   |refine zD ?_
   |refine Exists.intro (α := Value) (.int .u64 n) ⟨cvU n (by omega), ?_⟩
   |((with_reducible show CallEv _ _ 130 ..); refine callE (fun β w' hbw => hlim w') ?_)
   |((with_reducible show CallEv _ _ 129 ..); refine callWS [0] [(0, .own 1 n 3 (lnV n (srtF n f0)) 46)] (.tuple #[]) rfl (fun i hi => by simp only [List.mem_singleton] at hi; subst hi; exact ⟨_, List.mem_singleton.2 rfl⟩) (fun β w h1 h2 hst => (pdq129 n f0 bx lim hn hb (h1 0 (by simp) _ rfl) (fun w' hc => hh _ (hst w' ⟨hc.os, hc.tape, hc.output, hc.size, fun b hlt hne => hc.same b hlt fun e => hne ⟨0, by simp, ⟨_, rfl, rfl⟩, e.symm⟩⟩))).mono fun e w' ⟨g1, g2, g3⟩ => ⟨g1, ⟨g2.os, g2.tape, g2.output, g2.size, fun b hlt hne => g2.same b hlt fun e => hne ⟨0, by simp, e.symm⟩⟩, fun i b hi => by simp only [List.mem_singleton, Prod.mk.injEq] at hi; obtain ⟨rfl, rfl⟩ := hi; exact g3⟩) ?_)
 all_goals exact ⟨fun β => rfl, ⟨rfl, trivial⟩, fun w' h => h, rfl⟩
theorem sorted46 (n : Nat) (f0 : Nat → Ln) (hn : n ≤ 12) (hb : ∀ k, k < n → 0 ≤ (f0 k).g ∧ (f0 k).g ≤ 7) {β : Nat → Nat} {w : World} (hok : Blk.ok β w (β 0) (.own 1 n 3 (lnV n f0) 46)) :
 Calls Tryz.prog 46 (SV.cs β [.os 0 1 n, .v (.func (.func 47) #[] #[])]).toArray w fun e w' => e = .returned (.tuple #[]) ∧ Chg (fun b => b = β 0) w w' ∧ Blk.ok β w' (β 0) (.own 1 n 3 (lnV n (srtF n f0)) 46) := by
 have h46 : ∀ (β : Nat → Nat) (w w' : World), Blk.ok β w (β 2) (.cells [.v (.func (.func 47) #[] #[])] 100) → β 2 ≠ β 0 → Chg (fun b => b = β 0) w w' → w'.heap[β 2]? = some (.cells #[.func (.func 47) #[] #[]] 100 (0, 0)) := fun β w w' h hne hc => by
  have h : w.heap[β 2]? = some (.cells #[.func (.func 47) #[] #[]] 100 (0, 0)) := h
  rw [hc.same (β 2) (Array.getElem?_eq_some_iff.1 h).1 hne]; exact h
 refine (calls_W env mixed Tryz.func46 has46 Tryz.ntmps46 [.os 0 1 n, .v (.func (.func 47) #[] #[])] [(0, .own 1 n 3 (lnV n f0) 46)] [(0, .own 1 n 3 (lnV n (srtF n f0)) 46)] 2 (.tuple #[]) (by simp) rfl rfl rfl (fun i b hi => by obtain ⟨_, rfl⟩ := row0 hi; rfl) (fun h => ?_) (β := β) (w := w) (fun i b hi => by obtain ⟨rfl, rfl⟩ := row0 hi; exact hok) (fun i j bi bj h1 h2 hne => absurd ((row0 h1).1.trans (row0 h2).1.symm) hne)).mono fun e w' ⟨h1, h2, h3⟩ => ⟨h1, row_chg h2, h3 0 _ lk_cons_eq⟩
 repeat'
  conv => whnf
  first
   |refine zD ?_
   |((with_reducible show CallEv _ _ 90 ..); refine callWS [0, 2] [(0, .own 1 n 3 (lnV n (srtF n f0)) 46), (2, .cells [.v (.func (.func 47) #[] #[])] 100)] (.tuple #[]) rfl (fun i hi => by simp only [List.mem_cons, List.not_mem_nil, or_false] at hi; rcases hi with rfl | rfl <;> exact ⟨_, by simp; rfl⟩) (fun β w h1 h2 hst => (sort90 n f0 (β 2) hn hb (h1 0 (by simp) _ rfl) (fun w' hc => h46 β w w' (h1 2 (by simp) _ rfl) (h2 2 (by simp) 0 (by simp) _ _ rfl rfl rfl rfl (by decide)) hc)).mono fun e w' ⟨g1, g2, g3⟩ => ⟨g1, ⟨g2.os, g2.tape, g2.output, g2.size, fun b hlt hne => g2.same b hlt fun e => hne ⟨0, by simp, e.symm⟩⟩, fun i b hi => by simp only [List.mem_cons, List.not_mem_nil, or_false, Prod.mk.injEq] at hi; rcases hi with ⟨rfl, rfl⟩ | ⟨rfl, rfl⟩; exact g3; exact h46 β w w' (h1 2 (by simp) _ rfl) (h2 2 (by simp) 0 (by simp) _ _ rfl rfl rfl rfl (by decide)) g2⟩) ?_)
 all_goals exact ⟨fun β => rfl, ⟨rfl, trivial⟩, fun w' h => h, rfl⟩
theorem nil152 (bx : Nat) (w : World) : Calls Tryz.prog 152 #[.slice none 0 0, iv 0, iv 0, .func (.func 91) #[] #[pt bx]] w fun e w' => e = .returned (.tuple #[]) ∧ Below w.heap.size w w' := by
 refine calls_val env mixed Tryz.func152 has152 Tryz.ntmps152 [.slice none 0 0, iv 0, iv 0, .func (.func 91) #[] #[pt bx]] (by simp) ?_
 repeat'
  conv => whnf
  first
   |refine zF ?_
 refine loopN 0 (fun _ : Unit => [(2, .v (iv 0)), (8, .v (iv 1))]) (fun _ => []) (fun _ => True) (fun _ => 0) () trivial ⟨rfl, rfl, trivial⟩ trivial (fun _ _ => ⟨rfl, rfl⟩) ?_
 intro _ _
 repeat'
  conv => whnf
  first
   |refine splF ?_
 all_goals exact ⟨fun β => rfl, fun w' h => h⟩
theorem nil129 (bx : Nat) (lim : Int) (w : World) : Calls Tryz.prog 129 #[.slice none 0 0, iv 0, iv 0, iv lim, .func (.func 91) #[] #[pt bx]] w fun e w' => e = .returned (.tuple #[]) ∧ Below w.heap.size w w' := by
 refine calls_val env mixed Tryz.func129 has129 Tryz.ntmps129 [.slice none 0 0, iv 0, iv 0, iv lim, .func (.func 91) #[] #[pt bx]] (by simp) ?_
 skip
 refine loopN 0 (fun _ : Unit => [(0, .v (.slice none 0 0)), (1, .v (iv 0)), (2, .v (iv 0)), (3, .v (iv lim)), (4, .v (.func (.func 91) #[] #[pt bx]))]) (fun _ => []) (fun _ => True) (fun _ => 0) () trivial ⟨rfl, rfl, rfl, rfl, rfl, trivial⟩ trivial (fun _ _ => ⟨rfl, rfl⟩) ?_
 intro _ _
 repeat'
  conv => whnf
  first
   |refine zD ?_|refine zF ?_|refine splT ?_
   |((with_reducible show CallEv _ _ 152 ..); refine callE (fun β w' hbw => nil152 bx w') ?_)
 all_goals exact ⟨fun β => rfl, fun w' h => h⟩
theorem nil90 (bx : Nat) (w : World) : Calls Tryz.prog 90 #[.slice none 0 0, .func (.func 91) #[] #[pt bx]] w fun e w' => e = .returned (.tuple #[]) ∧ Below w.heap.size w w' := by
 have hlim := fun (w' : World) => len130 w' 0 (by omega)
 generalize blF 0 = lim at hlim
 refine calls_val env mixed Tryz.func90 has90 Tryz.ntmps90 [.slice none 0 0, .func (.func 91) #[] #[pt bx]] (by simp) ?_
 repeat'
  conv => whnf
  first
   |refine zD ?_
   |refine Exists.intro (α := Value) (.int .u64 0) ⟨cvU 0 (by omega), ?_⟩
   |((with_reducible show CallEv _ _ 130 ..); refine callE (fun β w' hbw => hlim w') ?_)
   |((with_reducible show CallEv _ _ 129 ..); refine callE (fun β w' hbw => nil129 bx lim w') ?_)
 all_goals exact ⟨fun β => rfl, fun w' h => h⟩
theorem sorted_nil (w : World) : Calls Tryz.prog 46 #[.slice none 0 0, .func (.func 47) #[] #[]] w fun e w' => e = .returned (.tuple #[]) ∧ Below w.heap.size w w' := by
 refine calls_val env mixed Tryz.func46 has46 Tryz.ntmps46 [.slice none 0 0, .func (.func 47) #[] #[]] (by simp) ?_
 repeat'
  conv => whnf
  first
   |refine zD ?_
   |((with_reducible show CallEv _ _ 90 ..); refine callM [0] (fun β w' hbk hbw => nil90 (β 0) w') ?_)
 all_goals exact ⟨fun β => rfl, fun w' h => h⟩
theorem sorted_ok (n b c : Nat) (f : Nat → Ln) (hn : n ≤ 12) (hb : ∀ k, k < n → 0 ≤ (f k).g ∧ (f k).g ≤ 7) (w : World) (ho : w.ownsRow 0 46 3 (.slice (some ⟨b, 0, none⟩) n c) n (lnV n f)) :
 Calls Tryz.prog 46 #[.slice (some ⟨b, 0, none⟩) n c, .func (.func 47) #[] #[]] w fun e w' => e = .returned (.tuple #[]) ∧ Chg (fun x => x = b) w w' ∧ w'.ownsRow 0 46 3 (.slice (some ⟨b, 0, none⟩) n c) n (lnV n (srtF n f)) := by
 have h := sorted46 n f hn hb (β := fun i => if i = 0 then b else c) (w := w) (by simp only [Blk.ok]; exact ho)
 exact h.mono fun e w' ⟨h1, h2, h3⟩ => ⟨h1, h2, by simp only [Blk.ok] at h3; exact h3⟩
end Go.Proofs.YtkbfcofifhngfaaGreat
namespace Go.Proofs.YtkbfcofifhngfaaGreat.Tx
open Go Go.RowKit
theorem VC.dis {P : Program} {α : Type} {σ : Sg} {I : α → Sg} {pre : α → Prop} {c : Code} {Φ : Exit → Sg → Prop} (h : Dis σ I pre) (hok : ∀ x, pre x → (I x).Ok) (hr : ∀ x, pre x → VC P c (I x) Φ) : VC P c σ Φ := by
 intro F k X a w hF hlp _ hs
 unfold Dis at h
 obtain ⟨x, hx, hs'⟩ := h X a w hs
 exact hr x hx F k X a w hF hlp (hok x hx) hs'
def extT (nb b c : Nat) (β : Nat → Nat) (i : Nat) : Nat := if i = nb then b else if i = nb + 1 then c else β i
theorem extT_lt {nb b c : Nat} {β : Nat → Nat} {i : Nat} (h : i < nb) : extT nb b c β i = β i := by unfold extT; rw [if_neg (by omega), if_neg (by omega)]
theorem Ent.take {nt nb : Nat} {t t' : List (Nat × SV)} {m m0 : List (Nat × Blk)} {h : World → Prop} {z : Gz} (b c n sz : Nat) (ty : TypeId) (xs : List Value) (k0 j zz : Nat) (e : TypeId) (X X' : List SV) (h' : World → Prop) (Q Qo : Nat → Prop) (wb : World)
 (hz : z.g = []) (hown : ∀ w, h w → w.ownsRow 0 ty sz (.slice (some ⟨b, 0, none⟩) n c) n xs)
 (hQb : ¬ Q b ∧ ¬ Qo b) (hQ : ∀ x, Q x → ∀ w, h w → ∃ cs ty fr, w.heap[x]? = some (.cells cs ty fr)) (hQo : ∀ x, Qo x → ∀ w, h w → x < w.heap.size ∧ w.heap[x]? = wb.heap[x]?)
 (hdep : ∀ w w2, h w → Chg (fun x => ¬ (Qo x ∨ Q x)) w w2 → h' w2)
 (ht : TSub t t') (htb : tB nt nb t' = true) (hm0 : MSub m m0) (hmb : mB nb m0 = true) (hk0 : lk m k0 = some (.mix j zz 1 [] X e)) (hkn : k0 < nb ∧ j < nb) (hk1 : ∀ bk, lk m0 k0 ≠ some bk) (hX : ∀ β, SV.cs (extT nb b c β) X' = SV.cs β X) :
 Ent ⟨nt, t, m, nb, h, z⟩ ⟨nt, t', (nb, .own (nb + 1) n sz xs ty) :: (k0, .mix j zz 1 [] X' e) :: m0, nb + 2, h', z⟩ := by
 have htk := okB (nt := nt) (t := t') (m := m0) (nb := nb) (h := fun _ => True) (z := ⟨[], [], 0⟩) htb hmb rfl
 rintro Y a w ⟨β, D, hs⟩
 have hw := hs.h w (Chg.refl _ _)
 have hDb : D b := hs.dof fun w hw => by
  obtain ⟨c, hc⟩ : ∃ cur, w.heap[b]? = some (.cells cur ty (0, 0)) := by
   rcases (hown w hw).2 with ⟨h1, _⟩ | ⟨g, cap, cur, h1, _, h2, _⟩
   · cases h1
   · simp only [Value.slice.injEq, Option.some.injEq, Addr.mk.injEq] at h1
     obtain ⟨⟨rfl, _⟩, _⟩ := h1
     exact ⟨cur, h2⟩
  exact ⟨_, _, _, hc⟩
 have hQD : ∀ x, Qo x ∨ Q x → D x ∧ x ≠ b := fun x hx => by
  rcases hx with hx | hx
  · exact ⟨hs.mem.holds (w0 := wb) (fun w' hw' => (hQo x hx w' hw').2) (hQo x hx w hw).1, fun e => hQb.2 (e ▸ hx)⟩
  · exact ⟨hs.dof fun w' hw' => hQ x hx w' hw', fun e => hQb.1 (e ▸ hx)⟩
 have hnb1 : extT nb b c β nb = b := if_pos rfl
 have hnb2 : extT nb b c β (nb + 1) = c := by unfold extT; rw [if_neg (by omega), if_pos rfl]
 have hml : ∀ i bk, lk ((nb, Blk.own (nb + 1) n sz xs ty) :: (k0, .mix j zz 1 [] X' e) :: m0) i = some bk → (i = nb ∧ bk = .own (nb + 1) n sz xs ty) ∨ (i = k0 ∧ bk = .mix j zz 1 [] X' e) ∨ (i < nb ∧ i ≠ k0 ∧ lk m i = some bk ∧ bk.lt nb = true) := fun i bk hi => by
  by_cases h1 : i = nb
  · subst h1; rw [lk_cons_eq] at hi; exact .inl ⟨rfl, (Option.some.inj hi).symm⟩
  · rw [lk_cons_ne h1] at hi
    by_cases h2 : i = k0
    · subst h2; rw [lk_cons_eq] at hi; exact .inr (.inl ⟨rfl, (Option.some.inj hi).symm⟩)
    · rw [lk_cons_ne h2] at hi
      have q := htk.wf.m i bk hi
      exact .inr (.inr ⟨q.1, h2, hm0.get i bk hi, q.2⟩)
 refine ⟨extT nb b c β, fun x => D x ∧ x ≠ b, ?_, hs.size, fun k s hk => ?_, fun i bk hi => ?_, fun i i' bi bi' hi hi' l1 l2 hne => ?_, fun i bk hi hl => ?_, fun x hx => hs.dlt x hx.1, fun w2 hc => ?_, ?_⟩
 · obtain ⟨l, l1, l2, l3⟩ := hs.defers
   exact ⟨l, l1, l2, fun d hd => ⟨(l3 d hd).1, fun h => (l3 d hd).2.1 h.1, (l3 d hd).2.2⟩⟩
 · rw [hs.t k s (ht.get k s hk)]
   exact (SV.c_congr (fr := List.range' nb 2) (fun i hi => by
    have : ¬ (i = nb ∨ i = nb + 1) := fun h => hi (by rw [List.mem_range'_1]; omega)
    unfold extT; rw [if_neg (fun h => this (.inl h)), if_neg (fun h => this (.inr h))]) s (SV.lt_av s (htk.wf.t k s hk))).symm
 · rcases hml i bk hi with ⟨rfl, rfl⟩ | ⟨rfl, rfl⟩ | ⟨q1, q2, q3, q4⟩
   · simp only [Blk.ok, hnb1, hnb2]
     exact hown w hw
   · have := hs.m i _ hk0
     rw [extT_lt hkn.1]
     simp only [Blk.ok] at this ⊢
     rw [extT_lt hkn.2, hX]
     exact this
   · rw [extT_lt q1]
     exact Blk.ok_nm (fun j hj => extT_lt hj) bk q4 (hs.m i bk q3)
 · have key : ∀ i bk, lk ((nb, Blk.own (nb + 1) n sz xs ty) :: (k0, .mix j zz 1 [] X' e) :: m0) i = some bk → bk.live = true → i ≠ nb → extT nb b c β i = β i ∧ ∃ b0, lk m i = some b0 ∧ b0.live = true := fun i bk hi hl hne => by
    rcases hml i bk hi with ⟨rfl, rfl⟩ | ⟨rfl, rfl⟩ | ⟨q1, q2, q3, q4⟩
    · exact absurd rfl hne
    · exact ⟨extT_lt hkn.1, _, hk0, rfl⟩
    · exact ⟨extT_lt q1, _, q3, hl⟩
   by_cases h1 : i = nb
   · subst h1
     obtain ⟨e1, b0, e2, e3⟩ := key i' bi' hi' l2 (fun e => hne e.symm)
     rw [hnb1, e1]
     exact fun e => hs.out i' b0 e2 e3 (e ▸ hDb)
   · obtain ⟨e1, b0, e2, e3⟩ := key i bi hi l1 h1
     by_cases h2 : i' = nb
     · subst h2
       rw [hnb1, e1]
       exact fun e => hs.out i b0 e2 e3 (e ▸ hDb)
     · obtain ⟨e1', b0', e2', e3'⟩ := key i' bi' hi' l2 h2
       rw [e1, e1']
       exact hs.inj i i' b0 b0' e2 e2' e3 e3' hne
 · rcases hml i bk hi with ⟨rfl, rfl⟩ | ⟨rfl, rfl⟩ | ⟨q1, q2, q3, q4⟩
   · rw [hnb1]; exact fun h => h.2 rfl
   · rw [extT_lt hkn.1]; exact fun h => hs.out i _ hk0 rfl h.1
   · rw [extT_lt q1]; exact fun h => hs.out i bk q3 hl h.1
 · exact hdep w w2 hw ⟨hc.os, hc.tape, hc.output, hc.size, fun x hx hn => hc.same x hx fun hD => hD (hQD x (Classical.byContradiction hn))⟩
 · exact ⟨fun k s hk => (by have hk : lk z.g k = some s := hk; rw [hz] at hk; simp [lk] at hk), fun p hp => ⟨(hs.amb.la p hp).1, fun h => (hs.amb.la p hp).2 h.1⟩, hs.amb.lq, hs.amb.dep, hs.amb.nd, fun d hd => ⟨(hs.amb.pr d hd).1, fun h => (hs.amb.pr d hd).2 h.1⟩⟩
end Go.Proofs.YtkbfcofifhngfaaGreat.Tx
namespace Go.Proofs.YtkbfcofifhngfaaGreat
open Go Tx Go.RowKit
structure OR where
 o : Option (Nat × Nat)
 L : List Ln
def OR.v (r : OR) : Value := match r.o with
 | none => .slice none 0 0
 | some p => .slice (some ⟨p.1, 0, none⟩) r.L.length p.2
def outV (z : Nat) (F : Nat → OR) : List Value := (List.range z).map fun s => (F s).v
theorem outV_len (z : Nat) (F : Nat → OR) : (outV z F).length = z := by simp [outV]
theorem outV_at {z : Nat} (F : Nat → OR) {s : Nat} (h : s < z) : (outV z F)[s]? = some (F s).v := by simp [outV, h]
def OutOK (m z : Nat) (F : Nat → OR) (w : World) : Prop := ∀ s, s < z → ((F s).o = none → (F s).L = []) ∧ ∀ p, (F s).o = some p → m ≤ p.1 ∧ w.ownsRow 0 46 3 (.slice (some ⟨p.1, 0, none⟩) (F s).L.length p.2) (F s).L.length (lnV (F s).L.length (lnAt (F s).L))
def OutD (z : Nat) (F : Nat → OR) : Prop := ∀ s s', s < z → s' < z → s ≠ s' → ∀ p p', (F s).o = some p → (F s').o = some p' → p.1 ≠ p'.1
def OutQ (z : Nat) (F : Nat → OR) (x : Nat) : Prop := ∃ s, s < z ∧ ∃ p, (F s).o = some p ∧ p.1 = x
theorem OutOK.cells {m z : Nat} {F : Nat → OR} {w : World} (h : OutOK m z F w) {x : Nat} (hx : OutQ z F x) : ∃ cs ty fr, w.heap[x]? = some (.cells cs ty fr) := by
 obtain ⟨s, hs, p, hp, rfl⟩ := hx
 exact own_cells ((h s hs).2 p hp).2
theorem OutOK.keep {m z : Nat} {F : Nat → OR} {w w2 : World} (h : OutOK m z F w) (hk : ∀ x, OutQ z F x → w2.heap[x]? = w.heap[x]?) : OutOK m z F w2 := fun s hs =>
 ⟨(h s hs).1, fun p hp => ⟨((h s hs).2 p hp).1, own_keep ((h s hs).2 p hp).2 (hk _ ⟨s, hs, p, hp, rfl⟩)⟩⟩
def srtL (L : List Ln) : List Ln := (List.range L.length).map (srtF L.length (lnAt L))
theorem srtL_len (L : List Ln) : (srtL L).length = L.length := by simp [srtL]
theorem srtL_at {L : List Ln} {k : Nat} (h : k < L.length) : lnAt (srtL L) k = srtF L.length (lnAt L) k := by
 unfold lnAt srtL
 rw [List.getD_eq_getElem?_getD, List.getElem?_map, List.getElem?_range h]; rfl
theorem lnV_srt (L : List Ln) : lnV (srtL L).length (lnAt (srtL L)) = lnV L.length (srtF L.length (lnAt L)) := by
 rw [srtL_len]
 unfold lnV
 exact fm_congr fun j hj => by rw [srtL_at (List.mem_range.1 hj)]
theorem lnV_list (L : List Ln) : lnV L.length (lnAt L) = L.flatMap Ln.cs := by
 conv => rhs; rw [← lnAt_all L]
 unfold lnV
 rw [List.flatMap_map]
def srtO (F : Nat → OR) (i : Nat) : Nat → OR := fun s => if s < i then ⟨(F s).o, srtL (F s).L⟩ else F s
theorem srtO_o (F : Nat → OR) (i s : Nat) : (srtO F i s).o = (F s).o := by
 unfold srtO
 split <;> rfl
theorem srtO_ne (F : Nat → OR) {i s : Nat} (h : s ≠ i) : srtO F (i + 1) s = srtO F i s := by
 unfold srtO
 by_cases h1 : s < i
 · rw [if_pos h1, if_pos (by omega)]
 · rw [if_neg h1, if_neg (by omega)]
def risB (X : List (List Ln)) : Prop := ∀ l ∈ X, ∀ p, p + 1 < l.length → (lnAt l p).g < (lnAt l (p + 1)).g
def errT (D : SD) : Int := if scOk D = true then (if (rWhy D).isSome = true then 9 else 0) else 1
structure TabF (D : SD) where
 o : Option Addr
 c : Nat
 R : List Lr
 h : errT D = 0 → rfitB D (R.map Lr.L) = true ∧ risB (R.map Lr.L)
 e : errT D ≠ 0 → R = []
abbrev TabF.v {D : SD} (y : TabF D) : Value := .tuple #[.slice y.o y.R.length y.c, iv (errT D)]
def OR.lr (r : OR) : Lr := ⟨r.o.map fun p => ⟨p.1, 0, none⟩, (r.o.map fun p => p.2).getD 0, srtL r.L⟩
theorem flat_congr {α β : Type} {f g : α → List β} : ∀ {l : List α}, (∀ x ∈ l, f x = g x) → l.flatMap f = l.flatMap g
 | [], _ => rfl
 | a :: l, h => by rw [List.flatMap_cons, List.flatMap_cons, h a List.mem_cons_self, flat_congr fun x hx => h x (List.mem_cons_of_mem _ hx)]
theorem OutOK.sort {z i : Nat} {F : Nat → OR} {w w1 w2 : World} (hd : OutD z F) (h : OutOK w.heap.size z (srtO F i) w1) (hi : i < z) {p : Nat × Nat} (hp : (F i).o = some p) (hc : Chg (fun x => x = p.1) w1 w2)
 (ho : w2.ownsRow 0 46 3 (.slice (some ⟨p.1, 0, none⟩) (F i).L.length p.2) (F i).L.length (lnV (F i).L.length (srtF (F i).L.length (lnAt (F i).L)))) : OutOK w.heap.size z (srtO F (i + 1)) w2 := fun s hs => by
 by_cases e : s = i
 · subst e
   have e1 : srtO F (s + 1) s = ⟨(F s).o, srtL (F s).L⟩ := if_pos (by omega)
   rw [e1]
   refine ⟨fun hn => ?_, fun q hq => ?_⟩
   · have hn : (F s).o = none := hn
     rw [hp] at hn; cases hn
   · have hq : (F s).o = some q := hq
     rw [hp, Option.some.injEq] at hq
     subst hq
     have hge : w.heap.size ≤ p.1 := ((h s hs).2 p (by rw [srtO_o]; exact hp)).1
     refine ⟨hge, ?_⟩
     dsimp only
     rw [lnV_srt, srtL_len]
     exact ho
 · rw [srtO_ne F e]
   refine ⟨(h s hs).1, fun q hq => ⟨((h s hs).2 q hq).1, ?_⟩⟩
   have hq' : (F s).o = some q := by rw [srtO_o] at hq; exact hq
   have hne : q.1 ≠ p.1 := hd s i hs hi e q p hq' hp
   have h1 := ((h s hs).2 q hq).2
   exact own_keep h1 (hc.same _ (by obtain ⟨cs, ty, fr, hx⟩ := own_cells h1; exact (Array.getElem?_eq_some_iff.1 hx).1) hne)
theorem T10 (D : SD) (w : World) (z : Nat) (F : Nat → OR) (hz : z ≤ 40) (hF : ∀ s, s < z → (F s).L.length ≤ 12 ∧ ∀ x ∈ (F s).L, 0 ≤ x.g ∧ x.g ≤ 7) (hd : OutD z F) (he : errT D = 0)
 (hX : rfitB D ((List.range z).map fun s => srtL (F s).L) = true ∧ risB ((List.range z).map fun s => srtL (F s).L)) :
 VC Tryz.prog (rest 10 body13) ⟨139, [(12, .os 4 5 z)], [(4, .mix 5 z 1 [] ((outV z F).map .v) 44)], 6, fun w' => Below w.heap.size w w' ∧ OutOK w.heap.size z (F) w', z0⟩ (endΦ env Tryz.f13 fun s σ => (∀ w', σ.h w' → Below w.heap.size w w') ∧ ∀ β w', σ.h w' →
  (∀ i b, lk σ.m i = some b → b.live = true → St w.heap.size (fun w2 => b.ok β w2 (β i)) w') → ∃ x : TabF D, s.c β = x.v ∧ St w.heap.size (TbL x.o x.c x.R) w') := by
 refine VC.of env mixed ?_
 skip
 refine loopH 6 (fun i : Nat => [(12, .os 4 5 z), (129, .os 4 5 z), (130, .v (iv z)), (131, .v (iv i))]) (fun _ => [(4, .mix 5 z 1 [] ((outV z F).map .v) 44)]) (fun i w' => Below w.heap.size w w' ∧ OutOK w.heap.size z (srtO F i) w') (fun i => i ≤ z) (fun i => z - i) 0 (Nat.zero_le _) ⟨rfl, rfl, rfl, rfl, trivial⟩ ⟨rfl, trivial⟩ (fun _ h => h) (fun i _ => ⟨rfl, by simp only [mB, Blk.lt, lts_v]; rfl⟩) ?_
 intro i hi
 have hVl := outV_len z F
 rcases Nat.lt_or_ge i z with hil | hil
 · obtain ⟨hl12, hbd⟩ := hF i hil
   have hat : ((outV z F).map SV.v)[(i : Int).toNat * 1]? = some (.v (F i).v) := by
    rw [List.getElem?_map, Int.toNat_natCast, Nat.mul_one, outV_at F hil]; rfl
   cases ho : (F i).o with
   | none =>
    have hv : (F i).v = .slice none 0 0 := by unfold OR.v; rw [ho]
    rw [hv] at hat
    have hnil : ∀ w', (Below w.heap.size w w' ∧ OutOK w.heap.size z (srtO F i) w') → Below w.heap.size w w' ∧ OutOK w.heap.size z (srtO F (i + 1)) w' := fun w' h => ⟨h.1, fun s hs => by
     by_cases e : s = i
     · subst e
       have e0 := h.2 s hs
       rw [show srtO F s s = F s from if_neg (by omega)] at e0
       have hL := e0.1 ho
       have e1 : srtO F (s + 1) s = ⟨(F s).o, srtL (F s).L⟩ := if_pos (by omega)
       rw [e1]
       exact ⟨fun _ => by show srtL (F s).L = []; rw [hL]; rfl, fun p hp => by have hp : (F s).o = some p := hp; rw [ho] at hp; cases hp⟩
     · rw [srtO_ne F e]; exact h.2 s hs⟩
    repeat'
     conv => whnf
     first
      |refine zD ?_|refine zF ?_|refine zG ?_
      |(refine splD ?_ ?_ <;> intro hc <;> first|(exfalso; omega)|skip)
      |refine ldM env (.v (.slice none 0 0)) rfl rfl rfl rfl rfl hat rfl ?_
      |((with_reducible show CallEv _ _ 46 ..); refine callE (fun β w' hbw => sorted_nil w') ?_)
    all_goals exact ⟨i + 1, by omega, by omega, Ent.weak rfl ⟨rfl, rfl, rfl, rfl, trivial⟩ ⟨rfl, trivial⟩ fun w' h => hnil w' h⟩
   | some p =>
    have hv : (F i).v = .slice (some ⟨p.1, 0, none⟩) (F i).L.length p.2 := by unfold OR.v; rw [ho]
    rw [hv] at hat
    have hb : ∀ k, k < (F i).L.length → 0 ≤ (lnAt (F i).L k).g ∧ (lnAt (F i).L k).g ≤ 7 := fun k hk => hbd _ (List.mem_of_getElem? (lnAt_get hk))
    have hrow : ∀ w', (Below w.heap.size w w' ∧ OutOK w.heap.size z (srtO F i) w') → w.heap.size ≤ p.1 ∧ w'.ownsRow 0 46 3 (.slice (some ⟨p.1, 0, none⟩) (F i).L.length p.2) (F i).L.length (lnV (F i).L.length (lnAt (F i).L)) := fun w' h => by
     have e0 := h.2 i hil
     rw [show srtO F i i = F i from if_neg (by omega)] at e0
     exact e0.2 p ho
    have hC : ∀ w', (Below w.heap.size w w' ∧ OutOK w.heap.size z (srtO F i) w') → Calls Tryz.prog 46 #[.slice (some ⟨p.1, 0, none⟩) (F i).L.length p.2, .func (.func 47) #[] #[]] w' fun e w2 => e = .returned (.tuple #[]) ∧ Chg (fun x => x = p.1) w' w2 ∧ (Below w.heap.size w w2 ∧ OutOK w.heap.size z (srtO F (i + 1)) w2) := fun w' h => (sorted_ok (F i).L.length p.1 p.2 (lnAt (F i).L) hl12 hb w' (hrow w' h).2).mono fun e w2 ⟨h1, h2, h3⟩ =>
     ⟨h1, h2, ⟨h2.os.trans h.1.os, h2.tape.trans h.1.tape, h2.output.trans h.1.output, Nat.le_trans h.1.size h2.size, fun b hb => (h2.same b (Nat.lt_of_lt_of_le hb h.1.size) (by have := (hrow w' h).1; omega)).trans (h.1.block b hb)⟩, h.2.sort hd hil ho h2 h3⟩
    have hQo : ∀ i x, OutQ z F x ↔ OutQ z (srtO F i) x := fun i x => ⟨fun ⟨s, hs, p, hp, e⟩ => ⟨s, hs, p, by rw [srtO_o]; exact hp, e⟩, fun ⟨s, hs, p, hp, e⟩ => ⟨s, hs, p, by rw [srtO_o] at hp; exact hp, e⟩⟩
    repeat'
     conv => whnf
     first
      |refine zD ?_|refine zF ?_|refine zG ?_
      |(refine splD ?_ ?_ <;> intro hc <;> first|(exfalso; omega)|skip)
      |refine ldM env (.v (.slice (some ⟨p.1, 0, none⟩) (F i).L.length p.2)) rfl rfl rfl rfl rfl hat rfl ?_
      |((with_reducible show CallEv _ _ 46 ..); refine callFW (.tuple #[]) w (fun x => x < w.heap.size) (OutQ z F) (fun x => x = p.1) (fun w' => Below w.heap.size w w' ∧ OutOK w.heap.size z (srtO F (i + 1)) w') (fun β w' hw' => hC w' hw') (fun w' hw' x hx => ⟨Nat.lt_of_lt_of_le hx hw'.1.size, hw'.1.block x hx⟩) (fun x hx => ⟨i, hil, p, ho, hx.symm⟩) (fun x hx w' hw' => hw'.2.cells ((hQo i x).1 hx)) (fun w' w2 hw' hc => ⟨below_chg hw'.1 hc, hw'.2.keep fun x hx => by obtain ⟨cs, ty, fr, h1⟩ := hw'.2.cells hx; exact hc.same x (Array.getElem?_eq_some_iff.1 h1).1 fun hn => hn (.inr ((hQo (i + 1) x).2 hx))⟩) ?_)
    all_goals exact ⟨i + 1, by omega, by omega, Ent.weak rfl ⟨rfl, rfl, rfl, rfl, trivial⟩ ⟨rfl, trivial⟩ fun w' h => h⟩
 · obtain rfl : i = z := by omega
   repeat'
    conv => whnf
    first
     |(refine splD ?_ ?_ <;> intro hc <;> first|(exfalso; omega)|skip)
   conv => whnf
   refine ⟨fun w' h => h.1, fun β w' hB hblk => ?_⟩
   have hRL : (((List.range i).map fun s => (F s).lr).map Lr.L) = (List.range i).map fun s => srtL (F s).L := by rw [List.map_map]; rfl
   have hlen : ((List.range i).map fun s => (F s).lr).length = i := by simp
   refine ⟨⟨some ⟨β 4, 0, none⟩, β 5, (List.range i).map fun s => (F s).lr, fun _ => by rw [hRL]; exact hX, fun h => absurd he h⟩, ?_, fun w2 k2 => ⟨?_, fun r hr => ?_⟩⟩
   · show Value.tuple #[.slice (some ⟨β 4, 0, none⟩) i (β 5), iv 0] = Value.tuple #[.slice (some ⟨β 4, 0, none⟩) _ (β 5), iv (errT D)]
     rw [hlen, he]
   · have h1 : w2.ownsRow 0 44 1 (.slice (some ⟨β 4, 0, none⟩) i (β 5)) i (outV i F) := by
      have := hblk 4 _ rfl rfl w2 k2
      simpa [Blk.ok, cs_v] using this
     show Rd 1 Lr.cs (.slice (some ⟨β 4, 0, none⟩) ((List.range i).map fun s => (F s).lr).length (β 5)) ((List.range i).map fun s => (F s).lr) w2
     rw [hlen]
     refine Rd.of_owns (sz := 1) (f := Lr.cs) (fun _ => rfl) ?_ hlen.symm h1
     unfold outV
     rw [List.flatMap_map, List.map_eq_flatMap]
     refine flat_congr fun s hs => ?_
     have h2 := (hB.2 s (List.mem_range.1 hs)).1
     rw [srtO_o] at h2
     unfold OR.v OR.lr
     cases ho : (F s).o with
     | none =>
      have h3 := h2 ho
      rw [show srtO F i s = ⟨(F s).o, srtL (F s).L⟩ from if_pos (List.mem_range.1 hs)] at h3
      have h3 : srtL (F s).L = [] := h3
      show [Value.slice none 0 0] = [Value.slice none (srtL (F s).L).length 0]
      rw [h3]; rfl
     | some p =>
      show [Value.slice (some ⟨p.1, 0, none⟩) (F s).L.length p.2] = [Value.slice (some ⟨p.1, 0, none⟩) (srtL (F s).L).length p.2]
      rw [srtL_len]
   · obtain ⟨s, hs, rfl⟩ := List.mem_map.1 hr
     have hs := List.mem_range.1 hs
     have h2 := hB.2 s hs
     rw [show srtO F i s = ⟨(F s).o, srtL (F s).L⟩ from if_pos hs] at h2
     dsimp only at h2
     unfold OR.lr
     cases ho : (F s).o with
     | none =>
      have h3 := h2.1 ho
      refine .inl ⟨?_, h3⟩
      show Value.slice none (srtL (F s).L).length 0 = Value.slice none 0 0
      rw [h3]; rfl
     | some p =>
      obtain ⟨h3, h4⟩ := h2.2 p ho
      obtain ⟨cs, ty, fr, h5⟩ := own_cells h4
      have h6 := own_keep h4 (k2.same p.1 h3 (Array.getElem?_eq_some_iff.1 h5).1)
      exact Rd.of_owns (sz := 3) (f := Ln.cs) (fun _ => rfl) (lnV_list _) rfl h6
theorem add_block (a : Addr) (j : Nat) : (a.add j).block = a.block := by unfold Addr.add; split <;> rfl
theorem cell_congr {w w2 : World} {a : Addr} (h : w2.heap[a.block]? = w.heap[a.block]?) : w2.cell? a = w.cell? a := by simp only [World.cell?, h]
theorem rd_keep {α : Type} {sz : Nat} {f : α → List Value} {ad : Addr} {n c : Nat} {bs : List α} {w w2 : World} (h : Rd sz f (.slice (some ad) n c) bs w) (hk : w2.heap[ad.block]? = w.heap[ad.block]?) : Rd sz f (.slice (some ad) n c) bs w2 := by
 rcases h with ⟨h1, h2⟩ | ⟨ad', c', h1, h2⟩
 · cases h1
 · simp only [Value.slice.injEq, Option.some.injEq] at h1
   obtain ⟨rfl, hn, rfl⟩ := h1
   refine .inr ⟨ad, c, by rw [hn], fun k x hx j v hv => ?_⟩
   rw [cell_congr (w := w)]
   · exact h2 k x hx j v hv
   · rw [add_block, add_block]; exact hk
theorem rd_cells {α : Type} {sz : Nat} {f : α → List Value} {ad : Addr} {n c : Nat} {x : α} {bs : List α} {w : World} (h : Rd sz f (.slice (some ad) n c) (x :: bs) w) (hf : f x ≠ []) : ∃ cs ty fr, w.heap[ad.block]? = some (.cells cs ty fr) := by
 obtain ⟨v, hv⟩ : ∃ v, (f x)[0]? = some v := ⟨_, List.getElem?_eq_getElem (List.length_pos_iff.2 hf)⟩
 rcases h with ⟨h1, h2⟩ | ⟨ad', c', h1, h2⟩
 · cases h1
 · simp only [Value.slice.injEq, Option.some.injEq] at h1
   obtain ⟨rfl, _⟩ := h1
   have := h2 0 x rfl 0 v hv
   have hb : ((ad.add (0 * sz)).add 0).block = ad.block := by rw [add_block, add_block]
   unfold World.cell? at this
   rw [hb] at this
   split at this
   · rename_i cs ty fr he; exact ⟨_, _, _, he⟩
   · cases this
def rowL (L : List Ln) (S : Nat → Int) (i s : Nat) : List Ln := ((List.range i).filter fun k => decide (S k = (s : Int))).map (lnAt L)
theorem rowL_yes {L : List Ln} {S : Nat → Int} {i s : Nat} (h : S i = s) : rowL L S (i + 1) s = rowL L S i s ++ [lnAt L i] := by
 unfold rowL; rw [List.range_succ, List.filter_append, List.filter_cons_of_pos (by simpa using h), List.map_append]; rfl
theorem rowL_no {L : List Ln} {S : Nat → Int} {i s : Nat} (h : S i ≠ s) : rowL L S (i + 1) s = rowL L S i s := by
 unfold rowL; rw [List.range_succ, List.filter_append, List.filter_cons_of_neg (by simpa using h)]; simp
theorem rowL_len (L : List Ln) (S : Nat → Int) (s i : Nat) : ((rowL L S i s).length : Int) = cntS S i s := by
 rw [cntS_list]; unfold rowL; rw [List.length_map]
def OutX (m z : Nat) (F : Nat → OR) (i : Nat) (w : World) : Prop := ∀ s, s < z → s ≠ i → ((F s).o = none → (F s).L = []) ∧ ∀ p, (F s).o = some p → m ≤ p.1 ∧ w.ownsRow 0 46 3 (.slice (some ⟨p.1, 0, none⟩) (F s).L.length p.2) (F s).L.length (lnV (F s).L.length (lnAt (F s).L))
def updO (F : Nat → OR) (s : Nat) (r : OR) : Nat → OR := fun k => if k = s then r else F k
theorem outV_upd {z s : Nat} (F : Nat → OR) (r : OR) (hs : s < z) : outV z (updO F s r) = (outV z F).set s r.v := by
 apply List.ext_getElem?
 intro k
 rw [List.getElem?_set]
 by_cases hk : k < z
 · rw [outV_at _ hk]
   unfold updO
   by_cases e : s = k
   · subst e; rw [if_pos rfl, if_pos rfl, if_pos (by rw [outV_len]; exact hs)]
   · rw [if_neg (fun h => e h.symm), if_neg e, outV_at _ hk]
 · rw [List.getElem?_eq_none (by rw [outV_len]; omega), List.getElem?_eq_none (by rw [outV_len]; omega)]
   split
   · rw [if_neg (by rw [outV_len]; omega)]
   · rfl
theorem mix_conv {z s i j n : Nat} {F : Nat → OR} {r : OR} {β : Nat → Nat} {w : World} {y : Nat} (hs : s < z) (hr : r.v = .slice (some ⟨β i, 0, none⟩) n (β j)) (h : (Blk.mix 5 z 1 [] (((outV z F).map SV.v).set ((s : Int).toNat * 1) (.os i j n)) 44).ok β w y) :
 (Blk.mix 5 z 1 [] ((outV z (updO F s r)).map SV.v) 44).ok (fun i => β (id i)) w y := by
 have e : (s : Int).toNat * 1 = s := by rw [Int.toNat_natCast]; exact Nat.mul_one _
 rw [e] at h
 simp only [Blk.ok, cs_v, cs_set] at h ⊢
 rw [outV_upd F r hs, hr]
 exact h
theorem outD_upd {z s : Nat} {F : Nat → OR} {p : Nat × Nat} {l : List Ln} (h : OutD z F) (hp : ∀ k, k < z → k ≠ s → ∀ q, (F k).o = some q → p.1 ≠ q.1) : OutD z (updO F s ⟨some p, l⟩) := by
 intro k k' hk hk' hne q q' hq hq'
 unfold updO at hq hq'
 by_cases e : k = s
 · rw [if_pos e] at hq
   cases hq
   rw [if_neg (fun e' => hne (e.trans e'.symm))] at hq'
   exact hp k' hk' (fun e' => hne (e.trans e'.symm)) q' hq'
 · rw [if_neg e] at hq
   by_cases e' : k' = s
   · rw [if_pos e'] at hq'
     cases hq'
     exact (hp k hk e q hq).symm
   · rw [if_neg e'] at hq'
     exact h k k' hk hk' hne q q' hq hq'
theorem rowL_mem {L : List Ln} {S : Nat → Int} {i s : Nat} (hn : L.length = i) {x : Ln} (h : x ∈ rowL L S i s) : x ∈ L := by
 unfold rowL at h
 obtain ⟨k, hk, rfl⟩ := List.mem_map.1 h
 have := List.mem_range.1 (List.mem_filter.1 hk).1
 exact List.mem_of_getElem? (lnAt_get (by omega))
theorem lts_mono1 {a b : Nat} {l : List SV} (h : SV.lts a l = true) (hab : a ≤ b := by decide) : SV.lts b l = true := SV.lts_mono hab l h
theorem c13_9 : rest 9 body13 = .seq (.seq (qL (qL (rest 9 body13))) (.block 10 (.loop (qI (qI (qR (qL (rest 9 body13)))))))) (rest 10 body13) := by kernel_rfl
def F00 : Nat → OR := fun _ => ⟨none, []⟩
theorem T9 (D : SD) (w : World) (z : Nat) (sl ro su : Int) (gs ts : Value) (ad : Addr) (n lc : Nat) (L : List Ln) (p : Pn) (hn : L.length = n) (hn1 : 1 ≤ n) (hn2 : n ≤ 10000) (hz : z ≤ 40) (hS : ∀ i, i < n → ∃ s : Nat, s < z ∧ p.S i = s) (hg : ∀ x ∈ L, 0 ≤ x.g ∧ x.g ≤ 7)
 (h12 : ∀ s, s < z → (rowL L p.S n s).length ≤ 12) (he : errT D = 0)
 (hX : rfitB D ((List.range z).map fun s => srtL (rowL L p.S n s)) = true ∧ risB ((List.range z).map fun s => srtL (rowL L p.S n s))) :
 VC Tryz.prog (rest 9 body13) ⟨139, [(6, .ptr 0 0), (12, .os 4 5 z)], [(0, .cells (.v (iv sl) :: .v (iv ro) :: .v (iv su) :: .v gs :: .v ts :: .v (.slice (some ad) n lc) :: .os 1 2 n :: (tbS 320 p.A ++ tbS 320 p.B)) 93), (1, .own 2 n 1 (tbV n p.S) 3), (4, .mix 5 z 1 [] ((outV z F00).map .v) 44)], 6, fun w' => Below w.heap.size w w' ∧ Rd 3 Ln.cs (.slice (some ad) n lc) L w' ∧ OutOK w.heap.size z (F00) w', z0⟩ (endΦ env Tryz.f13 fun s σ => (∀ w', σ.h w' → Below w.heap.size w w') ∧ ∀ β w', σ.h w' →
  (∀ i b, lk σ.m i = some b → b.live = true → St w.heap.size (fun w2 => b.ok β w2 (β i)) w') → ∃ x : TabF D, s.c β = x.v ∧ St w.heap.size (TbL x.o x.c x.R) w') := by
 have hmB : ∀ (k : Nat) (F : Nat → OR), 6 ≤ k → mB k [(0, .cells (.v (iv sl) :: .v (iv ro) :: .v (iv su) :: .v gs :: .v ts :: .v (.slice (some ad) n lc) :: .os 1 2 n :: (tbS 320 p.A ++ tbS 320 p.B)) 93), (1, .own 2 n 1 (tbV n p.S) 3), (4, .mix 5 z 1 [] ((outV z F).map .v) 44)] = true := fun k F hk => by
  have h1 := mB_up (mPl ⟨sl, ro, su, gs, ts, some ad, n, lc, L⟩ p) (show 3 ≤ k by omega)
  have h2 : mB k [(4, Blk.mix 5 z 1 [] ((outV z F).map .v) 44)] = true := by
   simp only [mB, Blk.lt, lts_v, SV.lts, Bool.and_true, Bool.and_eq_true, Nat.blt_eq]; omega
  exact mB_app h1 h2
 refine VC.eq c13_9 (VC.sq (VC.sq (VC.of env mixed ?_)))
 repeat'
  conv => whnf
  first
   |refine zB ?_
   |refine nlC rfl rfl ?_
 conv => whnf
 refine VC.block (VC.loop (loopD 6 (fun x : Nat × (Nat → OR) => [(6, .ptr 0 0), (12, .os 4 5 z), (105, .os 1 2 n), (106, .v (iv n)), (107, .v (iv x.1))]) (fun x => [(0, .cells (.v (iv sl) :: .v (iv ro) :: .v (iv su) :: .v gs :: .v ts :: .v (.slice (some ad) n lc) :: .os 1 2 n :: (tbS 320 p.A ++ tbS 320 p.B)) 93), (1, .own 2 n 1 (tbV n p.S) 3), (4, .mix 5 z 1 [] ((outV z x.2).map .v) 44)]) (fun x w' => Below w.heap.size w w' ∧ Rd 3 Ln.cs (.slice (some ad) n lc) L w' ∧ OutOK w.heap.size z (x.2) w') (fun x => x.1 ≤ n ∧ (∀ s, s < z → (x.2 s).L = rowL L p.S x.1 s) ∧ OutD z x.2 ∧ ∀ s, s < z → ∀ q, (x.2 s).o = some q → q.1 ≠ ad.block ∧ w.heap.size ≤ q.1 ∧ 1 ≤ (x.2 s).L.length) (fun x => n - x.1)
  (Dis.ent (x := (0, F00)) ⟨Nat.zero_le _, fun s _ => rfl, fun s s' _ _ _ q q' h => (by cases h), fun s _ q h => (by cases h)⟩ (Ent.weak rfl ⟨rfl, rfl, rfl, rfl, rfl, trivial⟩ ⟨rfl, rfl, rfl, trivial⟩ (fun w' h => h))) (fun x _ => ⟨rfl, hmB 6 x.2 (Nat.le_refl _)⟩) ?_))
 intro ⟨i, F⟩ ⟨hin, hFL, hFD, hFa⟩
 dsimp only at hin hFL hFD hFa ⊢
 have hVl := outV_len z F
 have hLc : ∀ w' : World, Rd 3 Ln.cs (.slice (some ad) n lc) L w' → ∃ cs ty fr, w'.heap[ad.block]? = some (.cells cs ty fr) := fun w' h => by
  cases L with
  | nil => simp at hn; omega
  | cons x L => exact rd_cells h (by simp)
 rcases Nat.lt_or_ge i n with hil | hil
 · obtain ⟨s, hs, hSi⟩ := hS i hil
   have e1 : ∀ w', Rd 3 Ln.cs (.slice (some ad) n lc) L w' → ∀ (q : Nat) (v : Value), (Ln.cs (lnAt L i))[q]? = some v → w'.cell? ((ad.add ((i : Int).toNat * 3)).add q) = some v := fun w' hw' => rd_ati hw' (lnAt_get (by omega))
   have hat : ((outV z F).map SV.v)[(s : Int).toNat * 1]? = some (.v (F s).v) := by
    rw [List.getElem?_map, Int.toNat_natCast, Nat.mul_one, outV_at F hs]; rfl
   have hnx : ∀ k, k < z → k ≠ s → rowL L p.S (i + 1) k = rowL L p.S i k := fun k hk hne => rowL_no (by rw [hSi]; omega)
   have hys := rowL_yes (L := L) hSi
   have hro : ∀ j v, [iv (s : Int)][j]? = some v → (tbV n p.S)[(i : Int).toNat * 1 + j]? = some v := by
    rw [← hSi]; exact tbV_one (by omega) p.S hil
   cases ho : (F s).o with
   | none =>
    have hv : (F s).v = .slice none 0 0 := by unfold OR.v; rw [ho]
    rw [hv] at hat
    refine VC.of env mixed ?_
    repeat'
     conv => whnf
     first
      |refine zA ?_|refine zB ?_|refine zF ?_|refine zG ?_|refine zI ?_
      |(refine splD ?_ ?_ <;> intro hc <;> first|(exfalso; omega)|skip)
      |refine nlC rfl rfl ?_
      |refine eL [iv (s : Int)] ⟨⟨rfl, hro⟩, ?_⟩
      |refine ldM env (.v (.slice none 0 0)) rfl rfl rfl rfl rfl hat rfl ?_
      |refine eL (Ln.cs (lnAt L i)) ⟨⟨rfl, fun w' hw' => e1 w' hw'.2.1⟩, ?_⟩
      |refine Tx.stM env (.os 7 8 1) rfl rfl rfl rfl rfl rfl rfl (by rw [List.length_map, hVl, Int.toNat_natCast]; show s * 1 < _; omega) rfl rfl (lts_v _ _) rfl ?_
    refine Dis.mk5 (w0 := w) id [7] trivial (fun k hk => by rw [List.mem_singleton] at hk; subst hk; exact ⟨_, rfl, rfl⟩) (fun w' h => h.1) (fun β w1 hok hw1 hge hout hne => ⟨(i + 1, updO F s ⟨some (β 7, β 8), [lnAt L i]⟩), ⟨⟨by dsimp only; omega, fun k hk => ?_, ?_, ?_⟩, by dsimp only; omega⟩, ⟨⟨_, rfl, rfl⟩, ⟨_, rfl, rfl⟩, ⟨_, rfl, rfl⟩, ⟨_, rfl, rfl⟩, ⟨_, rfl, rfl⟩, trivial⟩, ⟨⟨rfl, _, rfl, fun _ => rfl, fun w2 y hy => hy⟩, ⟨rfl, _, rfl, fun _ => rfl, fun w2 y hy => hy⟩, ⟨rfl, _, rfl, fun _ => rfl, fun w2 y hy => mix_conv (F := F) hs (r := ⟨some (β 7, β 8), [lnAt L i]⟩) rfl hy⟩, trivial⟩, rfl, fun w2 hw2 hLo => ⟨hw2.1, hw2.2.1, fun k hk => ?_⟩⟩)
    · dsimp only
      unfold updO
      by_cases e : k = s
      · subst e
        rw [if_pos rfl, hys, ← hFL k hk, (hw1.2.2 k hk).1 ho]; rfl
      · rw [if_neg e, hnx k hk e]; exact hFL k hk
    · exact outD_upd hFD fun k hk hne q' hq' => hout 7 _ q'.1 rfl rfl (fun w3 hw3 => own_cells ((hw3.2.2 k hk).2 q' hq').2)
    · intro k hk q' hq'
      dsimp only at hq'
      unfold updO at hq'
      by_cases e : k = s
      · rw [if_pos e] at hq'
        cases hq'
        exact ⟨hout 7 _ ad.block rfl rfl (fun w3 hw3 => hLc w3 hw3.2.1), hge 7 _ rfl rfl, by dsimp only; unfold updO; rw [if_pos e]; simp⟩
      · rw [if_neg e] at hq'
        dsimp only
        unfold updO
        rw [if_neg e]
        exact hFa k hk q' hq'
    · dsimp only
      unfold updO
      by_cases e : k = s
      · rw [if_pos e]
        refine ⟨fun h => (by cases h), fun q' hq' => ?_⟩
        cases hq'
        refine ⟨hge 7 _ rfl rfl, ?_⟩
        have h1 := hLo 7 (by simp) _ rfl
        rw [lnV_list]
        exact h1
      · rw [if_neg e]; exact hw2.2.2 k hk
   | some q =>
    have hv : (F s).v = .slice (some ⟨q.1, 0, none⟩) (F s).L.length q.2 := by unfold OR.v; rw [ho]
    obtain ⟨ha1, ha2, ha3⟩ := hFa s hs q ho
    have hm : (F s).L.length ≤ 10000 := by
     have h1 := rowL_len L p.S s i
     have h2 := cntS_bd p.S i s
     rw [hFL s hs]; omega
    have hXl : (((outV z F).map SV.v).set ((s : Int).toNat * 1) (.os 6 7 (F s).L.length))[(s : Int).toNat * 1]? = some (.os 6 7 (F s).L.length) := by
     rw [List.getElem?_set, if_pos rfl, if_pos (by rw [List.length_map, hVl]; omega)]
    have hXlen : (((outV z F).map SV.v).set ((s : Int).toNat * 1) (.os 6 7 (F s).L.length)).length = z := by rw [List.length_set, List.length_map, hVl]
    have hXlt : SV.lts 8 (((outV z F).map SV.v).set ((s : Int).toNat * 1) (.os 6 7 (F s).L.length)) = true := lts_set rfl (lts_v _ _)
    refine VC.ent (σ' := ⟨139, [(6, .ptr 0 0), (12, .os 4 5 z), (105, .os 1 2 n), (106, .v (iv n)), (107, .v (iv i))], [(6, .own 7 (F s).L.length 3 (lnV (F s).L.length (lnAt (F s).L)) 46), (4, .mix 5 z 1 [] (((outV z F).map SV.v).set ((s : Int).toNat * 1) (.os 6 7 (F s).L.length)) 44), (0, .cells (.v (iv sl) :: .v (iv ro) :: .v (iv su) :: .v gs :: .v ts :: .v (.slice (some ad) n lc) :: .os 1 2 n :: (tbS 320 p.A ++ tbS 320 p.B)) 93), (1, .own 2 n 1 (tbV n p.S) 3)], 8, fun w' => Below w.heap.size w w' ∧ Rd 3 Ln.cs (.slice (some ad) n lc) L w' ∧ OutX w.heap.size z F s w', z0⟩) ?_
     (Ent.take q.1 q.2 (F s).L.length 3 46 (lnV (F s).L.length (lnAt (F s).L)) 4 5 z 44 ((outV z F).map .v) (((outV z F).map SV.v).set ((s : Int).toNat * 1) (.os 6 7 (F s).L.length)) (fun w' => Below w.heap.size w w' ∧ Rd 3 Ln.cs (.slice (some ad) n lc) L w' ∧ OutX w.heap.size z F s w') (fun x => x = ad.block ∨ ∃ k, k < z ∧ k ≠ s ∧ ∃ p', (F k).o = some p' ∧ p'.1 = x) (fun x => x < w.heap.size) w rfl (fun w' hw' => ((hw'.2.2 s hs).2 q ho).2)
      ⟨fun hq => ?_, by omega⟩ (fun x hx w' hw' => ?_) (fun x hx w' hw' => ⟨Nat.lt_of_lt_of_le hx hw'.1.size, hw'.1.block x hx⟩) (fun w1 w2 hw1 hc => ?_) ⟨rfl, rfl, rfl, rfl, rfl, trivial⟩ rfl ⟨rfl, rfl, trivial⟩ (mB_up (mPl ⟨sl, ro, su, gs, ts, some ad, n, lc, L⟩ p) (by decide)) rfl ⟨by decide, by decide⟩ (fun bk h => by have h : (none : Option Blk) = some bk := h; cases h) (fun β => ?_))
     (okB rfl ?_ rfl)
    · generalize hml : (F s).L.length = m at *
      refine VC.of env mixed ?_
      have hxs : (lnV m (lnAt (F s).L)).length = m * 3 := lnV_len _ _
      generalize hXX : (((outV z F).map SV.v).set ((s : Int).toNat * 1) (.os 6 7 m)) = XX at *
      repeat'
       conv => whnf
       first
        |refine zA ?_|refine zB ?_|refine zF ?_|refine zG ?_|refine zH ?_|refine zI ?_
        |(refine splD ?_ ?_ <;> intro hc <;> first|(exfalso; omega)|skip)
        |refine nlC rfl rfl ?_
        |refine eL [iv (s : Int)] ⟨⟨rfl, hro⟩, ?_⟩
        |refine ldM env (.os 6 7 m) rfl rfl rfl rfl rfl hXl rfl ?_
        |refine eL (Ln.cs (lnAt L i)) ⟨⟨rfl, fun w' hw' => e1 w' hw'.2.1⟩, ?_⟩
        |refine Tx.stM env (.os 9 10 (m + 1)) rfl rfl rfl rfl rfl rfl rfl (by rw [hXlen, Int.toNat_natCast]; show s * 1 < _; omega) rfl rfl (lts_mono1 hXlt (by show 8 ≤ 11; decide)) rfl ?_
      refine Dis.mk5 (w0 := w) id [9] trivial (fun k hk => by rw [List.mem_singleton] at hk; subst hk; exact ⟨_, rfl, rfl⟩) (fun w' h => h.1) (fun β w1 hok hw1 hge hout hne => ⟨(i + 1, updO F s ⟨some (β 9, β 10), (F s).L ++ [lnAt L i]⟩), ⟨⟨by dsimp only; omega, fun k hk => ?_, ?_, ?_⟩, by dsimp only; omega⟩, ⟨⟨_, rfl, rfl⟩, ⟨_, rfl, rfl⟩, ⟨_, rfl, rfl⟩, ⟨_, rfl, rfl⟩, ⟨_, rfl, rfl⟩, trivial⟩, ⟨⟨rfl, _, rfl, fun _ => rfl, fun w2 y hy => hy⟩, ⟨rfl, _, rfl, fun _ => rfl, fun w2 y hy => hy⟩, ⟨rfl, _, rfl, fun _ => rfl, fun w2 y hy => ?_⟩, trivial⟩, rfl, fun w2 hw2 hLo => ⟨hw2.1, hw2.2.1, fun k hk => ?_⟩⟩)
      · dsimp only
        unfold updO
        by_cases e : k = s
        · subst e
          rw [if_pos rfl, hys, ← hFL k hk]
        · rw [if_neg e, hnx k hk e]; exact hFL k hk
      · exact outD_upd hFD fun k hk hne q' hq' => hout 9 _ q'.1 rfl rfl (fun w3 hw3 => own_cells ((hw3.2.2 k hk hne).2 q' hq').2)
      · intro k hk q' hq'
        dsimp only at hq'
        unfold updO at hq'
        by_cases e : k = s
        · rw [if_pos e] at hq'
          cases hq'
          exact ⟨hout 9 _ ad.block rfl rfl (fun w3 hw3 => hLc w3 hw3.2.1), hge 9 _ rfl rfl, by dsimp only; unfold updO; rw [if_pos e]; simp⟩
        · rw [if_neg e] at hq'
          dsimp only
          unfold updO
          rw [if_neg e]
          exact hFa k hk q' hq'
      · refine mix_conv (F := F) (i := 9) (j := 10) (n := m + 1) hs (r := ⟨some (β 9, β 10), (F s).L ++ [lnAt L i]⟩) ?_ ?_
        · show Value.slice (some ⟨β 9, 0, none⟩) ((F s).L ++ [lnAt L i]).length (β 10) = _
          rw [List.length_append, hml]; rfl
        · have e0 : XX.set ((s : Int).toNat * 1) (.os 9 10 (m + 1)) = ((outV z F).map SV.v).set ((s : Int).toNat * 1) (.os 9 10 (m + 1)) := by rw [← hXX, List.set_set]
          rw [← e0]
          exact hy
      · dsimp only
        unfold updO
        by_cases e : k = s
        · rw [if_pos e]
          refine ⟨fun h => (by cases h), fun q' hq' => ?_⟩
          cases hq'
          refine ⟨hge 9 _ rfl rfl, ?_⟩
          have h1 := hLo 9 (by simp) _ rfl
          simp only [Blk.ok] at h1
          have h2 : lnV m (lnAt (F s).L) ++ [iv (lnAt L i).g, iv (lnAt L i).j, iv (lnAt L i).t] = ((F s).L ++ [lnAt L i]).flatMap Ln.cs := by
           rw [← hml, lnV_list, List.flatMap_append]; simp
          dsimp only
          rw [lnV_list, ← h2, show ((F s).L ++ [lnAt L i]).length = m + 1 from by rw [List.length_append, hml]; rfl]
          exact h1
        · rw [if_neg e]; exact hw2.2.2 k hk e
    · rcases hq with e | ⟨k, hk, hne, p', hp', e⟩
      · exact ha1 e
      · exact hFD k s hk hs hne p' q hp' ho e
    · rcases hx with rfl | ⟨k, hk, hne, p', hp', rfl⟩
      · exact hLc w' hw'.2.1
      · exact own_cells ((hw'.2.2 k hk).2 p' hp').2
    · refine ⟨below_chg hw1.1 hc, ?_, fun k hk hne => ⟨(hw1.2.2 k hk).1, fun p' hp' => ⟨((hw1.2.2 k hk).2 p' hp').1, ?_⟩⟩⟩
      · obtain ⟨cs, ty, fr, h1⟩ := hLc w1 hw1.2.1
        exact rd_keep hw1.2.1 (hc.same _ (Array.getElem?_eq_some_iff.1 h1).1 fun hn => hn (.inr (.inl rfl)))
      · have h0 := ((hw1.2.2 k hk).2 p' hp').2
        obtain ⟨cs, ty, fr, h1⟩ := own_cells h0
        exact own_keep h0 (hc.same _ (Array.getElem?_eq_some_iff.1 h1).1 fun hn => hn (.inr (.inr ⟨k, hk, hne, p', hp', rfl⟩)))
    · rw [cs_set, cs_v, cs_v, show (s : Int).toNat * 1 = s from by omega]
      have h1 := outV_upd F (F s) hs
      rw [show updO F s (F s) = F from by funext k; unfold updO; split; · rename_i e; rw [e]
                                          · rfl] at h1
      rw [hv] at h1
      exact h1.symm
    · have h1 := mB_up (mPl ⟨sl, ro, su, gs, ts, some ad, n, lc, L⟩ p) (show 3 ≤ 8 by omega)
      have h2 : mB 8 [(6, Blk.own 7 (F s).L.length 3 (lnV (F s).L.length (lnAt (F s).L)) 46), (4, Blk.mix 5 z 1 [] (((outV z F).map SV.v).set ((s : Int).toNat * 1) (.os 6 7 (F s).L.length)) 44)] = true := by
       simp only [mB, Blk.lt, hXlt]; rfl
      exact mB_app h2 h1
 · obtain rfl : i = n := by omega
   refine VC.of env mixed ?_
   repeat'
    conv => whnf
    first
     |(refine splD ?_ ?_ <;> intro hc <;> first|(exfalso; omega)|skip)
   have hT := T10 D w z F hz (fun s hs => by rw [hFL s hs]; exact ⟨h12 s hs, fun x hx => hg x (rowL_mem hn hx)⟩) hFD he (by
    rw [show ((List.range z).map fun s => srtL (F s).L) = (List.range z).map fun s => srtL (rowL L p.S i s) from List.map_congr_left fun s hs => by rw [hFL s (List.mem_range.1 hs)]]
    exact hX)
   conv => whnf
   exact VC.ent hT (Ent.weak rfl ⟨rfl, trivial⟩ ⟨rfl, trivial⟩ fun w' h => ⟨h.1, h.2.2⟩) (okB rfl (by simp only [mB, Blk.lt, lts_v]; rfl) rfl)
theorem callCounts {σ : Sg} {rs : List Nat} {K : Ef → Prop} {KF : Option KT} (nb : Nat) (h : PH) (p : Pn) (z : Nat) (hh : PhOK h) (hz : h.sl = z) (hz40 : z ≤ 40) (hS : ∀ i, i < h.n → 0 ≤ p.S i ∧ p.S i < z)
 (e0 : lk σ.m 0 = some (.cells (plC h p) 93)) (e1 : lk σ.m 1 = some (.own 2 h.n 1 (tbV h.n p.S) 3)) (hnb : σ.nb = nb) (h3 : 3 ≤ nb) (hrd : ∀ w', σ.h w' → Rd 3 Ln.cs (.slice h.lo h.n h.lc) h.L w')
 (hK : K ⟨.os nb (nb + 1) z, [nb, nb + 1], (nb, .own (nb + 1) z 1 (tbV z fun t => cntS p.S h.n t) 3) :: plM h p, rs, [0, 1]⟩) : CallEv Tryz.prog σ 41 [.ptr 0 0] (efB σ) rs K KF := by
 subst hnb
 refine callWO σ.nb [0, 1] (plM h p) _ 1 _ 3 rfl ?_ (fun k hk => ?_) (mB_up (mPl h p) h3) (fun β w h1 h2 hst => ?_) hK
 · have h01 : Nat.blt 0 σ.nb = true := by rw [Nat.blt_eq]; omega
   have h11 : Nat.blt 1 σ.nb = true := by rw [Nat.blt_eq]; omega
   have h02 : Nat.blt 0 (σ.nb + 2) = true := by rw [Nat.blt_eq]; omega
   have h12 : Nat.blt 1 (σ.nb + 2) = true := by rw [Nat.blt_eq]; omega
   have h22 : Nat.blt 2 (σ.nb + 2) = true := by rw [Nat.blt_eq]; omega
   have hi1 : Nat.blt σ.nb (σ.nb + 2) = true := by rw [Nat.blt_eq]; omega
   have hj1 : Nat.blt (σ.nb + 1) (σ.nb + 2) = true := by rw [Nat.blt_eq]; omega
   have hn : Nat.blt σ.nb σ.nb = false := by
    cases hb : Nat.blt σ.nb σ.nb with
    | false => rfl
    | true => rw [Nat.blt_eq] at hb; omega
   have b0 : Nat.beq σ.nb 0 = false := beq_ne (by omega)
   have b1 : Nat.beq σ.nb 1 = false := beq_ne (by omega)
   have b2 : Nat.beq σ.nb σ.nb = true := Nat.beq_refl _
   have b3 : Nat.beq (σ.nb + 1) (σ.nb + 1) = true := Nat.beq_refl _
   have b4 : Nat.beq 0 1 = false := rfl
   have b5 : Nat.beq 1 0 = false := rfl
   simp [efB, eqs, modsLt, oldB, keysB, nodupB, SV.lt, nin, e0, e1, Blk.live, Blk.lt, SV.lts, h01, h11, h02, h12, h22, hi1, hj1, hn, lts_append (tbS_lt _ _ _) (tbS_lt _ _ _), b0, b1, b2, b3, b4, b5]
 · simp only [List.mem_cons, List.not_mem_nil, or_false] at hk
   rcases hk with rfl | rfl
   · exact ⟨_, List.mem_cons_self⟩
   · exact ⟨_, List.mem_cons_of_mem _ List.mem_cons_self⟩
 · have hsub : ∀ b, (∃ j bk, lk (plM h p) j = some bk ∧ β j = b) → ∃ k ∈ [0, 1], (∃ bk, lk σ.m k = some bk ∧ bk.live = true) ∧ β k = b := fun b ⟨j, bk, hj, hb⟩ => by
    rcases plM_lk hj with ⟨rfl, rfl⟩ | ⟨rfl, rfl⟩
    · exact ⟨0, by simp, ⟨_, e0, rfl⟩, hb⟩
    · exact ⟨1, by simp, ⟨_, e1, rfl⟩, hb⟩
   refine (counts_ok h p z hh hz hz40 hS (plOK_of e0 e1 h1 h2 fun w' hc => hrd w' (hst w' (Chg.sub hc hsub)))).mono fun e w' ⟨bb, d, q1, q2, q3, q4, q5⟩ => ⟨bb, d, q1, q2, Chg.sub q3 fun b hb => ?_, fun k bk hk => ?_, q5⟩
   · obtain ⟨k, hk, _, hkb⟩ := hsub b hb
     exact ⟨k, hk, hkb⟩
   · simp only [plM, List.mem_cons, Prod.mk.injEq, List.not_mem_nil, or_false] at hk
     rcases hk with ⟨rfl, rfl⟩ | ⟨rfl, rfl⟩
     · exact q4 0 _ rfl
     · exact q4 1 _ rfl
end Go.Proofs.YtkbfcofifhngfaaGreat
namespace Go.Proofs.YtkbfcofifhngfaaGreat
open Go
theorem maxF_spec : ∀ (l : List Int) (x : Int), maxF x l ∈ x :: l ∧ ∀ y ∈ x :: l, y ≤ maxF x l
 | [], x => ⟨List.mem_singleton.2 rfl, fun y hy => by rw [List.mem_singleton] at hy; subst hy; exact Int.le_refl _⟩
 | a :: l, x => by
  have ih := maxF_spec l (max x a)
  have e : maxF x (a :: l) = maxF (max x a) l := rfl
  rw [e]
  obtain ⟨h1, h2⟩ := ih
  have h0 := h2 (max x a) List.mem_cons_self
  refine ⟨?_, fun y hy => ?_⟩
  · rcases List.mem_cons.1 h1 with h | h
    · rcases Int.le_total x a with hx | hx
      · rw [h, show max x a = a from by omega]; exact List.mem_cons_of_mem _ List.mem_cons_self
      · rw [h, show max x a = x from by omega]; exact List.mem_cons_self
    · exact List.mem_cons_of_mem _ (List.mem_cons_of_mem _ h)
  · rcases List.mem_cons.1 hy with rfl | hy
    · omega
    · rcases List.mem_cons.1 hy with rfl | hy
      · omega
      · exact h2 y (List.mem_cons_of_mem _ hy)
theorem minF_spec : ∀ (l : List Int) (x : Int), minF x l ∈ x :: l ∧ ∀ y ∈ x :: l, minF x l ≤ y
 | [], x => ⟨List.mem_singleton.2 rfl, fun y hy => by rw [List.mem_singleton] at hy; subst hy; exact Int.le_refl _⟩
 | a :: l, x => by
  have ih := minF_spec l (min x a)
  have e : minF x (a :: l) = minF (min x a) l := rfl
  rw [e]
  obtain ⟨h1, h2⟩ := ih
  have h0 := h2 (min x a) List.mem_cons_self
  refine ⟨?_, fun y hy => ?_⟩
  · rcases List.mem_cons.1 h1 with h | h
    · rcases Int.le_total x a with hx | hx
      · rw [h, show min x a = x from by omega]; exact List.mem_cons_self
      · rw [h, show min x a = a from by omega]; exact List.mem_cons_of_mem _ List.mem_cons_self
    · exact List.mem_cons_of_mem _ (List.mem_cons_of_mem _ h)
  · rcases List.mem_cons.1 hy with rfl | hy
    · omega
    · rcases List.mem_cons.1 hy with rfl | hy
      · omega
      · exact h2 y (List.mem_cons_of_mem _ hy)
theorem ix_ex {l : List Int} {x : Int} (h : x ∈ l) : ∃ f, f < l.length ∧ ixN (eqL l x) l.length = (f : Int) ∧ l.getD f 0 = x := by
 obtain ⟨k, hk⟩ := List.mem_iff_getElem?.1 h
 have hkl := (List.getElem?_eq_some_iff.1 hk).1
 obtain ⟨m, hm, h1, h2⟩ := least_ex (P := fun f => l.getD f 0 = x) k (by show l.getD k 0 = x; rw [List.getD_eq_getElem?_getD, hk]; rfl)
 exact ⟨m, by omega, ixN_hit (fun i hi => by unfold eqL; exact beq_false_of_ne (h2 i hi)) (by unfold eqL; exact beq_iff_eq.2 h1) (by omega), h1⟩
theorem cnt_total {S : Nat → Int} {z : Nat} : ∀ n, (∀ i, i < n → ∃ s : Nat, s < z ∧ S i = s) → sumN (fun s => cntS S n s) z = n
 | 0, _ => sumN_zero z
 | n + 1, h => by
  have ih := cnt_total n fun i hi => h i (by omega)
  obtain ⟨s, hs, e⟩ := h n (by omega)
  have e1 : sumN (fun s => cntS S (n + 1) s) z = sumN (fun s => cntS S n s + (if s = (s : Nat) ∧ S n = (s : Nat) then 1 else 0)) z := sumN_congr fun k _ => by rw [cntS]; simp
  rw [e1, sumN_add, ih]
  have e2 : sumN (fun k => (if k = (k : Nat) ∧ S n = (k : Nat) then (1 : Int) else 0)) z = sumN (fun k => if k = s then 1 else (fun _ : Nat => (0 : Int)) k) z := sumN_congr fun k _ => by
   by_cases hk : k = s
   · subst hk; rw [if_pos ⟨rfl, e⟩, if_pos rfl]
   · rw [if_neg (fun h => hk (by have := h.2; omega)), if_neg hk]
  rw [e2, sumN_upd hs, sumN_zero]; omega
def excF (ro : Int) (z : Nat) (c : Nat → Int) : Int := sumN (fun s => max 0 (c s - ro)) z
theorem excF_nn (ro : Int) (z : Nat) (c : Nat → Int) : 0 ≤ excF ro z c := sumN_nn fun i _ => by omega
theorem exc_dec {ro : Int} {z f t : Nat} {c c' : Nat → Int} (hf : f < z) (h1 : ro < c f) (h2 : c t < ro) (h : ∀ s : Nat, c' s = c s + (if s = t then 1 else 0) - (if s = f then 1 else 0)) : excF ro z c' = excF ro z c - 1 := by
 unfold excF
 have hft : f ≠ t := fun e => by subst e; omega
 have e : sumN (fun s => max 0 (c' s - ro)) z = sumN (fun s => if s = f then max 0 (c f - ro) - 1 else (fun s => max 0 (c s - ro)) s) z := sumN_congr fun s _ => by
  rw [h s]
  by_cases e1 : s = f
  · rw [if_pos e1, if_pos e1, if_neg (by omega), e1]; omega
  · rw [if_neg e1, if_neg e1]
    by_cases e2 : s = t
    · rw [if_pos e2, e2]; dsimp only; omega
    · rw [if_neg e2]; dsimp only; omega
 rw [e, sumN_upd hf]; omega
theorem min_low {ro : Int} {z f : Nat} {c : Nat → Int} {m : Int} (hf : f < z) (h1 : ro < c f) (hm : ∀ s, s < z → m ≤ c s) (hs : sumN c z ≤ ro * z) : m < ro := by
 refine Int.not_le.1 fun hge => ?_
 have h3 : ∀ n : Nat, sumN (fun _ => ro) n = ro * n := fun n => by
  induction n with
  | zero => simp [sumN]
  | succ n ih => rw [sumN, ih, Int.natCast_add, Int.mul_add]; simp
 have := sumN_lt (f := fun _ => ro) (g := c) (j := f) (n := z) (fun i hi => Int.le_trans hge (hm i hi)) hf h1
 rw [h3] at this
 omega
end Go.Proofs.YtkbfcofifhngfaaGreat
