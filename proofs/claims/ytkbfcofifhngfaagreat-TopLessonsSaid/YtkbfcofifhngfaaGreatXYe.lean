/- Part 5 of the proof: texts merged. -/
import Derived.Test.YtkbfcofifhngfaaGreatXYd
set_option maxHeartbeats 8000000
set_option maxRecDepth 100000
set_option linter.unusedSectionVars false
set_option linter.unusedSimpArgs false
set_option linter.unusedVariables false
namespace Go.Proofs.YtkbfcofifhngfaaGreat
open Go
def vP (p : Pn) (te : Bool) (g s : Nat) : Int := if te = true then p.B (g * 40 + s) else p.A (g * 40 + s)
def vx (L : List Ln) (i : Nat) (te : Bool) : Nat := if te = true then (lnAt L i).t.toNat else (lnAt L i).g.toNat
theorem nxP_v (L : List Ln) (p : Pn) (i : Nat) (s : Int) (te : Bool) : nxP L p i s te = vP p te (vx L i te) s.toNat := by
 cases te <;> rfl
theorem vP_off {L : List Ln} {p : Pn} {i s0 : Nat} (hS : p.S i = (s0 : Int)) (h0 : s0 < 40) (te : Bool) (g s : Nat) (hs : s < 40) :
 vP (putF (lnAt L i) p i (-1)) te g s = if g = vx L i te ∧ s = s0 then -1 else vP p te g s := by
 have e : putF (lnAt L i) p i (-1) = ⟨updF p.S i (-1), updF p.A (gAt (lnAt L i) s0) (-1), updF p.B (tAt (lnAt L i) s0) (-1)⟩ := by
  unfold putF
  dsimp only
  rw [if_pos rfl, if_neg (show ¬ p.S i = -1 by rw [hS]; omega), hS]
 rw [e]
 cases te with
 | true =>
  show updF p.B (tAt (lnAt L i) s0) (-1) (g * 40 + s) = if g = (lnAt L i).t.toNat ∧ s = s0 then -1 else p.B (g * 40 + s)
  unfold updF tAt
  rw [Int.toNat_natCast]
  by_cases h : g = (lnAt L i).t.toNat ∧ s = s0
  · rw [if_pos h, if_pos (by omega)]
  · rw [if_neg h, if_neg (by omega)]
 | false =>
  show updF p.A (gAt (lnAt L i) s0) (-1) (g * 40 + s) = if g = (lnAt L i).g.toNat ∧ s = s0 then -1 else p.A (g * 40 + s)
  unfold updF gAt
  rw [Int.toNat_natCast]
  by_cases h : g = (lnAt L i).g.toNat ∧ s = s0
  · rw [if_pos h, if_pos (by omega)]
  · rw [if_neg h, if_neg (by omega)]
theorem vP_on {L : List Ln} {p : Pn} {i s1 : Nat} (hS : p.S i = -1) (h1 : s1 < 40) (te : Bool) (g s : Nat) (hs : s < 40) :
 vP (putF (lnAt L i) p i (s1 : Int)) te g s = if g = vx L i te ∧ s = s1 then (i : Int) else vP p te g s := by
 have e : putF (lnAt L i) p i (s1 : Int) = ⟨updF p.S i s1, updF p.A (gAt (lnAt L i) s1) i, updF p.B (tAt (lnAt L i) s1) i⟩ := by
  unfold putF
  rw [if_pos hS, if_neg (by omega)]
 rw [e]
 cases te with
 | true =>
  show updF p.B (tAt (lnAt L i) s1) i (g * 40 + s) = if g = (lnAt L i).t.toNat ∧ s = s1 then (i : Int) else p.B (g * 40 + s)
  unfold updF tAt
  rw [Int.toNat_natCast]
  by_cases h : g = (lnAt L i).t.toNat ∧ s = s1
  · rw [if_pos h, if_pos (by omega)]
  · rw [if_neg h, if_neg (by omega)]
 | false =>
  show updF p.A (gAt (lnAt L i) s1) i (g * 40 + s) = if g = (lnAt L i).g.toNat ∧ s = s1 then (i : Int) else p.A (g * 40 + s)
  unfold updF gAt
  rw [Int.toNat_natCast]
  by_cases h : g = (lnAt L i).g.toNat ∧ s = s1
  · rw [if_pos h, if_pos (by omega)]
  · rw [if_neg h, if_neg (by omega)]
structure Cons (L : List Ln) (z : Nat) (p : Pn) : Prop where
 r : ∀ i, i < L.length → p.S i = -1 ∨ ∃ s : Nat, s < z ∧ p.S i = s
 a : ∀ i, i < L.length → ∀ s : Nat, p.S i = s → ∀ te, vP p te (vx L i te) s = i
 v : ∀ te g s, g < 8 → s < z → vP p te g s = -1 ∨ ∃ i : Nat, i < L.length ∧ vP p te g s = i ∧ vx L i te = g ∧ p.S i = s
theorem upd_at (f : Nat → Int) (i j : Nat) (v : Int) : updF f i v j = if j = i then v else f j := rfl
theorem Cons.off {L : List Ln} {z : Nat} {p : Pn} (h : Cons L z p) (hz : z ≤ 40) {i s0 : Nat} (hi : i < L.length) (hS : p.S i = (s0 : Int)) : Cons L z (putF (lnAt L i) p i (-1)) := by
 have h0 : s0 < z := by
  rcases h.r i hi with e | ⟨s, hs, e⟩
  · rw [hS] at e; omega
  · rw [hS] at e; omega
 refine ⟨fun j hj => ?_, fun j hj s hs te => ?_, fun te g s hg hsz => ?_⟩
 · rw [putF_S, upd_at]
   split
   · exact .inl rfl
   · exact h.r j hj
 · rw [putF_S, upd_at] at hs
   split at hs
   · omega
   · rename_i hne
     have hsz : s < z := by
      rcases h.r j hj with e | ⟨s', hs', e⟩
      · rw [hs] at e; omega
      · rw [hs] at e; omega
     rw [vP_off hS (by omega) te _ s (by omega), if_neg]
     · exact h.a j hj s hs te
     · rintro ⟨e1, e2⟩
       subst e2
       have q1 := h.a j hj s hs te
       have q2 := h.a i hi s hS te
       rw [e1, q2] at q1
       omega
 · rw [vP_off hS (by omega) te g s (by omega)]
   split
   · exact .inl rfl
   · rename_i hne
     rcases h.v te g s hg hsz with e | ⟨j, hj, e1, e2, e3⟩
     · exact .inl e
     · refine .inr ⟨j, hj, e1, e2, ?_⟩
       rw [putF_S, upd_at, if_neg]
       · exact e3
       · intro e; subst e
         rw [hS] at e3
         exact hne ⟨e2.symm, by omega⟩
theorem Cons.on {L : List Ln} {z : Nat} {p : Pn} (h : Cons L z p) (hz : z ≤ 40) {i s1 : Nat} (hi : i < L.length) (hS : p.S i = -1) (h1 : s1 < z) (hf : ∀ te, vP p te (vx L i te) s1 = -1) : Cons L z (putF (lnAt L i) p i (s1 : Int)) := by
 refine ⟨fun j hj => ?_, fun j hj s hs te => ?_, fun te g s hg hsz => ?_⟩
 · rw [putF_S, upd_at]
   split
   · exact .inr ⟨s1, h1, rfl⟩
   · exact h.r j hj
 · rw [putF_S, upd_at] at hs
   split at hs
   · rename_i e; subst e
     have : s = s1 := by omega
     subst this
     rw [vP_on hS (by omega) te _ s (by omega), if_pos ⟨rfl, rfl⟩]
   · rename_i hne
     have hsz : s < z := by
      rcases h.r j hj with e | ⟨s', hs', e⟩
      · rw [hs] at e; omega
      · rw [hs] at e; omega
     rw [vP_on hS (by omega) te _ s (by omega), if_neg]
     · exact h.a j hj s hs te
     · rintro ⟨e1, e2⟩
       subst e2
       have q1 := h.a j hj s hs te
       rw [e1, hf te] at q1
       omega
 · rw [vP_on hS (by omega) te g s (by omega)]
   split
   · rename_i e
     exact .inr ⟨i, hi, rfl, e.1.symm, by rw [putF_S, upd_at, if_pos rfl, e.2]⟩
   · rename_i hne
     rcases h.v te g s hg hsz with e | ⟨j, hj, e1, e2, e3⟩
     · exact .inl e
     · refine .inr ⟨j, hj, e1, e2, ?_⟩
       rw [putF_S, upd_at, if_neg]
       · exact e3
       · intro e; subst e
         rw [hS] at e3; omega
theorem off_cons {L : List Ln} {z : Nat} (hz : z ≤ 40) : ∀ (l : List Nat) (p : Pn), Cons L z p → l.Nodup → (∀ i ∈ l, i < L.length ∧ ∃ s : Nat, p.S i = s) → Cons L z (offF L l p)
 | [], p, h, _, _ => h
 | i :: r, p, h, hn, hl => by
  rw [offF]
  obtain ⟨hi, s, hs⟩ := hl i List.mem_cons_self
  rw [List.nodup_cons] at hn
  refine off_cons hz r _ (h.off hz hi hs) hn.2 fun j hj => ?_
  obtain ⟨hj1, s', hs'⟩ := hl j (List.mem_cons_of_mem _ hj)
  refine ⟨hj1, s', ?_⟩
  rw [putF_S, upd_at, if_neg (fun e : j = i => hn.1 (e ▸ hj))]; exact hs'
def Clo (L : List Ln) (q : Nat) (l : List Nat) (p : Pn) : Prop := ∀ i ∈ l, ∀ te, ∀ s : Nat, p.S i = s → vP p te (vx L i te) (q - s) = -1 ∨ ∃ j ∈ l, vP p te (vx L i te) (q - s) = (j : Int)
theorem on_cons {L : List Ln} {z q : Nat} (hz : z ≤ 40) (hx : ∀ i, i < L.length → ∀ te, vx L i te < 8) {p : Pn} (h : Cons L z p) {l : List Nat} (hl : ∀ i ∈ l, i < L.length ∧ ∃ s : Nat, p.S i = s ∧ s ≤ q ∧ q - s < z) (hc : Clo L q l p) :
 ∀ (r d : List Nat) (p1 : Pn), (d ++ r).Nodup → (∀ i, i ∈ l ↔ i ∈ d ++ r) → Cons L z p1 → (∀ j, p1.S j = if j ∈ d then (q : Int) - p.S j else if j ∈ l then -1 else p.S j) → Cons L z (onF L (fun i => (q : Int) - p.S i) r p1)
 | [], d, p1, _, _, h1, _ => h1
 | i :: r, d, p1, hn, hm, h1, hS => by
  rw [onF]
  have hil : i ∈ l := (hm i).2 (List.mem_append.2 (.inr List.mem_cons_self))
  obtain ⟨hi, s, hs, hsq, hqz⟩ := hl i hil
  have hnd : i ∉ d := fun hd => (List.nodup_append.1 hn).2.2 i hd i List.mem_cons_self rfl
  have hS1 : p1.S i = -1 := by rw [hS, if_neg hnd, if_pos hil]
  have e : (q : Int) - p.S i = ((q - s : Nat) : Int) := by rw [hs]; omega
  rw [e]
  refine on_cons hz hx h hl hc r (d ++ [i]) _ (by rw [List.append_assoc]; exact hn) (fun j => by rw [hm j, List.append_assoc]; rfl) (h1.on hz hi hS1 hqz fun te => ?_) fun j => ?_
  · rcases h1.v te (vx L i te) (q - s) (hx i hi te) hqz with e1 | ⟨j, hj, e1, e2, e3⟩
    · exact e1
    · exfalso
      rw [hS] at e3
      split at e3
      · rename_i hjd
        have hjl : j ∈ l := (hm j).2 (List.mem_append.2 (.inl hjd))
        obtain ⟨_, s', hs', hsq', _⟩ := hl j hjl
        have : s' = s := by rw [hs'] at e3; omega
        subst this
        have q1 := h.a j hj s' hs' te
        have q2 := h.a i hi s' hs te
        rw [e2, q2] at q1
        have : i = j := by omega
        subst this
        exact hnd hjd
      · split at e3
        · omega
        · rename_i hjl
          have q1 := h.a j hj (q - s) e3 te
          rw [e2] at q1
          rcases hc i hil te s hs with c1 | ⟨k, hk, c1⟩
          · rw [q1] at c1; omega
          · rw [q1] at c1
            have : j = k := by omega
            subst this
            exact hjl hk
  · rw [putF_S, upd_at, hS]
    by_cases hji : j = i
    · subst hji
      rw [if_pos rfl, if_pos (by simp), hs]; omega
    · rw [if_neg hji]
      by_cases hjd : j ∈ d
      · rw [if_pos hjd, if_pos (by simp [hjd])]
      · rw [if_neg hjd, if_neg (show ¬ j ∈ d ++ [i] by simp [hjd, hji])]
theorem turn_cons {L : List Ln} {z q : Nat} (hz : z ≤ 40) (hx : ∀ i, i < L.length → ∀ te, vx L i te < 8) {p : Pn} (h : Cons L z p) {l : List Nat} (hn : l.Nodup) (hl : ∀ i ∈ l, i < L.length ∧ ∃ s : Nat, p.S i = s ∧ s ≤ q ∧ q - s < z) (hc : Clo L q l p) :
 Cons L z (turnF L q l p) ∧ ∀ j, (turnF L q l p).S j = if j ∈ l then (q : Int) - p.S j else p.S j := by
 unfold turnF
 have ho := off_cons hz l p h hn fun i hi => by obtain ⟨h1, s, h2, _⟩ := hl i hi; exact ⟨h1, s, h2⟩
 refine ⟨on_cons hz hx h hl hc l [] _ (by simpa using hn) (fun i => by simp) ho fun j => by rw [offF_S]; simp, fun j => ?_⟩
 rw [onF_S, offF_S]
 split <;> rfl
end Go.Proofs.YtkbfcofifhngfaaGreat
namespace Go.Proofs.YtkbfcofifhngfaaGreat
open Go
theorem nodup_len : ∀ (n : Nat) (l : List Nat), l.Nodup → (∀ x ∈ l, x < n) → l.length ≤ n
 | 0, l, _, h => by
  cases l with
  | nil => exact Nat.le_refl _
  | cons a l => exact absurd (h a List.mem_cons_self) (by omega)
 | n + 1, l, hn, h => by
  have h1 : (l.erase n).Nodup := hn.erase n
  have h2 := nodup_len n (l.erase n) h1 fun x hx => by
   have := (hn.mem_erase_iff.1 hx)
   have := h x this.2
   omega
  by_cases hm : n ∈ l
  · rw [List.length_erase_of_mem hm] at h2; omega
  · rw [List.erase_of_not_mem hm] at h2; omega
def tfB (s0 : Int) (te0 : Bool) (s : Int) : Bool := if s = s0 then te0 else !te0
def stp (L : List Ln) (p : Pn) (q s0 : Int) (te0 : Bool) (i : Nat) : Int := nxP L p i (q - p.S i) (tfB s0 te0 (p.S i))
section
variable {L : List Ln} {z f t : Nat} {p : Pn} {s0 : Int} {te0 : Bool}
theorem stp_some (h : Cons L z p) (hx : ∀ i, i < L.length → ∀ te, vx L i te < 8) (hf : f < z) (ht : t < z) {i : Nat} (hi : i < L.length) (hS : p.S i = f ∨ p.S i = t) :
 stp L p ((f + t : Nat) : Int) s0 te0 i = -1 ∨ ∃ j : Nat, j < L.length ∧ stp L p ((f + t : Nat) : Int) s0 te0 i = j ∧ p.S j = ((f + t : Nat) : Int) - p.S i ∧ vx L j (tfB s0 te0 (p.S i)) = vx L i (tfB s0 te0 (p.S i)) := by
 have e : ∃ s : Nat, s < z ∧ ((f + t : Nat) : Int) - p.S i = s := by
  rcases hS with hS | hS
  · exact ⟨t, ht, by rw [hS]; omega⟩
  · exact ⟨f, hf, by rw [hS]; omega⟩
 obtain ⟨s, hs, e⟩ := e
 unfold stp
 rw [e, nxP_v, Int.toNat_natCast]
 rcases h.v (tfB s0 te0 (p.S i)) (vx L i (tfB s0 te0 (p.S i))) s (hx i hi _) hs with e1 | ⟨j, hj, e1, e2, e3⟩
 · exact .inl e1
 · exact .inr ⟨j, hj, e1, e3, e2⟩
theorem stp_inj (h : Cons L z p) (hx : ∀ i, i < L.length → ∀ te, vx L i te < 8) (hf : f < z) (ht : t < z) {i i' j : Nat} (hi : i < L.length) (hi' : i' < L.length) (hS : p.S i = f ∨ p.S i = t) (hS' : p.S i' = f ∨ p.S i' = t)
 (h1 : stp L p ((f + t : Nat) : Int) s0 te0 i = (j : Int)) (h2 : stp L p ((f + t : Nat) : Int) s0 te0 i' = (j : Int)) : i = i' := by
 rcases stp_some (s0 := s0) (te0 := te0) h hx hf ht hi hS with e | ⟨k, hk, e1, e2, e3⟩
 · omega
 · rcases stp_some (s0 := s0) (te0 := te0) h hx hf ht hi' hS' with e' | ⟨k', hk', e1', e2', e3'⟩
   · omega
   · have ek : k = j := by omega
     have ek' : k' = j := by omega
     subst ek; subst ek'
     have es : p.S i = p.S i' := by omega
     rw [es] at e3
     have ev := e3.symm.trans e3'
     obtain ⟨s, hs⟩ : ∃ s : Nat, p.S i = s := by rcases hS with h | h <;> exact ⟨_, h⟩
     have q1 := h.a i hi s hs (tfB s0 te0 (p.S i'))
     have q2 := h.a i' hi' s (es ▸ hs) (tfB s0 te0 (p.S i'))
     rw [ev, q2] at q1
     omega
def sgF (f : Nat) (s : Int) : Int := if s = f then 1 else -1
theorem tfB_not (hft : f ≠ t) (hs0 : s0 = f ∨ s0 = t) {s : Int} (hs : s = f ∨ s = t) : tfB s0 te0 (((f + t : Nat) : Int) - s) = !tfB s0 te0 s := by
 unfold tfB
 by_cases e : s = s0
 · rw [if_pos e, if_neg (by omega)]
 · rw [if_neg e, if_pos (by omega), Bool.not_not]
theorem sg_not (hft : f ≠ t) {s : Int} (hs : s = f ∨ s = t) : sgF f (((f + t : Nat) : Int) - s) = - sgF f s := by
 unfold sgF
 by_cases e : s = f
 · rw [if_pos e, if_neg (by omega)]
 · rw [if_neg e, if_pos (by omega)]; rfl
def Rch (L : List Ln) (p : Pn) (f t : Nat) (s0 : Int) (te0 : Bool) : Nat → Nat → Nat → Prop
 | 0, i, e => i = e
 | k + 1, i, e => ∃ d, Rch L p f t s0 te0 k i d ∧ (d < L.length ∧ (p.S d = f ∨ p.S d = t)) ∧ stp L p ((f + t : Nat) : Int) s0 te0 d = (e : Int)
theorem Rch.cons {i j : Nat} (hi : i < L.length ∧ (p.S i = f ∨ p.S i = t)) (hs : stp L p ((f + t : Nat) : Int) s0 te0 i = (j : Int)) : ∀ {k e : Nat}, Rch L p f t s0 te0 k j e → Rch L p f t s0 te0 (k + 1) i e
 | 0, e, h => by
  have h : j = e := h
  subst h
  exact ⟨i, rfl, hi, hs⟩
 | k + 1, e, h => by
  obtain ⟨d, h1, h2, h3⟩ := h
  exact ⟨d, Rch.cons hi hs h1, h2, h3⟩
theorem Rch.back (h : Cons L z p) (hx : ∀ i, i < L.length → ∀ te, vx L i te < 8) (hf : f < z) (ht : t < z) : ∀ {k k' i i' e : Nat}, Rch L p f t s0 te0 k i e → Rch L p f t s0 te0 (k + k') i' e → Rch L p f t s0 te0 k' i' i
 | 0, k', i, i', e, h1, h2 => by
  have h1 : i = e := h1
  subst h1
  rw [Nat.zero_add] at h2; exact h2
 | k + 1, k', i, i', e, h1, h2 => by
  rw [show k + 1 + k' = (k + k') + 1 from by omega] at h2
  obtain ⟨d, a1, a2, a3⟩ := h1
  obtain ⟨d', b1, b2, b3⟩ := h2
  have := stp_inj h hx hf ht a2.1 b2.1 a2.2 b2.2 a3 b3
  subst this
  exact Rch.back h hx hf ht a1 b1
theorem ch_ex (h : Cons L z p) (hx : ∀ i, i < L.length → ∀ te, vx L i te < 8) (hf : f < z) (ht : t < z) (hft : f ≠ t) (hs0 : s0 = f ∨ s0 = t) (first : Nat) :
 ∀ (k : Nat) (vis : List Nat) (cur : Nat), L.length ≤ vis.length + 1 + k → (cur :: vis).Nodup → (∀ i ∈ cur :: vis, i < L.length ∧ (p.S i = f ∨ p.S i = t)) → (∀ u ∈ cur :: vis, u = first ∨ ∃ v ∈ vis, stp L p ((f + t : Nat) : Int) s0 te0 v = (u : Int)) →
  ∃ r, ChL L p ((f + t : Nat) : Int) first (cur :: r) (p.S cur) (tfB s0 te0 (p.S cur)) ∧ ((cur :: r) ++ vis).Nodup ∧ (∀ i ∈ cur :: r, i < L.length ∧ (p.S i = f ∨ p.S i = t)) ∧
   (∀ i ∈ cur :: r, stp L p ((f + t : Nat) : Int) s0 te0 i = -1 ∨ stp L p ((f + t : Nat) : Int) s0 te0 i = first ∨ ∃ j ∈ r, stp L p ((f + t : Nat) : Int) s0 te0 i = (j : Int)) ∧
   (∀ j ∈ r, ∃ i ∈ cur :: r, stp L p ((f + t : Nat) : Int) s0 te0 i = (j : Int)) ∧
   (∃ e ∈ cur :: r, (stp L p ((f + t : Nat) : Int) s0 te0 e = -1 ∨ stp L p ((f + t : Nat) : Int) s0 te0 e = first) ∧ p.S e = if (cur :: r).length % 2 = 1 then p.S cur else ((f + t : Nat) : Int) - p.S cur) ∧
   (((cur :: r).map fun i => sgF f (p.S i)).sum = if (cur :: r).length % 2 = 1 then sgF f (p.S cur) else 0) ∧ ∀ e ∈ cur :: r, ∃ k, Rch L p f t s0 te0 k cur e := by
 intro k
 induction k with
 | zero =>
  intro vis cur hlen hn hall hprev
  obtain ⟨hc, hS⟩ := hall cur List.mem_cons_self
  have hstop : stp L p ((f + t : Nat) : Int) s0 te0 cur = -1 ∨ stp L p ((f + t : Nat) : Int) s0 te0 cur = first := by
   rcases stp_some (s0 := s0) (te0 := te0) h hx hf ht hc hS with e | ⟨j, hj, e1, e2, e3⟩
   · exact .inl e
   · by_cases hjf : j = first
     · exact .inr (by rw [e1, hjf])
     · exfalso
       have hnew : j ∉ cur :: vis := fun hm => by
        rcases hprev j hm with e | ⟨v, hv, e⟩
        · exact hjf e
        · obtain ⟨hv1, hv2⟩ := hall v (List.mem_cons_of_mem _ hv)
          have := stp_inj h hx hf ht hc hv1 hS hv2 e1 e
          subst this
          exact (List.nodup_cons.1 hn).1 hv
       have := nodup_len L.length (j :: cur :: vis) (List.nodup_cons.2 ⟨hnew, hn⟩) fun x hx => by
        rcases List.mem_cons.1 hx with rfl | hx
        · exact hj
        · exact (hall x hx).1
       simp only [List.length_cons] at this
       omega
  exact ⟨[], ⟨hc, hstop⟩, by simpa using hn, fun i hi => by simp only [List.mem_singleton] at hi; subst hi; exact ⟨hc, hS⟩, fun i hi => by
   simp only [List.mem_singleton] at hi; subst hi
   rcases hstop with e | e
   · exact .inl e
   · exact .inr (.inl e), fun j hj => (by cases hj), ⟨cur, List.mem_cons_self, hstop, by simp⟩, by simp, fun e he => by simp only [List.mem_singleton] at he; subst he; exact ⟨0, rfl⟩⟩
 | succ k ih =>
  intro vis cur hlen hn hall hprev
  obtain ⟨hc, hS⟩ := hall cur List.mem_cons_self
  have hdone : (stp L p ((f + t : Nat) : Int) s0 te0 cur = -1 ∨ stp L p ((f + t : Nat) : Int) s0 te0 cur = first) → _ := fun hstop => (⟨[], ⟨hc, hstop⟩, by simpa using hn, fun i hi => by simp only [List.mem_singleton] at hi; subst hi; exact ⟨hc, hS⟩, fun i hi => by
   simp only [List.mem_singleton] at hi; subst hi
   rcases hstop with e | e
   · exact .inl e
   · exact .inr (.inl e), fun j hj => (by cases hj), ⟨cur, List.mem_cons_self, hstop, by simp⟩, by simp, fun e he => by simp only [List.mem_singleton] at he; subst he; exact ⟨0, rfl⟩⟩ : ∃ r, ChL L p ((f + t : Nat) : Int) first (cur :: r) (p.S cur) (tfB s0 te0 (p.S cur)) ∧ ((cur :: r) ++ vis).Nodup ∧ (∀ i ∈ cur :: r, i < L.length ∧ (p.S i = f ∨ p.S i = t)) ∧
     (∀ i ∈ cur :: r, stp L p ((f + t : Nat) : Int) s0 te0 i = -1 ∨ stp L p ((f + t : Nat) : Int) s0 te0 i = first ∨ ∃ j ∈ r, stp L p ((f + t : Nat) : Int) s0 te0 i = (j : Int)) ∧
     (∀ j ∈ r, ∃ i ∈ cur :: r, stp L p ((f + t : Nat) : Int) s0 te0 i = (j : Int)) ∧
     (∃ e ∈ cur :: r, (stp L p ((f + t : Nat) : Int) s0 te0 e = -1 ∨ stp L p ((f + t : Nat) : Int) s0 te0 e = first) ∧ p.S e = if (cur :: r).length % 2 = 1 then p.S cur else ((f + t : Nat) : Int) - p.S cur) ∧
     (((cur :: r).map fun i => sgF f (p.S i)).sum = if (cur :: r).length % 2 = 1 then sgF f (p.S cur) else 0) ∧ ∀ e ∈ cur :: r, ∃ k, Rch L p f t s0 te0 k cur e)
  rcases stp_some (s0 := s0) (te0 := te0) h hx hf ht hc hS with e | ⟨j, hj, e1, e2, e3⟩
  · exact hdone (.inl e)
  · by_cases hjf : j = first
    · exact hdone (.inr (by rw [e1, hjf]))
    · have hnew : j ∉ cur :: vis := fun hm => by
       rcases hprev j hm with e | ⟨v, hv, e⟩
       · exact hjf e
       · obtain ⟨hv1, hv2⟩ := hall v (List.mem_cons_of_mem _ hv)
         have := stp_inj h hx hf ht hc hv1 hS hv2 e1 e
         subst this
         exact (List.nodup_cons.1 hn).1 hv
      have hSj : p.S j = f ∨ p.S j = t := by clear hdone; rw [e2]; omega
      obtain ⟨r, c1, c2, c3, c4, c5, c6, c7, c8⟩ := ih (cur :: vis) j (by simp only [List.length_cons]; omega) (List.nodup_cons.2 ⟨hnew, hn⟩) (fun i hi => by
       rcases List.mem_cons.1 hi with rfl | hi
       · exact ⟨hj, hSj⟩
       · exact hall i hi) (fun u hu => by
       rcases List.mem_cons.1 hu with rfl | hu
       · exact .inr ⟨cur, List.mem_cons_self, e1⟩
       · rcases hprev u hu with e | ⟨v, hv, e⟩
         · exact .inl e
         · exact .inr ⟨v, List.mem_cons_of_mem _ hv, e⟩)
      have hte : tfB s0 te0 (p.S j) = !tfB s0 te0 (p.S cur) := by rw [e2]; exact tfB_not hft hs0 hS
      refine ⟨j :: r, ⟨⟨hc, e1, hjf⟩, by rw [← e2, ← hte]; exact c1⟩, ?_, fun i hi => ?_, fun i hi => ?_, fun u hu => ?_, ?_, ?_, fun e he => ?_⟩
      · have := c2
        rw [List.cons_append, List.nodup_cons, List.nodup_append] at this
        rw [List.cons_append, List.cons_append, List.nodup_cons, List.nodup_cons]
        obtain ⟨q1, q2, q3, q4⟩ := this
        rw [List.nodup_cons] at q3
        refine ⟨?_, ?_, ?_⟩
        · intro hm
          rcases List.mem_cons.1 hm with e | hm
          · exact hnew (e ▸ List.mem_cons_self)
          · rcases List.mem_append.1 hm with hm | hm
            · exact q4 cur hm cur List.mem_cons_self rfl
            · exact q3.1 hm
        · intro hm
          rcases List.mem_append.1 hm with hm | hm
          · exact q1 (List.mem_append.2 (.inl hm))
          · exact hnew (List.mem_cons_of_mem _ hm)
        · exact List.nodup_append.2 ⟨q2, q3.2, fun a ha b hb => q4 a ha b (List.mem_cons_of_mem _ hb)⟩
      · rcases List.mem_cons.1 hi with rfl | hi
        · exact ⟨hc, hS⟩
        · exact c3 i hi
      · rcases List.mem_cons.1 hi with rfl | hi
        · exact .inr (.inr ⟨j, List.mem_cons_self, e1⟩)
        · rcases c4 i hi with e | e | ⟨u, hu, e⟩
          · exact .inl e
          · exact .inr (.inl e)
          · exact .inr (.inr ⟨u, List.mem_cons_of_mem _ hu, e⟩)
      · rcases List.mem_cons.1 hu with rfl | hu
        · exact ⟨cur, List.mem_cons_self, e1⟩
        · obtain ⟨v, hv, e⟩ := c5 u hu
          exact ⟨v, List.mem_cons_of_mem _ hv, e⟩
      · obtain ⟨e, he, h1, h2⟩ := c6
        refine ⟨e, List.mem_cons_of_mem _ he, h1, ?_⟩
        rw [h2, e2]
        clear hdone ih
        simp only [List.length_cons]
        split <;> split <;> omega
      · rw [List.map_cons, List.sum_cons, c7, e2]
        rw [sg_not hft hS]
        clear hdone c6 ih
        simp only [List.length_cons]
        split <;> split <;> omega
      · rcases List.mem_cons.1 he with rfl | he
        · exact ⟨0, rfl⟩
        · obtain ⟨k, hk⟩ := c8 e he
          exact ⟨k + 1, Rch.cons ⟨hc, hS⟩ e1 hk⟩
end
theorem ch_clo {L : List Ln} {z f t : Nat} {p : Pn} {te0 : Bool} {first : Nat} {r : List Nat} (h : Cons L z p) (hx : ∀ i, i < L.length → ∀ te, vx L i te < 8) (hf : f < z) (ht : t < z) (hft : f ≠ t) (hS0 : p.S first = f)
 (hall : ∀ i ∈ first :: r, i < L.length ∧ (p.S i = f ∨ p.S i = t)) (c4 : ∀ i ∈ first :: r, stp L p ((f + t : Nat) : Int) f te0 i = -1 ∨ stp L p ((f + t : Nat) : Int) f te0 i = first ∨ ∃ j ∈ r, stp L p ((f + t : Nat) : Int) f te0 i = (j : Int))
 (c5 : ∀ j ∈ r, ∃ i ∈ first :: r, stp L p ((f + t : Nat) : Int) f te0 i = (j : Int)) (hb : vP p (!te0) (vx L first (!te0)) t = -1) : Clo L (f + t) (first :: r) p := by
 intro i hi te s hs
 obtain ⟨hil, hS⟩ := hall i hi
 have hsq : s = f ∨ s = t := by omega
 by_cases hte : te = tfB f te0 (p.S i)
 · have e : vP p te (vx L i te) (f + t - s) = stp L p ((f + t : Nat) : Int) f te0 i := by
    unfold stp
    rw [nxP_v, ← hte, hs, show (((f + t : Nat) : Int) - (s : Int)).toNat = f + t - s from by omega]
   rw [e]
   rcases c4 i hi with e | e | ⟨j, hj, e⟩
   · exact .inl e
   · exact .inr ⟨first, List.mem_cons_self, e⟩
   · exact .inr ⟨j, List.mem_cons_of_mem _ hj, e⟩
 · have hte2 : te = !tfB f te0 (p.S i) := by
    cases te <;> cases h2 : tfB f te0 (p.S i) <;> simp_all
   rcases List.mem_cons.1 hi with rfl | hir
   · left
     rw [hS0] at hs
     have es : s = f := by omega
     have e2 : tfB f te0 (p.S i) = te0 := by unfold tfB; rw [hS0, if_pos rfl]
     rw [hte2, e2, show f + t - s = t from by omega]
     exact hb
   · right
     obtain ⟨u, hu, e⟩ := c5 i hir
     obtain ⟨hul, huS⟩ := hall u hu
     refine ⟨u, hu, ?_⟩
     rcases stp_some (s0 := (f : Int)) (te0 := te0) h hx hf ht hul huS with e1 | ⟨j, hj, e1, e2, e3⟩
     · omega
     · have : j = i := by omega
       subst this
       have htu : te = tfB f te0 (p.S u) := by
        rw [hte2, e2, tfB_not hft (.inl rfl) huS, Bool.not_not]
       rw [htu, e3]
       obtain ⟨su, hsu⟩ : ∃ s : Nat, p.S u = s := by rcases huS with h | h <;> exact ⟨_, h⟩
       have := h.a u hul su hsu (tfB f te0 (p.S u))
       rw [show f + t - s = su from by omega]
       exact this
end Go.Proofs.YtkbfcofifhngfaaGreat
namespace Go.Proofs.YtkbfcofifhngfaaGreat
open Go
theorem nodup_sub : ∀ (l F : List Nat), l.Nodup → (∀ x ∈ l, x ∈ F) → l.length ≤ F.length
 | [], F, _, _ => Nat.zero_le _
 | a :: l, F, hn, h => by
  rw [List.nodup_cons] at hn
  have ha := h a List.mem_cons_self
  have := nodup_sub l (F.erase a) hn.2 fun x hx => (List.mem_erase_of_ne (fun e : x = a => hn.1 (e ▸ hx))).2 (h x (List.mem_cons_of_mem _ hx))
  rw [List.length_erase_of_mem ha] at this
  have := List.length_pos_of_mem ha
  rw [List.length_cons]; omega
theorem least_ex {P : Nat → Prop} : ∀ n, P n → ∃ m, m ≤ n ∧ P m ∧ ∀ j, j < m → ¬ P j
 | n, h => by
  by_cases hlt : ∃ j, j < n ∧ P j
  · obtain ⟨j, hj, hp⟩ := hlt
    obtain ⟨m, h1, h2, h3⟩ := least_ex j hp
    exact ⟨m, by omega, h2, h3⟩
  · exact ⟨n, Nat.le_refl _, h, fun j hj hp => hlt ⟨j, hj, hp⟩⟩
def memV (L : List Ln) (te : Bool) (g : Nat) : List Nat := (List.range L.length).filter fun i => vx L i te == g
theorem mem_memV {L : List Ln} {te : Bool} {g i : Nat} : i ∈ memV L te g ↔ i < L.length ∧ vx L i te = g := by
 unfold memV
 rw [List.mem_filter, List.mem_range, beq_iff_eq]
theorem free_ex {L : List Ln} {z : Nat} {p : Pn} (h : Cons L z p) {te : Bool} {g i : Nat} (hg : g < 8) (hi : i < L.length) (hv : vx L i te = g) (hS : p.S i = -1) (hc : (memV L te g).length ≤ z) : ∃ s, s < z ∧ vP p te g s = -1 ∧ ∀ s', s' < s → vP p te g s' ≠ -1 := by
 have hex : ∃ s, s < z ∧ vP p te g s = -1 := by
  refine Classical.byContradiction fun hno => ?_
  have hall : ∀ s, s < z → ∃ j : Nat, j < L.length ∧ vP p te g s = j ∧ vx L j te = g ∧ p.S j = s := fun s hs => by
   rcases h.v te g s hg hs with e | e
   · exact absurd ⟨s, hs, e⟩ hno
   · exact e
  have hn : (i :: (List.range z).map fun s => (vP p te g s).toNat).Nodup := by
   rw [List.nodup_cons]
   refine ⟨fun hm => ?_, ?_⟩
   · obtain ⟨s, hs, e⟩ := List.mem_map.1 hm
     obtain ⟨j, hj, e1, e2, e3⟩ := hall s (List.mem_range.1 hs)
     have e : (vP p te g s).toNat = i := e
     rw [e1, Int.toNat_natCast] at e
     subst e
     omega
   · unfold List.Nodup
     rw [List.pairwise_map]
     refine List.Pairwise.imp_of_mem ?_ List.nodup_range
     intro s s' hs hs' hne
     obtain ⟨j, hj, e1, e2, e3⟩ := hall s (List.mem_range.1 hs)
     obtain ⟨j', hj', e1', e2', e3'⟩ := hall s' (List.mem_range.1 hs')
     rw [e1, e1', Int.toNat_natCast, Int.toNat_natCast]
     intro e
     subst e
     omega
  have := nodup_sub _ (memV L te g) hn fun x hx => by
   rcases List.mem_cons.1 hx with rfl | hx
   · exact mem_memV.2 ⟨hi, hv⟩
   · obtain ⟨s, hs, e⟩ := List.mem_map.1 hx
     obtain ⟨j, hj, e1, e2, e3⟩ := hall s (List.mem_range.1 hs)
     have e : (vP p te g s).toNat = x := e
     rw [e1, Int.toNat_natCast] at e
     subst e
     exact mem_memV.2 ⟨hj, e2⟩
  rw [List.length_cons, List.length_map, List.length_range] at this
  omega
 obtain ⟨s, hs, e⟩ := hex
 obtain ⟨m, h1, h2, h3⟩ := least_ex (P := fun s => vP p te g s = -1) s e
 exact ⟨m, by omega, h2, h3⟩
theorem place_cons {L : List Ln} {z : Nat} {p : Pn} (h : Cons L z p) (hz : z ≤ 40) (hx : ∀ i, i < L.length → ∀ te, vx L i te < 8) {i : Nat} (hi : i < L.length) (hS : p.S i = -1) (hc : ∀ te, (memV L te (vx L i te)).length ≤ z) :
 ∃ (p' : Pn) (a b : Nat), a < z ∧ b < z ∧ p.A ((lnAt L i).g.toNat * 40 + a) = -1 ∧ (∀ s, s < a → p.A ((lnAt L i).g.toNat * 40 + s) ≠ -1) ∧ p.B ((lnAt L i).t.toNat * 40 + b) = -1 ∧ (∀ s, s < b → p.B ((lnAt L i).t.toNat * 40 + s) ≠ -1) ∧
  ((p.B (tAt (lnAt L i) a) = -1 ∧ p' = putF (lnAt L i) p i a) ∨ ∃ (k : Nat) (l : List Nat), p.B (tAt (lnAt L i) a) = (k : Int) ∧ p.S k = a ∧ ChL L p ((a : Int) + b) k (k :: l) (p.S k) false ∧ (k :: l).Nodup ∧ (∀ j ∈ k :: l, p.S j = a ∨ p.S j = b) ∧ p' = putF (lnAt L i) (turnF L ((a : Int) + b) (k :: l) p) i a) ∧
  Cons L z p' ∧ ∀ j, p'.S j = -1 ↔ (p.S j = -1 ∧ j ≠ i) := by
 obtain ⟨a, ha, ha1, ha2⟩ := free_ex h (te := false) (hx i hi false) hi rfl hS (hc false)
 obtain ⟨b, hb, hb1, hb2⟩ := free_ex h (te := true) (hx i hi true) hi rfl hS (hc true)
 rcases h.v true (vx L i true) a (hx i hi true) ha with e | ⟨k, hk, e1, e2, e3⟩
 · refine ⟨putF (lnAt L i) p i a, a, b, ha, hb, ha1, ha2, hb1, hb2, .inl ⟨by unfold tAt; rw [Int.toNat_natCast]; exact e, rfl⟩, h.on hz hi hS ha fun te => by cases te <;> assumption, fun j => ?_⟩
   rw [putF_S, upd_at]
   by_cases hj : j = i
   · subst hj; simp
   · simp [hj]
 · have hab : a ≠ b := fun e => by rw [e] at e1; rw [hb1] at e1; omega
   obtain ⟨r, c1, c2, c3, c4, c5, c6, c7⟩ := ch_ex (s0 := (a : Int)) (te0 := false) h hx ha hb hab (.inl rfl) k L.length [] k (by simp) (by simp) (fun j hj => by simp only [List.mem_singleton] at hj; subst hj; exact ⟨hk, .inl e3⟩) (fun u hu => by simp only [List.mem_singleton] at hu; exact .inl hu)
   have e4 : tfB (a : Int) false (p.S k) = false := by unfold tfB; rw [e3, if_pos rfl]
   rw [e4] at c1
   rw [List.append_nil] at c2
   have hclo := ch_clo h hx ha hb hab e3 c3 c4 c5 (by rw [show vx L k (!false) = vx L i true from e2]; exact hb1)
   have eq : ((a : Int) + b) = ((a + b : Nat) : Int) := by omega
   obtain ⟨t1, t2⟩ := turn_cons hz hx h c2 (fun j hj => by
    obtain ⟨q1, q2⟩ := c3 j hj
    refine ⟨q1, ?_⟩
    rcases q2 with q2 | q2
    · exact ⟨a, q2, by omega, by omega⟩
    · exact ⟨b, q2, by omega, by omega⟩) hclo
   have hil : i ∉ k :: r := fun hm => by rcases (c3 i hm).2 with e | e <;> omega
   have hS2 : (turnF L ((a + b : Nat) : Int) (k :: r) p).S i = -1 := by rw [t2, if_neg hil]; exact hS
   have hfree : ∀ te, vP (turnF L ((a + b : Nat) : Int) (k :: r) p) te (vx L i te) a = -1 := fun te => by
    rcases t1.v te (vx L i te) a (hx i hi te) ha with e | ⟨j, hj, f1, f2, f3⟩
    · exact e
    · exfalso
      rw [t2] at f3
      by_cases hjl : j ∈ k :: r
      · rw [if_pos hjl] at f3
        have hSj : p.S j = b := by omega
        cases te with
        | true =>
         have := h.a j hj b hSj true
         rw [f2, hb1] at this; omega
        | false =>
         rcases List.mem_cons.1 hjl with e | hjr
         · rw [e, e3] at hSj; omega
         · obtain ⟨u, hu, hst⟩ := c5 j hjr
           obtain ⟨hul, huS⟩ := c3 u hu
           rcases stp_some (s0 := (a : Int)) (te0 := false) h hx ha hb hul huS with e | ⟨j', _, g1, g2, g3⟩
           · omega
           · have : j' = j := by omega
             subst this
             have hSu : p.S u = a := by omega
             have htf : tfB (a : Int) false (p.S u) = false := by unfold tfB; rw [hSu, if_pos rfl]
             rw [htf] at g3
             have := h.a u hul a hSu false
             rw [← g3, f2, ha1] at this; omega
      · rw [if_neg hjl] at f3
        have := h.a j hj a f3 te
        rw [f2] at this
        cases te with
        | true =>
         rw [e1] at this
         have : k = j := by omega
         subst this
         exact hjl List.mem_cons_self
        | false => rw [ha1] at this; omega
   refine ⟨putF (lnAt L i) (turnF L ((a : Int) + b) (k :: r) p) i a, a, b, ha, hb, ha1, ha2, hb1, hb2, .inr ⟨k, r, by unfold tAt; rw [Int.toNat_natCast]; exact e1, e3, by rw [eq]; exact c1, c2, fun j hj => (c3 j hj).2, rfl⟩, ?_, fun j => ?_⟩
   · rw [eq]; exact t1.on hz hi hS2 ha hfree
   · rw [eq, putF_S, upd_at]
     by_cases hj : j = i
     · subst hj; simp
     · rw [if_neg hj, t2]
       split
       · rename_i hjl
         have := (c3 j hjl).2
         constructor
         · intro e; omega
         · intro e; omega
       · simp [hj]
end Go.Proofs.YtkbfcofifhngfaaGreat
namespace Go.Proofs.YtkbfcofifhngfaaGreat
open Go
theorem cntS_list (S : Nat → Int) (s : Nat) : ∀ n, cntS S n s = (((List.range n).filter fun i => decide (S i = s)).length : Nat)
 | 0 => rfl
 | n + 1 => by
  rw [cntS, cntS_list S s n, List.range_succ, List.filter_append, List.length_append]
  by_cases h : S n = s
  · rw [if_pos h, List.filter_cons_of_pos (by simpa using h)]; simp
  · rw [if_neg h, List.filter_cons_of_neg (by simpa using h)]; simp
theorem cntS_upd (S : Nat → Int) (j : Nat) (v : Int) (s : Nat) : ∀ {n}, j < n → cntS (updF S j v) n s = cntS S n s - (if S j = s then 1 else 0) + (if v = s then 1 else 0)
 | n + 1, h => by
  have hc : ∀ m, m ≤ j → cntS (updF S j v) m s = cntS S m s := fun m => by
   induction m with
   | zero => intro _; rfl
   | succ m ih => intro hm; rw [cntS, cntS, ih (by omega), show updF S j v m = S m from if_neg (by omega)]
  by_cases hj : j = n
  · subst hj
    rw [cntS, cntS, hc j (Nat.le_refl _), show updF S j v j = v from if_pos rfl]; omega
  · rw [cntS, cntS, cntS_upd S j v s (by omega), show updF S j v n = S n from if_neg (fun e => hj e.symm)]; omega
theorem cntS_congr {S S' : Nat → Int} {s : Nat} : ∀ {n}, (∀ i, i < n → S i = S' i) → cntS S n s = cntS S' n s
 | 0, _ => rfl
 | n + 1, h => by rw [cntS, cntS, cntS_congr fun i hi => h i (by omega), h n (by omega)]
theorem cntS_turn (g : Nat → Int) (s n : Nat) : ∀ (l : List Nat) (S : Nat → Int), l.Nodup → (∀ i ∈ l, i < n) → cntS (fun j => if j ∈ l then g j else S j) n s = cntS S n s + (l.map fun j => (if g j = s then 1 else 0) - (if S j = s then (1 : Int) else 0)).sum
 | [], S, _, _ => by
  rw [cntS_congr (S' := S) fun i _ => if_neg (by simp)]; simp
 | a :: l, S, hn, hl => by
  rw [List.nodup_cons] at hn
  have ih := cntS_turn g s n l (updF S a (g a)) hn.2 fun i hi => hl i (List.mem_cons_of_mem _ hi)
  rw [cntS_upd S a (g a) s (hl a List.mem_cons_self)] at ih
  have e1 : (fun j => if j ∈ l then g j else updF S a (g a) j) = fun j => if j ∈ a :: l then g j else S j := by
   funext j
   rw [upd_at]
   by_cases hj : j ∈ l
   · simp [hj]
   · by_cases hja : j = a
     · subst hja; simp
     · simp [hj, hja]
  have e2 : (l.map fun j => (if g j = s then 1 else 0) - (if updF S a (g a) j = s then (1 : Int) else 0)) = l.map fun j => (if g j = s then 1 else 0) - (if S j = s then (1 : Int) else 0) := List.map_congr_left fun j hj => by
   rw [show updF S a (g a) j = S j from if_neg (fun e : j = a => hn.1 (e ▸ hj))]
  rw [e1, e2] at ih
  rw [ih, List.map_cons, List.sum_cons]
  omega
section
variable {L : List Ln} {z f t : Nat} {p : Pn}
theorem bfP_v (i : Nat) (te : Bool) : bfP L p (t : Int) i te = vP p (!te) (vx L i (!te)) t := by
 cases te with
 | true =>
  show p.A (gAt (lnAt L i) t) = p.A ((lnAt L i).g.toNat * 40 + t)
  unfold gAt; rw [Int.toNat_natCast]
 | false =>
  show p.B (tAt (lnAt L i) t) = p.B ((lnAt L i).t.toNat * 40 + t)
  unfold tAt; rw [Int.toNat_natCast]
theorem chl_ex (h : Cons L z p) (hx : ∀ i, i < L.length → ∀ te, vx L i te < 8) (hf : f < z) (ht : t < z) (hft : f ≠ t) : ∃ chl : Nat → Bool → List Nat, ∀ i, i < L.length → p.S i = f → ∀ te,
 ChL L p ((f + t : Nat) : Int) i (i :: chl i te) (p.S i) te ∧ (i :: chl i te).Nodup ∧ (∀ j ∈ i :: chl i te, j < L.length ∧ (p.S j = f ∨ p.S j = t)) ∧
  (∀ j ∈ i :: chl i te, stp L p ((f + t : Nat) : Int) f te j = -1 ∨ stp L p ((f + t : Nat) : Int) f te j = i ∨ ∃ u ∈ chl i te, stp L p ((f + t : Nat) : Int) f te j = (u : Int)) ∧
  (∀ j ∈ chl i te, ∃ u ∈ i :: chl i te, stp L p ((f + t : Nat) : Int) f te u = (j : Int)) ∧
  (∃ e ∈ i :: chl i te, (stp L p ((f + t : Nat) : Int) f te e = -1 ∨ stp L p ((f + t : Nat) : Int) f te e = i) ∧ p.S e = if (i :: chl i te).length % 2 = 1 then p.S i else ((f + t : Nat) : Int) - p.S i) ∧
  (((i :: chl i te).map fun j => sgF f (p.S j)).sum = if (i :: chl i te).length % 2 = 1 then sgF f (p.S i) else 0) ∧ ∀ e ∈ i :: chl i te, ∃ k, Rch L p f t f te k i e := by
 have key : ∀ (x : Nat × Bool), ∃ r : List Nat, x.1 < L.length → p.S x.1 = f →
  ChL L p ((f + t : Nat) : Int) x.1 (x.1 :: r) (p.S x.1) x.2 ∧ (x.1 :: r).Nodup ∧ (∀ j ∈ x.1 :: r, j < L.length ∧ (p.S j = f ∨ p.S j = t)) ∧
   (∀ j ∈ x.1 :: r, stp L p ((f + t : Nat) : Int) f x.2 j = -1 ∨ stp L p ((f + t : Nat) : Int) f x.2 j = x.1 ∨ ∃ u ∈ r, stp L p ((f + t : Nat) : Int) f x.2 j = (u : Int)) ∧
   (∀ j ∈ r, ∃ u ∈ x.1 :: r, stp L p ((f + t : Nat) : Int) f x.2 u = (j : Int)) ∧
   (∃ e ∈ x.1 :: r, (stp L p ((f + t : Nat) : Int) f x.2 e = -1 ∨ stp L p ((f + t : Nat) : Int) f x.2 e = x.1) ∧ p.S e = if (x.1 :: r).length % 2 = 1 then p.S x.1 else ((f + t : Nat) : Int) - p.S x.1) ∧
   (((x.1 :: r).map fun j => sgF f (p.S j)).sum = if (x.1 :: r).length % 2 = 1 then sgF f (p.S x.1) else 0) ∧ ∀ e ∈ x.1 :: r, ∃ k, Rch L p f t f x.2 k x.1 e := by
  rintro ⟨i, te⟩
  by_cases hi : i < L.length ∧ p.S i = f
  · obtain ⟨r, c1, c2, c3, c4, c5, c6, c7, c8⟩ := ch_ex (s0 := (f : Int)) (te0 := te) h hx hf ht hft (.inl rfl) i L.length [] i (by simp) (by simp) (fun j hj => by simp only [List.mem_singleton] at hj; subst hj; exact ⟨hi.1, .inl hi.2⟩) (fun u hu => by simp only [List.mem_singleton] at hu; exact .inl hu)
    rw [List.append_nil] at c2
    rw [show tfB (f : Int) te (p.S i) = te from by unfold tfB; rw [hi.2, if_pos rfl]] at c1
    exact ⟨r, fun _ _ => ⟨c1, c2, c3, c4, c5, c6, c7, c8⟩⟩
  · exact ⟨[], fun h1 h2 => absurd ⟨h1, h2⟩ hi⟩
 exact ⟨fun i te => Classical.choose (key (i, te)), fun i hi hS te => Classical.choose_spec (key (i, te)) hi hS⟩
theorem find_ex (h : Cons L z p) (hx : ∀ i, i < L.length → ∀ te, vx L i te < 8) (hf : f < z) (ht : t < z) (hft : f ≠ t) (hlt : cntS p.S L.length t < cntS p.S L.length f) {chl : Nat → Bool → List Nat}
 (hC : ∀ i, i < L.length → p.S i = f → ∀ te, (∃ e ∈ i :: chl i te, (stp L p ((f + t : Nat) : Int) f te e = -1 ∨ stp L p ((f + t : Nat) : Int) f te e = i) ∧ p.S e = if (i :: chl i te).length % 2 = 1 then p.S i else ((f + t : Nat) : Int) - p.S i) ∧ (∀ j ∈ i :: chl i te, j < L.length ∧ (p.S j = f ∨ p.S j = t)) ∧ ∀ e ∈ i :: chl i te, ∃ k, Rch L p f t f te k i e) :
 ∃ i te, i < L.length ∧ fndP L p f t chl i te := by
 refine Classical.byContradiction fun hno => ?_
 let R : Nat → Nat → Prop := fun i j => vP p true (vx L i true) t = j ∨ (vP p true (vx L i true) t = -1 ∧ (stp L p ((f + t : Nat) : Int) f false j = -1 ∨ stp L p ((f + t : Nat) : Int) f false j = i) ∧ ∃ k, Rch L p f t f false k i j)
 have hR : ∀ i, i < L.length → p.S i = f → ∃ j, R i j ∧ j < L.length ∧ p.S j = t := fun i hi hS => by
  rcases h.v true (vx L i true) t (hx i hi true) ht with e | ⟨j, hj, e1, e2, e3⟩
  · obtain ⟨⟨e', he, h1, h2⟩, h3, h4⟩ := hC i hi hS false
    by_cases hodd : (i :: chl i false).length % 2 = 1
    · exact absurd ⟨i, false, hi, hS, by rw [bfP_v]; exact e, hodd⟩ hno
    · rw [if_neg hodd, hS] at h2
      exact ⟨e', .inr ⟨e, h1, h4 e' he⟩, (h3 e' he).1, by omega⟩
  · exact ⟨j, .inl e1, hj, e3⟩
 have hst : ∀ j, p.S j = t → stp L p ((f + t : Nat) : Int) f false j = vP p true (vx L j true) f := fun j hS => by
  unfold stp
  rw [nxP_v, hS, show tfB (f : Int) false (t : Int) = true from by unfold tfB; rw [if_neg (by omega)]; rfl, show (((f + t : Nat) : Int) - (t : Int)).toNat = f from by omega]
 have hnb : ∀ i j, i < L.length → p.S i = f → j < L.length → p.S j = t → vP p true (vx L i true) t = j → vP p true (vx L j true) f = i := fun i j hi hS hj hSj e => by
  rcases h.v true (vx L i true) t (hx i hi true) ht with e' | ⟨j', hj', e1, e2, e3⟩
  · rw [e] at e'; omega
  · have : j' = j := by omega
    subst this
    rw [e2]; exact h.a i hi f hS true
 have hinj : ∀ i i' j, i < L.length → p.S i = f → i' < L.length → p.S i' = f → j < L.length → p.S j = t → R i j → R i' j → i = i' := by
  have hAB : ∀ i i' j, i < L.length → p.S i = f → i' < L.length → p.S i' = f → j < L.length → p.S j = t → vP p true (vx L i true) t = j → (stp L p ((f + t : Nat) : Int) f false j = -1 ∨ stp L p ((f + t : Nat) : Int) f false j = i') → i = i' := fun i i' j hi hS hi' hS' hj hSj e h2 => by
   have := hnb i j hi hS hj hSj e
   rw [hst j hSj, this] at h2
   omega
  have hBB : ∀ k k' i i' j, i < L.length → p.S i = f → vP p true (vx L i true) t = -1 → Rch L p f t f false k i j → Rch L p f t f false (k + k') i' j → i = i' := fun k k' i i' j hi hS hm h1 h2 => by
   have := Rch.back h hx hf ht h1 h2
   cases k' with
   | zero => exact (show i' = i from this).symm
   | succ k' =>
    exfalso
    obtain ⟨d, d1, d2, d3⟩ := this
    rcases stp_some (s0 := (f : Int)) (te0 := false) h hx hf ht d2.1 d2.2 with e | ⟨u, hu, u1, u2, u3⟩
    · omega
    · have : u = i := by omega
      subst this
      have hSd : p.S d = t := by omega
      rw [hSd, show tfB (f : Int) false (t : Int) = true from by unfold tfB; rw [if_neg (by omega)]; rfl] at u3
      have := h.a d d2.1 t hSd true
      rw [← u3, hm] at this; omega
  intro i i' j hi hS hi' hS' hj hSj h1 h2
  rcases h1 with h1 | ⟨a1, a2, k, a3⟩
  · rcases h2 with h2 | ⟨b1, b2, k', b3⟩
    · have q1 := hnb i j hi hS hj hSj h1
      have q2 := hnb i' j hi' hS' hj hSj h2
      omega
    · exact hAB i i' j hi hS hi' hS' hj hSj h1 b2
  · rcases h2 with h2 | ⟨b1, b2, k', b3⟩
    · exact (hAB i' i j hi' hS' hi hS hj hSj h2 a2).symm
    · rcases Nat.le_total k k' with hk | hk
      · obtain ⟨m, rfl⟩ := Nat.exists_eq_add_of_le hk
        exact hBB k m i i' j hi hS a1 a3 b3
      · obtain ⟨m, rfl⟩ := Nat.exists_eq_add_of_le hk
        exact (hBB k' m i' i j hi' hS' b1 b3 a3).symm
 have hR2 : ∀ i, ∃ j, i < L.length → p.S i = f → R i j ∧ j < L.length ∧ p.S j = t := fun i => by
  by_cases hi : i < L.length ∧ p.S i = f
  · obtain ⟨j, hj⟩ := hR i hi.1 hi.2
    exact ⟨j, fun _ _ => hj⟩
  · exact ⟨0, fun h1 h2 => absurd ⟨h1, h2⟩ hi⟩
 have hφ : ∃ φ : Nat → Nat, ∀ i, i < L.length → p.S i = f → R i (φ i) ∧ φ i < L.length ∧ p.S (φ i) = t := ⟨fun i => Classical.choose (hR2 i), fun i => Classical.choose_spec (hR2 i)⟩
 obtain ⟨φ, hφ⟩ := hφ
 have hle := nodup_sub (((List.range L.length).filter fun i => decide (p.S i = f)).map φ) ((List.range L.length).filter fun i => decide (p.S i = t)) (by
  unfold List.Nodup
  rw [List.pairwise_map]
  refine List.Pairwise.imp_of_mem ?_ (List.Pairwise.filter _ List.nodup_range)
  intro i i' hi hi' hne
  have q := List.mem_filter.1 hi
  have q' := List.mem_filter.1 hi'
  obtain ⟨r1, r2, r3⟩ := hφ i (List.mem_range.1 q.1) (of_decide_eq_true q.2)
  obtain ⟨r1', r2', r3'⟩ := hφ i' (List.mem_range.1 q'.1) (of_decide_eq_true q'.2)
  intro e
  rw [← e] at r1' r2' r3'
  exact hne (hinj i i' (φ i) (List.mem_range.1 q.1) (of_decide_eq_true q.2) (List.mem_range.1 q'.1) (of_decide_eq_true q'.2) r2 r3 r1 r1')) (fun x hx => by
  obtain ⟨i, hi, rfl⟩ := List.mem_map.1 hx
  have q := List.mem_filter.1 hi
  obtain ⟨r1, r2, r3⟩ := hφ i (List.mem_range.1 q.1) (of_decide_eq_true q.2)
  exact List.mem_filter.2 ⟨List.mem_range.2 r2, decide_eq_true r3⟩)
 rw [List.length_map] at hle
 rw [cntS_list, cntS_list] at hlt
 omega
theorem even_cons (h : Cons L z p) (hz : z ≤ 40) (hx : ∀ i, i < L.length → ∀ te, vx L i te < 8) (hall : ∀ i, i < L.length → ∃ s : Nat, s < z ∧ p.S i = s) (hf : f < z) (ht : t < z) (hlt : cntS p.S L.length t < cntS p.S L.length f) :
 ∃ (chl : Nat → Bool → List Nat) (i0 : Nat) (te0 : Bool),
  (∀ i, i < L.length → p.S i = f → ∀ te, ChL L p ((f : Int) + t) i (i :: chl i te) (p.S i) te ∧ (i :: chl i te).length ≤ L.length ∧ (i :: chl i te).Nodup ∧ ∀ j ∈ i :: chl i te, p.S j = f ∨ p.S j = t) ∧
  i0 < L.length ∧ (∀ i te, i < i0 → ¬ fndP L p f t chl i te) ∧ fndP L p f t chl i0 te0 ∧ (te0 = true → ¬ fndP L p f t chl i0 false) ∧
  Cons L z (turnF L ((f : Int) + t) (i0 :: chl i0 te0) p) ∧ (∀ i, i < L.length → ∃ s : Nat, s < z ∧ (turnF L ((f : Int) + t) (i0 :: chl i0 te0) p).S i = s) ∧
  ∀ s : Nat, cntS (turnF L ((f : Int) + t) (i0 :: chl i0 te0) p).S L.length s = cntS p.S L.length s + (if s = t then 1 else 0) - (if s = f then 1 else 0) := by
 have hft : f ≠ t := fun e => by subst e; omega
 obtain ⟨chl, hC⟩ := chl_ex h hx hf ht hft
 have hfx := find_ex h hx hf ht hft hlt (chl := chl) fun i hi hS te => by
  obtain ⟨c1, c2, c3, c4, c5, c6, c7, c8⟩ := hC i hi hS te
  exact ⟨c6, c3, c8⟩
 obtain ⟨i1, te1, hi1, hf1⟩ := hfx
 obtain ⟨i0, h1, ⟨te', h2⟩, h3⟩ := least_ex (P := fun i => ∃ te, fndP L p f t chl i te) i1 ⟨te1, hf1⟩
 have hi0 : i0 < L.length := by omega
 have hte : ∃ te0, fndP L p f t chl i0 te0 ∧ (te0 = true → ¬ fndP L p f t chl i0 false) := by
  by_cases hfa : fndP L p f t chl i0 false
  · exact ⟨false, hfa, fun e => by cases e⟩
  · cases te' with
    | false => exact absurd h2 hfa
    | true => exact ⟨true, h2, fun _ => hfa⟩
 obtain ⟨te0, h4, h5⟩ := hte
 have eq : ((f : Int) + t) = ((f + t : Nat) : Int) := by omega
 obtain ⟨hS0, hb0, hodd⟩ := h4
 obtain ⟨c1, c2, c3, c4, c5, c6, c7, c8⟩ := hC i0 hi0 hS0 te0
 rw [bfP_v] at hb0
 have hclo := ch_clo h hx hf ht hft hS0 c3 c4 c5 hb0
 obtain ⟨t1, t2⟩ := turn_cons hz hx h c2 (fun j hj => by
  obtain ⟨q1, q2⟩ := c3 j hj
  refine ⟨q1, ?_⟩
  rcases q2 with q2 | q2
  · exact ⟨f, q2, by omega, by omega⟩
  · exact ⟨t, q2, by omega, by omega⟩) hclo
 rw [eq]
 refine ⟨chl, i0, te0, fun i hi hS te => ?_, hi0, fun i te hlt hfn => h3 i hlt ⟨te, hfn⟩, ⟨hS0, by rw [bfP_v]; exact hb0, hodd⟩, h5, t1, fun i hi => ?_, fun s => ?_⟩
 · obtain ⟨d1, d2, d3, d4, d5, d6, d7, d8⟩ := hC i hi hS te
   exact ⟨d1, nodup_len _ _ d2 fun x hx => (d3 x hx).1, d2, fun j hj => (d3 j hj).2⟩
 · rw [t2]
   split
   · rename_i hm
     rcases (c3 i hm).2 with q | q
     · exact ⟨t, ht, by rw [q]; omega⟩
     · exact ⟨f, hf, by rw [q]; omega⟩
   · exact hall i hi
 · have e : (turnF L ((f + t : Nat) : Int) (i0 :: chl i0 te0) p).S = fun j => if j ∈ i0 :: chl i0 te0 then ((f + t : Nat) : Int) - p.S j else p.S j := funext t2
   rw [e, cntS_turn _ _ _ _ _ c2 fun i hi => (c3 i hi).1]
   rw [if_pos hodd, hS0, show sgF f (f : Int) = 1 from if_pos rfl] at c7
   have key : ∀ l : List Nat, (∀ j ∈ l, p.S j = f ∨ p.S j = t) → (l.map fun j => (if ((f + t : Nat) : Int) - p.S j = s then 1 else 0) - (if p.S j = s then (1 : Int) else 0)).sum = (if s = t then (l.map fun j => sgF f (p.S j)).sum else 0) - (if s = f then (l.map fun j => sgF f (p.S j)).sum else 0) := fun l => by
    induction l with
    | nil => intro _; simp
    | cons a l ih =>
     intro hl
     rw [List.map_cons, List.sum_cons, ih fun j hj => hl j (List.mem_cons_of_mem _ hj), List.map_cons, List.sum_cons]
     have ha := hl a List.mem_cons_self
     unfold sgF
     generalize (l.map fun j => sgF f (p.S j)).sum = X
     generalize p.S a = y at *
     clear ih c1 c2 c3 c4 c5 c6 c7 c8 t1 t2 hC hclo
     by_cases e1 : s = t
     · have e2 : ¬ s = f := by omega
       rw [if_pos e1, if_neg e2, if_pos e1, if_neg e2]
       rcases ha with ha | ha
       · rw [if_pos (show ((f + t : Nat) : Int) - y = s by omega), if_neg (show ¬ y = s by omega), if_pos ha]; omega
       · rw [if_neg (show ¬ ((f + t : Nat) : Int) - y = s by omega), if_pos (show y = s by omega), if_neg (show ¬ y = f by omega)]; omega
     · rw [if_neg e1, if_neg e1]
       by_cases e2 : s = f
       · rw [if_pos e2, if_pos e2]
         rcases ha with ha | ha
         · rw [if_neg (show ¬ ((f + t : Nat) : Int) - y = s by omega), if_pos (show y = s by omega), if_pos ha]; omega
         · rw [if_pos (show ((f + t : Nat) : Int) - y = s by omega), if_neg (show ¬ y = s by omega), if_neg (show ¬ y = f by omega)]; omega
       · rw [if_neg e2, if_neg e2, if_neg (show ¬ ((f + t : Nat) : Int) - y = s by omega), if_neg (show ¬ y = s by omega)]; omega
   rw [key _ fun j hj => (c3 j hj).2, c7]
   omega
end
end Go.Proofs.YtkbfcofifhngfaaGreat
namespace Go.Proofs.YtkbfcofifhngfaaGreat
open Go
theorem sum_split {α : Type} (Q : α → Bool) (key : α → Int) (n : Nat) : ∀ L : List α, (∀ x ∈ L, ∃ b : Nat, key x = b ∧ b < n) → (L.map fun x => b1 (Q x)).sum = sumN (fun i => (L.map fun x => b1 (Q x && decide (key x = (i : Int)))).sum) n
 | [], _ => (sumN_zero n).symm
 | x :: l, h => by
  have ih := sum_split Q key n l fun y hy => h y (List.mem_cons_of_mem _ hy)
  rw [List.map_cons, List.sum_cons, ih]
  have e2 : ∀ i : Nat, ((x :: l).map fun x => b1 (Q x && decide (key x = (i : Int)))).sum = b1 (Q x && decide (key x = (i : Int))) + (l.map fun x => b1 (Q x && decide (key x = (i : Int)))).sum := fun i => by rw [List.map_cons, List.sum_cons]
  rw [sumN_congr fun i _ => e2 i, sumN_add]
  congr 1
  obtain ⟨b, hb, hbn⟩ := h x List.mem_cons_self
  cases hq : Q x with
  | true =>
   have : sumN (fun i => b1 (true && decide (key x = (i : Int)))) n = sumN (fun k => if k = b then 1 else (fun _ : Nat => (0 : Int)) k) n := sumN_congr fun i _ => by
    rw [Bool.true_and, b1_eq]
    by_cases hi : i = b
    · subst hi; rw [if_pos hb, if_pos rfl]
    · rw [if_neg (fun e => hi (by omega)), if_neg hi]
   rw [this, sumN_upd hbn, sumN_zero]; rfl
  | false =>
   have : sumN (fun i => b1 (false && decide (key x = (i : Int)))) n = sumN (fun _ => 0) n := sumN_congr fun i _ => rfl
   rw [this, sumN_zero]; rfl
theorem filter_b1 {α : Type} (P : α → Bool) : ∀ L : List α, ((L.filter P).length : Int) = (L.map fun x => b1 (P x)).sum
 | [] => rfl
 | x :: l => by
  have ih := filter_b1 P l
  rw [List.map_cons, List.sum_cons, ← ih]
  cases h : P x with
  | true => rw [List.filter_cons_of_pos h, List.length_cons]; show ((_ + 1 : Nat) : Int) = 1 + _; omega
  | false => rw [List.filter_cons_of_neg (by rw [h]; decide)]; show _ = 0 + _; omega
theorem lnAt_all (L : List Ln) : (List.range L.length).map (lnAt L) = L := by
 apply List.ext_getElem?
 intro i
 by_cases h : i < L.length
 · rw [List.getElem?_map, List.getElem?_range h, Option.map_some, lnAt_get h]
 · rw [List.getElem?_eq_none (by simp; omega), List.getElem?_eq_none (by omega)]
theorem memV_len (L : List Ln) (te : Bool) (g : Nat) : ((memV L te g).length : Int) = (L.map fun x => b1 (decide ((if te = true then x.t.toNat else x.g.toNat) = g))).sum := by
 rw [← filter_b1]
 congr 1
 have : L.filter (fun x => decide ((if te = true then x.t.toNat else x.g.toNat) = g)) = ((List.range L.length).filter fun i => vx L i te == g).map (lnAt L) := by
  conv => lhs; rw [← lnAt_all L]
  rw [List.filter_map]
  congr 1
 rw [this, List.length_map]
 rfl
theorem rowP_sum {D : SD} (hv : scOk D = true) {g : Nat} (hg : g < D.G.length) : sumN (fun i => rowP D g i) D.su.toNat = ((D.G.getD g []).map id).sum := by
 have e : D.G.getD g [] = D.G[g] := by rw [List.getD_eq_getElem?_getD, List.getElem?_eq_getElem hg]; rfl
 have h1 := (grp_at hv (List.getElem_mem hg)).1
 rw [sumN_list id 0, e, show D.su.toNat = D.G[g].length from by omega]
 exact sumN_congr fun i _ => by unfold rowP; rw [e]; rfl
theorem crF_none {D : SD} : ∀ (n k : Nat), crF D k n = none → ∀ g, k ≤ g → g < k + n → crB D g = false
 | 0, k, _, g, h1, h2 => by omega
 | n + 1, k, h, g, h1, h2 => by
  rw [crF] at h
  split at h
  · cases h
  · rename_i hc
    by_cases hg : g = k
    · subst hg; cases hb : crB D g with
      | false => rfl
      | true => exact absurd hb hc
    · exact crF_none n (k + 1) h g (by omega) (by omega)
structure NoWhy (D : SD) : Prop where
 cr : ∀ g, g < D.G.length → ((D.G.getD g []).map id).sum ≤ D.sl
 un : ∀ m, 1 ≤ m → m ≤ 2 ^ D.su.toNat - 1 → unB D (memL m 6) = false
 fu : hoursP D (numL D.su.toNat) ≤ D.ro * D.sl
theorem noWhy {D : SD} (h : rWhy D = none) : NoWhy D := by
 unfold rWhy at h
 split at h
 · cases h
 · rename_i h1
   split at h
   · cases h
   · rename_i h2
     split at h
     · cases h
     · rename_i h3
       refine ⟨fun g hg => ?_, ?_, by omega⟩
       · have := crF_none D.G.length 0 h1 g (Nat.zero_le _) (by omega)
         unfold crB at this
         have := of_decide_eq_false this
         omega
       · rw [bestK_G] at h2
         exact bestG_none h2
theorem tmB_le {D : SD} (t : Nat) : tmB D t ≤ D.sl := by
 unfold tmB timeP; omega
theorem all_memV {D : SD} (hv : scOk D = true) {L : List Ln} (h : AllOK D L) (hn : NoWhy D) : ∀ i, i < L.length → ∀ te, ((memV L te (vx L i te)).length : Int) ≤ D.sl := by
 intro i hi te
 obtain ⟨a, b, t, hx, ha, hb, ht, hte⟩ := h.rng (lnAt L i) (List.mem_of_getElem? (lnAt_get hi))
 rw [memV_len]
 cases te with
 | true =>
  have e : vx L i true = t := by show (lnAt L i).t.toNat = t; rw [hx]; rfl
  rw [e]
  have : (L.map fun x => b1 (decide ((if (true : Bool) = true then x.t.toNat else x.g.toNat) = t))).sum = cntT L t := by
   unfold cntT
   congr 1
   refine List.map_congr_left fun x hx => ?_
   obtain ⟨a', b', t', rfl, _, _, _, _⟩ := h.rng x hx
   show b1 (decide ((t' : Int).toNat = t)) = b1 (decide ((t' : Int) = (t : Int)))
   rw [b1_eq, b1_eq]
   by_cases e : t' = t
   · rw [if_pos (by omega), if_pos (by omega)]
   · rw [if_neg (by omega), if_neg (by omega)]
  rw [this]
  have := h.tea t ht
  have := tmB_le (D := D) t
  omega
 | false =>
  have e : vx L i false = a := by show (lnAt L i).g.toNat = a; rw [hx]; rfl
  rw [e]
  have h1 := sum_split (fun x : Ln => decide (x.g = (a : Int))) (fun x => x.j) D.su.toNat L fun x hx => by
   obtain ⟨a', b', t', rfl, _, hb', _, _⟩ := h.rng x hx
   exact ⟨b', rfl, hb'⟩
  have : (L.map fun x => b1 (decide ((if (false : Bool) = true then x.t.toNat else x.g.toNat) = a))).sum = (L.map fun x => b1 (decide (x.g = (a : Int)))).sum := by
   congr 1
   refine List.map_congr_left fun x hx => ?_
   obtain ⟨a', b', t', rfl, _, _, _, _⟩ := h.rng x hx
   show b1 (decide ((a' : Int).toNat = a)) = b1 (decide ((a' : Int) = (a : Int)))
   rw [b1_eq, b1_eq]
   by_cases e : a' = a
   · rw [if_pos (by omega), if_pos (by omega)]
   · rw [if_neg (by omega), if_neg (by omega)]
  rw [this, h1, sumN_congr (g := fun i => rowP D a i) fun i hi => by
   rw [← h.cnt a ha i hi]
   unfold cGU
   congr 1
   refine List.map_congr_left fun x _ => ?_
   rw [Bool.decide_and], rowP_sum hv ha]
  exact hn.cr a ha
theorem all_len {D : SD} (hv : scOk D = true) {L : List Ln} (h : AllOK D L) (hn : NoWhy D) : (L.length : Int) ≤ D.ro * D.sl := by
 have h0 : (L.length : Int) = (L.map fun x => b1 ((fun _ : Ln => true) x)).sum := by
  rw [← filter_b1]; congr 1; rw [List.filter_eq_self.2 fun _ _ => rfl]
 have h1 := sum_split (fun _ : Ln => true) (fun x => x.g) D.G.length L fun x hx => by
  obtain ⟨a', b', t', rfl, ha', _, _, _⟩ := h.rng x hx
  exact ⟨a', rfl, ha'⟩
 have h2 : ∀ g, g < D.G.length → (L.map fun x => b1 (true && decide (x.g = (g : Int)))).sum = sumN (fun i => rowP D g i) D.su.toNat := fun g hg => by
  have h3 := sum_split (fun x : Ln => decide (x.g = (g : Int))) (fun x => x.j) D.su.toNat L fun x hx => by
   obtain ⟨a', b', t', rfl, _, hb', _, _⟩ := h.rng x hx
   exact ⟨b', rfl, hb'⟩
  simp only [Bool.true_and]
  rw [h3]
  exact sumN_congr fun i hi => by
   rw [← h.cnt g hg i hi]
   unfold cGU
   congr 1
   refine List.map_congr_left fun x _ => ?_
   rw [Bool.decide_and]
 rw [h0, h1, sumN_congr (g := fun g => sumN (fun i => rowP D g i) D.su.toNat) h2]
 have h4 : hoursP D (numL D.su.toNat) = sumN (fun g => sumN (fun i => rowP D g i) D.su.toNat) D.G.length := by
  unfold hoursP
  rw [sumN_list (rowH (numL D.su.toNat)) []]
  refine sumN_congr fun g _ => ?_
  unfold rowH numL
  rw [List.map_map, sumN_list (α := Nat) _ 0, List.length_range]
  refine sumN_congr fun i hi => ?_
  have : (List.range D.su.toNat).getD i 0 = i := by rw [List.getD_eq_getElem?_getD, List.getElem?_range hi]; rfl
  rw [this]
  show (D.G.getD g []).getD ((i : Int)).toNat 0 = _
  rw [Int.toNat_natCast]; rfl
 have := hn.fu
 omega
end Go.Proofs.YtkbfcofifhngfaaGreat
namespace Go.Proofs.YtkbfcofifhngfaaGreat
open Go Tx Go.RowKit
def swF (f : Nat → Ln) (j : Nat) : Nat → Ln := fun k => if k = j then f (j - 1) else if k = j - 1 then f j else f k
def insF : Nat → (Nat → Ln) → (Nat → Ln)
 | 0, f => f
 | j + 1, f => if (f (j + 1)).g < (f j).g then insF j (swF f (j + 1)) else f
def srtF : Nat → (Nat → Ln) → (Nat → Ln)
 | 0, f => f
 | i + 1, f => insF i (srtF i f)
theorem sw_sum (F : Ln → Int) (f : Nat → Ln) {n j : Nat} (h0 : 0 < j) (h : j < n) : sumN (fun k => F (swF f j k)) n = sumN (fun k => F (f k)) n := by
 have e : ∀ k, F (swF f j k) = (fun k => if k = j then F (f (j - 1)) else (fun k => if k = j - 1 then F (f j) else (fun k => F (f k)) k) k) k := fun k => by
  unfold swF
  dsimp only
  split
  · rfl
  · split <;> rfl
 rw [sumN_congr fun k _ => e k, sumN_upd h, sumN_upd (show j - 1 < n by omega)]
 rw [if_neg (by omega)]
 dsimp only
 omega
theorem ins_sum (F : Ln → Int) {n : Nat} : ∀ (j : Nat) (f : Nat → Ln), j < n → sumN (fun k => F (insF j f k)) n = sumN (fun k => F (f k)) n
 | 0, f, _ => rfl
 | j + 1, f, h => by
  rw [insF]
  split
  · rw [ins_sum F j _ (by omega), sw_sum F f (by omega) h]
  · rfl
theorem srt_sum (F : Ln → Int) {n : Nat} (f : Nat → Ln) : ∀ i, i ≤ n → sumN (fun k => F (srtF i f k)) n = sumN (fun k => F (f k)) n
 | 0, _ => rfl
 | i + 1, h => by rw [srtF, ins_sum F i _ (by omega), srt_sum F f i (by omega)]
def InsI (f : Nat → Ln) (i j : Nat) : Prop := ∀ p q, p < q → q ≤ i → q ≠ j → (f p).g ≤ (f q).g
theorem ins_sorted (i : Nat) : ∀ (j : Nat) (f : Nat → Ln), j ≤ i → InsI f i j → ∀ p q, p < q → q ≤ i → (insF j f p).g ≤ (insF j f q).g
 | 0, f, _, h, p, q, h1, h2 => h p q h1 h2 (by omega)
 | j + 1, f, hj, h, p, q, h1, h2 => by
  rw [insF]
  split
  · rename_i hlt
    refine ins_sorted i j _ (by omega) (fun p q h1 h2 h3 => ?_) p q h1 h2
    have a1 : ∀ k, swF f (j + 1) k = if k = j + 1 then f j else if k = j then f (j + 1) else f k := fun k => rfl
    rw [a1, a1]
    by_cases e1 : q = j + 1
    · subst e1
      rw [if_pos rfl, if_neg (by omega)]
      by_cases e2 : p = j
      · rw [if_pos e2]; omega
      · rw [if_neg e2]; exact h p j (by omega) (by omega) (by omega)
    · rw [if_neg e1, if_neg h3]
      by_cases e2 : p = j + 1
      · rw [if_pos e2]; exact h j q (by omega) h2 e1
      · rw [if_neg e2]
        by_cases e3 : p = j
        · rw [if_pos e3]; exact h (j + 1) q (by omega) h2 e1
        · rw [if_neg e3]; exact h p q h1 h2 e1
  · rename_i hge
    by_cases e : q = j + 1
    · subst e
      by_cases e2 : p = j
      · subst e2; omega
      · have := h p j (by omega) (by omega) (by omega); omega
    · exact h p q h1 h2 e
theorem srt_sorted (f : Nat → Ln) : ∀ i p q, p < q → q < i → (srtF i f p).g ≤ (srtF i f q).g
 | 0, p, q, _, h => absurd h (by omega)
 | i + 1, p, q, h1, h2 => by
  rw [srtF]
  exact ins_sorted i i _ (Nat.le_refl _) (fun p q h1 h2 h3 => srt_sorted f i p q h1 (by omega)) p q h1 (by omega)
def lnV (n : Nat) (f : Nat → Ln) : List Value := (List.range n).flatMap fun i => Ln.cs (f i)
theorem lnV_len (n : Nat) (f : Nat → Ln) : (lnV n f).length = n * 3 := by unfold lnV; rw [fm_len (sz := 3) (fun _ => rfl), List.length_range]
theorem lnV_get {n : Nat} (f : Nat → Ln) {k : Nat} (hk : k < n) : ∀ j v, (Ln.cs (f k))[j]? = some v → (lnV n f)[k * 3 + j]? = some v := fun j v hv => fm_get (sz := 3) (f := fun i => Ln.cs (f i)) (fun _ => rfl) hk hv
theorem lnV_set {n : Nat} (f : Nat → Ln) {k : Nat} (hk : k < n) (x : Ln) : lnV n (fun i => if i = k then x else f i) = (lnV n f).take (k * 3) ++ Ln.cs x ++ (lnV n f).drop (k * 3 + 3) := by
 have := fm_set (sz := 3) (f := fun i => Ln.cs (f i)) (fun _ => rfl) (n := n) (k := k) (o := 0) (v := Ln.cs x) hk (by simp)
 simp only [Nat.add_zero] at this
 unfold lnV
 rw [show (Ln.cs x).length = 3 from rfl] at this
 rw [this]
 refine fm_congr fun j _ => ?_
 by_cases e : j = k
 · simp only [if_pos e]; rfl
 · simp only [if_neg e]
theorem cl47_ok (x : Ln) (w : World) : Calls Tryz.prog 47 #[.agg #[iv x.g, iv x.j, iv x.t]] w fun e w' => e = .returned (iv x.g) ∧ Below w.heap.size w w' := by
 obtain ⟨g, j, t⟩ := x
 refine calls_val env mixed Tryz.func47 has47 Tryz.ntmps47 [.agg #[iv g, iv j, iv t]] (by simp) ?_
 repeat'
  conv => whnf
  first
   |refine zB ?_
 all_goals first | exact ⟨fun β => rfl, fun w' h => h⟩
theorem cl91_ok (b : Nat) (x y : Ln) (w : World) (hb : w.heap[b]? = some (.cells #[.func (.func 47) #[] #[]] 100 (0, 0))) (hx : -1000 ≤ x.g ∧ x.g ≤ 1000) (hy : -1000 ≤ y.g ∧ y.g ≤ 1000) :
 Calls Tryz.prog 91 #[.agg #[iv x.g, iv x.j, iv x.t], .agg #[iv y.g, iv y.j, iv y.t], pt b] w fun e w' => e = .returned (iv (x.g - y.g)) ∧ Below w.heap.size w w' := by
 have cx := fun (w' : World) => cl47_ok x w'
 have cy := fun (w' : World) => cl47_ok y w'
 obtain ⟨g, j, t⟩ := x
 obtain ⟨g', j', t'⟩ := y
 dsimp only at hx hy cx cy ⊢
 have e0 := fun (w' : World) (hw : Below w.heap.size w w') => cell_at (C := [.func (.func 47) #[] #[]]) (heap_below hb hw) (o := 0) (v := .func (.func 47) #[] #[]) rfl
 refine calls_val env mixed Tryz.func91 has91 Tryz.ntmps91 [.agg #[iv g, iv j, iv t], .agg #[iv g', iv j', iv t'], pt b] (by simp) ?_
 repeat'
  conv => whnf
  first
   |refine zA ?_|refine zD ?_|refine zF ?_
   |refine eL [.func (.func 47) #[] #[]] ⟨⟨rfl, fun w' hw' => e0 w' hw'⟩, ?_⟩
   |((with_reducible show CallEv _ _ 47 ..); first | refine callE (k := 47) (fun β w' hbw => cx w') ?_ | refine callE (k := 47) (fun β w' hbw => cy w') ?_)
 all_goals exact ⟨fun β => rfl, fun w' h => h⟩
theorem lnV_sw {n : Nat} (f : Nat → Ln) {j : Nat} (h0 : 0 < j) (hj : j < n) : lnV n (swF f j) = ((lnV n (fun i => if i = j then f (j - 1) else f i)).take ((j - 1) * 3) ++ Ln.cs (f j) ++ (lnV n (fun i => if i = j then f (j - 1) else f i)).drop ((j - 1) * 3 + 3)) := by
 rw [← lnV_set (fun i => if i = j then f (j - 1) else f i) (show j - 1 < n by omega) (f j)]
 congr 1
 funext k
 unfold swF
 by_cases e : k = j
 · subst e; rw [if_pos rfl, if_neg (by omega), if_pos rfl]
 · rw [if_neg e]
   split
   · rfl
   · rfl
theorem ins_all {P : Ln → Prop} {n : Nat} : ∀ (j : Nat) (f : Nat → Ln), j < n → (∀ k, k < n → P (f k)) → ∀ k, k < n → P (insF j f k)
 | 0, f, _, h, k, hk => h k hk
 | j + 1, f, hj, h, k, hk => by
  rw [insF]
  split
  · refine ins_all j _ (by omega) (fun k hk => ?_) k hk
    unfold swF
    split
    · exact h _ (by omega)
    · split
      · exact h _ hj
      · exact h k hk
  · exact h k hk
theorem srt_all {P : Ln → Prop} {n : Nat} (f : Nat → Ln) (h : ∀ k, k < n → P (f k)) : ∀ i, i ≤ n → ∀ k, k < n → P (srtF i f k)
 | 0, _, k, hk => h k hk
 | i + 1, hi, k, hk => ins_all i _ (by omega) (srt_all f h i (by omega)) k hk
theorem lnV_ro {n k o : Nat} (f : Nat → Ln) (ho : o = k * 3) (hk : k < n) : ∀ q v, (Ln.cs (f k))[q]? = some v → (lnV n f)[o + q]? = some v := fun q v hq => by subst ho; exact lnV_get f hk q v hq
theorem ins152 (n : Nat) (f0 : Nat → Ln) (bx : Nat) (hn : n ≤ 12) (hb : ∀ k, k < n → 0 ≤ (f0 k).g ∧ (f0 k).g ≤ 7) {β : Nat → Nat} {w : World} (hok : Blk.ok β w (β 0) (.own 1 n 3 (lnV n f0) 46))
 (hbx : ∀ w', Chg (fun b => b = β 0) w w' → w'.heap[bx]? = some (.cells #[.func (.func 47) #[] #[]] 100 (0, 0))) :
 Calls Tryz.prog 152 (SV.cs β [.os 0 1 n, .v (iv 0), .v (iv n), .v (.func (.func 91) #[] #[pt bx])]).toArray w fun e w' => e = .returned (.tuple #[]) ∧ Chg (fun b => b = β 0) w w' ∧ Blk.ok β w' (β 0) (.own 1 n 3 (lnV n (srtF n f0)) 46) := by
 have hl0 : ∀ (x : List Value) i b, lk [(0, Blk.own 1 n 3 x 46)] i = some b → i = 0 ∧ b = .own 1 n 3 x 46 := fun x i b hi => by
  by_cases h : i = 0
  · subst h; rw [lk_cons_eq] at hi; exact ⟨rfl, (Option.some.inj hi).symm⟩
  · rw [lk_cons_ne h] at hi; simp [lk] at hi
 have hch : ∀ w', Chg (fun b => ∃ i bk, lk [(0, Blk.own 1 n 3 (lnV n f0) 46)] i = some bk ∧ β i = b) w w' → Chg (fun b => b = β 0) w w' := fun w' hc => ⟨hc.os, hc.tape, hc.output, hc.size, fun b hlt hne => hc.same b hlt fun ⟨i, bk, h1, h2⟩ => hne (by rw [(hl0 _ i bk h1).1] at h2; exact h2.symm)⟩
 refine (calls_WS env mixed Tryz.func152 has152 Tryz.ntmps152 [.os 0 1 n, .v (iv 0), .v (iv n), .v (.func (.func 91) #[] #[pt bx])] [(0, .own 1 n 3 (lnV n f0) 46)] [(0, .own 1 n 3 (lnV n (srtF n f0)) 46)] 2 (.tuple #[]) (by simp) rfl rfl rfl (fun i b hi => by obtain ⟨_, rfl⟩ := hl0 _ i b hi; rfl) (Hp := fun w' => w'.heap[bx]? = some (.cells #[.func (.func 47) #[] #[]] 100 (0, 0))) (fun h hh => ?_) (β := β) (w := w) (fun i b hi => by obtain ⟨rfl, rfl⟩ := hl0 _ i b hi; exact hok) (fun i j bi bj h1 h2 hne => absurd ((hl0 _ i bi h1).1.trans (hl0 _ j bj h2).1.symm) hne) (fun w' hc => hbx w' (hch w' hc))).mono fun e w' ⟨h1, h2, h3⟩ => ⟨h1, hch w' h2, h3 0 _ lk_cons_eq⟩
 have ha0 := srt_all (P := fun x : Ln => 0 ≤ x.g ∧ x.g ≤ 7) f0 hb
 repeat'
  conv => whnf
  first
   |refine zF ?_
 refine loopN 2 (fun x : Nat × (Nat → Ln) => [(0, .os 0 1 n), (1, .v (iv 0)), (2, .v (iv n)), (3, .v (.func (.func 91) #[] #[pt bx])), (8, .v (iv x.1))]) (fun x => [(0, .own 1 n 3 (lnV n x.2) 46)]) (fun x => 1 ≤ x.1 ∧ (x.1 ≤ n ∨ n = 0) ∧ x.2 = srtF x.1 f0 ∧ ∀ k, k < n → 0 ≤ (x.2 k).g ∧ (x.2 k).g ≤ 7) (fun x => n - x.1) (1, f0) ⟨Nat.le_refl _, by dsimp only; omega, rfl, hb⟩ ⟨rfl, rfl, rfl, rfl, rfl, trivial⟩ ⟨rfl, trivial⟩ (fun _ _ => ⟨rfl, rfl⟩) ?_
 intro ⟨i, fi⟩ ⟨hi1, hin, hfi, hbi⟩
 dsimp only at hi1 hin hfi hbi ⊢
 rcases Nat.lt_or_ge i n with hil | hil
 · have hnx : srtF (i + 1) f0 = insF i fi := by rw [srtF, hfi]
   repeat'
    conv => whnf
    first
     |(refine splD ?_ ?_ <;> intro hc <;> first|(exfalso; omega)|skip)
   refine loopN 2 (fun x : Nat × (Nat → Ln) => [(0, .os 0 1 n), (1, .v (iv 0)), (2, .v (iv n)), (3, .v (.func (.func 91) #[] #[pt bx])), (8, .v (iv i)), (9, .v (iv x.1))]) (fun x => [(0, .own 1 n 3 (lnV n x.2) 46)]) (fun x => x.1 ≤ i ∧ insF x.1 x.2 = srtF (i + 1) f0 ∧ ∀ k, k < n → 0 ≤ (x.2 k).g ∧ (x.2 k).g ≤ 7) (fun x => x.1) (i, fi) ⟨Nat.le_refl _, hnx.symm, hbi⟩ ⟨rfl, rfl, rfl, rfl, rfl, rfl, trivial⟩ ⟨rfl, trivial⟩ (fun _ _ => ⟨rfl, rfl⟩) ?_
   intro ⟨j, f⟩ ⟨hji, hR, hbf⟩
   dsimp only at hji hR hbf ⊢
   have hbR := ha0 (i + 1) (by omega)
   cases j with
   | zero =>
    have hR : f = srtF (i + 1) f0 := hR
    repeat'
     conv => whnf
     first
      |refine zA ?_|refine zF ?_|refine splF ?_
    all_goals exact ⟨(i + 1, f), ⟨by dsimp only; omega, by dsimp only; omega, hR, hbf⟩, by dsimp only; omega, Ent.weak rfl ⟨rfl, rfl, rfl, rfl, rfl, trivial⟩ ⟨rfl, trivial⟩ fun _ h => h⟩
   | succ j =>
    have hj1 : j + 1 < n := by omega
    have hj0 : j < n := by omega
    have b1 := hbf (j + 1) hj1
    have b0 := hbf j hj0
    have c91 := fun (w' : World) (hw : w'.heap[bx]? = some (.cells #[.func (.func 47) #[] #[]] 100 (0, 0))) => cl91_ok bx (f (j + 1)) (f j) w' hw (by omega) (by omega)
    rw [insF] at hR
    by_cases hlt : (f (j + 1)).g < (f j).g
    · rw [if_pos hlt] at hR
      have hmem : lnV n (swF f (j + 1)) = ((lnV n f).take ((((j + 1 : Nat) : Int)).toNat * 3) ++ Ln.cs (f j) ++ (lnV n f).drop ((((j + 1 : Nat) : Int)).toNat * 3 + 3)).take ((((j + 1 : Nat) : Int) - 1).toNat * 3) ++ Ln.cs (f (j + 1)) ++ ((lnV n f).take ((((j + 1 : Nat) : Int)).toNat * 3) ++ Ln.cs (f j) ++ (lnV n f).drop ((((j + 1 : Nat) : Int)).toNat * 3 + 3)).drop ((((j + 1 : Nat) : Int) - 1).toNat * 3 + 3) := by
       have := lnV_sw f (Nat.succ_pos j) hj1
       rw [lnV_set f hj1] at this
       rw [show (((j + 1 : Nat) : Int)).toNat = j + 1 from by omega, show (((j + 1 : Nat) : Int) - 1).toNat = j from by omega]
       exact this
      have hbs : ∀ k, k < n → 0 ≤ (swF f (j + 1) k).g ∧ (swF f (j + 1) k).g ≤ 7 := fun k hk => by
       unfold swF
       split
       · exact b0
       · split
         · exact b1
         · exact hbf k hk
      repeat'
       conv => whnf
       first
        |refine zA ?_|refine zC ?_|refine zD ?_|refine zF ?_|refine zG ?_
        |(refine splD ?_ ?_ <;> intro hc <;> first|(exfalso; omega)|skip)
        |refine eL [iv (f (j + 1)).g, iv (f (j + 1)).j, iv (f (j + 1)).t] ⟨⟨rfl, lnV_ro (k := j + 1) f (by show (((j + 1 : Nat) : Int)).toNat * 3 = (j + 1) * 3; omega) hj1⟩, ?_⟩
        |refine eL [iv (f (j)).g, iv (f (j)).j, iv (f (j)).t] ⟨⟨rfl, lnV_ro (k := j) f (by show (((j + 1 : Nat) : Int) - 1).toNat * 3 = (j) * 3; omega) hj0⟩, ?_⟩
        |((with_reducible show CallEv _ _ 91 ..); refine callE (fun β w' hbw => c91 w' (hh w' hbw)) ?_)
        |refine And.intro (a := (_ : Nat) ≤ List.length _) (by simp only [show ti46.size = 3 from rfl, List.length_append, List.length_take, List.length_drop, lnV_len, List.length_cons, List.length_nil]; omega) ?_
      all_goals exact ⟨(j, swF f (j + 1)), ⟨by dsimp only; omega, hR, hbs⟩, by dsimp only; omega, Ent.weak rfl ⟨rfl, rfl, rfl, rfl, rfl, congrArg (fun z => some (SV.v (iv z))) (show ((j + 1 : Nat) : Int) - 1 = (j : Int) by omega), trivial⟩ ⟨by rw [hmem]; rfl, trivial⟩ fun _ h => h⟩
    · rw [if_neg hlt] at hR
      repeat'
       conv => whnf
       first
        |refine zA ?_|refine zD ?_|refine zF ?_|refine zG ?_
        |(refine splD ?_ ?_ <;> intro hc <;> first|(exfalso; omega)|skip)
        |refine eL [iv (f (j + 1)).g, iv (f (j + 1)).j, iv (f (j + 1)).t] ⟨⟨rfl, lnV_ro (k := j + 1) f (by show (((j + 1 : Nat) : Int)).toNat * 3 = (j + 1) * 3; omega) hj1⟩, ?_⟩
        |refine eL [iv (f (j)).g, iv (f (j)).j, iv (f (j)).t] ⟨⟨rfl, lnV_ro (k := j) f (by show (((j + 1 : Nat) : Int) - 1).toNat * 3 = (j) * 3; omega) hj0⟩, ?_⟩
        |((with_reducible show CallEv _ _ 91 ..); refine callE (fun β w' hbw => c91 w' (hh w' hbw)) ?_)
      all_goals exact ⟨(i + 1, f), ⟨by dsimp only; omega, by dsimp only; omega, hR, hbf⟩, by dsimp only; omega, Ent.weak rfl ⟨rfl, rfl, rfl, rfl, rfl, trivial⟩ ⟨rfl, trivial⟩ fun _ h => h⟩
 · have hfin : lnV n fi = lnV n (srtF n f0) := by
    rcases hin with h | h
    · rw [hfi, show i = n from by omega]
    · subst h; rfl
   repeat'
    conv => whnf
    first
     |(refine splD ?_ ?_ <;> intro hc <;> first|(exfalso; omega)|skip)
   all_goals exact ⟨fun β => rfl, by rw [← hfin]; exact ⟨rfl, trivial⟩, fun w' h => h, rfl⟩
theorem strE {P : Program} {dst : Option Tmp} {ty : TypeId} {pos : String} {after : Array Edge} {gd : Option (Nat × Bool)} {gs : List Nat} {σ : Sg} {K : Ef → Prop} {KF : Option KT} {t : TypeId} {x ix : Operand} {s : ByteArray} {k : IntKind} {z : Int} {b : UInt8}
 (hx : gv σ x = some (.v (.string s))) (hix : gv σ ix = some (.v (.int k z))) (hu : P.underlying t = some .string) (h0 : 0 ≤ z) (hb : s[z.toNat]? = some b) (hK : K ⟨.v (.int .u8 b.toNat), [], [], gs ++ (os x ++ os ix), []⟩) : OpEvS P ⟨dst, .index t x ix, ty, pos, after, gd⟩ gs σ K KF := by
 refine .mk _ (by simp [efB, eqs, modsLt, oldB, keysB, nodupB, SV.lt]) (fun k hk => by simp [hk]) rfl (runOK_pure fun β a w hss => ?_) hK
 have e1 := gv_eval hss hx (fun k hk => by simp [hk])
 have e2 := gv_eval hss hix (fun k hk => by simp [hk])
 simp only [execOp, Instr.index, e1, e2, SV.c, asIntOf, Sem.run_bind, Sem.run_pure, Result.andThen_ok, Go.run_underlying hu w, h0, if_true, hb]
def blF (n : Nat) : Int := ([0, 1, 2, 2, 3, 3, 3, 3, 4, 4, 4, 4, 4] : List Int).getD n 0
theorem cv193 (t : Nat) (h : t < 256) : RunIs Tryz.prog (convert 193 5 (.int .u64 t)) (.int .u8 t) := fun w => by
 have h3 : IntKind.u8.wrap (t : Int) = t := IR.wrap (k := .u8) ⟨by omega, by omega⟩
 simp [convert, Conv.intToInt, Go.run_underlying (show Tryz.prog.underlying 193 = some (.int .u64) from by kernel_rfl) w, Go.run_underlying (show Tryz.prog.underlying 5 = some (.int .u8) from by kernel_rfl) w, h3]
theorem cv5i (t : Nat) (h : t < 256) : RunIs Tryz.prog (convert 5 3 (.int .u8 t)) (iv t) := fun w => by
 have h3 : IntKind.i64.wrap (t : Int) = t := IR.wrap (k := .i64) ⟨by omega, by omega⟩
 simp [convert, Conv.intToInt, Go.run_underlying (show Tryz.prog.underlying 5 = some (.int .u8) from by kernel_rfl) w, Go.run_underlying und3 w, h3]
theorem len161 (n : Nat) (h : n ≤ 12) (w : World) : Calls Tryz.prog 161 #[.int .u64 n] w fun e w' => e = .returned (iv (blF n)) ∧ Below w.heap.size w w' := by
 have hn : n = 0 ∨ n = 1 ∨ n = 2 ∨ n = 3 ∨ n = 4 ∨ n = 5 ∨ n = 6 ∨ n = 7 ∨ n = 8 ∨ n = 9 ∨ n = 10 ∨ n = 11 ∨ n = 12 := by omega
 obtain ⟨b, hb, hbn⟩ : ∃ b : UInt8, b = UInt8.ofNat (blF n).toNat ∧ (b.toNat : Int) = blF n := ⟨_, rfl, by rcases hn with rfl | rfl | rfl | rfl | rfl | rfl | rfl | rfl | rfl | rfl | rfl | rfl | rfl <;> kernel_rfl⟩
 have hb2 : 0 ≤ blF n ∧ blF n ≤ 4 := by rcases hn with rfl | rfl | rfl | rfl | rfl | rfl | rfl | rfl | rfl | rfl | rfl | rfl | rfl <;> decide
 refine calls_val env mixed Tryz.func161 has161 Tryz.ntmps161 [.int .u64 n] (by simp) ?_
 repeat'
  conv => whnf
  first
   |refine zF ?_
   |(refine splD ?_ ?_ <;> intro hc <;> first|(exfalso; omega)|skip)
   |refine Exists.intro (α := Value) (.int .u8 n) ⟨cv193 n (by omega), ?_⟩
   |refine strE (b := b) rfl rfl (by kernel_rfl) (Int.natCast_nonneg n) (by rw [Int.toNat_natCast, hb]; rcases hn with rfl | rfl | rfl | rfl | rfl | rfl | rfl | rfl | rfl | rfl | rfl | rfl | rfl <;> kernel_rfl) ?_
   |refine Exists.intro (α := Value) (iv b.toNat) ⟨cv5i b.toNat (by omega), ?_⟩
 all_goals exact ⟨fun β => congrArg iv (by omega), fun w' h => h⟩
theorem len130 (w : World) (n : Nat) (h : n ≤ 12) : Calls Tryz.prog 130 #[.int .u64 n] w fun e w' => e = .returned (iv (blF n)) ∧ Below w.heap.size w w' := by
 have h161 := len161 n h
 refine calls_val env mixed Tryz.func130 has130 Tryz.ntmps130 [.int .u64 n] (by simp) ?_
 repeat'
  conv => whnf
  first
   |refine zD ?_|refine splF ?_
   |((with_reducible show CallEv _ _ 161 ..); refine callE (fun β w' hbw => h161 w') ?_)
 all_goals exact ⟨fun β => rfl, fun w' h => h⟩
theorem row0 {n : Nat} {x : List Value} {i : Nat} {b : Blk} (hi : lk [(0, Blk.own 1 n 3 x 46)] i = some b) : i = 0 ∧ b = .own 1 n 3 x 46 := by
 by_cases h : i = 0
 · subst h; rw [lk_cons_eq] at hi; exact ⟨rfl, (Option.some.inj hi).symm⟩
 · rw [lk_cons_ne h] at hi; simp [lk] at hi
theorem row_chg {n : Nat} {x : List Value} {β : Nat → Nat} {w w' : World} (hc : Chg (fun b => ∃ i bk, lk [(0, Blk.own 1 n 3 x 46)] i = some bk ∧ β i = b) w w') : Chg (fun b => b = β 0) w w' :=
 ⟨hc.os, hc.tape, hc.output, hc.size, fun b hlt hne => hc.same b hlt fun ⟨i, bk, h1, h2⟩ => hne (by rw [(row0 h1).1] at h2; exact h2.symm)⟩
theorem pdq129 (n : Nat) (f0 : Nat → Ln) (bx : Nat) (lim : Int) (hn : n ≤ 12) (hb : ∀ k, k < n → 0 ≤ (f0 k).g ∧ (f0 k).g ≤ 7) {β : Nat → Nat} {w : World} (hok : Blk.ok β w (β 0) (.own 1 n 3 (lnV n f0) 46))
 (hbx : ∀ w', Chg (fun b => b = β 0) w w' → w'.heap[bx]? = some (.cells #[.func (.func 47) #[] #[]] 100 (0, 0))) :
 Calls Tryz.prog 129 (SV.cs β [.os 0 1 n, .v (iv 0), .v (iv n), .v (iv lim), .v (.func (.func 91) #[] #[pt bx])]).toArray w fun e w' => e = .returned (.tuple #[]) ∧ Chg (fun b => b = β 0) w w' ∧ Blk.ok β w' (β 0) (.own 1 n 3 (lnV n (srtF n f0)) 46) := by
 refine (calls_WS env mixed Tryz.func129 has129 Tryz.ntmps129 [.os 0 1 n, .v (iv 0), .v (iv n), .v (iv lim), .v (.func (.func 91) #[] #[pt bx])] [(0, .own 1 n 3 (lnV n f0) 46)] [(0, .own 1 n 3 (lnV n (srtF n f0)) 46)] 2 (.tuple #[]) (by simp) rfl rfl rfl (fun i b hi => by obtain ⟨_, rfl⟩ := row0 hi; rfl) (Hp := fun w' => w'.heap[bx]? = some (.cells #[.func (.func 47) #[] #[]] 100 (0, 0))) (fun h hh => ?_) (β := β) (w := w) (fun i b hi => by obtain ⟨rfl, rfl⟩ := row0 hi; exact hok) (fun i j bi bj h1 h2 hne => absurd ((row0 h1).1.trans (row0 h2).1.symm) hne) (fun w' hc => hbx w' (row_chg hc))).mono fun e w' ⟨h1, h2, h3⟩ => ⟨h1, row_chg h2, h3 0 _ lk_cons_eq⟩
 skip
 refine loopN 2 (fun _ : Unit => [(0, .os 0 1 n), (1, .v (iv 0)), (2, .v (iv n)), (3, .v (iv lim)), (4, .v (.func (.func 91) #[] #[pt bx]))]) (fun _ => [(0, .own 1 n 3 (lnV n f0) 46)]) (fun _ => True) (fun _ => 0) () trivial ⟨rfl, rfl, rfl, rfl, rfl, trivial⟩ ⟨rfl, trivial⟩ (fun _ _ => ⟨rfl, rfl⟩) ?_
 intro _ _
 repeat'
  conv => whnf
  first
   |refine zD ?_|refine zF ?_
   |(refine splD ?_ ?_ <;> intro hc <;> first|(exfalso; omega)|skip)
   |((with_reducible show CallEv _ _ 152 ..); refine callWS [0] [(0, .own 1 n 3 (lnV n (srtF n f0)) 46)] (.tuple #[]) rfl (fun i hi => by simp only [List.mem_singleton] at hi; subst hi; exact ⟨_, List.mem_singleton.2 rfl⟩) (fun β w h1 h2 hst => (ins152 n f0 bx hn hb (h1 0 (by simp) _ rfl) (fun w' hc => hh _ (hst w' ⟨hc.os, hc.tape, hc.output, hc.size, fun b hlt hne => hc.same b hlt fun e => hne ⟨0, by simp, ⟨_, rfl, rfl⟩, e.symm⟩⟩))).mono fun e w' ⟨g1, g2, g3⟩ => ⟨g1, ⟨g2.os, g2.tape, g2.output, g2.size, fun b hlt hne => g2.same b hlt fun e => hne ⟨0, by simp, e.symm⟩⟩, fun i b hi => by simp only [List.mem_singleton, Prod.mk.injEq] at hi; obtain ⟨rfl, rfl⟩ := hi; exact g3⟩) ?_)
 all_goals exact ⟨fun β => rfl, ⟨rfl, trivial⟩, fun w' h => h, rfl⟩
theorem sort90 (n : Nat) (f0 : Nat → Ln) (bx : Nat) (hn : n ≤ 12) (hb : ∀ k, k < n → 0 ≤ (f0 k).g ∧ (f0 k).g ≤ 7) {β : Nat → Nat} {w : World} (hok : Blk.ok β w (β 0) (.own 1 n 3 (lnV n f0) 46))
 (hbx : ∀ w', Chg (fun b => b = β 0) w w' → w'.heap[bx]? = some (.cells #[.func (.func 47) #[] #[]] 100 (0, 0))) :
 Calls Tryz.prog 90 (SV.cs β [.os 0 1 n, .v (.func (.func 91) #[] #[pt bx])]).toArray w fun e w' => e = .returned (.tuple #[]) ∧ Chg (fun b => b = β 0) w w' ∧ Blk.ok β w' (β 0) (.own 1 n 3 (lnV n (srtF n f0)) 46) := by
 refine (calls_WS env mixed Tryz.func90 has90 Tryz.ntmps90 [.os 0 1 n, .v (.func (.func 91) #[] #[pt bx])] [(0, .own 1 n 3 (lnV n f0) 46)] [(0, .own 1 n 3 (lnV n (srtF n f0)) 46)] 2 (.tuple #[]) (by simp) rfl rfl rfl (fun i b hi => by obtain ⟨_, rfl⟩ := row0 hi; rfl) (Hp := fun w' => w'.heap[bx]? = some (.cells #[.func (.func 47) #[] #[]] 100 (0, 0))) (fun h hh => ?_) (β := β) (w := w) (fun i b hi => by obtain ⟨rfl, rfl⟩ := row0 hi; exact hok) (fun i j bi bj h1 h2 hne => absurd ((row0 h1).1.trans (row0 h2).1.symm) hne) (fun w' hc => hbx w' (row_chg hc))).mono fun e w' ⟨h1, h2, h3⟩ => ⟨h1, row_chg h2, h3 0 _ lk_cons_eq⟩
 have hlim := fun (w' : World) => len130 w' n hn
 generalize blF n = lim at hlim
 repeat'
  conv => whnf
  first
   |refine zD ?_
   |refine Exists.intro (α := Value) (.int .u64 n) ⟨cvU n (by omega), ?_⟩
   |((with_reducible show CallEv _ _ 130 ..); refine callE (fun β w' hbw => hlim w') ?_)
   |((with_reducible show CallEv _ _ 129 ..); refine callWS [0] [(0, .own 1 n 3 (lnV n (srtF n f0)) 46)] (.tuple #[]) rfl (fun i hi => by simp only [List.mem_singleton] at hi; subst hi; exact ⟨_, List.mem_singleton.2 rfl⟩) (fun β w h1 h2 hst => (pdq129 n f0 bx lim hn hb (h1 0 (by simp) _ rfl) (fun w' hc => hh _ (hst w' ⟨hc.os, hc.tape, hc.output, hc.size, fun b hlt hne => hc.same b hlt fun e => hne ⟨0, by simp, ⟨_, rfl, rfl⟩, e.symm⟩⟩))).mono fun e w' ⟨g1, g2, g3⟩ => ⟨g1, ⟨g2.os, g2.tape, g2.output, g2.size, fun b hlt hne => g2.same b hlt fun e => hne ⟨0, by simp, e.symm⟩⟩, fun i b hi => by simp only [List.mem_singleton, Prod.mk.injEq] at hi; obtain ⟨rfl, rfl⟩ := hi; exact g3⟩) ?_)
 all_goals exact ⟨fun β => rfl, ⟨rfl, trivial⟩, fun w' h => h, rfl⟩
theorem sorted46 (n : Nat) (f0 : Nat → Ln) (hn : n ≤ 12) (hb : ∀ k, k < n → 0 ≤ (f0 k).g ∧ (f0 k).g ≤ 7) {β : Nat → Nat} {w : World} (hok : Blk.ok β w (β 0) (.own 1 n 3 (lnV n f0) 46)) :
 Calls Tryz.prog 46 (SV.cs β [.os 0 1 n, .v (.func (.func 47) #[] #[])]).toArray w fun e w' => e = .returned (.tuple #[]) ∧ Chg (fun b => b = β 0) w w' ∧ Blk.ok β w' (β 0) (.own 1 n 3 (lnV n (srtF n f0)) 46) := by
 have h46 : ∀ (β : Nat → Nat) (w w' : World), Blk.ok β w (β 2) (.cells [.v (.func (.func 47) #[] #[])] 100) → β 2 ≠ β 0 → Chg (fun b => b = β 0) w w' → w'.heap[β 2]? = some (.cells #[.func (.func 47) #[] #[]] 100 (0, 0)) := fun β w w' h hne hc => by
  have h : w.heap[β 2]? = some (.cells #[.func (.func 47) #[] #[]] 100 (0, 0)) := h
  rw [hc.same (β 2) (Array.getElem?_eq_some_iff.1 h).1 hne]; exact h
 refine (calls_W env mixed Tryz.func46 has46 Tryz.ntmps46 [.os 0 1 n, .v (.func (.func 47) #[] #[])] [(0, .own 1 n 3 (lnV n f0) 46)] [(0, .own 1 n 3 (lnV n (srtF n f0)) 46)] 2 (.tuple #[]) (by simp) rfl rfl rfl (fun i b hi => by obtain ⟨_, rfl⟩ := row0 hi; rfl) (fun h => ?_) (β := β) (w := w) (fun i b hi => by obtain ⟨rfl, rfl⟩ := row0 hi; exact hok) (fun i j bi bj h1 h2 hne => absurd ((row0 h1).1.trans (row0 h2).1.symm) hne)).mono fun e w' ⟨h1, h2, h3⟩ => ⟨h1, row_chg h2, h3 0 _ lk_cons_eq⟩
 repeat'
  conv => whnf
  first
   |refine zD ?_
   |((with_reducible show CallEv _ _ 90 ..); refine callWS [0, 2] [(0, .own 1 n 3 (lnV n (srtF n f0)) 46), (2, .cells [.v (.func (.func 47) #[] #[])] 100)] (.tuple #[]) rfl (fun i hi => by simp only [List.mem_cons, List.not_mem_nil, or_false] at hi; rcases hi with rfl | rfl <;> exact ⟨_, by simp; rfl⟩) (fun β w h1 h2 hst => (sort90 n f0 (β 2) hn hb (h1 0 (by simp) _ rfl) (fun w' hc => h46 β w w' (h1 2 (by simp) _ rfl) (h2 2 (by simp) 0 (by simp) _ _ rfl rfl rfl rfl (by decide)) hc)).mono fun e w' ⟨g1, g2, g3⟩ => ⟨g1, ⟨g2.os, g2.tape, g2.output, g2.size, fun b hlt hne => g2.same b hlt fun e => hne ⟨0, by simp, e.symm⟩⟩, fun i b hi => by simp only [List.mem_cons, List.not_mem_nil, or_false, Prod.mk.injEq] at hi; rcases hi with ⟨rfl, rfl⟩ | ⟨rfl, rfl⟩; exact g3; exact h46 β w w' (h1 2 (by simp) _ rfl) (h2 2 (by simp) 0 (by simp) _ _ rfl rfl rfl rfl (by decide)) g2⟩) ?_)
 all_goals exact ⟨fun β => rfl, ⟨rfl, trivial⟩, fun w' h => h, rfl⟩
theorem nil152 (bx : Nat) (w : World) : Calls Tryz.prog 152 #[.slice none 0 0, iv 0, iv 0, .func (.func 91) #[] #[pt bx]] w fun e w' => e = .returned (.tuple #[]) ∧ Below w.heap.size w w' := by
 refine calls_val env mixed Tryz.func152 has152 Tryz.ntmps152 [.slice none 0 0, iv 0, iv 0, .func (.func 91) #[] #[pt bx]] (by simp) ?_
 repeat'
  conv => whnf
  first
   |refine zF ?_
 refine loopN 0 (fun _ : Unit => [(2, .v (iv 0)), (8, .v (iv 1))]) (fun _ => []) (fun _ => True) (fun _ => 0) () trivial ⟨rfl, rfl, trivial⟩ trivial (fun _ _ => ⟨rfl, rfl⟩) ?_
 intro _ _
 repeat'
  conv => whnf
  first
   |refine splF ?_
 all_goals exact ⟨fun β => rfl, fun w' h => h⟩
theorem nil129 (bx : Nat) (lim : Int) (w : World) : Calls Tryz.prog 129 #[.slice none 0 0, iv 0, iv 0, iv lim, .func (.func 91) #[] #[pt bx]] w fun e w' => e = .returned (.tuple #[]) ∧ Below w.heap.size w w' := by
 refine calls_val env mixed Tryz.func129 has129 Tryz.ntmps129 [.slice none 0 0, iv 0, iv 0, iv lim, .func (.func 91) #[] #[pt bx]] (by simp) ?_
 skip
 refine loopN 0 (fun _ : Unit => [(0, .v (.slice none 0 0)), (1, .v (iv 0)), (2, .v (iv 0)), (3, .v (iv lim)), (4, .v (.func (.func 91) #[] #[pt bx]))]) (fun _ => []) (fun _ => True) (fun _ => 0) () trivial ⟨rfl, rfl, rfl, rfl, rfl, trivial⟩ trivial (fun _ _ => ⟨rfl, rfl⟩) ?_
 intro _ _
 repeat'
  conv => whnf
  first
   |refine zD ?_|refine zF ?_|refine splT ?_
   |((with_reducible show CallEv _ _ 152 ..); refine callE (fun β w' hbw => nil152 bx w') ?_)
 all_goals exact ⟨fun β => rfl, fun w' h => h⟩
theorem nil90 (bx : Nat) (w : World) : Calls Tryz.prog 90 #[.slice none 0 0, .func (.func 91) #[] #[pt bx]] w fun e w' => e = .returned (.tuple #[]) ∧ Below w.heap.size w w' := by
 have hlim := fun (w' : World) => len130 w' 0 (by omega)
 generalize blF 0 = lim at hlim
 refine calls_val env mixed Tryz.func90 has90 Tryz.ntmps90 [.slice none 0 0, .func (.func 91) #[] #[pt bx]] (by simp) ?_
 repeat'
  conv => whnf
  first
   |refine zD ?_
   |refine Exists.intro (α := Value) (.int .u64 0) ⟨cvU 0 (by omega), ?_⟩
   |((with_reducible show CallEv _ _ 130 ..); refine callE (fun β w' hbw => hlim w') ?_)
   |((with_reducible show CallEv _ _ 129 ..); refine callE (fun β w' hbw => nil129 bx lim w') ?_)
 all_goals exact ⟨fun β => rfl, fun w' h => h⟩
theorem sorted_nil (w : World) : Calls Tryz.prog 46 #[.slice none 0 0, .func (.func 47) #[] #[]] w fun e w' => e = .returned (.tuple #[]) ∧ Below w.heap.size w w' := by
 refine calls_val env mixed Tryz.func46 has46 Tryz.ntmps46 [.slice none 0 0, .func (.func 47) #[] #[]] (by simp) ?_
 repeat'
  conv => whnf
  first
   |refine zD ?_
   |((with_reducible show CallEv _ _ 90 ..); refine callM [0] (fun β w' hbk hbw => nil90 (β 0) w') ?_)
 all_goals exact ⟨fun β => rfl, fun w' h => h⟩
theorem sorted_ok (n b c : Nat) (f : Nat → Ln) (hn : n ≤ 12) (hb : ∀ k, k < n → 0 ≤ (f k).g ∧ (f k).g ≤ 7) (w : World) (ho : w.ownsRow 0 46 3 (.slice (some ⟨b, 0, none⟩) n c) n (lnV n f)) :
 Calls Tryz.prog 46 #[.slice (some ⟨b, 0, none⟩) n c, .func (.func 47) #[] #[]] w fun e w' => e = .returned (.tuple #[]) ∧ Chg (fun x => x = b) w w' ∧ w'.ownsRow 0 46 3 (.slice (some ⟨b, 0, none⟩) n c) n (lnV n (srtF n f)) := by
 have h := sorted46 n f hn hb (β := fun i => if i = 0 then b else c) (w := w) (by simp only [Blk.ok]; exact ho)
 exact h.mono fun e w' ⟨h1, h2, h3⟩ => ⟨h1, h2, by simp only [Blk.ok] at h3; exact h3⟩
end Go.Proofs.YtkbfcofifhngfaaGreat
namespace Go.Proofs.YtkbfcofifhngfaaGreat.Tx
open Go Go.RowKit
theorem VC.dis {P : Program} {α : Type} {σ : Sg} {I : α → Sg} {pre : α → Prop} {c : Code} {Φ : Exit → Sg → Prop} (h : Dis σ I pre) (hok : ∀ x, pre x → (I x).Ok) (hr : ∀ x, pre x → VC P c (I x) Φ) : VC P c σ Φ := by
 intro F k X a w hF hlp _ hs
 unfold Dis at h
 obtain ⟨x, hx, hs'⟩ := h X a w hs
 exact hr x hx F k X a w hF hlp (hok x hx) hs'
def extT (nb b c : Nat) (β : Nat → Nat) (i : Nat) : Nat := if i = nb then b else if i = nb + 1 then c else β i
theorem extT_lt {nb b c : Nat} {β : Nat → Nat} {i : Nat} (h : i < nb) : extT nb b c β i = β i := by unfold extT; rw [if_neg (by omega), if_neg (by omega)]
theorem Ent.take {nt nb : Nat} {t t' : List (Nat × SV)} {m m0 : List (Nat × Blk)} {h : World → Prop} {z : Gz} (b c n sz : Nat) (ty : TypeId) (xs : List Value) (k0 j zz : Nat) (e : TypeId) (X X' : List SV) (h' : World → Prop) (Q Qo : Nat → Prop) (wb : World)
 (hz : z.g = []) (hown : ∀ w, h w → w.ownsRow 0 ty sz (.slice (some ⟨b, 0, none⟩) n c) n xs)
 (hQb : ¬ Q b ∧ ¬ Qo b) (hQ : ∀ x, Q x → ∀ w, h w → ∃ cs ty fr, w.heap[x]? = some (.cells cs ty fr)) (hQo : ∀ x, Qo x → ∀ w, h w → x < w.heap.size ∧ w.heap[x]? = wb.heap[x]?)
 (hdep : ∀ w w2, h w → Chg (fun x => ¬ (Qo x ∨ Q x)) w w2 → h' w2)
 (ht : TSub t t') (htb : tB nt nb t' = true) (hm0 : MSub m m0) (hmb : mB nb m0 = true) (hk0 : lk m k0 = some (.mix j zz 1 [] X e)) (hkn : k0 < nb ∧ j < nb) (hk1 : ∀ bk, lk m0 k0 ≠ some bk) (hX : ∀ β, SV.cs (extT nb b c β) X' = SV.cs β X) :
 Ent ⟨nt, t, m, nb, h, z⟩ ⟨nt, t', (nb, .own (nb + 1) n sz xs ty) :: (k0, .mix j zz 1 [] X' e) :: m0, nb + 2, h', z⟩ := by
 have htk := okB (nt := nt) (t := t') (m := m0) (nb := nb) (h := fun _ => True) (z := ⟨[], [], 0⟩) htb hmb rfl
 rintro Y a w ⟨β, D, hs⟩
 have hw := hs.h w (Chg.refl _ _)
 have hDb : D b := hs.dof fun w hw => by
  obtain ⟨c, hc⟩ : ∃ cur, w.heap[b]? = some (.cells cur ty (0, 0)) := by
   rcases (hown w hw).2 with ⟨h1, _⟩ | ⟨g, cap, cur, h1, _, h2, _⟩
   · cases h1
   · simp only [Value.slice.injEq, Option.some.injEq, Addr.mk.injEq] at h1
     obtain ⟨⟨rfl, _⟩, _⟩ := h1
     exact ⟨cur, h2⟩
  exact ⟨_, _, _, hc⟩
 have hQD : ∀ x, Qo x ∨ Q x → D x ∧ x ≠ b := fun x hx => by
  rcases hx with hx | hx
  · exact ⟨hs.mem.holds (w0 := wb) (fun w' hw' => (hQo x hx w' hw').2) (hQo x hx w hw).1, fun e => hQb.2 (e ▸ hx)⟩
  · exact ⟨hs.dof fun w' hw' => hQ x hx w' hw', fun e => hQb.1 (e ▸ hx)⟩
 have hnb1 : extT nb b c β nb = b := if_pos rfl
 have hnb2 : extT nb b c β (nb + 1) = c := by unfold extT; rw [if_neg (by omega), if_pos rfl]
 have hml : ∀ i bk, lk ((nb, Blk.own (nb + 1) n sz xs ty) :: (k0, .mix j zz 1 [] X' e) :: m0) i = some bk → (i = nb ∧ bk = .own (nb + 1) n sz xs ty) ∨ (i = k0 ∧ bk = .mix j zz 1 [] X' e) ∨ (i < nb ∧ i ≠ k0 ∧ lk m i = some bk ∧ bk.lt nb = true) := fun i bk hi => by
  by_cases h1 : i = nb
  · subst h1; rw [lk_cons_eq] at hi; exact .inl ⟨rfl, (Option.some.inj hi).symm⟩
  · rw [lk_cons_ne h1] at hi
    by_cases h2 : i = k0
    · subst h2; rw [lk_cons_eq] at hi; exact .inr (.inl ⟨rfl, (Option.some.inj hi).symm⟩)
    · rw [lk_cons_ne h2] at hi
      have q := htk.wf.m i bk hi
      exact .inr (.inr ⟨q.1, h2, hm0.get i bk hi, q.2⟩)
 refine ⟨extT nb b c β, fun x => D x ∧ x ≠ b, ?_, hs.size, fun k s hk => ?_, fun i bk hi => ?_, fun i i' bi bi' hi hi' l1 l2 hne => ?_, fun i bk hi hl => ?_, fun x hx => hs.dlt x hx.1, fun w2 hc => ?_, ?_⟩
 · obtain ⟨l, l1, l2, l3⟩ := hs.defers
   exact ⟨l, l1, l2, fun d hd => ⟨(l3 d hd).1, fun h => (l3 d hd).2.1 h.1, (l3 d hd).2.2⟩⟩
 · rw [hs.t k s (ht.get k s hk)]
   exact (SV.c_congr (fr := List.range' nb 2) (fun i hi => by
    have : ¬ (i = nb ∨ i = nb + 1) := fun h => hi (by rw [List.mem_range'_1]; omega)
    unfold extT; rw [if_neg (fun h => this (.inl h)), if_neg (fun h => this (.inr h))]) s (SV.lt_av s (htk.wf.t k s hk))).symm
 · rcases hml i bk hi with ⟨rfl, rfl⟩ | ⟨rfl, rfl⟩ | ⟨q1, q2, q3, q4⟩
   · simp only [Blk.ok, hnb1, hnb2]
     exact hown w hw
   · have := hs.m i _ hk0
     rw [extT_lt hkn.1]
     simp only [Blk.ok] at this ⊢
     rw [extT_lt hkn.2, hX]
     exact this
   · rw [extT_lt q1]
     exact Blk.ok_nm (fun j hj => extT_lt hj) bk q4 (hs.m i bk q3)
 · have key : ∀ i bk, lk ((nb, Blk.own (nb + 1) n sz xs ty) :: (k0, .mix j zz 1 [] X' e) :: m0) i = some bk → bk.live = true → i ≠ nb → extT nb b c β i = β i ∧ ∃ b0, lk m i = some b0 ∧ b0.live = true := fun i bk hi hl hne => by
    rcases hml i bk hi with ⟨rfl, rfl⟩ | ⟨rfl, rfl⟩ | ⟨q1, q2, q3, q4⟩
    · exact absurd rfl hne
    · exact ⟨extT_lt hkn.1, _, hk0, rfl⟩
    · exact ⟨extT_lt q1, _, q3, hl⟩
   by_cases h1 : i = nb
   · subst h1
     obtain ⟨e1, b0, e2, e3⟩ := key i' bi' hi' l2 (fun e => hne e.symm)
     rw [hnb1, e1]
     exact fun e => hs.out i' b0 e2 e3 (e ▸ hDb)
   · obtain ⟨e1, b0, e2, e3⟩ := key i bi hi l1 h1
     by_cases h2 : i' = nb
     · subst h2
       rw [hnb1, e1]
       exact fun e => hs.out i b0 e2 e3 (e ▸ hDb)
     · obtain ⟨e1', b0', e2', e3'⟩ := key i' bi' hi' l2 h2
       rw [e1, e1']
       exact hs.inj i i' b0 b0' e2 e2' e3 e3' hne
 · rcases hml i bk hi with ⟨rfl, rfl⟩ | ⟨rfl, rfl⟩ | ⟨q1, q2, q3, q4⟩
   · rw [hnb1]; exact fun h => h.2 rfl
   · rw [extT_lt hkn.1]; exact fun h => hs.out i _ hk0 rfl h.1
   · rw [extT_lt q1]; exact fun h => hs.out i bk q3 hl h.1
 · exact hdep w w2 hw ⟨hc.os, hc.tape, hc.output, hc.size, fun x hx hn => hc.same x hx fun hD => hD (hQD x (Classical.byContradiction hn))⟩
 · exact ⟨fun k s hk => (by have hk : lk z.g k = some s := hk; rw [hz] at hk; simp [lk] at hk), fun p hp => ⟨(hs.amb.la p hp).1, fun h => (hs.amb.la p hp).2 h.1⟩, hs.amb.lq, hs.amb.dep, hs.amb.nd, fun d hd => ⟨(hs.amb.pr d hd).1, fun h => (hs.amb.pr d hd).2 h.1⟩⟩
end Go.Proofs.YtkbfcofifhngfaaGreat.Tx
namespace Go.Proofs.YtkbfcofifhngfaaGreat
open Go Tx Go.RowKit
structure OR where
 o : Option (Nat × Nat)
 L : List Ln
def OR.v (r : OR) : Value := match r.o with
 | none => .slice none 0 0
 | some p => .slice (some ⟨p.1, 0, none⟩) r.L.length p.2
def outV (z : Nat) (F : Nat → OR) : List Value := (List.range z).map fun s => (F s).v
theorem outV_len (z : Nat) (F : Nat → OR) : (outV z F).length = z := by simp [outV]
theorem outV_at {z : Nat} (F : Nat → OR) {s : Nat} (h : s < z) : (outV z F)[s]? = some (F s).v := by simp [outV, h]
def OutOK (m z : Nat) (F : Nat → OR) (w : World) : Prop := ∀ s, s < z → ((F s).o = none → (F s).L = []) ∧ ∀ p, (F s).o = some p → m ≤ p.1 ∧ w.ownsRow 0 46 3 (.slice (some ⟨p.1, 0, none⟩) (F s).L.length p.2) (F s).L.length (lnV (F s).L.length (lnAt (F s).L))
def OutD (z : Nat) (F : Nat → OR) : Prop := ∀ s s', s < z → s' < z → s ≠ s' → ∀ p p', (F s).o = some p → (F s').o = some p' → p.1 ≠ p'.1
def OutQ (z : Nat) (F : Nat → OR) (x : Nat) : Prop := ∃ s, s < z ∧ ∃ p, (F s).o = some p ∧ p.1 = x
theorem OutOK.cells {m z : Nat} {F : Nat → OR} {w : World} (h : OutOK m z F w) {x : Nat} (hx : OutQ z F x) : ∃ cs ty fr, w.heap[x]? = some (.cells cs ty fr) := by
 obtain ⟨s, hs, p, hp, rfl⟩ := hx
 exact own_cells ((h s hs).2 p hp).2
theorem OutOK.keep {m z : Nat} {F : Nat → OR} {w w2 : World} (h : OutOK m z F w) (hk : ∀ x, OutQ z F x → w2.heap[x]? = w.heap[x]?) : OutOK m z F w2 := fun s hs =>
 ⟨(h s hs).1, fun p hp => ⟨((h s hs).2 p hp).1, own_keep ((h s hs).2 p hp).2 (hk _ ⟨s, hs, p, hp, rfl⟩)⟩⟩
def srtL (L : List Ln) : List Ln := (List.range L.length).map (srtF L.length (lnAt L))
theorem srtL_len (L : List Ln) : (srtL L).length = L.length := by simp [srtL]
theorem srtL_at {L : List Ln} {k : Nat} (h : k < L.length) : lnAt (srtL L) k = srtF L.length (lnAt L) k := by
 unfold lnAt srtL
 rw [List.getD_eq_getElem?_getD, List.getElem?_map, List.getElem?_range h]; rfl
theorem lnV_srt (L : List Ln) : lnV (srtL L).length (lnAt (srtL L)) = lnV L.length (srtF L.length (lnAt L)) := by
 rw [srtL_len]
 unfold lnV
 exact fm_congr fun j hj => by rw [srtL_at (List.mem_range.1 hj)]
theorem lnV_list (L : List Ln) : lnV L.length (lnAt L) = L.flatMap Ln.cs := by
 conv => rhs; rw [← lnAt_all L]
 unfold lnV
 rw [List.flatMap_map]
def srtO (F : Nat → OR) (i : Nat) : Nat → OR := fun s => if s < i then ⟨(F s).o, srtL (F s).L⟩ else F s
theorem srtO_o (F : Nat → OR) (i s : Nat) : (srtO F i s).o = (F s).o := by
 unfold srtO
 split <;> rfl
theorem srtO_ne (F : Nat → OR) {i s : Nat} (h : s ≠ i) : srtO F (i + 1) s = srtO F i s := by
 unfold srtO
 by_cases h1 : s < i
 · rw [if_pos h1, if_pos (by omega)]
 · rw [if_neg h1, if_neg (by omega)]
def risB (X : List (List Ln)) : Prop := ∀ l ∈ X, ∀ p, p + 1 < l.length → (lnAt l p).g < (lnAt l (p + 1)).g
def errT (D : SD) : Int := if scOk D = true then (if (rWhy D).isSome = true then 9 else 0) else 1
structure TabF (D : SD) where
 o : Option Addr
 c : Nat
 R : List Lr
 h : errT D = 0 → rfitB D (R.map Lr.L) = true ∧ risB (R.map Lr.L)
 e : errT D ≠ 0 → R = []
abbrev TabF.v {D : SD} (y : TabF D) : Value := .tuple #[.slice y.o y.R.length y.c, iv (errT D)]
def OR.lr (r : OR) : Lr := ⟨r.o.map fun p => ⟨p.1, 0, none⟩, (r.o.map fun p => p.2).getD 0, srtL r.L⟩
theorem flat_congr {α β : Type} {f g : α → List β} : ∀ {l : List α}, (∀ x ∈ l, f x = g x) → l.flatMap f = l.flatMap g
 | [], _ => rfl
 | a :: l, h => by rw [List.flatMap_cons, List.flatMap_cons, h a List.mem_cons_self, flat_congr fun x hx => h x (List.mem_cons_of_mem _ hx)]
theorem OutOK.sort {z i : Nat} {F : Nat → OR} {w w1 w2 : World} (hd : OutD z F) (h : OutOK w.heap.size z (srtO F i) w1) (hi : i < z) {p : Nat × Nat} (hp : (F i).o = some p) (hc : Chg (fun x => x = p.1) w1 w2)
 (ho : w2.ownsRow 0 46 3 (.slice (some ⟨p.1, 0, none⟩) (F i).L.length p.2) (F i).L.length (lnV (F i).L.length (srtF (F i).L.length (lnAt (F i).L)))) : OutOK w.heap.size z (srtO F (i + 1)) w2 := fun s hs => by
 by_cases e : s = i
 · subst e
   have e1 : srtO F (s + 1) s = ⟨(F s).o, srtL (F s).L⟩ := if_pos (by omega)
   rw [e1]
   refine ⟨fun hn => ?_, fun q hq => ?_⟩
   · have hn : (F s).o = none := hn
     rw [hp] at hn; cases hn
   · have hq : (F s).o = some q := hq
     rw [hp, Option.some.injEq] at hq
     subst hq
     have hge : w.heap.size ≤ p.1 := ((h s hs).2 p (by rw [srtO_o]; exact hp)).1
     refine ⟨hge, ?_⟩
     dsimp only
     rw [lnV_srt, srtL_len]
     exact ho
 · rw [srtO_ne F e]
   refine ⟨(h s hs).1, fun q hq => ⟨((h s hs).2 q hq).1, ?_⟩⟩
   have hq' : (F s).o = some q := by rw [srtO_o] at hq; exact hq
   have hne : q.1 ≠ p.1 := hd s i hs hi e q p hq' hp
   have h1 := ((h s hs).2 q hq).2
   exact own_keep h1 (hc.same _ (by obtain ⟨cs, ty, fr, hx⟩ := own_cells h1; exact (Array.getElem?_eq_some_iff.1 hx).1) hne)
theorem T10 (D : SD) (w : World) (z : Nat) (F : Nat → OR) (hz : z ≤ 40) (hF : ∀ s, s < z → (F s).L.length ≤ 12 ∧ ∀ x ∈ (F s).L, 0 ≤ x.g ∧ x.g ≤ 7) (hd : OutD z F) (he : errT D = 0)
 (hX : rfitB D ((List.range z).map fun s => srtL (F s).L) = true ∧ risB ((List.range z).map fun s => srtL (F s).L)) :
 VC Tryz.prog (rest 10 body13) ⟨139, [(12, .os 4 5 z)], [(4, .mix 5 z 1 [] ((outV z F).map .v) 44)], 6, fun w' => Below w.heap.size w w' ∧ OutOK w.heap.size z (F) w', z0⟩ (endΦ env Tryz.f13 fun s σ => (∀ w', σ.h w' → Below w.heap.size w w') ∧ ∀ β w', σ.h w' →
  (∀ i b, lk σ.m i = some b → b.live = true → St w.heap.size (fun w2 => b.ok β w2 (β i)) w') → ∃ x : TabF D, s.c β = x.v ∧ St w.heap.size (TbL x.o x.c x.R) w') := by
 refine VC.of env mixed ?_
 skip
 refine loopH 6 (fun i : Nat => [(12, .os 4 5 z), (129, .os 4 5 z), (130, .v (iv z)), (131, .v (iv i))]) (fun _ => [(4, .mix 5 z 1 [] ((outV z F).map .v) 44)]) (fun i w' => Below w.heap.size w w' ∧ OutOK w.heap.size z (srtO F i) w') (fun i => i ≤ z) (fun i => z - i) 0 (Nat.zero_le _) ⟨rfl, rfl, rfl, rfl, trivial⟩ ⟨rfl, trivial⟩ (fun _ h => h) (fun i _ => ⟨rfl, by simp only [mB, Blk.lt, lts_v]; rfl⟩) ?_
 intro i hi
 have hVl := outV_len z F
 rcases Nat.lt_or_ge i z with hil | hil
 · obtain ⟨hl12, hbd⟩ := hF i hil
   have hat : ((outV z F).map SV.v)[(i : Int).toNat * 1]? = some (.v (F i).v) := by
    rw [List.getElem?_map, Int.toNat_natCast, Nat.mul_one, outV_at F hil]; rfl
   cases ho : (F i).o with
   | none =>
    have hv : (F i).v = .slice none 0 0 := by unfold OR.v; rw [ho]
    rw [hv] at hat
    have hnil : ∀ w', (Below w.heap.size w w' ∧ OutOK w.heap.size z (srtO F i) w') → Below w.heap.size w w' ∧ OutOK w.heap.size z (srtO F (i + 1)) w' := fun w' h => ⟨h.1, fun s hs => by
     by_cases e : s = i
     · subst e
       have e0 := h.2 s hs
       rw [show srtO F s s = F s from if_neg (by omega)] at e0
       have hL := e0.1 ho
       have e1 : srtO F (s + 1) s = ⟨(F s).o, srtL (F s).L⟩ := if_pos (by omega)
       rw [e1]
       exact ⟨fun _ => by show srtL (F s).L = []; rw [hL]; rfl, fun p hp => by have hp : (F s).o = some p := hp; rw [ho] at hp; cases hp⟩
     · rw [srtO_ne F e]; exact h.2 s hs⟩
    repeat'
     conv => whnf
     first
      |refine zD ?_|refine zF ?_|refine zG ?_
      |(refine splD ?_ ?_ <;> intro hc <;> first|(exfalso; omega)|skip)
      |refine ldM env (.v (.slice none 0 0)) rfl rfl rfl rfl rfl hat rfl ?_
      |((with_reducible show CallEv _ _ 46 ..); refine callE (fun β w' hbw => sorted_nil w') ?_)
    all_goals exact ⟨i + 1, by omega, by omega, Ent.weak rfl ⟨rfl, rfl, rfl, rfl, trivial⟩ ⟨rfl, trivial⟩ fun w' h => hnil w' h⟩
   | some p =>
    have hv : (F i).v = .slice (some ⟨p.1, 0, none⟩) (F i).L.length p.2 := by unfold OR.v; rw [ho]
    rw [hv] at hat
    have hb : ∀ k, k < (F i).L.length → 0 ≤ (lnAt (F i).L k).g ∧ (lnAt (F i).L k).g ≤ 7 := fun k hk => hbd _ (List.mem_of_getElem? (lnAt_get hk))
    have hrow : ∀ w', (Below w.heap.size w w' ∧ OutOK w.heap.size z (srtO F i) w') → w.heap.size ≤ p.1 ∧ w'.ownsRow 0 46 3 (.slice (some ⟨p.1, 0, none⟩) (F i).L.length p.2) (F i).L.length (lnV (F i).L.length (lnAt (F i).L)) := fun w' h => by
     have e0 := h.2 i hil
     rw [show srtO F i i = F i from if_neg (by omega)] at e0
     exact e0.2 p ho
    have hC : ∀ w', (Below w.heap.size w w' ∧ OutOK w.heap.size z (srtO F i) w') → Calls Tryz.prog 46 #[.slice (some ⟨p.1, 0, none⟩) (F i).L.length p.2, .func (.func 47) #[] #[]] w' fun e w2 => e = .returned (.tuple #[]) ∧ Chg (fun x => x = p.1) w' w2 ∧ (Below w.heap.size w w2 ∧ OutOK w.heap.size z (srtO F (i + 1)) w2) := fun w' h => (sorted_ok (F i).L.length p.1 p.2 (lnAt (F i).L) hl12 hb w' (hrow w' h).2).mono fun e w2 ⟨h1, h2, h3⟩ =>
     ⟨h1, h2, ⟨h2.os.trans h.1.os, h2.tape.trans h.1.tape, h2.output.trans h.1.output, Nat.le_trans h.1.size h2.size, fun b hb => (h2.same b (Nat.lt_of_lt_of_le hb h.1.size) (by have := (hrow w' h).1; omega)).trans (h.1.block b hb)⟩, h.2.sort hd hil ho h2 h3⟩
    have hQo : ∀ i x, OutQ z F x ↔ OutQ z (srtO F i) x := fun i x => ⟨fun ⟨s, hs, p, hp, e⟩ => ⟨s, hs, p, by rw [srtO_o]; exact hp, e⟩, fun ⟨s, hs, p, hp, e⟩ => ⟨s, hs, p, by rw [srtO_o] at hp; exact hp, e⟩⟩
    repeat'
     conv => whnf
     first
      |refine zD ?_|refine zF ?_|refine zG ?_
      |(refine splD ?_ ?_ <;> intro hc <;> first|(exfalso; omega)|skip)
      |refine ldM env (.v (.slice (some ⟨p.1, 0, none⟩) (F i).L.length p.2)) rfl rfl rfl rfl rfl hat rfl ?_
      |((with_reducible show CallEv _ _ 46 ..); refine callFW (.tuple #[]) w (fun x => x < w.heap.size) (OutQ z F) (fun x => x = p.1) (fun w' => Below w.heap.size w w' ∧ OutOK w.heap.size z (srtO F (i + 1)) w') (fun β w' hw' => hC w' hw') (fun w' hw' x hx => ⟨Nat.lt_of_lt_of_le hx hw'.1.size, hw'.1.block x hx⟩) (fun x hx => ⟨i, hil, p, ho, hx.symm⟩) (fun x hx w' hw' => hw'.2.cells ((hQo i x).1 hx)) (fun w' w2 hw' hc => ⟨below_chg hw'.1 hc, hw'.2.keep fun x hx => by obtain ⟨cs, ty, fr, h1⟩ := hw'.2.cells hx; exact hc.same x (Array.getElem?_eq_some_iff.1 h1).1 fun hn => hn (.inr ((hQo (i + 1) x).2 hx))⟩) ?_)
    all_goals exact ⟨i + 1, by omega, by omega, Ent.weak rfl ⟨rfl, rfl, rfl, rfl, trivial⟩ ⟨rfl, trivial⟩ fun w' h => h⟩
 · obtain rfl : i = z := by omega
   repeat'
    conv => whnf
    first
     |(refine splD ?_ ?_ <;> intro hc <;> first|(exfalso; omega)|skip)
   conv => whnf
   refine ⟨fun w' h => h.1, fun β w' hB hblk => ?_⟩
   have hRL : (((List.range i).map fun s => (F s).lr).map Lr.L) = (List.range i).map fun s => srtL (F s).L := by rw [List.map_map]; rfl
   have hlen : ((List.range i).map fun s => (F s).lr).length = i := by simp
   refine ⟨⟨some ⟨β 4, 0, none⟩, β 5, (List.range i).map fun s => (F s).lr, fun _ => by rw [hRL]; exact hX, fun h => absurd he h⟩, ?_, fun w2 k2 => ⟨?_, fun r hr => ?_⟩⟩
   · show Value.tuple #[.slice (some ⟨β 4, 0, none⟩) i (β 5), iv 0] = Value.tuple #[.slice (some ⟨β 4, 0, none⟩) _ (β 5), iv (errT D)]
     rw [hlen, he]
   · have h1 : w2.ownsRow 0 44 1 (.slice (some ⟨β 4, 0, none⟩) i (β 5)) i (outV i F) := by
      have := hblk 4 _ rfl rfl w2 k2
      simpa [Blk.ok, cs_v] using this
     show Rd 1 Lr.cs (.slice (some ⟨β 4, 0, none⟩) ((List.range i).map fun s => (F s).lr).length (β 5)) ((List.range i).map fun s => (F s).lr) w2
     rw [hlen]
     refine Rd.of_owns (sz := 1) (f := Lr.cs) (fun _ => rfl) ?_ hlen.symm h1
     unfold outV
     rw [List.flatMap_map, List.map_eq_flatMap]
     refine flat_congr fun s hs => ?_
     have h2 := (hB.2 s (List.mem_range.1 hs)).1
     rw [srtO_o] at h2
     unfold OR.v OR.lr
     cases ho : (F s).o with
     | none =>
      have h3 := h2 ho
      rw [show srtO F i s = ⟨(F s).o, srtL (F s).L⟩ from if_pos (List.mem_range.1 hs)] at h3
      have h3 : srtL (F s).L = [] := h3
      show [Value.slice none 0 0] = [Value.slice none (srtL (F s).L).length 0]
      rw [h3]; rfl
     | some p =>
      show [Value.slice (some ⟨p.1, 0, none⟩) (F s).L.length p.2] = [Value.slice (some ⟨p.1, 0, none⟩) (srtL (F s).L).length p.2]
      rw [srtL_len]
   · obtain ⟨s, hs, rfl⟩ := List.mem_map.1 hr
     have hs := List.mem_range.1 hs
     have h2 := hB.2 s hs
     rw [show srtO F i s = ⟨(F s).o, srtL (F s).L⟩ from if_pos hs] at h2
     dsimp only at h2
     unfold OR.lr
     cases ho : (F s).o with
     | none =>
      have h3 := h2.1 ho
      refine .inl ⟨?_, h3⟩
      show Value.slice none (srtL (F s).L).length 0 = Value.slice none 0 0
      rw [h3]; rfl
     | some p =>
      obtain ⟨h3, h4⟩ := h2.2 p ho
      obtain ⟨cs, ty, fr, h5⟩ := own_cells h4
      have h6 := own_keep h4 (k2.same p.1 h3 (Array.getElem?_eq_some_iff.1 h5).1)
      exact Rd.of_owns (sz := 3) (f := Ln.cs) (fun _ => rfl) (lnV_list _) rfl h6
theorem add_block (a : Addr) (j : Nat) : (a.add j).block = a.block := by unfold Addr.add; split <;> rfl
theorem cell_congr {w w2 : World} {a : Addr} (h : w2.heap[a.block]? = w.heap[a.block]?) : w2.cell? a = w.cell? a := by simp only [World.cell?, h]
theorem rd_keep {α : Type} {sz : Nat} {f : α → List Value} {ad : Addr} {n c : Nat} {bs : List α} {w w2 : World} (h : Rd sz f (.slice (some ad) n c) bs w) (hk : w2.heap[ad.block]? = w.heap[ad.block]?) : Rd sz f (.slice (some ad) n c) bs w2 := by
 rcases h with ⟨h1, h2⟩ | ⟨ad', c', h1, h2⟩
 · cases h1
 · simp only [Value.slice.injEq, Option.some.injEq] at h1
   obtain ⟨rfl, hn, rfl⟩ := h1
   refine .inr ⟨ad, c, by rw [hn], fun k x hx j v hv => ?_⟩
   rw [cell_congr (w := w)]
   · exact h2 k x hx j v hv
   · rw [add_block, add_block]; exact hk
theorem rd_cells {α : Type} {sz : Nat} {f : α → List Value} {ad : Addr} {n c : Nat} {x : α} {bs : List α} {w : World} (h : Rd sz f (.slice (some ad) n c) (x :: bs) w) (hf : f x ≠ []) : ∃ cs ty fr, w.heap[ad.block]? = some (.cells cs ty fr) := by
 obtain ⟨v, hv⟩ : ∃ v, (f x)[0]? = some v := ⟨_, List.getElem?_eq_getElem (List.length_pos_iff.2 hf)⟩
 rcases h with ⟨h1, h2⟩ | ⟨ad', c', h1, h2⟩
 · cases h1
 · simp only [Value.slice.injEq, Option.some.injEq] at h1
   obtain ⟨rfl, _⟩ := h1
   have := h2 0 x rfl 0 v hv
   have hb : ((ad.add (0 * sz)).add 0).block = ad.block := by rw [add_block, add_block]
   unfold World.cell? at this
   rw [hb] at this
   split at this
   · rename_i cs ty fr he; exact ⟨_, _, _, he⟩
   · cases this
def rowL (L : List Ln) (S : Nat → Int) (i s : Nat) : List Ln := ((List.range i).filter fun k => decide (S k = (s : Int))).map (lnAt L)
theorem rowL_yes {L : List Ln} {S : Nat → Int} {i s : Nat} (h : S i = s) : rowL L S (i + 1) s = rowL L S i s ++ [lnAt L i] := by
 unfold rowL; rw [List.range_succ, List.filter_append, List.filter_cons_of_pos (by simpa using h), List.map_append]; rfl
theorem rowL_no {L : List Ln} {S : Nat → Int} {i s : Nat} (h : S i ≠ s) : rowL L S (i + 1) s = rowL L S i s := by
 unfold rowL; rw [List.range_succ, List.filter_append, List.filter_cons_of_neg (by simpa using h)]; simp
theorem rowL_len (L : List Ln) (S : Nat → Int) (s i : Nat) : ((rowL L S i s).length : Int) = cntS S i s := by
 rw [cntS_list]; unfold rowL; rw [List.length_map]
def OutX (m z : Nat) (F : Nat → OR) (i : Nat) (w : World) : Prop := ∀ s, s < z → s ≠ i → ((F s).o = none → (F s).L = []) ∧ ∀ p, (F s).o = some p → m ≤ p.1 ∧ w.ownsRow 0 46 3 (.slice (some ⟨p.1, 0, none⟩) (F s).L.length p.2) (F s).L.length (lnV (F s).L.length (lnAt (F s).L))
def updO (F : Nat → OR) (s : Nat) (r : OR) : Nat → OR := fun k => if k = s then r else F k
theorem outV_upd {z s : Nat} (F : Nat → OR) (r : OR) (hs : s < z) : outV z (updO F s r) = (outV z F).set s r.v := by
 apply List.ext_getElem?
 intro k
 rw [List.getElem?_set]
 by_cases hk : k < z
 · rw [outV_at _ hk]
   unfold updO
   by_cases e : s = k
   · subst e; rw [if_pos rfl, if_pos rfl, if_pos (by rw [outV_len]; exact hs)]
   · rw [if_neg (fun h => e h.symm), if_neg e, outV_at _ hk]
 · rw [List.getElem?_eq_none (by rw [outV_len]; omega), List.getElem?_eq_none (by rw [outV_len]; omega)]
   split
   · rw [if_neg (by rw [outV_len]; omega)]
   · rfl
theorem mix_conv {z s i j n : Nat} {F : Nat → OR} {r : OR} {β : Nat → Nat} {w : World} {y : Nat} (hs : s < z) (hr : r.v = .slice (some ⟨β i, 0, none⟩) n (β j)) (h : (Blk.mix 5 z 1 [] (((outV z F).map SV.v).set ((s : Int).toNat * 1) (.os i j n)) 44).ok β w y) :
 (Blk.mix 5 z 1 [] ((outV z (updO F s r)).map SV.v) 44).ok (fun i => β (id i)) w y := by
 have e : (s : Int).toNat * 1 = s := by rw [Int.toNat_natCast]; exact Nat.mul_one _
 rw [e] at h
 simp only [Blk.ok, cs_v, cs_set] at h ⊢
 rw [outV_upd F r hs, hr]
 exact h
theorem outD_upd {z s : Nat} {F : Nat → OR} {p : Nat × Nat} {l : List Ln} (h : OutD z F) (hp : ∀ k, k < z → k ≠ s → ∀ q, (F k).o = some q → p.1 ≠ q.1) : OutD z (updO F s ⟨some p, l⟩) := by
 intro k k' hk hk' hne q q' hq hq'
 unfold updO at hq hq'
 by_cases e : k = s
 · rw [if_pos e] at hq
   cases hq
   rw [if_neg (fun e' => hne (e.trans e'.symm))] at hq'
   exact hp k' hk' (fun e' => hne (e.trans e'.symm)) q' hq'
 · rw [if_neg e] at hq
   by_cases e' : k' = s
   · rw [if_pos e'] at hq'
     cases hq'
     exact (hp k hk e q hq).symm
   · rw [if_neg e'] at hq'
     exact h k k' hk hk' hne q q' hq hq'
theorem rowL_mem {L : List Ln} {S : Nat → Int} {i s : Nat} (hn : L.length = i) {x : Ln} (h : x ∈ rowL L S i s) : x ∈ L := by
 unfold rowL at h
 obtain ⟨k, hk, rfl⟩ := List.mem_map.1 h
 have := List.mem_range.1 (List.mem_filter.1 hk).1
 exact List.mem_of_getElem? (lnAt_get (by omega))
theorem lts_mono1 {a b : Nat} {l : List SV} (h : SV.lts a l = true) (hab : a ≤ b := by decide) : SV.lts b l = true := SV.lts_mono hab l h
theorem c13_9 : rest 9 body13 = .seq (.seq (qL (qL (rest 9 body13))) (.block 10 (.loop (qI (qI (qR (qL (rest 9 body13)))))))) (rest 10 body13) := by kernel_rfl
def F00 : Nat → OR := fun _ => ⟨none, []⟩
theorem T9 (D : SD) (w : World) (z : Nat) (sl ro su : Int) (gs ts : Value) (ad : Addr) (n lc : Nat) (L : List Ln) (p : Pn) (hn : L.length = n) (hn1 : 1 ≤ n) (hn2 : n ≤ 10000) (hz : z ≤ 40) (hS : ∀ i, i < n → ∃ s : Nat, s < z ∧ p.S i = s) (hg : ∀ x ∈ L, 0 ≤ x.g ∧ x.g ≤ 7)
 (h12 : ∀ s, s < z → (rowL L p.S n s).length ≤ 12) (he : errT D = 0)
 (hX : rfitB D ((List.range z).map fun s => srtL (rowL L p.S n s)) = true ∧ risB ((List.range z).map fun s => srtL (rowL L p.S n s))) :
 VC Tryz.prog (rest 9 body13) ⟨139, [(6, .ptr 0 0), (12, .os 4 5 z)], [(0, .cells (.v (iv sl) :: .v (iv ro) :: .v (iv su) :: .v gs :: .v ts :: .v (.slice (some ad) n lc) :: .os 1 2 n :: (tbS 320 p.A ++ tbS 320 p.B)) 93), (1, .own 2 n 1 (tbV n p.S) 3), (4, .mix 5 z 1 [] ((outV z F00).map .v) 44)], 6, fun w' => Below w.heap.size w w' ∧ Rd 3 Ln.cs (.slice (some ad) n lc) L w' ∧ OutOK w.heap.size z (F00) w', z0⟩ (endΦ env Tryz.f13 fun s σ => (∀ w', σ.h w' → Below w.heap.size w w') ∧ ∀ β w', σ.h w' →
  (∀ i b, lk σ.m i = some b → b.live = true → St w.heap.size (fun w2 => b.ok β w2 (β i)) w') → ∃ x : TabF D, s.c β = x.v ∧ St w.heap.size (TbL x.o x.c x.R) w') := by
 have hmB : ∀ (k : Nat) (F : Nat → OR), 6 ≤ k → mB k [(0, .cells (.v (iv sl) :: .v (iv ro) :: .v (iv su) :: .v gs :: .v ts :: .v (.slice (some ad) n lc) :: .os 1 2 n :: (tbS 320 p.A ++ tbS 320 p.B)) 93), (1, .own 2 n 1 (tbV n p.S) 3), (4, .mix 5 z 1 [] ((outV z F).map .v) 44)] = true := fun k F hk => by
  have h1 := mB_up (mPl ⟨sl, ro, su, gs, ts, some ad, n, lc, L⟩ p) (show 3 ≤ k by omega)
  have h2 : mB k [(4, Blk.mix 5 z 1 [] ((outV z F).map .v) 44)] = true := by
   simp only [mB, Blk.lt, lts_v, SV.lts, Bool.and_true, Bool.and_eq_true, Nat.blt_eq]; omega
  exact mB_app h1 h2
 refine VC.eq c13_9 (VC.sq (VC.sq (VC.of env mixed ?_)))
 repeat'
  conv => whnf
  first
   |refine zB ?_
   |refine nlC rfl rfl ?_
 conv => whnf
 refine VC.block (VC.loop (loopD 6 (fun x : Nat × (Nat → OR) => [(6, .ptr 0 0), (12, .os 4 5 z), (105, .os 1 2 n), (106, .v (iv n)), (107, .v (iv x.1))]) (fun x => [(0, .cells (.v (iv sl) :: .v (iv ro) :: .v (iv su) :: .v gs :: .v ts :: .v (.slice (some ad) n lc) :: .os 1 2 n :: (tbS 320 p.A ++ tbS 320 p.B)) 93), (1, .own 2 n 1 (tbV n p.S) 3), (4, .mix 5 z 1 [] ((outV z x.2).map .v) 44)]) (fun x w' => Below w.heap.size w w' ∧ Rd 3 Ln.cs (.slice (some ad) n lc) L w' ∧ OutOK w.heap.size z (x.2) w') (fun x => x.1 ≤ n ∧ (∀ s, s < z → (x.2 s).L = rowL L p.S x.1 s) ∧ OutD z x.2 ∧ ∀ s, s < z → ∀ q, (x.2 s).o = some q → q.1 ≠ ad.block ∧ w.heap.size ≤ q.1 ∧ 1 ≤ (x.2 s).L.length) (fun x => n - x.1)
  (Dis.ent (x := (0, F00)) ⟨Nat.zero_le _, fun s _ => rfl, fun s s' _ _ _ q q' h => (by cases h), fun s _ q h => (by cases h)⟩ (Ent.weak rfl ⟨rfl, rfl, rfl, rfl, rfl, trivial⟩ ⟨rfl, rfl, rfl, trivial⟩ (fun w' h => h))) (fun x _ => ⟨rfl, hmB 6 x.2 (Nat.le_refl _)⟩) ?_))
 intro ⟨i, F⟩ ⟨hin, hFL, hFD, hFa⟩
 dsimp only at hin hFL hFD hFa ⊢
 have hVl := outV_len z F
 have hLc : ∀ w' : World, Rd 3 Ln.cs (.slice (some ad) n lc) L w' → ∃ cs ty fr, w'.heap[ad.block]? = some (.cells cs ty fr) := fun w' h => by
  cases L with
  | nil => simp at hn; omega
  | cons x L => exact rd_cells h (by simp)
 rcases Nat.lt_or_ge i n with hil | hil
 · obtain ⟨s, hs, hSi⟩ := hS i hil
   have e1 : ∀ w', Rd 3 Ln.cs (.slice (some ad) n lc) L w' → ∀ (q : Nat) (v : Value), (Ln.cs (lnAt L i))[q]? = some v → w'.cell? ((ad.add ((i : Int).toNat * 3)).add q) = some v := fun w' hw' => rd_ati hw' (lnAt_get (by omega))
   have hat : ((outV z F).map SV.v)[(s : Int).toNat * 1]? = some (.v (F s).v) := by
    rw [List.getElem?_map, Int.toNat_natCast, Nat.mul_one, outV_at F hs]; rfl
   have hnx : ∀ k, k < z → k ≠ s → rowL L p.S (i + 1) k = rowL L p.S i k := fun k hk hne => rowL_no (by rw [hSi]; omega)
   have hys := rowL_yes (L := L) hSi
   have hro : ∀ j v, [iv (s : Int)][j]? = some v → (tbV n p.S)[(i : Int).toNat * 1 + j]? = some v := by
    rw [← hSi]; exact tbV_one (by omega) p.S hil
   cases ho : (F s).o with
   | none =>
    have hv : (F s).v = .slice none 0 0 := by unfold OR.v; rw [ho]
    rw [hv] at hat
    refine VC.of env mixed ?_
    repeat'
     conv => whnf
     first
      |refine zA ?_|refine zB ?_|refine zF ?_|refine zG ?_|refine zI ?_
      |(refine splD ?_ ?_ <;> intro hc <;> first|(exfalso; omega)|skip)
      |refine nlC rfl rfl ?_
      |refine eL [iv (s : Int)] ⟨⟨rfl, hro⟩, ?_⟩
      |refine ldM env (.v (.slice none 0 0)) rfl rfl rfl rfl rfl hat rfl ?_
      |refine eL (Ln.cs (lnAt L i)) ⟨⟨rfl, fun w' hw' => e1 w' hw'.2.1⟩, ?_⟩
      |refine Tx.stM env (.os 7 8 1) rfl rfl rfl rfl rfl rfl rfl (by rw [List.length_map, hVl, Int.toNat_natCast]; show s * 1 < _; omega) rfl rfl (lts_v _ _) rfl ?_
    refine Dis.mk5 (w0 := w) id [7] trivial (fun k hk => by rw [List.mem_singleton] at hk; subst hk; exact ⟨_, rfl, rfl⟩) (fun w' h => h.1) (fun β w1 hok hw1 hge hout hne => ⟨(i + 1, updO F s ⟨some (β 7, β 8), [lnAt L i]⟩), ⟨⟨by dsimp only; omega, fun k hk => ?_, ?_, ?_⟩, by dsimp only; omega⟩, ⟨⟨_, rfl, rfl⟩, ⟨_, rfl, rfl⟩, ⟨_, rfl, rfl⟩, ⟨_, rfl, rfl⟩, ⟨_, rfl, rfl⟩, trivial⟩, ⟨⟨rfl, _, rfl, fun _ => rfl, fun w2 y hy => hy⟩, ⟨rfl, _, rfl, fun _ => rfl, fun w2 y hy => hy⟩, ⟨rfl, _, rfl, fun _ => rfl, fun w2 y hy => mix_conv (F := F) hs (r := ⟨some (β 7, β 8), [lnAt L i]⟩) rfl hy⟩, trivial⟩, rfl, fun w2 hw2 hLo => ⟨hw2.1, hw2.2.1, fun k hk => ?_⟩⟩)
    · dsimp only
      unfold updO
      by_cases e : k = s
      · subst e
        rw [if_pos rfl, hys, ← hFL k hk, (hw1.2.2 k hk).1 ho]; rfl
      · rw [if_neg e, hnx k hk e]; exact hFL k hk
    · exact outD_upd hFD fun k hk hne q' hq' => hout 7 _ q'.1 rfl rfl (fun w3 hw3 => own_cells ((hw3.2.2 k hk).2 q' hq').2)
    · intro k hk q' hq'
      dsimp only at hq'
      unfold updO at hq'
      by_cases e : k = s
      · rw [if_pos e] at hq'
        cases hq'
        exact ⟨hout 7 _ ad.block rfl rfl (fun w3 hw3 => hLc w3 hw3.2.1), hge 7 _ rfl rfl, by dsimp only; unfold updO; rw [if_pos e]; simp⟩
      · rw [if_neg e] at hq'
        dsimp only
        unfold updO
        rw [if_neg e]
        exact hFa k hk q' hq'
    · dsimp only
      unfold updO
      by_cases e : k = s
      · rw [if_pos e]
        refine ⟨fun h => (by cases h), fun q' hq' => ?_⟩
        cases hq'
        refine ⟨hge 7 _ rfl rfl, ?_⟩
        have h1 := hLo 7 (by simp) _ rfl
        rw [lnV_list]
        exact h1
      · rw [if_neg e]; exact hw2.2.2 k hk
   | some q =>
    have hv : (F s).v = .slice (some ⟨q.1, 0, none⟩) (F s).L.length q.2 := by unfold OR.v; rw [ho]
    obtain ⟨ha1, ha2, ha3⟩ := hFa s hs q ho
    have hm : (F s).L.length ≤ 10000 := by
     have h1 := rowL_len L p.S s i
     have h2 := cntS_bd p.S i s
     rw [hFL s hs]; omega
    have hXl : (((outV z F).map SV.v).set ((s : Int).toNat * 1) (.os 6 7 (F s).L.length))[(s : Int).toNat * 1]? = some (.os 6 7 (F s).L.length) := by
     rw [List.getElem?_set, if_pos rfl, if_pos (by rw [List.length_map, hVl]; omega)]
    have hXlen : (((outV z F).map SV.v).set ((s : Int).toNat * 1) (.os 6 7 (F s).L.length)).length = z := by rw [List.length_set, List.length_map, hVl]
    have hXlt : SV.lts 8 (((outV z F).map SV.v).set ((s : Int).toNat * 1) (.os 6 7 (F s).L.length)) = true := lts_set rfl (lts_v _ _)
    refine VC.ent (σ' := ⟨139, [(6, .ptr 0 0), (12, .os 4 5 z), (105, .os 1 2 n), (106, .v (iv n)), (107, .v (iv i))], [(6, .own 7 (F s).L.length 3 (lnV (F s).L.length (lnAt (F s).L)) 46), (4, .mix 5 z 1 [] (((outV z F).map SV.v).set ((s : Int).toNat * 1) (.os 6 7 (F s).L.length)) 44), (0, .cells (.v (iv sl) :: .v (iv ro) :: .v (iv su) :: .v gs :: .v ts :: .v (.slice (some ad) n lc) :: .os 1 2 n :: (tbS 320 p.A ++ tbS 320 p.B)) 93), (1, .own 2 n 1 (tbV n p.S) 3)], 8, fun w' => Below w.heap.size w w' ∧ Rd 3 Ln.cs (.slice (some ad) n lc) L w' ∧ OutX w.heap.size z F s w', z0⟩) ?_
     (Ent.take q.1 q.2 (F s).L.length 3 46 (lnV (F s).L.length (lnAt (F s).L)) 4 5 z 44 ((outV z F).map .v) (((outV z F).map SV.v).set ((s : Int).toNat * 1) (.os 6 7 (F s).L.length)) (fun w' => Below w.heap.size w w' ∧ Rd 3 Ln.cs (.slice (some ad) n lc) L w' ∧ OutX w.heap.size z F s w') (fun x => x = ad.block ∨ ∃ k, k < z ∧ k ≠ s ∧ ∃ p', (F k).o = some p' ∧ p'.1 = x) (fun x => x < w.heap.size) w rfl (fun w' hw' => ((hw'.2.2 s hs).2 q ho).2)
      ⟨fun hq => ?_, by omega⟩ (fun x hx w' hw' => ?_) (fun x hx w' hw' => ⟨Nat.lt_of_lt_of_le hx hw'.1.size, hw'.1.block x hx⟩) (fun w1 w2 hw1 hc => ?_) ⟨rfl, rfl, rfl, rfl, rfl, trivial⟩ rfl ⟨rfl, rfl, trivial⟩ (mB_up (mPl ⟨sl, ro, su, gs, ts, some ad, n, lc, L⟩ p) (by decide)) rfl ⟨by decide, by decide⟩ (fun bk h => by have h : (none : Option Blk) = some bk := h; cases h) (fun β => ?_))
     (okB rfl ?_ rfl)
    · generalize hml : (F s).L.length = m at *
      refine VC.of env mixed ?_
      have hxs : (lnV m (lnAt (F s).L)).length = m * 3 := lnV_len _ _
      generalize hXX : (((outV z F).map SV.v).set ((s : Int).toNat * 1) (.os 6 7 m)) = XX at *
      repeat'
       conv => whnf
       first
        |refine zA ?_|refine zB ?_|refine zF ?_|refine zG ?_|refine zH ?_|refine zI ?_
        |(refine splD ?_ ?_ <;> intro hc <;> first|(exfalso; omega)|skip)
        |refine nlC rfl rfl ?_
        |refine eL [iv (s : Int)] ⟨⟨rfl, hro⟩, ?_⟩
        |refine ldM env (.os 6 7 m) rfl rfl rfl rfl rfl hXl rfl ?_
        |refine eL (Ln.cs (lnAt L i)) ⟨⟨rfl, fun w' hw' => e1 w' hw'.2.1⟩, ?_⟩
        |refine Tx.stM env (.os 9 10 (m + 1)) rfl rfl rfl rfl rfl rfl rfl (by rw [hXlen, Int.toNat_natCast]; show s * 1 < _; omega) rfl rfl (lts_mono1 hXlt (by show 8 ≤ 11; decide)) rfl ?_
      refine Dis.mk5 (w0 := w) id [9] trivial (fun k hk => by rw [List.mem_singleton] at hk; subst hk; exact ⟨_, rfl, rfl⟩) (fun w' h => h.1) (fun β w1 hok hw1 hge hout hne => ⟨(i + 1, updO F s ⟨some (β 9, β 10), (F s).L ++ [lnAt L i]⟩), ⟨⟨by dsimp only; omega, fun k hk => ?_, ?_, ?_⟩, by dsimp only; omega⟩, ⟨⟨_, rfl, rfl⟩, ⟨_, rfl, rfl⟩, ⟨_, rfl, rfl⟩, ⟨_, rfl, rfl⟩, ⟨_, rfl, rfl⟩, trivial⟩, ⟨⟨rfl, _, rfl, fun _ => rfl, fun w2 y hy => hy⟩, ⟨rfl, _, rfl, fun _ => rfl, fun w2 y hy => hy⟩, ⟨rfl, _, rfl, fun _ => rfl, fun w2 y hy => ?_⟩, trivial⟩, rfl, fun w2 hw2 hLo => ⟨hw2.1, hw2.2.1, fun k hk => ?_⟩⟩)
      · dsimp only
        unfold updO
        by_cases e : k = s
        · subst e
          rw [if_pos rfl, hys, ← hFL k hk]
        · rw [if_neg e, hnx k hk e]; exact hFL k hk
      · exact outD_upd hFD fun k hk hne q' hq' => hout 9 _ q'.1 rfl rfl (fun w3 hw3 => own_cells ((hw3.2.2 k hk hne).2 q' hq').2)
      · intro k hk q' hq'
        dsimp only at hq'
        unfold updO at hq'
        by_cases e : k = s
        · rw [if_pos e] at hq'
          cases hq'
          exact ⟨hout 9 _ ad.block rfl rfl (fun w3 hw3 => hLc w3 hw3.2.1), hge 9 _ rfl rfl, by dsimp only; unfold updO; rw [if_pos e]; simp⟩
        · rw [if_neg e] at hq'
          dsimp only
          unfold updO
          rw [if_neg e]
          exact hFa k hk q' hq'
      · refine mix_conv (F := F) (i := 9) (j := 10) (n := m + 1) hs (r := ⟨some (β 9, β 10), (F s).L ++ [lnAt L i]⟩) ?_ ?_
        · show Value.slice (some ⟨β 9, 0, none⟩) ((F s).L ++ [lnAt L i]).length (β 10) = _
          rw [List.length_append, hml]; rfl
        · have e0 : XX.set ((s : Int).toNat * 1) (.os 9 10 (m + 1)) = ((outV z F).map SV.v).set ((s : Int).toNat * 1) (.os 9 10 (m + 1)) := by rw [← hXX, List.set_set]
          rw [← e0]
          exact hy
      · dsimp only
        unfold updO
        by_cases e : k = s
        · rw [if_pos e]
          refine ⟨fun h => (by cases h), fun q' hq' => ?_⟩
          cases hq'
          refine ⟨hge 9 _ rfl rfl, ?_⟩
          have h1 := hLo 9 (by simp) _ rfl
          simp only [Blk.ok] at h1
          have h2 : lnV m (lnAt (F s).L) ++ [iv (lnAt L i).g, iv (lnAt L i).j, iv (lnAt L i).t] = ((F s).L ++ [lnAt L i]).flatMap Ln.cs := by
           rw [← hml, lnV_list, List.flatMap_append]; simp
          dsimp only
          rw [lnV_list, ← h2, show ((F s).L ++ [lnAt L i]).length = m + 1 from by rw [List.length_append, hml]; rfl]
          exact h1
        · rw [if_neg e]; exact hw2.2.2 k hk e
    · rcases hq with e | ⟨k, hk, hne, p', hp', e⟩
      · exact ha1 e
      · exact hFD k s hk hs hne p' q hp' ho e
    · rcases hx with rfl | ⟨k, hk, hne, p', hp', rfl⟩
      · exact hLc w' hw'.2.1
      · exact own_cells ((hw'.2.2 k hk).2 p' hp').2
    · refine ⟨below_chg hw1.1 hc, ?_, fun k hk hne => ⟨(hw1.2.2 k hk).1, fun p' hp' => ⟨((hw1.2.2 k hk).2 p' hp').1, ?_⟩⟩⟩
      · obtain ⟨cs, ty, fr, h1⟩ := hLc w1 hw1.2.1
        exact rd_keep hw1.2.1 (hc.same _ (Array.getElem?_eq_some_iff.1 h1).1 fun hn => hn (.inr (.inl rfl)))
      · have h0 := ((hw1.2.2 k hk).2 p' hp').2
        obtain ⟨cs, ty, fr, h1⟩ := own_cells h0
        exact own_keep h0 (hc.same _ (Array.getElem?_eq_some_iff.1 h1).1 fun hn => hn (.inr (.inr ⟨k, hk, hne, p', hp', rfl⟩)))
    · rw [cs_set, cs_v, cs_v, show (s : Int).toNat * 1 = s from by omega]
      have h1 := outV_upd F (F s) hs
      rw [show updO F s (F s) = F from by funext k; unfold updO; split; · rename_i e; rw [e]
                                          · rfl] at h1
      rw [hv] at h1
      exact h1.symm
    · have h1 := mB_up (mPl ⟨sl, ro, su, gs, ts, some ad, n, lc, L⟩ p) (show 3 ≤ 8 by omega)
      have h2 : mB 8 [(6, Blk.own 7 (F s).L.length 3 (lnV (F s).L.length (lnAt (F s).L)) 46), (4, Blk.mix 5 z 1 [] (((outV z F).map SV.v).set ((s : Int).toNat * 1) (.os 6 7 (F s).L.length)) 44)] = true := by
       simp only [mB, Blk.lt, hXlt]; rfl
      exact mB_app h2 h1
 · obtain rfl : i = n := by omega
   refine VC.of env mixed ?_
   repeat'
    conv => whnf
    first
     |(refine splD ?_ ?_ <;> intro hc <;> first|(exfalso; omega)|skip)
   have hT := T10 D w z F hz (fun s hs => by rw [hFL s hs]; exact ⟨h12 s hs, fun x hx => hg x (rowL_mem hn hx)⟩) hFD he (by
    rw [show ((List.range z).map fun s => srtL (F s).L) = (List.range z).map fun s => srtL (rowL L p.S i s) from List.map_congr_left fun s hs => by rw [hFL s (List.mem_range.1 hs)]]
    exact hX)
   conv => whnf
   exact VC.ent hT (Ent.weak rfl ⟨rfl, trivial⟩ ⟨rfl, trivial⟩ fun w' h => ⟨h.1, h.2.2⟩) (okB rfl (by simp only [mB, Blk.lt, lts_v]; rfl) rfl)
theorem callCounts {σ : Sg} {rs : List Nat} {K : Ef → Prop} {KF : Option KT} (nb : Nat) (h : PH) (p : Pn) (z : Nat) (hh : PhOK h) (hz : h.sl = z) (hz40 : z ≤ 40) (hS : ∀ i, i < h.n → 0 ≤ p.S i ∧ p.S i < z)
 (e0 : lk σ.m 0 = some (.cells (plC h p) 93)) (e1 : lk σ.m 1 = some (.own 2 h.n 1 (tbV h.n p.S) 3)) (hnb : σ.nb = nb) (h3 : 3 ≤ nb) (hrd : ∀ w', σ.h w' → Rd 3 Ln.cs (.slice h.lo h.n h.lc) h.L w')
 (hK : K ⟨.os nb (nb + 1) z, [nb, nb + 1], (nb, .own (nb + 1) z 1 (tbV z fun t => cntS p.S h.n t) 3) :: plM h p, rs, [0, 1]⟩) : CallEv Tryz.prog σ 41 [.ptr 0 0] (efB σ) rs K KF := by
 subst hnb
 refine callWO σ.nb [0, 1] (plM h p) _ 1 _ 3 rfl ?_ (fun k hk => ?_) (mB_up (mPl h p) h3) (fun β w h1 h2 hst => ?_) hK
 · have h01 : Nat.blt 0 σ.nb = true := by rw [Nat.blt_eq]; omega
   have h11 : Nat.blt 1 σ.nb = true := by rw [Nat.blt_eq]; omega
   have h02 : Nat.blt 0 (σ.nb + 2) = true := by rw [Nat.blt_eq]; omega
   have h12 : Nat.blt 1 (σ.nb + 2) = true := by rw [Nat.blt_eq]; omega
   have h22 : Nat.blt 2 (σ.nb + 2) = true := by rw [Nat.blt_eq]; omega
   have hi1 : Nat.blt σ.nb (σ.nb + 2) = true := by rw [Nat.blt_eq]; omega
   have hj1 : Nat.blt (σ.nb + 1) (σ.nb + 2) = true := by rw [Nat.blt_eq]; omega
   have hn : Nat.blt σ.nb σ.nb = false := by
    cases hb : Nat.blt σ.nb σ.nb with
    | false => rfl
    | true => rw [Nat.blt_eq] at hb; omega
   have b0 : Nat.beq σ.nb 0 = false := beq_ne (by omega)
   have b1 : Nat.beq σ.nb 1 = false := beq_ne (by omega)
   have b2 : Nat.beq σ.nb σ.nb = true := Nat.beq_refl _
   have b3 : Nat.beq (σ.nb + 1) (σ.nb + 1) = true := Nat.beq_refl _
   have b4 : Nat.beq 0 1 = false := rfl
   have b5 : Nat.beq 1 0 = false := rfl
   simp [efB, eqs, modsLt, oldB, keysB, nodupB, SV.lt, nin, e0, e1, Blk.live, Blk.lt, SV.lts, h01, h11, h02, h12, h22, hi1, hj1, hn, lts_append (tbS_lt _ _ _) (tbS_lt _ _ _), b0, b1, b2, b3, b4, b5]
 · simp only [List.mem_cons, List.not_mem_nil, or_false] at hk
   rcases hk with rfl | rfl
   · exact ⟨_, List.mem_cons_self⟩
   · exact ⟨_, List.mem_cons_of_mem _ List.mem_cons_self⟩
 · have hsub : ∀ b, (∃ j bk, lk (plM h p) j = some bk ∧ β j = b) → ∃ k ∈ [0, 1], (∃ bk, lk σ.m k = some bk ∧ bk.live = true) ∧ β k = b := fun b ⟨j, bk, hj, hb⟩ => by
    rcases plM_lk hj with ⟨rfl, rfl⟩ | ⟨rfl, rfl⟩
    · exact ⟨0, by simp, ⟨_, e0, rfl⟩, hb⟩
    · exact ⟨1, by simp, ⟨_, e1, rfl⟩, hb⟩
   refine (counts_ok h p z hh hz hz40 hS (plOK_of e0 e1 h1 h2 fun w' hc => hrd w' (hst w' (Chg.sub hc hsub)))).mono fun e w' ⟨bb, d, q1, q2, q3, q4, q5⟩ => ⟨bb, d, q1, q2, Chg.sub q3 fun b hb => ?_, fun k bk hk => ?_, q5⟩
   · obtain ⟨k, hk, _, hkb⟩ := hsub b hb
     exact ⟨k, hk, hkb⟩
   · simp only [plM, List.mem_cons, Prod.mk.injEq, List.not_mem_nil, or_false] at hk
     rcases hk with ⟨rfl, rfl⟩ | ⟨rfl, rfl⟩
     · exact q4 0 _ rfl
     · exact q4 1 _ rfl
end Go.Proofs.YtkbfcofifhngfaaGreat
namespace Go.Proofs.YtkbfcofifhngfaaGreat
open Go
theorem maxF_spec : ∀ (l : List Int) (x : Int), maxF x l ∈ x :: l ∧ ∀ y ∈ x :: l, y ≤ maxF x l
 | [], x => ⟨List.mem_singleton.2 rfl, fun y hy => by rw [List.mem_singleton] at hy; subst hy; exact Int.le_refl _⟩
 | a :: l, x => by
  have ih := maxF_spec l (max x a)
  have e : maxF x (a :: l) = maxF (max x a) l := rfl
  rw [e]
  obtain ⟨h1, h2⟩ := ih
  have h0 := h2 (max x a) List.mem_cons_self
  refine ⟨?_, fun y hy => ?_⟩
  · rcases List.mem_cons.1 h1 with h | h
    · rcases Int.le_total x a with hx | hx
      · rw [h, show max x a = a from by omega]; exact List.mem_cons_of_mem _ List.mem_cons_self
      · rw [h, show max x a = x from by omega]; exact List.mem_cons_self
    · exact List.mem_cons_of_mem _ (List.mem_cons_of_mem _ h)
  · rcases List.mem_cons.1 hy with rfl | hy
    · omega
    · rcases List.mem_cons.1 hy with rfl | hy
      · omega
      · exact h2 y (List.mem_cons_of_mem _ hy)
theorem minF_spec : ∀ (l : List Int) (x : Int), minF x l ∈ x :: l ∧ ∀ y ∈ x :: l, minF x l ≤ y
 | [], x => ⟨List.mem_singleton.2 rfl, fun y hy => by rw [List.mem_singleton] at hy; subst hy; exact Int.le_refl _⟩
 | a :: l, x => by
  have ih := minF_spec l (min x a)
  have e : minF x (a :: l) = minF (min x a) l := rfl
  rw [e]
  obtain ⟨h1, h2⟩ := ih
  have h0 := h2 (min x a) List.mem_cons_self
  refine ⟨?_, fun y hy => ?_⟩
  · rcases List.mem_cons.1 h1 with h | h
    · rcases Int.le_total x a with hx | hx
      · rw [h, show min x a = x from by omega]; exact List.mem_cons_self
      · rw [h, show min x a = a from by omega]; exact List.mem_cons_of_mem _ List.mem_cons_self
    · exact List.mem_cons_of_mem _ (List.mem_cons_of_mem _ h)
  · rcases List.mem_cons.1 hy with rfl | hy
    · omega
    · rcases List.mem_cons.1 hy with rfl | hy
      · omega
      · exact h2 y (List.mem_cons_of_mem _ hy)
theorem ix_ex {l : List Int} {x : Int} (h : x ∈ l) : ∃ f, f < l.length ∧ ixN (eqL l x) l.length = (f : Int) ∧ l.getD f 0 = x := by
 obtain ⟨k, hk⟩ := List.mem_iff_getElem?.1 h
 have hkl := (List.getElem?_eq_some_iff.1 hk).1
 obtain ⟨m, hm, h1, h2⟩ := least_ex (P := fun f => l.getD f 0 = x) k (by show l.getD k 0 = x; rw [List.getD_eq_getElem?_getD, hk]; rfl)
 exact ⟨m, by omega, ixN_hit (fun i hi => by unfold eqL; exact beq_false_of_ne (h2 i hi)) (by unfold eqL; exact beq_iff_eq.2 h1) (by omega), h1⟩
theorem cnt_total {S : Nat → Int} {z : Nat} : ∀ n, (∀ i, i < n → ∃ s : Nat, s < z ∧ S i = s) → sumN (fun s => cntS S n s) z = n
 | 0, _ => sumN_zero z
 | n + 1, h => by
  have ih := cnt_total n fun i hi => h i (by omega)
  obtain ⟨s, hs, e⟩ := h n (by omega)
  have e1 : sumN (fun s => cntS S (n + 1) s) z = sumN (fun s => cntS S n s + (if s = (s : Nat) ∧ S n = (s : Nat) then 1 else 0)) z := sumN_congr fun k _ => by rw [cntS]; simp
  rw [e1, sumN_add, ih]
  have e2 : sumN (fun k => (if k = (k : Nat) ∧ S n = (k : Nat) then (1 : Int) else 0)) z = sumN (fun k => if k = s then 1 else (fun _ : Nat => (0 : Int)) k) z := sumN_congr fun k _ => by
   by_cases hk : k = s
   · subst hk; rw [if_pos ⟨rfl, e⟩, if_pos rfl]
   · rw [if_neg (fun h => hk (by have := h.2; omega)), if_neg hk]
  rw [e2, sumN_upd hs, sumN_zero]; omega
def excF (ro : Int) (z : Nat) (c : Nat → Int) : Int := sumN (fun s => max 0 (c s - ro)) z
theorem excF_nn (ro : Int) (z : Nat) (c : Nat → Int) : 0 ≤ excF ro z c := sumN_nn fun i _ => by omega
theorem exc_dec {ro : Int} {z f t : Nat} {c c' : Nat → Int} (hf : f < z) (h1 : ro < c f) (h2 : c t < ro) (h : ∀ s : Nat, c' s = c s + (if s = t then 1 else 0) - (if s = f then 1 else 0)) : excF ro z c' = excF ro z c - 1 := by
 unfold excF
 have hft : f ≠ t := fun e => by subst e; omega
 have e : sumN (fun s => max 0 (c' s - ro)) z = sumN (fun s => if s = f then max 0 (c f - ro) - 1 else (fun s => max 0 (c s - ro)) s) z := sumN_congr fun s _ => by
  rw [h s]
  by_cases e1 : s = f
  · rw [if_pos e1, if_pos e1, if_neg (by omega), e1]; omega
  · rw [if_neg e1, if_neg e1]
    by_cases e2 : s = t
    · rw [if_pos e2, e2]; dsimp only; omega
    · rw [if_neg e2]; dsimp only; omega
 rw [e, sumN_upd hf]; omega
theorem min_low {ro : Int} {z f : Nat} {c : Nat → Int} {m : Int} (hf : f < z) (h1 : ro < c f) (hm : ∀ s, s < z → m ≤ c s) (hs : sumN c z ≤ ro * z) : m < ro := by
 refine Int.not_le.1 fun hge => ?_
 have h3 : ∀ n : Nat, sumN (fun _ => ro) n = ro * n := fun n => by
  induction n with
  | zero => simp [sumN]
  | succ n ih => rw [sumN, ih, Int.natCast_add, Int.mul_add]; simp
 have := sumN_lt (f := fun _ => ro) (g := c) (j := f) (n := z) (fun i hi => Int.le_trans hge (hm i hi)) hf h1
 rw [h3] at this
 omega
end Go.Proofs.YtkbfcofifhngfaaGreat
namespace Go.Proofs.YtkbfcofifhngfaaGreat
open Go Tx Go.RowKit
theorem T7 (w : World) (z : Nat) (sl ro su : Int) (gs ts : Value) (ad : Addr) (n lc : Nat) (L : List Ln) (p0 : Pn) (hn : L.length = n) (hn2 : n ≤ 10000) (hsl : sl = z) (hz1 : 1 ≤ z) (hz : z ≤ 40) (hro : 1 ≤ ro ∧ ro ≤ 6) (hx : ∀ x ∈ L, 0 ≤ x.g ∧ x.g ≤ 7 ∧ 0 ≤ x.t ∧ x.t ≤ 7) (hnr : (n : Int) ≤ ro * z)
 (hC0 : Cons L z p0) (hS0 : ∀ i, i < n → ∃ s : Nat, s < z ∧ p0.S i = s) {Φ : Exit → Sg → Prop}
 (hr : ∀ p : Pn, Cons L z p → (∀ i, i < n → ∃ s : Nat, s < z ∧ p.S i = s) → (∀ s, s < z → cntS p.S n s ≤ ro) → VC Tryz.prog (rest 8 body13) ⟨139, [(1, .ptr 3 0), (6, .ptr 0 0)], [(0, .cells (.v (iv sl) :: .v (iv ro) :: .v (iv su) :: .v gs :: .v ts :: .v (.slice (some ad) n lc) :: .os 1 2 n :: (tbS 320 (p).A ++ tbS 320 (p).B)) 93), (1, .own 2 n 1 (tbV n (p).S) 3), (3, .cells [.v (iv sl), .v (iv ro), .v (iv su), .v gs, .v ts] 34)], 4, fun w' => Below w.heap.size w w' ∧ Rd 3 Ln.cs (.slice (some ad) n lc) L w', z0⟩ Φ) :
 VC Tryz.prog (rest 7 body13) ⟨139, [(1, .ptr 3 0), (6, .ptr 0 0)], [(0, .cells (.v (iv sl) :: .v (iv ro) :: .v (iv su) :: .v gs :: .v ts :: .v (.slice (some ad) n lc) :: .os 1 2 n :: (tbS 320 (p0).A ++ tbS 320 (p0).B)) 93), (1, .own 2 n 1 (tbV n (p0).S) 3), (3, .cells [.v (iv sl), .v (iv ro), .v (iv su), .v gs, .v ts] 34)], 4, fun w' => Below w.heap.size w w' ∧ Rd 3 Ln.cs (.slice (some ad) n lc) L w', z0⟩ Φ := by
 have hh : PhOK ⟨sl, ro, su, gs, ts, some ad, n, lc, L⟩ := ⟨hn, hn2, hx⟩
 have hv8 : ∀ i, i < L.length → ∀ te, vx L i te < 8 := fun i hi te => by
  have := hx _ (List.mem_of_getElem? (lnAt_get hi))
  unfold vx
  split <;> omega
 have hmB : ∀ (k : Nat) (p : Pn), 4 ≤ k → mB k [(0, .cells (.v (iv sl) :: .v (iv ro) :: .v (iv su) :: .v gs :: .v ts :: .v (.slice (some ad) n lc) :: .os 1 2 n :: (tbS 320 (p).A ++ tbS 320 (p).B)) 93), (1, .own 2 n 1 (tbV n (p).S) 3), (3, .cells [.v (iv sl), .v (iv ro), .v (iv su), .v gs, .v ts] 34)] = true := fun k p hk => by
  have h1 := mB_up (mPl ⟨sl, ro, su, gs, ts, some ad, n, lc, L⟩ p) (show 3 ≤ k by omega)
  have h2 : mB k [(3, Blk.cells [.v (iv sl), .v (iv ro), .v (iv su), .v gs, .v ts] 34)] = true := by
   simp only [mB, Blk.lt, SV.lts, SV.lt, Bool.and_true, Nat.blt_eq]; omega
  exact mB_app h1 h2
 have hcN := fun (σ : Sg) (rs : List Nat) (K : Ef → Prop) (KF : Option KT) (p : Pn) (hS : ∀ i, i < n → 0 ≤ p.S i ∧ p.S i < z) => callCounts (σ := σ) (rs := rs) (K := K) (KF := KF) 4 ⟨sl, ro, su, gs, ts, some ad, n, lc, L⟩ p z hh hsl hz hS
 have hcE := fun (σ : Sg) (rs : List Nat) (K : Ef → Prop) (KF : Option KT) (p p' : Pn) (f t : Int) (hC : PlTo 43 [.ptr 0 0, .v (iv f), .v (iv t)] ⟨sl, ro, su, gs, ts, some ad, n, lc, L⟩ p p') => callPl (σ := σ) (rs := rs) (K := K) (KF := KF) ⟨sl, ro, su, gs, ts, some ad, n, lc, L⟩ p p' hC
 dsimp only [plM, plC] at hcN hcE
 refine VC.cutE env mixed 1 4 (fun p : Pn => [(1, .ptr 3 0), (6, .ptr 0 0)]) (fun p => [(0, .cells (.v (iv sl) :: .v (iv ro) :: .v (iv su) :: .v gs :: .v ts :: .v (.slice (some ad) n lc) :: .os 1 2 n :: (tbS 320 (p).A ++ tbS 320 (p).B)) 93), (1, .own 2 n 1 (tbV n (p).S) 3), (3, .cells [.v (iv sl), .v (iv ro), .v (iv su), .v gs, .v ts] 34)]) (fun p => Cons L z p ∧ (∀ i, i < n → ∃ s : Nat, s < z ∧ p.S i = s) ∧ ∀ s, s < z → cntS p.S n s ≤ ro) (fun p _ => ⟨rfl, hmB 4 p (Nat.le_refl _)⟩) ?_ (fun p hp => hr p hp.1 hp.2.1 hp.2.2)
 skip
 refine loopN 4 (fun p : Pn => [(1, .ptr 3 0), (6, .ptr 0 0)]) (fun p => [(0, .cells (.v (iv sl) :: .v (iv ro) :: .v (iv su) :: .v gs :: .v ts :: .v (.slice (some ad) n lc) :: .os 1 2 n :: (tbS 320 (p).A ++ tbS 320 (p).B)) 93), (1, .own 2 n 1 (tbV n (p).S) 3), (3, .cells [.v (iv sl), .v (iv ro), .v (iv su), .v gs, .v ts] 34)]) (fun p => Cons L z p ∧ (∀ i, i < n → ∃ s : Nat, s < z ∧ p.S i = s)) (fun p => (excF ro z fun s => cntS p.S n s).toNat) p0 ⟨hC0, hS0⟩ ⟨rfl, rfl, trivial⟩ ⟨rfl, rfl, rfl, trivial⟩ (fun p _ => ⟨rfl, hmB 4 p (Nat.le_refl _)⟩) ?_
 intro p ⟨hC, hS⟩
 have hSb : ∀ i, i < n → 0 ≤ p.S i ∧ p.S i < z := fun i hi => by obtain ⟨s, h1, h2⟩ := hS i hi; omega
 obtain ⟨x0, tl, hcl⟩ : ∃ x0 tl, (List.range z).map (fun t => cntS p.S n t) = x0 :: tl := by
  cases h : (List.range z).map (fun t => cntS p.S n t) with
  | nil => have := congrArg List.length h; simp at this; omega
  | cons a l => exact ⟨a, l, rfl⟩
 have hlen : (x0 :: tl).length = z := by rw [← hcl]; simp
 have hrow : tbV z (fun t => cntS p.S n t) = (x0 :: tl).flatMap iF := by
  rw [← hcl, fIv, List.map_map]; rfl
 have hget : ∀ s, s < z → (x0 :: tl).getD s 0 = cntS p.S n s := fun s hs => by
  rw [← hcl, List.getD_eq_getElem?_getD, List.getElem?_map, List.getElem?_range hs]; rfl
 have hmem : ∀ s, s < z → cntS p.S n s ∈ x0 :: tl := fun s hs => by
  rw [← hcl]; exact List.mem_map_of_mem (List.mem_range.2 hs)
 obtain ⟨M1, M2⟩ := maxF_spec tl x0
 obtain ⟨m1, m2⟩ := minF_spec tl x0
 obtain ⟨f, hfl, hfi, hfv⟩ := ix_ex M1
 obtain ⟨t, htl, hti, htv⟩ := ix_ex m1
 have hfz : f < z := by omega
 have htz : t < z := by omega
 rw [hget f hfz] at hfv
 rw [hget t htz] at htv
 have hrd := fun (b d : Nat) (w' : World) (ho : w'.ownsRow 0 3 1 (.slice (some ⟨b, 0, none⟩) z d) z (tbV z fun t => cntS p.S n t)) => (by
  rw [hrow] at ho
  have := Rd.of_owns (sz := 1) (f := iF) (bs := x0 :: tl) (fun _ => rfl) rfl hlen.symm ho
  exact this : Rd 1 iF (.slice (some ⟨b, 0, none⟩) z d) (x0 :: tl) w')
 have h42 := fun (b d : Nat) (w' : World) (ho : w'.ownsRow 0 3 1 (.slice (some ⟨b, 0, none⟩) z d) z (tbV z fun t => cntS p.S n t)) => Max_ok x0 tl (some ⟨b, 0, none⟩) d w' (by rw [hlen]; exact hrd b d w' ho) (by simp at hlen; omega)
 have h45 := fun (b d : Nat) (w' : World) (ho : w'.ownsRow 0 3 1 (.slice (some ⟨b, 0, none⟩) z d) z (tbV z fun t => cntS p.S n t)) => Min_ok x0 tl (some ⟨b, 0, none⟩) d w' (by rw [hlen]; exact hrd b d w' ho) (by simp at hlen; omega)
 have h44 := fun (x : Int) (b d : Nat) (w' : World) (ho : w'.ownsRow 0 3 1 (.slice (some ⟨b, 0, none⟩) z d) z (tbV z fun t => cntS p.S n t)) => Index_ok (x0 :: tl) (some ⟨b, 0, none⟩) d x w' (by rw [hlen]; exact hrd b d w' ho) (by rw [hlen]; omega)
 have h44f := h44 (maxF x0 tl)
 have h44t := h44 (minF x0 tl)
 rw [hfi] at h44f
 rw [hti] at h44t
 rw [hlen] at h42 h45 h44f h44t
 generalize hMM : maxF x0 tl = M at *
 generalize hmm : minF x0 tl = m at *
 by_cases hle : M ≤ ro
 · have hfin : ∀ s, s < z → cntS p.S n s ≤ ro := fun s hs => Int.le_trans (M2 _ (hmem s hs)) hle
   repeat'
    conv => whnf
    first
     |refine zB ?_|refine zD ?_
     |(refine splD ?_ ?_ <;> intro hc <;> first|(exfalso; omega)|skip)
     |(with_reducible show CallEv _ _ 41 ..); refine hcN _ _ _ _ p hSb rfl rfl rfl (by decide) (fun w' hw' => hw'.2) ?_
     |((with_reducible show CallEv _ _ 42 ..); refine callM [4] (fun β w' hbk hbw => h42 (β 4) (β 5) w' (hbk 4 (by simp) _ rfl)) ?_)
   all_goals exact ⟨rfl, p, ⟨hC, hS, hfin⟩, Ent.weak rfl ⟨rfl, rfl, trivial⟩ ⟨rfl, rfl, rfl, trivial⟩ fun _ h => h⟩
 · have htot := cnt_total n hS
   have hlow : m < ro := min_low (c := fun s => cntS p.S n s) hfz (by show ro < cntS p.S n f; omega) (fun s hs => m2 _ (hmem s hs)) (by rw [htot]; exact hnr)
   have hlt : cntS p.S L.length t < cntS p.S L.length f := by rw [hn]; omega
   obtain ⟨chl, i0, te0, k1, k2, k3, k4, k5, k6, k7, k8⟩ := even_cons (f := f) (t := t) hC hz hv8 (by rw [hn]; exact hS) hfz htz hlt
   have hev := even_ok ⟨sl, ro, su, gs, ts, some ad, n, lc, L⟩ p (f : Int) (t : Int) chl i0 te0 hh (by omega) (by omega) (fun i hi => by have := hSb i hi; omega) (fun i hi hS te => by
    obtain ⟨a1, a2, a3, a4⟩ := k1 i hi hS te
    exact ⟨a1, by dsimp only; omega, a3, a4⟩) (by dsimp only; omega) k3 k4 k5
   dsimp only at hev
   generalize hp' : turnF L ((f : Int) + t) (i0 :: chl i0 te0) p = p' at *
   rw [hn] at k7 k8
   have hexc := exc_dec (ro := ro) (z := z) (f := f) (t := t) (c := fun s => cntS p.S n s) (c' := fun s => cntS p'.S n s) hfz (by show ro < cntS p.S n f; omega) (by show cntS p.S n t < ro; omega) k8
   have hnn := excF_nn ro z (fun s => cntS p'.S n s)
   repeat'
    conv => whnf
    first
     |refine zB ?_|refine zD ?_
     |(refine splD ?_ ?_ <;> intro hc <;> first|(exfalso; omega)|skip)
     |(with_reducible show CallEv _ _ 41 ..); refine hcN _ _ _ _ p hSb rfl rfl rfl (by decide) (fun w' hw' => hw'.2) ?_
     |((with_reducible show CallEv _ _ 42 ..); refine callM [4] (fun β w' hbk hbw => h42 (β 4) (β 5) w' (hbk 4 (by simp) _ rfl)) ?_)
     |((with_reducible show CallEv _ _ 45 ..); refine callM [4] (fun β w' hbk hbw => h45 (β 4) (β 5) w' (hbk 4 (by simp) _ rfl)) ?_)
     |((with_reducible show CallEv _ _ 44 [_, .v (iv M)] _ _ _ _); refine callM (k := 44) [4] (fun β w' hbk hbw => h44f (β 4) (β 5) w' (hbk 4 (by simp) _ rfl)) ?_)
     |((with_reducible show CallEv _ _ 44 [_, .v (iv m)] _ _ _ _); refine callM (k := 44) [4] (fun β w' hbk hbw => h44t (β 4) (β 5) w' (hbk 4 (by simp) _ rfl)) ?_)
     |(with_reducible show CallEv _ _ 43 ..); refine hcE _ _ _ _ p p' f t hev rfl rfl (by show 3 ≤ 6; decide) (fun w' hw' => hw'.2) ?_
   all_goals exact ⟨p', ⟨k6, k7⟩, by omega, Ent.weak rfl ⟨rfl, rfl, trivial⟩ ⟨rfl, rfl, rfl, trivial⟩ fun _ h => h⟩
theorem c13_8 : rest 8 body13 = .seq (qL (rest 8 body13)) (rest 9 body13) := by kernel_rfl
theorem outV_nil (z : Nat) : outV z F00 = (List.replicate z [Value.slice none 0 0]).flatten := by
 unfold outV
 induction z with
 | zero => rfl
 | succ z ih => rw [List.range_succ, List.map_append, ih, List.replicate_succ', List.flatten_append]; rfl
theorem T8 (w : World) (z : Nat) (sl ro su : Int) (gs ts : Value) (ad : Addr) (n lc : Nat) (L : List Ln) (p : Pn) (hsl : sl = z) (hz : z ≤ 40) {Φ : Exit → Sg → Prop}
 (hr : VC Tryz.prog (rest 9 body13) ⟨139, [(6, .ptr 0 0), (12, .os 4 5 z)], [(0, .cells (.v (iv sl) :: .v (iv ro) :: .v (iv su) :: .v gs :: .v ts :: .v (.slice (some ad) n lc) :: .os 1 2 n :: (tbS 320 p.A ++ tbS 320 p.B)) 93), (1, .own 2 n 1 (tbV n p.S) 3), (4, .mix 5 z 1 [] ((outV z F00).map .v) 44)], 6, fun w' => Below w.heap.size w w' ∧ Rd 3 Ln.cs (.slice (some ad) n lc) L w' ∧ OutOK w.heap.size z F00 w', z0⟩ Φ) :
 VC Tryz.prog (rest 8 body13) ⟨139, [(1, .ptr 3 0), (6, .ptr 0 0)], [(0, .cells (.v (iv sl) :: .v (iv ro) :: .v (iv su) :: .v gs :: .v ts :: .v (.slice (some ad) n lc) :: .os 1 2 n :: (tbS 320 p.A ++ tbS 320 p.B)) 93), (1, .own 2 n 1 (tbV n p.S) 3), (3, .cells [.v (iv sl), .v (iv ro), .v (iv su), .v gs, .v ts] 34)], 4, fun w' => Below w.heap.size w w' ∧ Rd 3 Ln.cs (.slice (some ad) n lc) L w', z0⟩ Φ := by
 subst hsl
 have hmB : mB 6 [(0, .cells (.v (iv (z : Int)) :: .v (iv ro) :: .v (iv su) :: .v gs :: .v ts :: .v (.slice (some ad) n lc) :: .os 1 2 n :: (tbS 320 p.A ++ tbS 320 p.B)) 93), (1, .own 2 n 1 (tbV n p.S) 3), (4, .mix 5 z 1 [] ((outV z F00).map .v) 44)] = true := by
  have h1 := mB_up (mPl ⟨(z : Int), ro, su, gs, ts, some ad, n, lc, L⟩ p) (show 3 ≤ 6 by omega)
  have h2 : mB 6 [(4, Blk.mix 5 z 1 [] ((outV z F00).map .v) 44)] = true := by
   simp only [mB, Blk.lt, lts_v, SV.lts]; rfl
  exact mB_app h1 h2
 refine VC.eq c13_8 (VC.sq (VC.of env mixed ?_))
 repeat'
  conv => whnf
  first
   |refine zB ?_
   |refine mkO env 4 z (outV z F00) rfl rfl rfl (by decide) rfl (by omega) (by decide) (outV_nil _) rfl ?_
 conv => whnf
 exact VC.dis (α := Unit) (I := fun _ => ⟨139, [(6, .ptr 0 0), (12, .os 4 5 z)], [(0, .cells (.v (iv (z : Int)) :: .v (iv ro) :: .v (iv su) :: .v gs :: .v ts :: .v (.slice (some ad) n lc) :: .os 1 2 n :: (tbS 320 p.A ++ tbS 320 p.B)) 93), (1, .own 2 n 1 (tbV n p.S) 3), (4, .mix 5 z 1 [] ((outV z F00).map .v) 44)], 6, fun w' => Below w.heap.size w w' ∧ Rd 3 Ln.cs (.slice (some ad) n lc) L w' ∧ OutOK w.heap.size z F00 w', z0⟩) (pre := fun _ => True)
  (Dis.mk3 (w0 := w) id [] rfl (fun i hi => by cases hi) (fun w' h => h.1) (fun β w1 hok hw1 hge => ⟨(), trivial, ⟨⟨_, rfl, rfl⟩, ⟨_, rfl, rfl⟩, trivial⟩, ⟨⟨rfl, _, rfl, fun _ => rfl, fun w2 y hy => hy⟩, ⟨rfl, _, rfl, fun _ => rfl, fun w2 y hy => hy⟩, ⟨rfl, _, rfl, fun _ => rfl, fun w2 y hy => by simp only [Blk.ok, cs_v] at hy ⊢; exact hy⟩, trivial⟩, rfl, fun w2 hw2 _ => ⟨hw2.1, hw2.2, fun s hs => ⟨fun _ => rfl, fun q hq => by cases hq⟩⟩⟩))
  (fun _ _ => okB rfl hmB rfl) (fun _ _ => hr)
theorem T6 (w : World) (z : Nat) (sl ro su : Int) (gs ts : Value) (ad : Addr) (n lc : Nat) (L : List Ln) (p0 : Pn) (hn : L.length = n) (hn2 : n ≤ 10000) (hsl : sl = z) (hz : z ≤ 40) (hx : ∀ x ∈ L, 0 ≤ x.g ∧ x.g ≤ 7 ∧ 0 ≤ x.t ∧ x.t ≤ 7)
 (hC0 : Cons L z p0) (hS0 : ∀ i, i < n → p0.S i = -1) (hc : ∀ i, i < L.length → ∀ te, (memV L te (vx L i te)).length ≤ z) {Φ : Exit → Sg → Prop}
 (hr : ∀ p : Pn, Cons L z p → (∀ i, i < n → ∃ s : Nat, s < z ∧ p.S i = s) → VC Tryz.prog (rest 7 body13) ⟨139, [(1, .ptr 3 0), (6, .ptr 0 0)], [(0, .cells (.v (iv sl) :: .v (iv ro) :: .v (iv su) :: .v gs :: .v ts :: .v (.slice (some ad) n lc) :: .os 1 2 n :: (tbS 320 (p).A ++ tbS 320 (p).B)) 93), (1, .own 2 n 1 (tbV n (p).S) 3), (3, .cells [.v (iv sl), .v (iv ro), .v (iv su), .v gs, .v ts] 34)], 4, fun w' => Below w.heap.size w w' ∧ Rd 3 Ln.cs (.slice (some ad) n lc) L w', z0⟩ Φ) :
 VC Tryz.prog (rest 6 body13) ⟨139, [(1, .ptr 3 0), (6, .ptr 0 0)], [(0, .cells (.v (iv sl) :: .v (iv ro) :: .v (iv su) :: .v gs :: .v ts :: .v (.slice (some ad) n lc) :: .os 1 2 n :: (tbS 320 (p0).A ++ tbS 320 (p0).B)) 93), (1, .own 2 n 1 (tbV n (p0).S) 3), (3, .cells [.v (iv sl), .v (iv ro), .v (iv su), .v gs, .v ts] 34)], 4, fun w' => Below w.heap.size w w' ∧ Rd 3 Ln.cs (.slice (some ad) n lc) L w', z0⟩ Φ := by
 have hh : PhOK ⟨sl, ro, su, gs, ts, some ad, n, lc, L⟩ := ⟨hn, hn2, hx⟩
 have hv8 : ∀ i, i < L.length → ∀ te, vx L i te < 8 := fun i hi te => by
  have := hx _ (List.mem_of_getElem? (lnAt_get hi))
  unfold vx
  split <;> omega
 have hmB : ∀ (k : Nat) (p : Pn), 4 ≤ k → mB k [(0, .cells (.v (iv sl) :: .v (iv ro) :: .v (iv su) :: .v gs :: .v ts :: .v (.slice (some ad) n lc) :: .os 1 2 n :: (tbS 320 (p).A ++ tbS 320 (p).B)) 93), (1, .own 2 n 1 (tbV n (p).S) 3), (3, .cells [.v (iv sl), .v (iv ro), .v (iv su), .v gs, .v ts] 34)] = true := fun k p hk => by
  have h1 := mB_up (mPl ⟨sl, ro, su, gs, ts, some ad, n, lc, L⟩ p) (show 3 ≤ k by omega)
  have h2 : mB k [(3, Blk.cells [.v (iv sl), .v (iv ro), .v (iv su), .v gs, .v ts] 34)] = true := by
   simp only [mB, Blk.lt, SV.lts, SV.lt, Bool.and_true, Nat.blt_eq]; omega
  exact mB_app h1 h2
 have hcE := fun (σ : Sg) (rs : List Nat) (K : Ef → Prop) (KF : Option KT) (p p' : Pn) (i : Nat) (hC : PlTo 40 [.ptr 0 0, .v (iv i)] ⟨sl, ro, su, gs, ts, some ad, n, lc, L⟩ p p') => callPl (σ := σ) (rs := rs) (K := K) (KF := KF) ⟨sl, ro, su, gs, ts, some ad, n, lc, L⟩ p p' hC
 dsimp only [plM, plC] at hcE
 refine VC.cutE env mixed 1 4 (fun p : Pn => [(1, .ptr 3 0), (6, .ptr 0 0)]) (fun p => [(0, .cells (.v (iv sl) :: .v (iv ro) :: .v (iv su) :: .v gs :: .v ts :: .v (.slice (some ad) n lc) :: .os 1 2 n :: (tbS 320 (p).A ++ tbS 320 (p).B)) 93), (1, .own 2 n 1 (tbV n (p).S) 3), (3, .cells [.v (iv sl), .v (iv ro), .v (iv su), .v gs, .v ts] 34)]) (fun p => Cons L z p ∧ ∀ i, i < n → ∃ s : Nat, s < z ∧ p.S i = s) (fun p _ => ⟨rfl, hmB 4 p (Nat.le_refl _)⟩) ?_ (fun p hp => hr p hp.1 hp.2)
 repeat'
  conv => whnf
  first
   |refine zB ?_
   |refine nlC rfl rfl ?_
 refine loopN 4 (fun x : Nat × Pn => [(1, .ptr 3 0), (6, .ptr 0 0), (74, .v (iv n)), (75, .v (iv x.1))]) (fun x => [(0, .cells (.v (iv sl) :: .v (iv ro) :: .v (iv su) :: .v gs :: .v ts :: .v (.slice (some ad) n lc) :: .os 1 2 n :: (tbS 320 (x.2).A ++ tbS 320 (x.2).B)) 93), (1, .own 2 n 1 (tbV n (x.2).S) 3), (3, .cells [.v (iv sl), .v (iv ro), .v (iv su), .v gs, .v ts] 34)]) (fun x => x.1 ≤ n ∧ Cons L z x.2 ∧ ∀ j, j < n → (x.2.S j = -1 ↔ x.1 ≤ j)) (fun x => n - x.1) (0, p0) ⟨Nat.zero_le _, hC0, fun j hj => ⟨fun _ => Nat.zero_le _, fun _ => hS0 j hj⟩⟩ ⟨rfl, rfl, rfl, rfl, trivial⟩ ⟨rfl, rfl, rfl, trivial⟩ (fun x _ => ⟨rfl, hmB 4 x.2 (Nat.le_refl _)⟩) ?_
 intro ⟨i, p⟩ ⟨hin, hC, hS⟩
 dsimp only at hin hC hS ⊢
 rcases Nat.lt_or_ge i n with hil | hil
 · have hSi := (hS i hil).2 (Nat.le_refl _)
   obtain ⟨p', a, b, k1, k2, k3, k4, k5, k6, k7, k8, k9⟩ := place_cons hC hz hv8 (by omega) hSi (hc i (by omega))
   have hpl := place_ok ⟨sl, ro, su, gs, ts, some ad, n, lc, L⟩ p p' i z a b (lnAt L i) hh (lnAt_get (show i < L.length by omega)) hsl hz hSi k1 k2 k3 k4 k5 k6 k7
   have hS' : ∀ j, j < n → (p'.S j = -1 ↔ i + 1 ≤ j) := fun j hj => by
    rw [k9 j, hS j hj]
    constructor
    · rintro ⟨h1, h2⟩; omega
    · intro h; exact ⟨by omega, by omega⟩
   clear k7 k9
   repeat'
    conv => whnf
    first
     |refine zD ?_|refine zF ?_
     |(refine splD ?_ ?_ <;> intro hc <;> first|(exfalso; omega)|skip)
     |(with_reducible show CallEv _ _ 40 ..); refine hcE _ _ _ _ p p' i hpl rfl rfl (by show 3 ≤ 4; decide) (fun w' hw' => hw'.2) ?_
   all_goals exact ⟨(i + 1, p'), ⟨by omega, k8, hS'⟩, by omega, Ent.weak rfl ⟨rfl, rfl, rfl, rfl, trivial⟩ ⟨rfl, rfl, rfl, trivial⟩ fun _ h => h⟩
 · obtain rfl : i = n := by omega
   have hall : ∀ j, j < i → ∃ s : Nat, s < z ∧ p.S j = s := fun j hj => by
    rcases hC.r j (by omega) with e | e
    · have := (hS j hj).1 e; omega
    · exact e
   repeat'
    conv => whnf
    first
     |(refine splD ?_ ?_ <;> intro hc <;> first|(exfalso; omega)|skip)
   all_goals exact ⟨rfl, p, ⟨hC, hall⟩, Ent.weak rfl ⟨rfl, rfl, trivial⟩ ⟨rfl, rfl, rfl, trivial⟩ fun _ h => h⟩
def negR (k : Nat) : List Int := List.replicate k (-1)
theorem negR_len (k : Nat) : (negR k).length = k := by simp [negR]
theorem negR_snoc (k : Nat) : negR (k + 1) = negR k ++ [-1] := List.replicate_succ'
theorem T5 (sl ro su : Int) (gs ts : Value) (lo : Option Addr) (n lc : Nat) (A B : Nat → Int) (hn2 : n ≤ 10000) {h : World → Prop} {Φ : Exit → Sg → Prop}
 (hr : VC Tryz.prog (rest 6 body13) ⟨139, [(1, .ptr 3 0), (6, .ptr 0 0)], (0, .cells (.v (iv sl) :: .v (iv ro) :: .v (iv su) :: .v gs :: .v ts :: .v (.slice lo n lc) :: oSV 1 2 (negR n) :: (tbS 320 A ++ tbS 320 B)) 93) :: (3, .cells [.v (iv sl), .v (iv ro), .v (iv su), .v gs, .v ts] 34) :: oM 1 2 1 iF 3 (negR n), 4, h, z0⟩ Φ) :
 VC Tryz.prog (rest 5 body13) ⟨139, [(1, .ptr 3 0), (6, .ptr 0 0)], [(0, .cells (.v (iv sl) :: .v (iv ro) :: .v (iv su) :: .v gs :: .v ts :: .v (.slice lo n lc) :: .v (.slice none 0 0) :: (tbS 320 A ++ tbS 320 B)) 93), (3, .cells [.v (iv sl), .v (iv ro), .v (iv su), .v gs, .v ts] 34)], 4, h, z0⟩ Φ := by
 have hmB : ∀ (k : Nat), mB 4 ((0, .cells (.v (iv sl) :: .v (iv ro) :: .v (iv su) :: .v gs :: .v ts :: .v (.slice lo n lc) :: oSV 1 2 (negR k) :: (tbS 320 A ++ tbS 320 B)) 93) :: (3, .cells [.v (iv sl), .v (iv ro), .v (iv su), .v gs, .v ts] 34) :: oM 1 2 1 iF 3 (negR k)) = true := fun k => by
  have h1 : SV.lts 4 (tbS 320 A ++ tbS 320 B) = true := lts_append (tbS_lt _ _ _) (tbS_lt _ _ _)
  cases k with
  | zero => simp only [mB, Blk.lt, SV.lts, h1]; rfl
  | succ k =>
   show mB 4 ((0, .cells (.v (iv sl) :: .v (iv ro) :: .v (iv su) :: .v gs :: .v ts :: .v (.slice lo n lc) :: .os 1 2 ((negR k).length + 1) :: (tbS 320 A ++ tbS 320 B)) 93) :: (3, .cells [.v (iv sl), .v (iv ro), .v (iv su), .v gs, .v ts] 34) :: [(1, .own 2 ((negR k).length + 1) 1 _ 3)]) = true
   simp only [mB, Blk.lt, SV.lts, SV.lt, h1]; rfl
 refine VC.cutE env mixed 1 4 (fun _ : Unit => [(1, .ptr 3 0), (6, .ptr 0 0)]) (fun _ => (0, .cells (.v (iv sl) :: .v (iv ro) :: .v (iv su) :: .v gs :: .v ts :: .v (.slice lo n lc) :: oSV 1 2 (negR n) :: (tbS 320 A ++ tbS 320 B)) 93) :: (3, .cells [.v (iv sl), .v (iv ro), .v (iv su), .v gs, .v ts] 34) :: oM 1 2 1 iF 3 (negR n)) (fun _ => True) (fun _ _ => ⟨rfl, hmB n⟩) ?_ (fun _ _ => hr)
 repeat'
  conv => whnf
  first
   |refine zB ?_
   |refine nlC rfl rfl ?_
 refine loopN 4 (fun k : Nat => [(1, .ptr 3 0), (6, .ptr 0 0), (57, .v (iv n)), (58, .v (iv k))]) (fun k => (0, .cells (.v (iv sl) :: .v (iv ro) :: .v (iv su) :: .v gs :: .v ts :: .v (.slice lo n lc) :: oSV 1 2 (negR k) :: (tbS 320 A ++ tbS 320 B)) 93) :: (3, .cells [.v (iv sl), .v (iv ro), .v (iv su), .v gs, .v ts] 34) :: oM 1 2 1 iF 3 (negR k)) (fun k => k ≤ n) (fun k => n - k) 0 (Nat.zero_le _) ⟨rfl, rfl, rfl, rfl, trivial⟩ (by exact ⟨rfl, rfl, trivial⟩) (fun k _ => ⟨rfl, hmB k⟩) ?_
 intro k hk
 rcases Nat.lt_or_ge k n with hkl | hkl
 · have hs := negR_snoc k
   have hl := negR_len k
   cases hR : negR k with
   | nil =>
    repeat'
     conv => whnf
     first
      |refine zB ?_|refine zC ?_|refine zF ?_|refine zI ?_
      |(refine splD ?_ ?_ <;> intro hc <;> first|(exfalso; omega)|skip)
      |refine nlC rfl rfl ?_
    rw [hR, List.nil_append] at hs
    conv => whnf
    exact ⟨k + 1, by omega, by omega, Ent.ren (rho [(1, 5), (2, 6)]) rfl (by rw [hs]; rfl) ⟨rfl, rfl, rfl, rfl, trivial⟩ (by rw [hs]; exact ⟨rfl, rfl, rfl, trivial⟩) fun _ h => h⟩
   | cons a R =>
    have hl2 : R.length + 1 = k := by rw [← hl, hR]; rfl
    rw [hR, List.cons_append] at hs
    repeat'
     conv => whnf
     first
      |refine zB ?_|refine zC ?_|refine zF ?_|refine zH ?_|refine zI ?_
      |(refine splD ?_ ?_ <;> intro hc <;> first|(exfalso; omega)|skip)
      |refine nlC rfl rfl ?_
    conv => whnf
    exact ⟨k + 1, by omega, by omega, Ent.ren (rho [(1, 5), (2, 6)]) rfl (by rw [hs]; rfl) ⟨rfl, rfl, rfl, rfl, trivial⟩ (by rw [hs]; exact ⟨by simp [oSV]; rfl, rfl, by simp [oM]; rfl, trivial⟩) fun _ h => h⟩
 · obtain rfl : k = n := by omega
   repeat'
    conv => whnf
    first
     |(refine splD ?_ ?_ <;> intro hc <;> first|(exfalso; omega)|skip)
   all_goals exact ⟨rfl, (), trivial, Ent.weak rfl ⟨rfl, rfl, trivial⟩ (by cases negR k <;> first | exact ⟨rfl, rfl, trivial⟩ | exact ⟨rfl, rfl, rfl, trivial⟩) fun _ h => h⟩
def fillF (k : Nat) : Nat → Int := fun p => if p < k then -1 else 0
theorem fill_upd (k : Nat) : updF (fillF k) k (-1) = fillF (k + 1) := by
 funext p
 show (if p = k then -1 else fillF k p) = fillF (k + 1) p
 unfold fillF
 by_cases h : p = k
 · rw [if_pos h, if_pos (by omega)]
 · rw [if_neg h]
   by_cases h2 : p < k
   · rw [if_pos h2, if_pos (by omega)]
   · rw [if_neg h2, if_neg (by omega)]
theorem T4 (sl ro su : Int) (gs ts : Value) (lo : Option Addr) (n lc : Nat) {h : World → Prop} {Φ : Exit → Sg → Prop}
 (hr : VC Tryz.prog (rest 5 body13) ⟨139, [(1, .ptr 3 0), (6, .ptr 0 0)], [(0, .cells (.v (iv sl) :: .v (iv ro) :: .v (iv su) :: .v gs :: .v ts :: .v (.slice lo n lc) :: .v (.slice none 0 0) :: (tbS 320 (fillF (320)) ++ tbS 320 (fillF (320)))) 93), (3, .cells [.v (iv sl), .v (iv ro), .v (iv su), .v gs, .v ts] 34)], 4, h, z0⟩ Φ) :
 VC Tryz.prog (rest 4 body13) ⟨139, [(1, .ptr 3 0), (6, .ptr 0 0)], [(0, .cells (.v (iv sl) :: .v (iv ro) :: .v (iv su) :: .v gs :: .v ts :: .v (.slice lo n lc) :: .v (.slice none 0 0) :: (tbS 320 (fillF (0)) ++ tbS 320 (fillF (0)))) 93), (3, .cells [.v (iv sl), .v (iv ro), .v (iv su), .v gs, .v ts] 34)], 4, h, z0⟩ Φ := by
 have hmB : ∀ (k : Nat), mB 4 [(0, .cells (.v (iv sl) :: .v (iv ro) :: .v (iv su) :: .v gs :: .v ts :: .v (.slice lo n lc) :: .v (.slice none 0 0) :: (tbS 320 (fillF (k)) ++ tbS 320 (fillF (k)))) 93), (3, .cells [.v (iv sl), .v (iv ro), .v (iv su), .v gs, .v ts] 34)] = true := fun k => by
  have h1 : SV.lts 4 (tbS 320 (fillF k) ++ tbS 320 (fillF k)) = true := lts_append (tbS_lt _ _ _) (tbS_lt _ _ _)
  simp only [mB, Blk.lt, SV.lts, h1]; rfl
 refine VC.cutE env mixed 1 4 (fun _ : Unit => [(1, .ptr 3 0), (6, .ptr 0 0)]) (fun _ => [(0, .cells (.v (iv sl) :: .v (iv ro) :: .v (iv su) :: .v gs :: .v ts :: .v (.slice lo n lc) :: .v (.slice none 0 0) :: (tbS 320 (fillF (320)) ++ tbS 320 (fillF (320)))) 93), (3, .cells [.v (iv sl), .v (iv ro), .v (iv su), .v gs, .v ts] 34)]) (fun _ => True) (fun _ _ => ⟨rfl, hmB 320⟩) ?_ (fun _ _ => hr)
 skip
 refine loopN 4 (fun i : Nat => [(1, .ptr 3 0), (6, .ptr 0 0), (31, .v (iv i))]) (fun i => [(0, .cells (.v (iv sl) :: .v (iv ro) :: .v (iv su) :: .v gs :: .v ts :: .v (.slice lo n lc) :: .v (.slice none 0 0) :: (tbS 320 (fillF (i * 40)) ++ tbS 320 (fillF (i * 40)))) 93), (3, .cells [.v (iv sl), .v (iv ro), .v (iv su), .v gs, .v ts] 34)]) (fun i => i ≤ 8) (fun i => 8 - i) 0 (Nat.zero_le _) ⟨rfl, rfl, rfl, trivial⟩ ⟨rfl, rfl, trivial⟩ (fun i _ => ⟨rfl, hmB (i * 40)⟩) ?_
 intro i hi
 rcases Nat.lt_or_ge i 8 with hil | hil
 ·
  repeat'
   conv => whnf
   first
    |(refine splD ?_ ?_ <;> intro hc <;> first|(exfalso; omega)|skip)
  refine loopN 4 (fun j : Nat => [(1, .ptr 3 0), (6, .ptr 0 0), (31, .v (iv i)), (7, .v (iv i)), (34, .v (iv j))]) (fun j => [(0, .cells (.v (iv sl) :: .v (iv ro) :: .v (iv su) :: .v gs :: .v ts :: .v (.slice lo n lc) :: .v (.slice none 0 0) :: (tbS 320 (fillF (i * 40 + j)) ++ tbS 320 (fillF (i * 40 + j)))) 93), (3, .cells [.v (iv sl), .v (iv ro), .v (iv su), .v gs, .v ts] 34)]) (fun j => j ≤ 40) (fun j => 40 - j) 0 (Nat.zero_le _) ⟨rfl, rfl, rfl, rfl, rfl, trivial⟩ ⟨rfl, rfl, trivial⟩ (fun j _ => ⟨rfl, hmB (i * 40 + j)⟩) ?_
  intro j hj
  rcases Nat.lt_or_ge j 40 with hjl | hjl
  · have hfu := fill_upd (i * 40 + j)
    repeat'
     conv => whnf
     first
      |refine zA ?_|refine zB ?_|refine zC ?_|refine zF ?_|refine zG ?_
      |(refine splD ?_ ?_ <;> intro hc <;> first|(exfalso; omega)|skip)
      |refine nlC rfl rfl ?_
      |refine spA (k := i * 40 + j) (by show 0 + 7 + (i : Int).toNat * 40 + (j : Int).toNat * 1 = 7 + (i * 40 + j); omega) (by omega) ?_
      |refine spB (k := i * 40 + j) (by show 0 + 327 + (i : Int).toNat * 40 + (j : Int).toNat * 1 = 327 + (i * 40 + j); omega) (by omega) ?_
    all_goals exact ⟨j + 1, by omega, by omega, Ent.weak rfl ⟨rfl, rfl, rfl, rfl, rfl, trivial⟩ ⟨by rw [show i * 40 + (j + 1) = i * 40 + j + 1 from rfl, ← hfu]; rfl, rfl, trivial⟩ fun _ h => h⟩
  · obtain rfl : j = 40 := by omega
    repeat'
     conv => whnf
     first
      |refine zF ?_|refine splF ?_
    all_goals exact ⟨i + 1, by omega, by omega, Ent.weak rfl ⟨rfl, rfl, rfl, trivial⟩ ⟨by rw [show (i + 1) * 40 = i * 40 + 40 from by omega]; rfl, rfl, trivial⟩ fun _ h => h⟩
 · obtain rfl : i = 8 := by omega
   repeat'
    conv => whnf
    first
     |refine splF ?_
   all_goals exact ⟨rfl, (), trivial, Ent.weak rfl ⟨rfl, rfl, trivial⟩ ⟨rfl, rfl, trivial⟩ fun _ h => h⟩
end Go.Proofs.YtkbfcofifhngfaaGreat
namespace Go.Proofs.YtkbfcofifhngfaaGreat
open Go
theorem sum_lnAt (F : Ln → Int) (l : List Ln) : (l.map F).sum = sumN (fun i => F (lnAt l i)) l.length := sumN_list F ⟨0, 0, 0⟩ l
theorem srtL_sum (F : Ln → Int) (l : List Ln) : ((srtL l).map F).sum = (l.map F).sum := by
 rw [sum_lnAt F l, sum_lnAt F (srtL l), srtL_len]
 rw [sumN_congr (g := fun i => F (srtF l.length (lnAt l) i)) fun i hi => by rw [srtL_at hi]]
 exact srt_sum F (lnAt l) l.length (Nat.le_refl _)
theorem flat_sum (F : Ln → Int) : ∀ X : List (List Ln), (X.flatten.map F).sum = (X.map fun l => (l.map F).sum).sum
 | [] => rfl
 | l :: X => by rw [List.flatten_cons, List.map_append, List.sum_append, flat_sum F X, List.map_cons, List.sum_cons]
theorem rowL_sum (F : Ln → Int) (L : List Ln) (S : Nat → Int) (s : Nat) : ∀ i, ((rowL L S i s).map F).sum = sumN (fun k => if S k = (s : Int) then F (lnAt L k) else 0) i
 | 0 => rfl
 | i + 1 => by
  rw [sumN]
  by_cases h : S i = (s : Int)
  · rw [rowL_yes h, List.map_append, List.sum_append, rowL_sum F L S s i, if_pos h]; simp
  · rw [rowL_no h, rowL_sum F L S s i, if_neg h]; omega
def tabX (L : List Ln) (S : Nat → Int) (n z : Nat) : List (List Ln) := (List.range z).map fun s => srtL (rowL L S n s)
theorem tab_sum (F : Ln → Int) (L : List Ln) (S : Nat → Int) (z : Nat) (hS : ∀ i, i < L.length → ∃ s : Nat, s < z ∧ S i = s) : ((tabX L S L.length z).flatten.map F).sum = (L.map F).sum := by
 rw [flat_sum, tabX, List.map_map, sumN_list (α := Nat) _ 0, List.length_range, sum_lnAt F L]
 rw [sumN_congr (g := fun s => sumN (fun k => if S k = (s : Int) then F (lnAt L k) else 0) L.length) fun s hs => by
  have : (List.range z).getD s 0 = s := by rw [List.getD_eq_getElem?_getD, List.getElem?_range hs]; rfl
  rw [this]
  show ((srtL (rowL L S L.length s)).map F).sum = _
  rw [srtL_sum, rowL_sum]]
 rw [sumN_swap]
 refine sumN_congr fun k hk => ?_
 obtain ⟨s, hs, e⟩ := hS k hk
 rw [sumN_congr (g := fun i => if i = s then F (lnAt L k) else (fun _ => 0) i) fun i _ => by
  by_cases h : i = s
  · subst h; rw [if_pos e, if_pos rfl]
  · rw [if_neg (fun e2 => h (by omega)), if_neg h], sumN_upd hs, sumN_zero]
 omega
theorem srtL_mem {l : List Ln} {x : Ln} (h : x ∈ srtL l) : x ∈ l := by
 unfold srtL at h
 obtain ⟨k, hk, rfl⟩ := List.mem_map.1 h
 exact srt_all (P := fun x => x ∈ l) (lnAt l) (fun k hk => List.mem_of_getElem? (lnAt_get hk)) l.length (Nat.le_refl _) k (List.mem_range.1 hk)
theorem two_le {f : Nat → Int} {n p q : Nat} (hn : ∀ i, i < n → 0 ≤ f i) (hp : p < n) (hq : q < n) (hpq : p ≠ q) : f p + f q ≤ sumN f n := by
 have h1 := sumN_upd (f := f) (v := 0) hp
 have h2 : (fun k => if k = p then 0 else f k) q ≤ sumN (fun k => if k = p then 0 else f k) n := sumN_ge (fun i hi => by
  split
  · exact Int.le_refl _
  · exact hn i hi) hq
 dsimp only at h2
 rw [if_neg (fun e => hpq e.symm)] at h2
 omega
theorem ind_le {P : Nat → Prop} [DecidablePred P] {n : Nat} (h : ∀ i j, i < n → j < n → P i → P j → i = j) : sumN (fun k => if P k then (1 : Int) else 0) n ≤ 1 := by
 by_cases hex : ∃ k, k < n ∧ P k
 · obtain ⟨k, hk, hp⟩ := hex
   rw [sumN_congr (g := fun i => if i = k then 1 else (fun _ : Nat => (0 : Int)) i) fun i hi => by
    by_cases e : i = k
    · subst e; rw [if_pos hp, if_pos rfl]
    · rw [if_neg (fun hp2 => e (h i k hi hk hp2 hp)), if_neg e], sumN_upd hk, sumN_zero]
   omega
 · rw [sumN_congr (g := fun _ => 0) fun i hi => if_neg fun hp => hex ⟨i, hi, hp⟩, sumN_zero]; omega
theorem row_one {L : List Ln} {z : Nat} {p : Pn} (hC : Cons L z p) {s : Nat} (hs : s < z) (key : Ln → Int) (te : Bool) (hkey : ∀ i j, i < L.length → j < L.length → key (lnAt L i) = key (lnAt L j) → vx L i te = vx L j te) {a b : Nat} (ha : a < (srtL (rowL L p.S L.length s)).length) (hb : b < (srtL (rowL L p.S L.length s)).length) (hab : a ≠ b) :
 key (lnAt (srtL (rowL L p.S L.length s)) a) ≠ key (lnAt (srtL (rowL L p.S L.length s)) b) := by
 intro e
 have h1 := sum_lnAt (fun x => if key x = key (lnAt (srtL (rowL L p.S L.length s)) a) then (1 : Int) else 0) (srtL (rowL L p.S L.length s))
 rw [srtL_sum, rowL_sum] at h1
 have h2 := two_le (f := fun i => if key (lnAt (srtL (rowL L p.S L.length s)) i) = key (lnAt (srtL (rowL L p.S L.length s)) a) then (1 : Int) else 0) (fun i _ => by split <;> decide) ha hb hab
 rw [if_pos rfl, if_pos e.symm] at h2
 have h3 : sumN (fun k => if p.S k = (s : Int) then (if key (lnAt L k) = key (lnAt (srtL (rowL L p.S L.length s)) a) then (1 : Int) else 0) else 0) L.length ≤ 1 := by
  rw [sumN_congr (g := fun k => if p.S k = (s : Int) ∧ key (lnAt L k) = key (lnAt (srtL (rowL L p.S L.length s)) a) then (1 : Int) else 0) fun k _ => by
   by_cases q1 : p.S k = (s : Int)
   · by_cases q2 : key (lnAt L k) = key (lnAt (srtL (rowL L p.S L.length s)) a)
     · rw [if_pos q1, if_pos q2, if_pos ⟨q1, q2⟩]
     · rw [if_pos q1, if_neg q2, if_neg (fun h => q2 h.2)]
   · rw [if_neg q1, if_neg (fun h => q1 h.1)]]
  exact ind_le (P := fun k => p.S k = (s : Int) ∧ key (lnAt L k) = key (lnAt (srtL (rowL L p.S L.length s)) a)) fun i j hi hj ⟨q1, q2⟩ ⟨q3, q4⟩ => by
   have hv := hkey i j hi hj (q2.trans q4.symm)
   have r1 := hC.a i hi s q1 te
   have r2 := hC.a j hj s q3 te
   rw [hv, r2] at r1
   omega
 omega
end Go.Proofs.YtkbfcofifhngfaaGreat
namespace Go.Proofs.YtkbfcofifhngfaaGreat
open Go Tx
theorem cntP_cGU (Y : List Ln) {a b : Nat} (hb : b < 6) : cntP Y (a * 6 + b) = cGU Y a b := by
 unfold cntP cGU
 rw [show (a * 6 + b) / 6 = a from by omega, show (a * 6 + b) % 6 = b from by omega]
 rfl
theorem tab_fit {D : SD} (hv : scOk D = true) {L : List Ln} (hA : AllOK D L) {z : Nat} (hz : D.sl = z) {p : Pn} (hC : Cons L z p) (hS : ∀ i, i < L.length → ∃ s : Nat, s < z ∧ p.S i = s) (hro : ∀ s, s < z → cntS p.S L.length s ≤ D.ro) :
 rfitB D (tabX L p.S L.length z) = true ∧ risB (tabX L p.S L.length z) := by
 obtain ⟨hv1, hv2, hv3, hv4, hv5, hv6, hv7⟩ := scOk_iff.1 hv
 have hmem : ∀ s x, x ∈ srtL (rowL L p.S L.length s) → x ∈ L := fun s x hx => rowL_mem rfl (srtL_mem hx)
 have hgk : ∀ i j, i < L.length → j < L.length → (lnAt L i).g = (lnAt L j).g → vx L i false = vx L j false := fun i j hi hj e => by show (lnAt L i).g.toNat = (lnAt L j).g.toNat; rw [e]
 have htk : ∀ i j, i < L.length → j < L.length → (lnAt L i).t = (lnAt L j).t → vx L i true = vx L j true := fun i j hi hj e => by show (lnAt L i).t.toNat = (lnAt L j).t.toNat; rw [e]
 have hone := fun (s : Nat) (hs : s < z) {a b : Nat} ha hb hab => row_one (a := a) (b := b) hC hs (fun x => x.g) false hgk ha hb hab
 have hone2 := fun (s : Nat) (hs : s < z) {a b : Nat} ha hb hab => row_one (a := a) (b := b) hC hs (fun x => x.t) true htk ha hb hab
 refine ⟨?_, fun l hl q hq => ?_⟩
 · unfold rfitB
   simp only [Bool.and_eq_true, decide_eq_true_eq]
   refine ⟨?_, ?_, ?_, ?_⟩
   · rw [hz]; simp [tabX]
   · refine List.all_eq_true.2 fun l hl => ?_
     obtain ⟨s, hs, rfl⟩ := List.mem_map.1 hl
     have hs := List.mem_range.1 hs
     unfold sltB
     simp only [Bool.and_eq_true, decide_eq_true_eq]
     refine ⟨?_, ?_, ?_⟩
     · rw [srtL_len, rowL_len]; exact hro s hs
     · refine List.all_eq_true.2 fun x hx => ?_
       obtain ⟨a, b, t, rfl, h1, h2, h3, h4⟩ := hA.rng x (hmem s x hx)
       unfold lesB
       simp only [Bool.and_eq_true, inB_iff]
       exact ⟨by omega, by omega, by omega, h4⟩
     · refine alN_iff.2 fun i hi => ?_
       unfold dsB
       refine alN_iff.2 fun k hk => ?_
       unfold cfB
       have q1 := hone s hs hi (show k < _ by omega) (show i ≠ k by omega)
       have q2 := hone2 s hs hi (show k < _ by omega) (show i ≠ k by omega)
       rw [beq_false_of_ne q1, beq_false_of_ne q2]; rfl
   · unfold hoB
     refine alN_iff.2 fun a ha => alN_iff.2 fun b hb => ?_
     rw [cntP_cGU _ (by omega)]
     have h1 := hA.cnt a ha b hb
     unfold rowP at h1
     rw [← h1]
     have : cGU (tabX L p.S L.length z).flatten a b = cGU L a b := tab_sum (fun x => b1 (decide (x.g = (a : Int) ∧ x.j = (b : Int)))) L p.S z hS
     rw [this]; exact beq_self_eq_true _
   · refine alN_iff.2 fun t ht => decide_eq_true ?_
     have : cntT (tabX L p.S L.length z).flatten t = cntT L t := tab_sum (fun x => b2i (decide (x.t = (t : Int)))) L p.S z hS
     rw [this]
     have h1 := hA.tea t ht
     unfold tmB timeP at h1
     omega
 · obtain ⟨s, hs, rfl⟩ := List.mem_map.1 hl
   have hs := List.mem_range.1 hs
   have h1 := srt_sorted (lnAt (rowL L p.S L.length s)) (rowL L p.S L.length s).length q (q + 1) (by omega) (by rw [srtL_len] at hq; exact hq)
   have h2 := hone s hs (show q < _ by omega) hq (show q ≠ q + 1 by omega)
   rw [← srtL_at (by rw [srtL_len] at hq; omega), ← srtL_at (by rw [srtL_len] at hq; exact hq)] at h1
   omega
end Go.Proofs.YtkbfcofifhngfaaGreat
namespace Go.Proofs.YtkbfcofifhngfaaGreat
open Go Tx Go.RowKit
theorem mBz (sl ro su : Int) (gs ts : Value) (lo : Option Addr) (lc : Nat) (A B : Nat → Int) {k : Nat} (hk : 4 ≤ k) : mB k [(0, .cells (.v (iv sl) :: .v (iv ro) :: .v (iv su) :: .v gs :: .v ts :: .v (.slice lo 0 lc) :: .v (.slice none 0 0) :: (tbS 320 A ++ tbS 320 B)) 93), (3, .cells [.v (iv sl), .v (iv ro), .v (iv su), .v gs, .v ts] 34)] = true := by
 have h1 : SV.lts k (tbS 320 A ++ tbS 320 B) = true := lts_append (tbS_lt _ _ _) (tbS_lt _ _ _)
 have h2 : Nat.blt 0 k = true := by rw [Nat.blt_eq]; omega
 have h3 : Nat.blt 3 k = true := by rw [Nat.blt_eq]; omega
 simp only [mB, Blk.lt, SV.lts, SV.lt, h1, h2, h3]; rfl
theorem mBw (sl ro su : Int) (gs ts : Value) (lo : Option Addr) (lc : Nat) (A B : Nat → Int) (y : Nat) (X : List Value) : mB 6 [(4, .own 5 (y + 1) 1 X 3), (0, .cells (.v (iv sl) :: .v (iv ro) :: .v (iv su) :: .v gs :: .v ts :: .v (.slice lo 0 lc) :: .v (.slice none 0 0) :: (tbS 320 A ++ tbS 320 B)) 93), (3, .cells [.v (iv sl), .v (iv ro), .v (iv su), .v gs, .v ts] 34)] = true := by
 have h1 : SV.lts 6 (tbS 320 A ++ tbS 320 B) = true := lts_append (tbS_lt _ _ _) (tbS_lt _ _ _)
 simp only [mB, Blk.lt, SV.lts, SV.lt, h1]; rfl
theorem mBy (sl ro su : Int) (gs ts : Value) (lo : Option Addr) (lc : Nat) (A B : Nat → Int) (z : Nat) : mB 6 [(0, .cells (.v (iv sl) :: .v (iv ro) :: .v (iv su) :: .v gs :: .v ts :: .v (.slice lo 0 lc) :: .v (.slice none 0 0) :: (tbS 320 A ++ tbS 320 B)) 93), (4, .mix 5 z 1 [] ((outV z F00).map .v) 44)] = true := by
 have h1 : SV.lts 6 (tbS 320 A ++ tbS 320 B) = true := lts_append (tbS_lt _ _ _) (tbS_lt _ _ _)
 simp only [mB, Blk.lt, SV.lts, SV.lt, lts_v, h1]; rfl
theorem T9z (w : World) (z : Nat) (sl ro su : Int) (gs ts : Value) (lo : Option Addr) (lc : Nat) (A B : Nat → Int) {Φ : Exit → Sg → Prop}
 (hr : VC Tryz.prog (rest 10 body13) ⟨139, [(12, .os 4 5 z)], [(4, .mix 5 z 1 [] ((outV z F00).map .v) 44)], 6, fun w' => Below w.heap.size w w' ∧ OutOK w.heap.size z F00 w', z0⟩ Φ) :
 VC Tryz.prog (rest 9 body13) ⟨139, [(6, .ptr 0 0), (12, .os 4 5 z)], [(0, .cells (.v (iv sl) :: .v (iv ro) :: .v (iv su) :: .v gs :: .v ts :: .v (.slice lo 0 lc) :: .v (.slice none 0 0) :: (tbS 320 A ++ tbS 320 B)) 93), (4, .mix 5 z 1 [] ((outV z F00).map .v) 44)], 6, fun w' => Below w.heap.size w w' ∧ OutOK w.heap.size z F00 w', z0⟩ Φ := by
 refine VC.cutE env mixed 1 6 (fun _ : Unit => [(12, .os 4 5 z)]) (fun _ => [(4, .mix 5 z 1 [] ((outV z F00).map .v) 44)]) (fun _ => True) (fun _ _ => ⟨rfl, by simp only [mB, Blk.lt, lts_v, SV.lts]; rfl⟩) ?_ (fun _ _ => hr)
 repeat'
  conv => whnf
  first
   |refine zB ?_
   |refine nlC rfl rfl ?_
 refine loopN 6 (fun _ : Unit => [(12, .os 4 5 z), (106, .v (iv 0)), (107, .v (iv 0))]) (fun _ => [(4, .mix 5 z 1 [] ((outV z F00).map .v) 44)]) (fun _ => True) (fun _ => 0) () trivial ⟨rfl, rfl, rfl, trivial⟩ ⟨rfl, trivial⟩ (fun _ _ => ⟨rfl, by simp only [mB, Blk.lt, lts_v, SV.lts]; rfl⟩) ?_
 intro _ _
 repeat'
  conv => whnf
  first
   |refine splF ?_
 all_goals exact ⟨rfl, (), trivial, Ent.weak rfl ⟨rfl, trivial⟩ ⟨rfl, trivial⟩ fun _ h => h⟩
theorem T8z (w : World) (z : Nat) (sl ro su : Int) (gs ts : Value) (lo : Option Addr) (lc : Nat) (A B : Nat → Int) (hsl : sl = z) (hz : z ≤ 40) {Φ : Exit → Sg → Prop}
 (hr : VC Tryz.prog (rest 9 body13) ⟨139, [(6, .ptr 0 0), (12, .os 4 5 z)], [(0, .cells (.v (iv sl) :: .v (iv ro) :: .v (iv su) :: .v gs :: .v ts :: .v (.slice lo 0 lc) :: .v (.slice none 0 0) :: (tbS 320 A ++ tbS 320 B)) 93), (4, .mix 5 z 1 [] ((outV z F00).map .v) 44)], 6, fun w' => Below w.heap.size w w' ∧ OutOK w.heap.size z F00 w', z0⟩ Φ) :
 VC Tryz.prog (rest 8 body13) ⟨139, [(1, .ptr 3 0), (6, .ptr 0 0)], [(0, .cells (.v (iv sl) :: .v (iv ro) :: .v (iv su) :: .v gs :: .v ts :: .v (.slice lo 0 lc) :: .v (.slice none 0 0) :: (tbS 320 A ++ tbS 320 B)) 93), (3, .cells [.v (iv sl), .v (iv ro), .v (iv su), .v gs, .v ts] 34)], 4, Below w.heap.size w, z0⟩ Φ := by
 subst hsl
 refine VC.eq c13_8 (VC.sq (VC.of env mixed ?_))
 repeat'
  conv => whnf
  first
   |refine zB ?_
   |refine mkO env 4 z (outV z F00) rfl rfl rfl (by decide) rfl (by omega) (by decide) (outV_nil _) rfl ?_
 conv => whnf
 exact VC.dis (α := Unit) (I := fun _ => ⟨139, [(6, .ptr 0 0), (12, .os 4 5 z)], [(0, .cells (.v (iv (z : Int)) :: .v (iv ro) :: .v (iv su) :: .v gs :: .v ts :: .v (.slice lo 0 lc) :: .v (.slice none 0 0) :: (tbS 320 A ++ tbS 320 B)) 93), (4, .mix 5 z 1 [] ((outV z F00).map .v) 44)], 6, fun w' => Below w.heap.size w w' ∧ OutOK w.heap.size z F00 w', z0⟩) (pre := fun _ => True)
  (Dis.mk3 (w0 := w) id [] rfl (fun i hi => by cases hi) (fun w' h => h) (fun β w1 hok hw1 hge => ⟨(), trivial, ⟨⟨_, rfl, rfl⟩, ⟨_, rfl, rfl⟩, trivial⟩, ⟨⟨rfl, _, rfl, fun _ => rfl, fun w2 y hy => hy⟩, ⟨rfl, _, rfl, fun _ => rfl, fun w2 y hy => by simp only [Blk.ok, cs_v] at hy ⊢; exact hy⟩, trivial⟩, rfl, fun w2 hw2 _ => ⟨hw2, fun s hs => ⟨fun _ => rfl, fun q hq => by cases hq⟩⟩⟩))
  (fun _ _ => okB rfl (mBy _ _ _ _ _ _ _ _ _ _) rfl) (fun _ _ => hr)
theorem maxF_rep (n : Nat) : maxF 0 (List.replicate n 0) = 0 := by
 have h := (maxF_spec (List.replicate n 0) 0).1
 rw [← List.replicate_succ] at h
 exact List.eq_of_mem_replicate h
theorem T7z (w : World) (z : Nat) (sl ro su : Int) (gs ts : Value) (lo : Option Addr) (lc : Nat) (A B : Nat → Int) (hsl : sl = z) (hz1 : 1 ≤ z) (hz : z ≤ 40) (hro : 1 ≤ ro ∧ ro ≤ 6) {Φ : Exit → Sg → Prop}
 (hr : VC Tryz.prog (rest 8 body13) ⟨139, [(1, .ptr 3 0), (6, .ptr 0 0)], [(0, .cells (.v (iv sl) :: .v (iv ro) :: .v (iv su) :: .v gs :: .v ts :: .v (.slice lo 0 lc) :: .v (.slice none 0 0) :: (tbS 320 A ++ tbS 320 B)) 93), (3, .cells [.v (iv sl), .v (iv ro), .v (iv su), .v gs, .v ts] 34)], 4, Below w.heap.size w, z0⟩ Φ) :
 VC Tryz.prog (rest 7 body13) ⟨139, [(1, .ptr 3 0), (6, .ptr 0 0)], [(0, .cells (.v (iv sl) :: .v (iv ro) :: .v (iv su) :: .v gs :: .v ts :: .v (.slice lo 0 lc) :: .v (.slice none 0 0) :: (tbS 320 A ++ tbS 320 B)) 93), (3, .cells [.v (iv sl), .v (iv ro), .v (iv su), .v gs, .v ts] 34)], 4, Below w.heap.size w, z0⟩ Φ := by
 subst hsl
 obtain ⟨y, rfl⟩ : ∃ y, z = y + 1 := ⟨z - 1, by omega⟩
 have h42 := fun (b d : Nat) (w' : World) (ho : w'.ownsRow 0 3 1 (.slice (some ⟨b, 0, none⟩) (y + 1) d) (y + 1) (tbV (y + 1) fun t => 0)) => by
  have h1 : tbV (y + 1) (fun _ => 0) = ((0 : Int) :: List.replicate y 0).flatMap iF := by
   rw [fIv, ← List.replicate_succ, List.map_replicate, tbV, List.map_const', List.length_range]
  have h2 : Rd 1 iF (.slice (some ⟨b, 0, none⟩) (y + 1) d) ((0 : Int) :: List.replicate y 0) w' := by
   rw [h1] at ho
   exact Rd.of_owns (sz := 1) (f := iF) (bs := (0 : Int) :: List.replicate y 0) (fun _ => rfl) rfl (by simp) ho
  have h3 := Max_ok 0 (List.replicate y 0) (some ⟨b, 0, none⟩) d w' (by rw [show ((0 : Int) :: List.replicate y 0).length = y + 1 from by simp]; exact h2) (by simp; omega)
  rw [maxF_rep, show ((0 : Int) :: List.replicate y 0).length = y + 1 from by simp] at h3
  exact h3
 refine VC.cutE env mixed 1 4 (fun _ : Unit => [(1, .ptr 3 0), (6, .ptr 0 0)]) (fun _ => [(0, .cells (.v (iv ((y + 1 : Nat) : Int)) :: .v (iv ro) :: .v (iv su) :: .v gs :: .v ts :: .v (.slice lo 0 lc) :: .v (.slice none 0 0) :: (tbS 320 A ++ tbS 320 B)) 93), (3, .cells [.v (iv ((y + 1 : Nat) : Int)), .v (iv ro), .v (iv su), .v gs, .v ts] 34)]) (fun _ => True) (fun _ _ => ⟨rfl, mBz _ _ _ _ _ _ _ _ _ (Nat.le_refl _)⟩) ?_ (fun _ _ => hr)
 skip
 refine loopN 4 (fun _ : Unit => [(1, .ptr 3 0), (6, .ptr 0 0)]) (fun _ => [(0, .cells (.v (iv ((y + 1 : Nat) : Int)) :: .v (iv ro) :: .v (iv su) :: .v gs :: .v ts :: .v (.slice lo 0 lc) :: .v (.slice none 0 0) :: (tbS 320 A ++ tbS 320 B)) 93), (3, .cells [.v (iv ((y + 1 : Nat) : Int)), .v (iv ro), .v (iv su), .v gs, .v ts] 34)]) (fun _ => True) (fun _ => 0) () trivial ⟨rfl, rfl, trivial⟩ ⟨rfl, rfl, trivial⟩ (fun _ _ => ⟨rfl, mBz _ _ _ _ _ _ _ _ _ (Nat.le_refl _)⟩) ?_
 intro _ _
 repeat'
  conv => whnf
  first
   |refine zB ?_|refine zD ?_
   |((with_reducible show CallEv _ _ 41 ..); refine callI env mixed 1000 [1, 6] Tryz.func41 has41 Tryz.ntmps41 (Nat.le_of_ble_eq_true rfl) rfl rfl rfl ?_)
   |refine nlC rfl rfl ?_
   |refine mkO1 env 4 (y + 1) (tbV (y + 1) fun _ => 0) rfl rfl rfl (by decide) rfl (by omega) (by decide) (mk0 _) rfl ?_
 refine loopN 6 (fun _ : Unit => [(3, .os 4 5 (y + 1)), (16, .v (iv 0)), (17, .v (iv 0))]) (fun _ => [(4, .own 5 (y + 1) 1 (tbV (y + 1) fun _ => 0) 3), (0, .cells (.v (iv ((y + 1 : Nat) : Int)) :: .v (iv ro) :: .v (iv su) :: .v gs :: .v ts :: .v (.slice lo 0 lc) :: .v (.slice none 0 0) :: (tbS 320 A ++ tbS 320 B)) 93), (3, .cells [.v (iv ((y + 1 : Nat) : Int)), .v (iv ro), .v (iv su), .v gs, .v ts] 34)]) (fun _ => True) (fun _ => 0) () trivial ⟨rfl, rfl, rfl, trivial⟩ ⟨rfl, rfl, rfl, trivial⟩ (fun _ _ => ⟨rfl, mBw _ _ _ _ _ _ _ _ _ _ _⟩) ?_
 intro _ _
 repeat'
  conv => whnf
  first
   |refine zB ?_|refine zD ?_|refine splF ?_
   |(refine splD ?_ ?_ <;> intro hc <;> first|(exfalso; omega)|skip)
   |((with_reducible show CallEv _ _ 42 ..); refine callM [4] (fun β w' hbk hbw => h42 (β 4) (β 5) w' (hbk 4 (by simp) _ rfl)) ?_)
 all_goals exact ⟨rfl, (), trivial, Ent.weak rfl ⟨rfl, rfl, trivial⟩ ⟨rfl, rfl, trivial⟩ fun _ h => h⟩
theorem T6z (w : World) (sl ro su : Int) (gs ts : Value) (lo : Option Addr) (lc : Nat) (A B : Nat → Int) {Φ : Exit → Sg → Prop}
 (hr : VC Tryz.prog (rest 7 body13) ⟨139, [(1, .ptr 3 0), (6, .ptr 0 0)], [(0, .cells (.v (iv sl) :: .v (iv ro) :: .v (iv su) :: .v gs :: .v ts :: .v (.slice lo 0 lc) :: .v (.slice none 0 0) :: (tbS 320 A ++ tbS 320 B)) 93), (3, .cells [.v (iv sl), .v (iv ro), .v (iv su), .v gs, .v ts] 34)], 4, Below w.heap.size w, z0⟩ Φ) :
 VC Tryz.prog (rest 6 body13) ⟨139, [(1, .ptr 3 0), (6, .ptr 0 0)], [(0, .cells (.v (iv sl) :: .v (iv ro) :: .v (iv su) :: .v gs :: .v ts :: .v (.slice lo 0 lc) :: .v (.slice none 0 0) :: (tbS 320 A ++ tbS 320 B)) 93), (3, .cells [.v (iv sl), .v (iv ro), .v (iv su), .v gs, .v ts] 34)], 4, Below w.heap.size w, z0⟩ Φ := by
 refine VC.cutE env mixed 1 4 (fun _ : Unit => [(1, .ptr 3 0), (6, .ptr 0 0)]) (fun _ => [(0, .cells (.v (iv sl) :: .v (iv ro) :: .v (iv su) :: .v gs :: .v ts :: .v (.slice lo 0 lc) :: .v (.slice none 0 0) :: (tbS 320 A ++ tbS 320 B)) 93), (3, .cells [.v (iv sl), .v (iv ro), .v (iv su), .v gs, .v ts] 34)]) (fun _ => True) (fun _ _ => ⟨rfl, mBz _ _ _ _ _ _ _ _ _ (Nat.le_refl _)⟩) ?_ (fun _ _ => hr)
 repeat'
  conv => whnf
  first
   |refine zB ?_
   |refine nlC rfl rfl ?_
 refine loopN 4 (fun _ : Unit => [(1, .ptr 3 0), (6, .ptr 0 0), (74, .v (iv 0)), (75, .v (iv 0))]) (fun _ => [(0, .cells (.v (iv sl) :: .v (iv ro) :: .v (iv su) :: .v gs :: .v ts :: .v (.slice lo 0 lc) :: .v (.slice none 0 0) :: (tbS 320 A ++ tbS 320 B)) 93), (3, .cells [.v (iv sl), .v (iv ro), .v (iv su), .v gs, .v ts] 34)]) (fun _ => True) (fun _ => 0) () trivial ⟨rfl, rfl, rfl, rfl, trivial⟩ ⟨rfl, rfl, trivial⟩ (fun _ _ => ⟨rfl, mBz _ _ _ _ _ _ _ _ _ (Nat.le_refl _)⟩) ?_
 intro _ _
 repeat'
  conv => whnf
  first
   |refine splF ?_
 all_goals exact ⟨rfl, (), trivial, Ent.weak rfl ⟨rfl, rfl, trivial⟩ ⟨rfl, rfl, trivial⟩ fun _ h => h⟩
theorem vP_fill (te : Bool) {g s z : Nat} (hz : z ≤ 40) (hg : g < 8) (hs : s < z) : vP ⟨fun _ => -1, fillF 320, fillF 320⟩ te g s = -1 := by
 have : ∀ k, k < 320 → fillF 320 k = -1 := fun k hk => if_pos hk
 unfold vP
 cases te <;> exact this _ (by omega)
theorem cons0 (L : List Ln) {z : Nat} (hz : z ≤ 40) : Cons L z ⟨fun _ => -1, fillF 320, fillF 320⟩ :=
 ⟨fun i hi => .inl rfl, fun i hi s h => by have h : (-1 : Int) = (s : Int) := h; omega, fun te g s hg hs => .inl (vP_fill te hz hg hs)⟩
theorem negR_fm (n : Nat) : (negR n).flatMap iF = tbV n fun _ => -1 := by
 rw [fIv, negR, List.map_replicate, tbV, List.map_const', List.length_range]
theorem errT0 {D : SD} (hv : scOk D = true) (hw : rWhy D = none) : errT D = 0 := by
 unfold errT; rw [hv, hw]; rfl
theorem Table_main (D : SD) (sl ro su : Int) (go to : Option Addr) (gc tc : Nat) (G : List Rw) (T : List Tc) (hD : D = (⟨sl, ro, su, go, gc, G, to, tc, T⟩ : Sc).d) (w : World) (hv : scOk D = true) (hw : rWhy D = none) (o : Option Addr) (c : Nat) (L : List Ln) (hA : AllOK D L) (hy : L ≠ [] → ∃ ad, o = some ad) :
 VC Tryz.prog (rest 4 body13) ⟨139, [(1, .ptr 3 0), (6, .ptr 0 0)], [(0, .cells (.v (iv sl) :: .v (iv ro) :: .v (iv su) :: .v (.slice go G.length gc) :: .v (.slice to T.length tc) :: .v (.slice o L.length c) :: .v (.slice none 0 0) :: (tbS 320 (fillF 0) ++ tbS 320 (fillF 0))) 93), (3, .cells [.v (iv sl), .v (iv ro), .v (iv su), .v (.slice go G.length gc), .v (.slice to T.length tc)] 34)], 4, fun w' => Below w.heap.size w w' ∧ St w.heap.size (Rd 3 Ln.cs (.slice o L.length c) L) w', z0⟩ (endΦ env Tryz.f13 fun s σ => (∀ w', σ.h w' → Below w.heap.size w w') ∧ ∀ β w', σ.h w' → (∀ i b, lk σ.m i = some b → b.live = true → St w.heap.size (fun w2 => b.ok β w2 (β i)) w') → ∃ x : TabF D, s.c β = x.v ∧ St w.heap.size (TbL x.o x.c x.R) w') := by
 have hn := noWhy hw
 obtain ⟨hv1, hv2, hv3, hv4, hv5, hv6, hv7⟩ := scOk_iff.1 hv
 have he := errT0 hv hw
 have hmv := all_memV hv hA hn
 have hal := all_len hv hA hn
 have hlen := hA.len
 have hsl : D.sl = sl := by rw [hD]; rfl
 have hro : D.ro = ro := by rw [hD]; rfl
 obtain ⟨z, hz⟩ : ∃ z : Nat, sl = z := ⟨sl.toNat, by omega⟩
 have hz1 : 1 ≤ z := by omega
 have hz40 : z ≤ 40 := by omega
 have hx : ∀ x ∈ L, 0 ≤ x.g ∧ x.g ≤ 7 ∧ 0 ≤ x.t ∧ x.t ≤ 7 := fun x hx => by
  obtain ⟨a, b, t, rfl, h1, h2, h3, h4⟩ := hA.rng x hx
  dsimp only; omega
 have hfin := fun (p : Pn) (hC : Cons L z p) (hS : ∀ i, i < L.length → ∃ s : Nat, s < z ∧ p.S i = s) (hc : ∀ s, s < z → cntS p.S L.length s ≤ ro) => tab_fit hv hA (hsl.trans hz) hC hS (fun s hs => by rw [hro]; exact hc s hs)
 refine T4 _ _ _ _ _ _ _ _ (T5 _ _ _ _ _ _ _ _ _ _ (by omega) ?_)
 cases L with
 | nil =>
  refine VC.ent (T6z w sl ro su (.slice go G.length gc) (.slice to T.length tc) o c (fillF 320) (fillF 320) (T7z w z sl ro su (.slice go G.length gc) (.slice to T.length tc) o c (fillF 320) (fillF 320) hz hz1 hz40 (by omega) (T8z w z sl ro su (.slice go G.length gc) (.slice to T.length tc) o c (fillF 320) (fillF 320) hz hz40 (T9z w z sl ro su (.slice go G.length gc) (.slice to T.length tc) o c (fillF 320) (fillF 320) (T10 D w z F00 hz40 (fun s hs => ⟨Nat.zero_le _, fun x hx => by cases hx⟩) (fun s s' _ _ _ p p' h => by cases h) he ?_))))) (Ent.weak rfl ⟨rfl, rfl, trivial⟩ ⟨rfl, rfl, trivial⟩ fun w' h => h.1) (okB rfl (mBz _ _ _ _ _ _ _ _ _ (Nat.le_refl _)) rfl)
  exact hfin ⟨fun _ => -1, fillF 320, fillF 320⟩ (cons0 _ hz40) (fun i hi => by cases hi) (fun s hs => by show (0 : Int) ≤ ro; omega)
 | cons x0 l0 =>
  obtain ⟨ad, rfl⟩ := hy (by simp)
  generalize hL : x0 :: l0 = L at *
  have hlp : 1 ≤ L.length := by rw [← hL]; simp
  have key : ∀ n : Nat, 1 ≤ n → MSub ((0, .cells (.v (iv sl) :: .v (iv ro) :: .v (iv su) :: .v (.slice go G.length gc) :: .v (.slice to T.length tc) :: .v (.slice (some ad) n c) :: oSV 1 2 (negR n) :: (tbS 320 (fillF 320) ++ tbS 320 (fillF 320))) 93) :: (3, .cells [.v (iv sl), .v (iv ro), .v (iv su), .v (.slice go G.length gc), .v (.slice to T.length tc)] 34) :: oM 1 2 1 iF 3 (negR n)) [(0, .cells (.v (iv sl) :: .v (iv ro) :: .v (iv su) :: .v (.slice go G.length gc) :: .v (.slice to T.length tc) :: .v (.slice (some ad) n c) :: .os 1 2 n :: (tbS 320 (fillF 320) ++ tbS 320 (fillF 320))) 93), (1, .own 2 n 1 (tbV n fun _ => -1) 3), (3, .cells [.v (iv sl), .v (iv ro), .v (iv su), .v (.slice go G.length gc), .v (.slice to T.length tc)] 34)] := fun n h1 => by
   have e1 := negR_len n
   have e2 := negR_fm n
   cases hR : negR n with
   | nil => rw [hR] at e1; simp at e1; omega
   | cons a R =>
    rw [hR] at e1 e2
    have e1 : R.length + 1 = n := e1
    rw [← e2, ← e1]
    exact ⟨rfl, rfl, rfl, trivial⟩
  refine VC.ent (T6 w z sl ro su (.slice go G.length gc) (.slice to T.length tc) ad L.length c L ⟨fun _ => -1, fillF 320, fillF 320⟩ rfl (by omega) hz hz40 hx (cons0 L hz40) (fun i hi => rfl) (fun i hi te => by have := hmv i hi te; omega) (fun p hC hS => T7 w z sl ro su (.slice go G.length gc) (.slice to T.length tc) ad L.length c L p rfl (by omega) hz hz1 hz40 (by omega) hx (by rw [hro, hsl, hz] at hal; exact hal) hC hS (fun p hC hS hc => T8 w z sl ro su (.slice go G.length gc) (.slice to T.length tc) ad L.length c L p hz hz40 (T9 D w z sl ro su (.slice go G.length gc) (.slice to T.length tc) ad L.length c L p rfl hlp (by omega) hz40 hS (fun x h => ⟨(hx x h).1, (hx x h).2.1⟩) (fun s hs => by have h1 := hc s hs; have h2 := rowL_len L p.S s L.length; omega) he (hfin p hC hS hc))))) (Ent.weak rfl ⟨rfl, rfl, trivial⟩ (key _ hlp) fun w' h => ⟨h.1, h.2.now⟩) (okB rfl ?_ rfl)
  have h1 := mB_up (mPl ⟨sl, ro, su, .slice go G.length gc, .slice to T.length tc, some ad, L.length, c, L⟩ ⟨fun _ => -1, fillF 320, fillF 320⟩) (show 3 ≤ 4 by omega)
  exact mB_app h1 (m' := [(3, Blk.cells [.v (iv sl), .v (iv ro), .v (iv su), .v (.slice go G.length gc), .v (.slice to T.length tc)] 34)]) rfl
theorem mB0 (sl ro su : Int) (gs ts : Value) (lo : Option Addr) (n lc : Nat) : mB 4 [(0, .cells (.v (iv sl) :: .v (iv ro) :: .v (iv su) :: .v gs :: .v ts :: .v (.slice lo n lc) :: .v (.slice none 0 0) :: (tbS 320 (fillF 0) ++ tbS 320 (fillF 0))) 93), (3, .cells [.v (iv sl), .v (iv ro), .v (iv su), .v gs, .v ts] 34)] = true := by
 have h1 : SV.lts 4 (tbS 320 (fillF 0) ++ tbS 320 (fillF 0)) = true := lts_append (tbS_lt _ _ _) (tbS_lt _ _ _)
 simp only [mB, Blk.lt, SV.lts, SV.lt, h1]; rfl
theorem VC.pure {P : Program} {c : Code} {σ : Sg} {Φ : Exit → Sg → Prop} {p : Prop} (hp : ∀ w, σ.h w → p) (h : p → VC P c σ Φ) : VC P c σ Φ := by
 intro F n X a w hF hlp hok hsat
 obtain ⟨β, D, hs⟩ := hsat
 exact h (hp w (hs.h w (Chg.refl _ _))) F n X a w hF hlp hok ⟨β, D, hs⟩
theorem c13_3 : rest 3 body13 = .seq (.region 6 (hdO (rest 3 body13)) true) (rest 4 body13) := by kernel_rfl
theorem Table_ok (s : Sc) (w : World) (h : ScIn s w) (hB : ScB s) :
 Calls Tryz.prog 13 #[s.v] w fun e w' => ∃ y : TabF s.d, e = .returned y.v ∧ Below w.heap.size w w' ∧ St w.heap.size (TbL y.o y.c y.R) w' := by
 have c37 := fun (w' : World) (hw : Below w.heap.size w w') => valid_ok s w' (h.below hw) hB
 cases hv : scOk s.d with
 | false =>
  rw [hv] at c37
  have e1 : errT s.d = 1 := by unfold errT; rw [hv]; rfl
  have hend : ∃ x : TabF s.d, Value.tuple #[.slice none 0 0, iv 1] = x.v ∧ ∀ w', St w.heap.size (TbL x.o x.c x.R) w' := ⟨⟨none, 0, [], fun h => (by rw [e1] at h; cases h), fun _ => rfl⟩, congrArg (fun v => Value.tuple #[.slice none 0 0, iv v]) e1.symm, fun w' w2 _ => ⟨.inl ⟨rfl, rfl⟩, fun r hr => by cases hr⟩⟩
  generalize s.d = D at *
  obtain ⟨sl, ro, su, go, gc, G, to, tc, T⟩ := s
  refine calls_fam env mixed Tryz.func13 has13 Tryz.ntmps13 [.agg #[iv sl, iv ro, iv su, .slice go G.length gc, .slice to T.length tc]] (by simp) ?_
  repeat'
   conv => whnf
   first
    |refine zD ?_|refine splT ?_
    |((with_reducible show CallEv _ _ 37 ..); refine callE (fun β w' hbw => c37 _ hbw) ?_)
  all_goals exact ⟨fun w' h => h, fun β w' hB hblk => by obtain ⟨x, h1, h2⟩ := hend; exact ⟨x, h1, h2 w'⟩⟩
 | true =>
  rw [hv] at c37
  have c38 := fun (w' : World) (hw : Below w.heap.size w w') => famS hw (why_ok s w' (h.below hw) hB hv)
  cases hr : rWhy s.d with
  | some r =>
   rw [hr] at c38
   have e1 : errT s.d = 9 := by unfold errT; rw [hv, hr]; rfl
   have hend : ∃ x : TabF s.d, Value.tuple #[.slice none 0 0, iv 9] = x.v ∧ ∀ w', St w.heap.size (TbL x.o x.c x.R) w' := ⟨⟨none, 0, [], fun h => (by rw [e1] at h; cases h), fun _ => rfl⟩, congrArg (fun v => Value.tuple #[.slice none 0 0, iv v]) e1.symm, fun w' w2 _ => ⟨.inl ⟨rfl, rfl⟩, fun r hr => by cases hr⟩⟩
   generalize s.d = D at *
   obtain ⟨sl, ro, su, go, gc, G, to, tc, T⟩ := s
   refine calls_fam env mixed Tryz.func13 has13 Tryz.ntmps13 [.agg #[iv sl, iv ro, iv su, .slice go G.length gc, .slice to T.length tc]] (by simp) ?_
   repeat'
    conv => whnf
    first
     |refine zC ?_|refine zD ?_|refine splT ?_|refine splF ?_
     |((with_reducible show CallEv _ _ 37 ..); refine callE (fun β w' hbw => c37 _ hbw) ?_)
     |((with_reducible show CallEv _ _ 38 ..); refine callF [] (fun y : RnF (some r) => .tuple #[y.1.v, .bool (some r : Option RD).isSome]) (fun y => St w.heap.size (Rd 1 iF (.slice y.1.o y.1.L.length y.1.c) y.1.L)) (fun β w' _ hbw => c38 w' (by repeat (first | exact hbw | replace hbw := hbw.1))) ?_; intro y)
   all_goals exact ⟨fun w' h => h.1, fun β w' hB hblk => by obtain ⟨x, h1, h2⟩ := hend; exact ⟨x, h1, h2 w'⟩⟩
  | none =>
   rw [hr] at c38
   have hnw := (noWhy hr).un
   have c39 := fun (w' : World) (hw : Below w.heap.size w w') => by
    have h0 := famS hw (all_ok s w' (h.below hw) hB hv hnw)
    exact (h0.mono fun e w2 ⟨y, h1, h2, h3⟩ => (⟨⟨y.o, y.c, y.L⟩, h1, h2, fun w3 k3 => ⟨⟨y.h, fun hne => by
     obtain ⟨_, ad, h4, _⟩ := h3.now.now.ptr (List.length_pos_iff.2 hne)
     exact ⟨ad, h4⟩⟩, h3 w3 k3⟩⟩ : ∃ y : Lr, e = Ending.returned (.slice y.o y.L.length y.c) ∧ Below w'.heap.size w' w2 ∧ St w'.heap.size (fun w3 => (AllOK s.d y.L ∧ (y.L ≠ [] → ∃ ad, y.o = some ad)) ∧ St w.heap.size (Rd 3 Ln.cs (.slice y.o y.L.length y.c) y.L) w3) w2))
   have hmain := Table_main s.d s.sl s.ro s.su s.go s.to s.gc s.tc s.G s.T rfl w hv hr
   generalize s.d = D at *
   obtain ⟨sl, ro, su, go, gc, G, to, tc, T⟩ := s
   dsimp only at hmain
   refine calls_famV env mixed Tryz.func13 has13 Tryz.ntmps13 [.agg #[iv sl, iv ro, iv su, .slice go G.length gc, .slice to T.length tc]] (by simp) ?_
   refine VC.cutE env mixed 3 2 (fun _ : Unit => [(1, .ptr 0 0)]) (fun _ => [(0, .cells [.v (iv sl), .v (iv ro), .v (iv su), .v (.slice go G.length gc), .v (.slice to T.length tc)] 34)]) (fun _ => True) (fun _ _ => ⟨rfl, rfl⟩) ?_ (fun _ _ => ?_)
   · skip
     repeat'
      conv => whnf
      first
       |refine zC ?_|refine zD ?_|refine splF ?_
       |((with_reducible show CallEv _ _ 37 ..); refine callE (fun β w' hbw => c37 _ hbw) ?_)
       |((with_reducible show CallEv _ _ 38 ..); refine callF [] (fun y : RnF none => .tuple #[y.1.v, .bool (none : Option RD).isSome]) (fun y => St w.heap.size (Rd 1 iF (.slice y.1.o y.1.L.length y.1.c) y.1.L)) (fun β w' _ hbw => c38 w' (by repeat (first | exact hbw | replace hbw := hbw.1))) ?_; intro y)
     all_goals exact ⟨rfl, (), trivial, Ent.weak rfl ⟨rfl, trivial⟩ ⟨rfl, trivial⟩ fun _ h => h.1⟩
   · have hm2 : ∀ y : Lr, VC Tryz.prog (rest 4 body13) ⟨139, [(1, .ptr 3 0), (6, .ptr 0 0)], [(0, .cells (.v (iv sl) :: .v (iv ro) :: .v (iv su) :: .v (.slice go G.length gc) :: .v (.slice to T.length tc) :: .v (.slice y.o y.L.length y.c) :: .v (.slice none 0 0) :: (tbS 320 (fillF 0) ++ tbS 320 (fillF 0))) 93), (3, .cells [.v (iv sl), .v (iv ro), .v (iv su), .v (.slice go G.length gc), .v (.slice to T.length tc)] 34)], 4, fun w' => Below w.heap.size w w' ∧ (AllOK D y.L ∧ (y.L ≠ [] → ∃ ad, y.o = some ad)) ∧ St w.heap.size (Rd 3 Ln.cs (.slice y.o y.L.length y.c) y.L) w', z0⟩ (endΦ env Tryz.f13 fun s σ => (∀ w', σ.h w' → Below w.heap.size w w') ∧ ∀ β w', σ.h w' → (∀ i b, lk σ.m i = some b → b.live = true → St w.heap.size (fun w2 => b.ok β w2 (β i)) w') → ∃ x : TabF D, s.c β = x.v ∧ St w.heap.size (TbL x.o x.c x.R) w') := fun y => by
      refine VC.pure (p := AllOK D y.L ∧ (y.L ≠ [] → ∃ ad, y.o = some ad)) (fun w' h => h.2.1) fun hp => ?_
      exact VC.ent (hmain y.o y.c y.L hp.1 hp.2) (Ent.weak rfl ⟨rfl, rfl, trivial⟩ ⟨rfl, rfl, trivial⟩ fun w' h => ⟨h.1, h.2.2⟩) (okB rfl (mB0 _ _ _ _ _ _ _ _) rfl)
     rw [c13_3]
     refine VC.seq (f := fun σ' => ∃ y : Lr, Ent σ' ⟨139, [(1, .ptr 3 0), (6, .ptr 0 0)], [(0, .cells (.v (iv sl) :: .v (iv ro) :: .v (iv su) :: .v (.slice go G.length gc) :: .v (.slice to T.length tc) :: .v (.slice y.o y.L.length y.c) :: .v (.slice none 0 0) :: (tbS 320 (fillF 0) ++ tbS 320 (fillF 0))) 93), (3, .cells [.v (iv sl), .v (iv ro), .v (iv su), .v (.slice go G.length gc), .v (.slice to T.length tc)] 34)], 4, fun w' => Below w.heap.size w w' ∧ (AllOK D y.L ∧ (y.L ≠ [] → ∃ ad, y.o = some ad)) ∧ St w.heap.size (Rd 3 Ln.cs (.slice y.o y.L.length y.c) y.L) w', z0⟩) ?_ (fun σ' ⟨y, hy⟩ => VC.ent (hm2 y) hy (okB rfl (mB0 _ _ _ _ _ _ _ _) rfl))
     clear hmain hm2
     apply VC_reg1 env mixed 2 (fun y : Lr => .slice y.o y.L.length y.c) (fun y w2 => (AllOK D y.L ∧ (y.L ≠ [] → ∃ ad, y.o = some ad)) ∧ St w.heap.size (Rd 3 Ln.cs (.slice y.o y.L.length y.c) y.L) w2) ⟨none, 0, []⟩
     case h3 => exact Nat.le_of_ble_eq_true (by kernel_rfl)
     case hv =>
      intro y
      repeat'
       conv => whnf
       first
        |refine zA ?_|refine zB ?_
        |refine And.intro (a := (_ : Bool) = true ∧ (_ : List _) = [] ∧ (_ : List _) = []) ⟨rfl, rfl, rfl⟩ ?_
        |(with_reducible show FamEv _ _ _ 39 _ _ _); refine FamEv.mk [] (fun β w' _ hbw => c39 w' hbw) ?_
      refine ⟨?_, y, Ent.ren (rho [(0, 2), (3, 0)]) rfl rfl ⟨rfl, rfl, trivial⟩ ⟨rfl, rfl, trivial⟩ fun w2 h => h⟩
      simp only [List.nil_append, List.cons_append, List.append_assoc]
      exact rfl
     case hk1 => intros; rfl
     case hi1 => exact fun _ _ => ⟨Or.inr rfl, Or.inr rfl, Or.inl (by kernel_rfl), Or.inl (by kernel_rfl), Or.inl (by kernel_rfl), Or.inl (by kernel_rfl), trivial⟩
end Go.Proofs.YtkbfcofifhngfaaGreat
namespace Go.Proofs.YtkbfcofifhngfaaGreat.Tx
open Go Go.RowKit
theorem slLH {P : Program} (T : Env P) {dst : Option Tmp} {ty : TypeId} {pos : String} {after : Array Edge} {gd : Option (Nat × Bool)} {gs : List Nat} {σ : Sg} {K : Ef → Prop} {KF : Option KT} {t e n c a b : Nat} {x lo hi : Operand} {ad : Addr} {k k' : IntKind}
 {sz : Nat} {zr : List Value} {by_ : Nat} {ti : TI} (A : Option Addr) (hx : gv σ x = some (.v (.slice (some ad) n c))) (hl : gv σ lo = some (.v (.int k a))) (hh : gv σ hi = some (.v (.int k' b))) (ht : T.ty t = some ⟨sz, zr, by_, .slice e⟩) (he : T.ty e = some ti) (hz : a ≤ b) (hc : b ≤ c)
 (hA : (if c = a then some ad else some (ad.add (a * ti.size))) = A)
 (hB : efB σ ⟨.v (.slice A (b - a) (c - a)), [], [], gs ++ (os x ++ (os lo ++ os hi)), []⟩ = true) (hK : K ⟨.v (.slice A (b - a) (c - a)), [], [], gs ++ (os x ++ (os lo ++ os hi)), []⟩) : OpEvS P ⟨dst, .slice t x (some lo) (some hi) none, ty, pos, after, gd⟩ gs σ K KF := by
 refine .mk _ hB (fun k hk => by simp [hk]) rfl (runOK_pure fun β ac w hss => ?_) hK
 have e1 := gv_eval hss hx (fun k hk => by simp [hk])
 have e2 := gv_eval hss hl (fun k hk => by simp [hk])
 have e3 := gv_eval hss hh (fun k hk => by simp [hk])
 have hu := under_slice (T.tok t _ ht) rfl
 have hel : P.elem t = e := by simp [Program.elem, hu]
 have hu' : P.underlying t = some (.slice (P.elem t)) := by rw [hel]; exact hu
 have hsz := (T.tok e ti he).run_sizeOf w
 simp only [execOp, Option.map_some, Option.map_none, e1, e2, e3, SV.c, Sem.run_bind, Sem.run_pure, Result.andThen_ok]
 rw [run_sliceAt_slice w t _ _ _ _ hu', run_slice_lh w t _ _ _ hu' _ _ _ _ (by omega) (by omega) (by omega), hel, hsz]
 simp only [Result.andThen_ok, sliced, Int.toNat_natCast, Option.map_some]
 rw [hA]
end Go.Proofs.YtkbfcofifhngfaaGreat.Tx
namespace Go.Proofs.YtkbfcofifhngfaaGreat
open Go Tx Go.RowKit
structure Mk where
 nd : Int
 pr : Int
 tr : Int
 op : Bool
abbrev mkF (m : Mk) : List Value := [iv m.nd, iv m.pr, iv m.tr, .bool m.op]
structure MkOk (m : Mk) : Prop where
 n : 0 ≤ m.nd ∧ m.nd ≤ 10000
 p : 0 ≤ m.pr ∧ m.pr ≤ 1000
 t : 0 ≤ m.tr ∧ m.tr ≤ 100000
structure RoadOk (D : List Mk) (K : Nat) : Prop where
 l : 1 ≤ D.length ∧ D.length ≤ 30
 k : 1 ≤ K ∧ K ≤ 10
 m : ∀ m ∈ D, MkOk m
structure RdR (o : Option Addr) (c : Nat) (D : List Mk) (w : World) : Prop where
 r : Rd 4 mkF (.slice o D.length c) D w
 c : D.length ≤ c
theorem RdR.below {o : Option Addr} {c : Nat} {D : List Mk} {w w' : World} (h : RdR o c D w) (hb : Below w.heap.size w w') : RdR o c D w' := ⟨h.r.below hb, h.c⟩
abbrev rdV (o : Option Addr) (n c : Nat) (K : Nat) : Value := .agg #[.slice o n c, iv K]
def pS (D : List Mk) : Nat → Int
 | 0 => 0
 | i + 1 => pS D i + (D[i]?).elim 0 Mk.nd
theorem pS_succ {D : List Mk} {i : Nat} {m : Mk} (h : D[i]? = some m) : pS D (i + 1) = pS D i + m.nd := by rw [pS, h]; rfl
theorem pS_step {D : List Mk} {K : Nat} (h : RoadOk D K) (i : Nat) : pS D i ≤ pS D (i + 1) ∧ pS D (i + 1) ≤ pS D i + 10000 := by
 rw [pS]
 cases hm : D[i]? with
 | none => simp only [Option.elim]; omega
 | some m =>
  have := (h.m m (List.mem_of_getElem? hm)).n
  simp only [Option.elim]; omega
theorem pS_mono {D : List Mk} {K : Nat} (h : RoadOk D K) (a : Nat) : ∀ k : Nat, pS D a ≤ pS D (a + k) ∧ pS D (a + k) ≤ pS D a + 10000 * k
 | 0 => by simp
 | k + 1 => by
  have ih := pS_mono h a k
  have := pS_step h (a + k)
  rw [← Nat.add_assoc]
  omega
theorem pS_le {D : List Mk} {K : Nat} (h : RoadOk D K) {a b : Nat} (hab : a ≤ b) (hb : b ≤ D.length) : 0 ≤ pS D b - pS D a ∧ pS D b - pS D a ≤ 300000 := by
 have := pS_mono h a (b - a)
 rw [show a + (b - a) = b from by omega] at this
 have := h.l
 omega
def mkA (D : List Mk) (i : Nat) : Mk := (D[i]?).getD ⟨0, 0, 0, false⟩
def prO (D : List Mk) (a b : Nat) : Int := (mkA D a).tr + (mkA D a).pr * (pS D b - pS D a)
def fdB (D : List Mk) (K a b : Nat) : Bool := decide (pS D b - pS D (min b (a + K)) = 0)
theorem pr_bd {D : List Mk} {K : Nat} (h : RoadOk D K) {a b : Nat} (hab : a ≤ b) (hb : b ≤ D.length) (ha : a < D.length) : 0 ≤ prO D a b ∧ prO D a b ≤ 300100000 ∧ 0 ≤ (mkA D a).pr * (pS D b - pS D a) ∧ (mkA D a).pr * (pS D b - pS D a) ≤ 300000000 ∧ (0 ≤ (mkA D a).tr ∧ (mkA D a).tr ≤ 100000) := by
 obtain ⟨m, hm⟩ : ∃ m, D[a]? = some m := ⟨_, List.getElem?_eq_getElem ha⟩
 have h1 := h.m m (List.mem_of_getElem? hm)
 have h2 := pS_le h hab hb
 have e : mkA D a = m := by unfold mkA; rw [hm]; rfl
 unfold prO
 rw [e]
 have h3 := h1.p
 have h4 := h1.t
 have h5 : 0 ≤ m.pr * (pS D b - pS D a) := Int.mul_nonneg h3.1 h2.1
 have h6 : m.pr * (pS D b - pS D a) ≤ 1000 * 300000 := Int.mul_le_mul h3.2 h2.2 h2.1 (by decide)
 omega
theorem win_ok (n lo hi : Int) (w : World) : Calls Tryz.prog 71 #[iv n, iv lo, iv hi] w fun e w' => e = .returned (.bool (inB n lo hi)) ∧ Below w.heap.size w w' := by
 refine calls_val env mixed Tryz.func71 has71 Tryz.ntmps71 [iv n, iv lo, iv hi] (by simp) ?_
 repeat'
  conv => whnf
  first
   |refine splD (fun hc => ?_) (fun hc => ?_)
 all_goals exact ⟨fun β => congrArg Value.bool (by simp [inB, *]), fun w' h => h⟩
theorem need_ok (D : List Mk) (K : Nat) (o : Option Addr) (c : Nat) (a b : Nat) (w : World) (h : RdR o c D w) (hR : RoadOk D K) (hab : a ≤ b) (hb : b ≤ D.length) :
 Calls Tryz.prog 139 #[rdV o D.length c K, iv a, iv b] w fun e w' => e = .returned (iv (pS D b - pS D a)) ∧ Below w.heap.size w w' := by
 have hl := hR.l
 have hk := hR.k
 obtain ⟨h1, hc⟩ := h
 obtain ⟨_, ad, rfl, _⟩ := h1.ptr (by omega)
 obtain ⟨A, hA⟩ : ∃ A, (if c = a then some ad else some (ad.add (a * 4))) = A := ⟨_, rfl⟩
 obtain ⟨A2, rfl⟩ : ∃ a2, A = some a2 := by rw [← hA]; split <;> exact ⟨_, rfl⟩
 have hz : pS D (a + 0) - pS D a = 0 := by rw [Nat.add_zero]; omega
 have e0 : ∀ k m, k < b - a → D[a + k]? = some m → ∀ w', Below w.heap.size w w' → ∀ j u, (mkF m)[j]? = some u → w'.cell? ((A2.add ((k : Int).toNat * 4)).add j) = some u := fun k m hk hm w' hw' j u hu => by
  have h2 := rd_ati (h1.below (w' := w') hw') hm j u hu
  rw [if_neg (by omega), Option.some.injEq] at hA
  rw [← hA, Addr.add_add ad, Int.toNat_natCast, ← Nat.add_mul]
  exact h2
 refine calls_val env mixed Tryz.func139 has139 Tryz.ntmps139 [rdV (some ad) D.length c K, iv a, iv b] (by simp) ?_
 repeat'
  conv => whnf
  first
   |refine zB ?_
   |refine slLH env (some A2) rfl rfl rfl rfl rfl hab (by omega) hA rfl ?_
 refine loopE (fun k : Nat => [(6, .v (iv (pS D (a + k) - pS D a))), (13, .v (.slice (some A2) (b - a) (c - a))), (14, .v (iv ((b - a : Nat) : Int))), (15, .v (iv k))]) (fun _ => []) (fun k => k ≤ b - a) (fun k => b - a - k) 0 (Nat.zero_le _) ⟨by rw [hz]; rfl, rfl, rfl, rfl, trivial⟩ trivial (fun _ => ⟨rfl, rfl⟩) ?_
 intro k hkk
 rcases Nat.lt_or_ge k (b - a) with hkl | hkl
 · obtain ⟨⟨nd, pr, tr, op⟩, hm⟩ : ∃ m, D[a + k]? = some m := ⟨_, List.getElem?_eq_getElem (by omega)⟩
   have e1 := e0 k _ hkl hm
   have hs : pS D (a + k + 1) = pS D (a + k) + nd := pS_succ hm
   have h3 := pS_le hR (show a ≤ a + k by omega) (by omega)
   have h4 := (hR.m _ (List.mem_of_getElem? hm)).n
   have hst : pS D (a + (k + 1)) - pS D a = pS D (a + k) - pS D a + nd := by rw [← Nat.add_assoc, hs]; omega
   dsimp only at h4
   generalize pS D (a + k) - pS D a = q at *
   repeat'
    conv => whnf
    first
     |refine zB ?_|refine zC ?_|refine zF ?_|refine zG ?_
     |(refine splD ?_ ?_ <;> intro hc <;> first|(exfalso; omega)|skip)
     |refine eL [iv nd, iv pr, iv tr, .bool op] ⟨⟨rfl, fun w' hw' => e1 w' hw'⟩, ?_⟩
   all_goals exact ⟨k + 1, by omega, by omega, Ent.weak rfl ⟨by rw [hst]; rfl, rfl, rfl, rfl, trivial⟩ trivial fun _ h => h⟩
 · obtain rfl : k = b - a := by omega
   rw [show a + (b - a) = b from by omega]
   repeat'
    conv => whnf
    first
     |(refine splD ?_ ?_ <;> intro hc <;> first|(exfalso; omega)|skip)
   all_goals exact ⟨fun β => rfl, fun w' h => h⟩
theorem price_ok (D : List Mk) (K : Nat) (o : Option Addr) (c : Nat) (a b : Nat) (w : World) (h : RdR o c D w) (hR : RoadOk D K) (hab : a ≤ b) (ha : a < D.length) (hb : b ≤ D.length) :
 Calls Tryz.prog 138 #[rdV o D.length c K, iv a, iv b] w fun e w' => e = .returned (iv (prO D a b)) ∧ Below w.heap.size w w' := by
 have hl := hR.l
 have hk := hR.k
 have h128 := fun w' hb2 => need_ok D K o c a b w' (h.below hb2) hR hab hb
 have hp := pr_bd hR hab hb ha
 have hn := pS_le hR hab hb
 obtain ⟨⟨nd, pr, tr, op⟩, hm⟩ : ∃ m, D[a]? = some m := ⟨_, List.getElem?_eq_getElem ha⟩
 have e : mkA D a = ⟨nd, pr, tr, op⟩ := by unfold mkA; rw [hm]; rfl
 unfold prO at hp ⊢
 rw [e] at hp ⊢
 dsimp only at hp ⊢
 obtain ⟨h1, hc⟩ := h
 obtain ⟨_, ad, rfl, _⟩ := h1.ptr (by omega)
 have e1 := fun (w' : World) hw' => rd_fld (h1.below (w' := w') hw') hm 1 (iv pr) rfl
 have e2 := fun (w' : World) hw' => rd_fld (h1.below (w' := w') hw') hm 2 (iv tr) rfl
 generalize pS D b - pS D a = q at *
 refine calls_val env mixed Tryz.func138 has138 Tryz.ntmps138 [.agg #[.slice (some ad) D.length c, iv K], iv a, iv b] (by simp) ?_
 repeat'
  conv => whnf
  first
   |refine zA ?_|refine zB ?_|refine zD ?_|refine zF ?_|refine zG ?_
   |refine eL [iv pr] ⟨⟨rfl, fun w' hw' => e1 w' hw'⟩, ?_⟩
   |refine eL [iv tr] ⟨⟨rfl, fun w' hw' => e2 w' hw'⟩, ?_⟩
   |((with_reducible show CallEv _ _ 139 ..); refine callE (fun β w' hbw => h128 w' hbw) ?_)
 all_goals exact ⟨fun β => rfl, fun w' h => h⟩
theorem feeds_ok (D : List Mk) (K : Nat) (o : Option Addr) (c : Nat) (a b : Nat) (w : World) (h : RdR o c D w) (hR : RoadOk D K) (hab : a ≤ b) (hb : b ≤ D.length) :
 Calls Tryz.prog 137 #[rdV o D.length c K, iv a, iv b] w fun e w' => e = .returned (.bool (fdB D K a b)) ∧ Below w.heap.size w w' := by
 have hl := hR.l
 have hk := hR.k
 have h128 := fun w' hb2 => need_ok D K o c (min b (a + K)) b w' (h.below hb2) hR (by omega) hb
 have hmin : imin (b : Int) ((a : Int) + K) = ((min b (a + K) : Nat) : Int) := by rw [imin_eq]; omega
 rw [← hmin] at h128
 unfold fdB
 generalize pS D b - pS D (min b (a + K)) = q at *
 refine calls_val env mixed Tryz.func137 has137 Tryz.ntmps137 [.agg #[.slice o D.length c, iv K], iv a, iv b] (by simp) ?_
 repeat'
  conv => whnf
  first
   |refine zB ?_|refine zD ?_|refine zF ?_
   |((with_reducible show CallEv _ _ 139 ..); refine callE (fun β w' hbw => h128 w' hbw) ?_)
 all_goals exact ⟨fun β => congrArg Value.bool (by first | rfl | simp), fun w' h => h⟩
def mkB (m : Mk) : Bool := inB m.nd 0 10000 && (inB m.pr 0 1000 && inB m.tr 0 100000)
theorem mk_ok (nd pr tr : Int) (op : Bool) (w : World) : Calls Tryz.prog 136 #[.agg #[iv nd, iv pr, iv tr, .bool op]] w fun e w' => e = .returned (.bool (mkB ⟨nd, pr, tr, op⟩)) ∧ Below w.heap.size w w' := by
 refine calls_val env mixed Tryz.func136 has136 Tryz.ntmps136 [.agg #[iv nd, iv pr, iv tr, .bool op]] (by simp) ?_
 repeat'
  conv => whnf
  first
   |refine zB ?_|refine zD ?_|refine splF ?_
   |refine splIn (fun hc => ?_) (fun hc => ?_)
   |((with_reducible show CallEv _ _ 71 ..); refine callE (fun β w' hbw => win_ok _ _ _ _) ?_)
 all_goals exact ⟨fun β => congrArg Value.bool (by simp [mkB, inB, *]), fun w' h => h⟩
theorem all124_ok (L : List (Mk)) (o : Option Addr) (c : Nat) (w : World) (hrd : Rd 4 mkF (.slice o L.length c) L w) (hl : L.length ≤ 1000000) :
 Calls Tryz.prog 135 #[.slice o L.length c, .func (.func 136) #[] #[]] w fun e w' => e = .returned (.bool (L.all mkB)) ∧ Below w.heap.size w w' := by
 refine calls_val env mixed Tryz.func135 has135 Tryz.ntmps135 [.slice o L.length c, .func (.func 136) #[] #[]] (by simp) ?_
 repeat'
  conv => whnf
  first
   |refine zD ?_
   |((with_reducible show CallEv _ _ 162 ..); refine callI env mixed 1000 [] Tryz.func162 has162 Tryz.ntmps162 (Nat.le_of_ble_eq_true rfl) rfl rfl rfl ?_)
   |((with_reducible show CallEv _ _ 171 ..); refine callI env mixed 2000 [] Tryz.func171 has171 Tryz.ntmps171 (Nat.le_of_ble_eq_true rfl) rfl rfl rfl ?_)
 refine loopE (fun k : Nat => [(0, .v (.slice o L.length c)), (1, .fn (.func 163) [.ptr 0 0]), (7, .v (iv L.length)), (8, .v (iv k))]) (fun _ => [(0, .cells [.v (.func (.func 136) #[] #[])] 174)]) (fun k => k ≤ L.length ∧ (L.take k).all mkB = true) (fun k => L.length - k) 0 ⟨Nat.zero_le _, rfl⟩ ⟨rfl, rfl, rfl, rfl, trivial⟩ ⟨rfl, trivial⟩ (fun _ => ⟨rfl, rfl⟩) ?_
 intro k ⟨hk, hall⟩
 rcases Nat.lt_or_ge k L.length with hkl | hkl
 · obtain ⟨⟨nd, pr, tr, op⟩, hb⟩ : ∃ b, L[k]? = some b := ⟨_, List.getElem?_eq_getElem hkl⟩
   obtain ⟨_, ad, rfl, _⟩ := hrd.ptr (by omega)
   have ht : (L.take (k + 1)).all mkB = mkB ⟨nd, pr, tr, op⟩ := by rw [List.take_add_one, hb]; simp [hall]
   have e0 := fun (w' : World) hw' => rd_ati (hrd.below (w' := w') hw') hb
   have hv := fun w' => mk_ok nd pr tr op w'
   obtain ⟨vb, hvb⟩ : ∃ vb, mkB ⟨nd, pr, tr, op⟩ = vb := ⟨_, rfl⟩
   have hv' : ∀ w', Calls Tryz.prog 136 #[.agg #[iv nd, iv pr, iv tr, .bool op]] w' fun e w2 => e = .returned (.bool vb) ∧ Below w'.heap.size w' w2 := fun w' => by rw [← hvb]; exact hv w'
   clear hv
   cases vb with
   | true =>
    rw [hvb] at ht
    repeat'
     conv => whnf
     first
      |refine zB ?_|refine zD ?_|refine zF ?_|refine zG ?_|refine splF ?_
      |(refine splD ?_ ?_ <;> intro hc <;> first|(exfalso; omega)|skip)
      |refine eL [iv nd, iv pr, iv tr, .bool op] ⟨⟨rfl, fun w' hw' => e0 w' hw'⟩, ?_⟩
      |((with_reducible show CallEv _ _ 163 ..); refine callI env mixed 3000 [0,1,5,7,8] Tryz.func163 has163 Tryz.ntmps163 (Nat.le_of_ble_eq_true rfl) rfl rfl rfl ?_)
      |((with_reducible show CallEv _ _ 136 ..); refine callE (fun β w' hbw => hv' _) ?_)
    exact ⟨k + 1, ⟨by omega, ht⟩, by omega, Ent.weak rfl ⟨rfl, rfl, rfl, rfl, trivial⟩ ⟨rfl, trivial⟩ fun _ h => h⟩
   | false =>
    have hno : L.all mkB = false := by
     rw [List.all_eq_false]
     exact ⟨_, List.mem_of_getElem? hb, fun hc => absurd (hvb.symm.trans hc) (by decide)⟩
    rw [hno]
    repeat'
     conv => whnf
     first
      |refine zB ?_|refine zD ?_|refine zG ?_|refine splT ?_
      |(refine splD ?_ ?_ <;> intro hc <;> first|(exfalso; omega)|skip)
      |refine eL [iv nd, iv pr, iv tr, .bool op] ⟨⟨rfl, fun w' hw' => e0 w' hw'⟩, ?_⟩
      |((with_reducible show CallEv _ _ 163 ..); refine callI env mixed 3000 [0,1,5,7,8] Tryz.func163 has163 Tryz.ntmps163 (Nat.le_of_ble_eq_true rfl) rfl rfl rfl ?_)
      |((with_reducible show CallEv _ _ 136 ..); refine callE (fun β w' hbw => hv' _) ?_)
    all_goals exact ⟨fun β => rfl, fun w' h => h⟩
 · rw [List.take_of_length_le hkl] at hall
   rw [hall]
   repeat'
    conv => whnf
    first
     |(refine splD ?_ ?_ <;> intro hc <;> first|(exfalso; omega)|skip)
   all_goals exact ⟨fun β => rfl, fun w' h => h⟩
theorem mkB_ok {m : Mk} (h : MkOk m) : mkB m = true := by
 have h1 := h.n
 have h2 := h.p
 have h3 := h.t
 simp only [mkB, inB, Bool.and_eq_true, decide_eq_true_eq]
 omega
theorem rvalid_ok (D : List Mk) (K : Nat) (o : Option Addr) (c : Nat) (w : World) (h : RdR o c D w) (hR : RoadOk D K) :
 Calls Tryz.prog 103 #[rdV o D.length c K] w fun e w' => e = .returned (.bool true) ∧ Below w.heap.size w w' := by
 have hl := hR.l
 have hk := hR.k
 have hall : D.all mkB = true := List.all_eq_true.2 fun m hm => mkB_ok (hR.m m hm)
 have h124 := fun w' hb => all124_ok D o c w' (h.r.below hb) (by omega)
 rw [hall] at h124
 have e1 : inB (D.length : Int) 1 30 = true := by simp only [inB, Bool.and_eq_true, decide_eq_true_eq]; omega
 have e2 : inB (K : Int) 1 10 = true := by simp only [inB, Bool.and_eq_true, decide_eq_true_eq]; omega
 have h1 := fun w' => win_ok (D.length : Int) 1 30 w'
 have h2 := fun w' => win_ok (K : Int) 1 10 w'
 rw [e1] at h1
 rw [e2] at h2
 refine calls_val env mixed Tryz.func103 has103 Tryz.ntmps103 [.agg #[.slice o D.length c, iv K]] (by simp) ?_
 repeat'
  conv => whnf
  first
   |refine zB ?_|refine zD ?_|refine splT ?_
   |((with_reducible show CallEv _ _ 71 [_, .v (.int .i64 1), .v (.int .i64 30)] _ _ _ _); refine callE (k := 71) (fun β w' hbw => h1 w') ?_)
   |((with_reducible show CallEv _ _ 71 [_, .v (.int .i64 1), .v (.int .i64 10)] _ _ _ _); refine callE (k := 71) (fun β w' hbw => h2 w') ?_)
   |((with_reducible show CallEv _ _ 135 ..); refine callE (fun β w' hbw => h124 w' hbw) ?_)
 all_goals exact ⟨fun β => rfl, fun w' h => h⟩
abbrev nF (n : Nat) : List Value := [iv n]
end Go.Proofs.YtkbfcofifhngfaaGreat
namespace Go.Proofs.YtkbfcofifhngfaaGreat.Tx
open Go Go.RowKit
theorem slL0 {P : Program} (T : Env P) {dst : Option Tmp} {ty : TypeId} {pos : String} {after : Array Edge} {gd : Option (Nat × Bool)} {gs : List Nat} {σ : Sg} {K : Ef → Prop} {KF : Option KT} {t e n c : Nat} {z : Int} {x lo : Operand} {ad : Addr} {k : IntKind}
 {sz : Nat} {zr : List Value} {by_ : Nat} {ti : TI} (hx : gv σ x = some (.v (.slice (some ad) n c))) (hl : gv σ lo = some (.v (.int k z))) (ht : T.ty t = some ⟨sz, zr, by_, .slice e⟩) (he : T.ty e = some ti) (hz : z = 0) (hz2 : 0 < n) (hc : n ≤ c)
 (hB : efB σ ⟨.v (.slice (some ad) n c), [], [], gs ++ (os x ++ os lo), []⟩ = true) (hK : K ⟨.v (.slice (some ad) n c), [], [], gs ++ (os x ++ os lo), []⟩) : OpEvS P ⟨dst, .slice t x (some lo) none none, ty, pos, after, gd⟩ gs σ K KF := by
 subst hz
 have h0 : ad.add (0 * ti.size) = ad := by simp [Addr.add]
 refine slLo (z := 0) T hx hl ht he hz2 hc ?_ ?_
 · rw [h0]; exact hB
 · rw [h0]; exact hK
end Go.Proofs.YtkbfcofifhngfaaGreat.Tx
namespace Go.Proofs.YtkbfcofifhngfaaGreat
open Go Tx Go.RowKit
theorem day_ok (n : Int) (w : World) : Calls Tryz.prog 73 #[iv n] w fun e w' => e = .returned (.bool (inB n 0 1440)) ∧ Below w.heap.size w w' := by
 refine calls_val env mixed Tryz.func73 has73 Tryz.ntmps73 [iv n] (by simp) ?_
 have hv := fun w' => win_ok n 0 1440 w'
 repeat'
  conv => whnf
  first
   |refine zD ?_
   |((with_reducible show CallEv _ _ 71 ..); refine callE (fun β w' hbw => hv _) ?_)
 all_goals exact ⟨fun β => rfl, fun w' h => h⟩
theorem all72_ok (L : List (Int)) (o : Option Addr) (c : Nat) (w : World) (hrd : Rd 1 iF (.slice o L.length c) L w) (hl : L.length ≤ 1000000) :
 Calls Tryz.prog 72 #[.slice o L.length c, .func (.func 73) #[] #[]] w fun e w' => e = .returned (.bool (L.all (fun n : Int => inB n 0 1440))) ∧ Below w.heap.size w w' := by
 refine calls_val env mixed Tryz.func72 has72 Tryz.ntmps72 [.slice o L.length c, .func (.func 73) #[] #[]] (by simp) ?_
 repeat'
  conv => whnf
  first
   |refine zD ?_
   |((with_reducible show CallEv _ _ 106 ..); refine callI env mixed 1000 [] Tryz.func106 has106 Tryz.ntmps106 (Nat.le_of_ble_eq_true rfl) rfl rfl rfl ?_)
   |((with_reducible show CallEv _ _ 140 ..); refine callI env mixed 2000 [] Tryz.func140 has140 Tryz.ntmps140 (Nat.le_of_ble_eq_true rfl) rfl rfl rfl ?_)
 refine loopE (fun k : Nat => [(0, .v (.slice o L.length c)), (1, .fn (.func 107) [.ptr 0 0]), (7, .v (iv L.length)), (8, .v (iv k))]) (fun _ => [(0, .cells [.v (.func (.func 73) #[] #[])] 127)]) (fun k => k ≤ L.length ∧ (L.take k).all (fun n : Int => inB n 0 1440) = true) (fun k => L.length - k) 0 ⟨Nat.zero_le _, rfl⟩ ⟨rfl, rfl, rfl, rfl, trivial⟩ ⟨rfl, trivial⟩ (fun _ => ⟨rfl, rfl⟩) ?_
 intro k ⟨hk, hall⟩
 rcases Nat.lt_or_ge k L.length with hkl | hkl
 · obtain ⟨n, hb⟩ : ∃ b, L[k]? = some b := ⟨_, List.getElem?_eq_getElem hkl⟩
   obtain ⟨_, ad, rfl, _⟩ := hrd.ptr (by omega)
   have ht : (L.take (k + 1)).all (fun n : Int => inB n 0 1440) = (fun n : Int => inB n 0 1440) n := by rw [List.take_add_one, hb]; simp [hall]
   have e0 := fun (w' : World) hw' => rd_ati (hrd.below (w' := w') hw') hb
   have hv := fun w' => day_ok n w'
   obtain ⟨vb, hvb⟩ : ∃ vb, (fun n : Int => inB n 0 1440) n = vb := ⟨_, rfl⟩
   have hv' : ∀ w', Calls Tryz.prog 73 #[iv n] w' fun e w2 => e = .returned (.bool vb) ∧ Below w'.heap.size w' w2 := fun w' => by rw [← hvb]; exact hv w'
   clear hv
   cases vb with
   | true =>
    rw [hvb] at ht
    repeat'
     conv => whnf
     first
      |refine zB ?_|refine zD ?_|refine zF ?_|refine zG ?_|refine splF ?_
      |(refine splD ?_ ?_ <;> intro hc <;> first|(exfalso; omega)|skip)
      |refine eL [iv n] ⟨⟨rfl, fun w' hw' => e0 w' hw'⟩, ?_⟩
      |((with_reducible show CallEv _ _ 107 ..); refine callI env mixed 3000 [0,1,5,7,8] Tryz.func107 has107 Tryz.ntmps107 (Nat.le_of_ble_eq_true rfl) rfl rfl rfl ?_)
      |((with_reducible show CallEv _ _ 73 ..); refine callE (fun β w' hbw => hv' _) ?_)
    exact ⟨k + 1, ⟨by omega, ht⟩, by omega, Ent.weak rfl ⟨rfl, rfl, rfl, rfl, trivial⟩ ⟨rfl, trivial⟩ fun _ h => h⟩
   | false =>
    have hno : L.all (fun n : Int => inB n 0 1440) = false := by
     rw [List.all_eq_false]
     exact ⟨_, List.mem_of_getElem? hb, fun hc => absurd (hvb.symm.trans hc) (by decide)⟩
    rw [hno]
    repeat'
     conv => whnf
     first
      |refine zB ?_|refine zD ?_|refine zG ?_|refine splT ?_
      |(refine splD ?_ ?_ <;> intro hc <;> first|(exfalso; omega)|skip)
      |refine eL [iv n] ⟨⟨rfl, fun w' hw' => e0 w' hw'⟩, ?_⟩
      |((with_reducible show CallEv _ _ 107 ..); refine callI env mixed 3000 [0,1,5,7,8] Tryz.func107 has107 Tryz.ntmps107 (Nat.le_of_ble_eq_true rfl) rfl rfl rfl ?_)
      |((with_reducible show CallEv _ _ 73 ..); refine callE (fun β w' hbw => hv' _) ?_)
    all_goals exact ⟨fun β => rfl, fun w' h => h⟩
 · rw [List.take_of_length_le hkl] at hall
   rw [hall]
   repeat'
    conv => whnf
    first
     |(refine splD ?_ ?_ <;> intro hc <;> first|(exfalso; omega)|skip)
   all_goals exact ⟨fun β => rfl, fun w' h => h⟩
theorem sum141_ok (L : List Int) (o : Option Addr) (c : Nat) (w : World) (hrd : Rd 1 iF (.slice o L.length c) L w) (hl : L.length ≤ 1000000) (hb : ∀ x ∈ L, 0 ≤ x ∧ x ≤ (1440 : Nat)) :
 Calls Tryz.prog 141 #[.slice o L.length c] w fun e w' => e = .returned (iv (L.map id).sum) ∧ Below w.heap.size w w' := by
 refine calls_val env mixed Tryz.func141 has141 Tryz.ntmps141 [.slice o L.length c] (by simp) ?_
 skip
 refine loopE (fun k : Nat => [(2, .v (iv ((L.take k).map id).sum)), (5, .v (.slice o L.length c)), (6, .v (iv L.length)), (7, .v (iv k))]) (fun _ => []) (fun k => k ≤ L.length) (fun k => L.length - k) 0 (Nat.zero_le _) ⟨rfl, rfl, rfl, rfl, trivial⟩ trivial (fun _ => ⟨rfl, rfl⟩) ?_
 intro k hk
 rcases Nat.lt_or_ge k L.length with hkl | hkl
 · obtain ⟨y, hy⟩ : ∃ b, L[k]? = some b := ⟨_, List.getElem?_eq_getElem hkl⟩
   obtain ⟨_, ad, rfl, _⟩ := hrd.ptr (by omega)
   have e0 := fun (w' : World) hw' => rd_ati (hrd.below (w' := w') hw') hy
   have h1 := sum_bt (f := id) hb k
   have h2 := hb y (List.mem_of_getElem? hy)
   have h3 := sum_tk (f := id) hy
   simp only [id] at h3
   generalize ((L.take k).map id).sum = S at *
   repeat'
    conv => whnf
    first
     |refine zF ?_|refine zG ?_
     |(refine splD ?_ ?_ <;> intro hc <;> first|(exfalso; omega)|skip)
     |refine eL [iv y] ⟨⟨rfl, fun w' hw' => e0 w' hw'⟩, ?_⟩
   all_goals exact ⟨k + 1, by omega, by omega, Ent.weak rfl ⟨by rw [h3]; rfl, rfl, rfl, rfl, trivial⟩ trivial fun _ h => h⟩
 · obtain rfl : k = L.length := by omega
   rw [List.take_length]
   repeat'
    conv => whnf
    first
     |(refine splD ?_ ?_ <;> intro hc <;> first|(exfalso; omega)|skip)
   all_goals exact ⟨fun β => rfl, fun w' h => h⟩
abbrev dyV (d wk : Int) (o : Option Addr) (n c : Nat) : Value := .agg #[iv d, iv wk, .slice o n c]
theorem wlong_ok (d wk x : Int) (L : List Int) (o : Option Addr) (c n : Nat) (w : World) (hL : L.length = n + 1) (hx : L[n]? = some x) (hrd : Rd 1 iF (.slice o (n + 1) c) L w) (hn : n ≤ 1000) :
 Calls Tryz.prog 108 #[dyV d wk o (n + 1) c] w fun e w' => e = .returned (.bool (decide (d < x))) ∧ Below w.heap.size w w' := by
 rw [← hL] at hrd
 obtain ⟨_, ad, rfl, _⟩ := hrd.ptr (by omega)
 have e0 := fun (w' : World) hw' => rd_ati (hrd.below (w' := w') hw') hx
 have en : ((n + 1 : Nat) : Int) - 1 = n := by omega
 refine calls_val env mixed Tryz.func108 has108 Tryz.ntmps108 [.agg #[iv d, iv wk, .slice (some ad) (n + 1) c]] (by simp) ?_
 repeat'
  conv => whnf
  first
   |refine zA ?_|refine zB ?_|refine zF ?_|refine zG ?_
   |(rw [en]; refine eL [iv x] ⟨⟨rfl, fun w' hw' => e0 w' hw'⟩, ?_⟩)
 all_goals exact ⟨fun β => rfl, fun w' h => h⟩
theorem week_ok (d wk : Int) (ad : Addr) (c n : Nat) (w : World) (hn : n ≤ 5) (hc : n + 1 ≤ c) :
 Calls Tryz.prog 142 #[dyV d wk (some ad) (n + 1) c] w fun e w' => e = .returned (.slice (some ad) (n + 1) c) ∧ Below w.heap.size w w' := by
 refine calls_val env mixed Tryz.func142 has142 Tryz.ntmps142 [.agg #[iv d, iv wk, .slice (some ad) (n + 1) c]] (by simp) ?_
 repeat'
  conv => whnf
  first
   |refine zB ?_|refine zF ?_
   |refine slL0 env rfl rfl rfl rfl (by rw [imax_eq]; omega) (by omega) (by omega) rfl ?_
 all_goals exact ⟨fun β => rfl, fun w' h => h⟩
theorem wfull_ok (d wk : Int) (L : List Int) (o : Option Addr) (c n : Nat) (w : World) (hL : L.length = n + 1) (hrd : Rd 1 iF (.slice o (n + 1) c) L w) (hn : n ≤ 5) (hc : n + 1 ≤ c) (hb : ∀ x ∈ L, 0 ≤ x ∧ x ≤ (1440 : Nat)) :
 Calls Tryz.prog 109 #[dyV d wk o (n + 1) c] w fun e w' => e = .returned (.bool (decide (wk < L.sum))) ∧ Below w.heap.size w w' := by
 rw [← hL] at hrd
 have c141 := fun (w' : World) hw' => sum141_ok L o c w' (hrd.below (w' := w') hw') (by omega) hb
 rw [hL, List.map_id] at c141
 obtain ⟨_, ad, rfl, _⟩ := hrd.ptr (by omega)
 generalize L.sum = S at *
 refine calls_val env mixed Tryz.func109 has109 Tryz.ntmps109 [.agg #[iv d, iv wk, .slice (some ad) (n + 1) c]] (by simp) ?_
 repeat'
  conv => whnf
  first
   |refine zA ?_|refine zB ?_|refine zD ?_
   |((with_reducible show CallEv _ _ 142 ..); refine callE (fun β w' hbw => week_ok d wk ad c n _ hn hc) ?_)
   |((with_reducible show CallEv _ _ 141 ..); refine callE (fun β w' hbw => c141 _ hbw) ?_)
 all_goals exact ⟨fun β => rfl, fun w' h => h⟩
theorem wrest_ok (d wk : Int) (o : Option Addr) (c n : Nat) (w : World) (hn : n ≤ 5) :
 Calls Tryz.prog 110 #[dyV d wk o (n + 1) c] w fun e w' => e = .returned (.bool false) ∧ Below w.heap.size w w' := by
 refine calls_val env mixed Tryz.func110 has110 Tryz.ntmps110 [.agg #[iv d, iv wk, .slice o (n + 1) c]] (by simp) ?_
 repeat'
  conv => whnf
  first
   |refine zB ?_
   |(refine splD ?_ ?_ <;> intro hc <;> first|(exfalso; omega)|skip)
 all_goals exact ⟨fun β => rfl, fun w' h => h⟩
theorem cv5n (t : Int) (h : 0 ≤ t ∧ t < 256) : RunIs Tryz.prog (convert 3 5 (iv t)) (.int .u8 t) := fun w => by
 have h3 : IntKind.u8.wrap t = t := IR.wrap (k := .u8) ⟨by show (0 : Int) ≤ t; omega, by show t ≤ 255; omega⟩
 simp [convert, Conv.intToInt, Go.run_underlying (show Tryz.prog.underlying 5 = some (.int .u8) from by kernel_rfl) w, Go.run_underlying und3 w, h3]
theorem why74_ok (d wk x : Int) (L : List Int) (o : Option Addr) (c n : Nat) (w : World) (hL : L.length = n + 1) (hx : L[n]? = some x) (hrd : Rd 1 iF (.slice o (n + 1) c) L w) (hn : n ≤ 5) (hc : n + 1 ≤ c) (hb : ∀ x ∈ L, 0 ≤ x ∧ x ≤ (1440 : Nat)) (hS : L.sum ≤ wk) :
 Calls Tryz.prog 74 #[dyV d wk o (n + 1) c] w fun e w' => e = .returned (.int .u8 (if d < x then 1 else 0)) ∧ Below w.heap.size w w' := by
 have c108 := fun (w' : World) hw' => wlong_ok d wk x L o c n w' hL hx (hrd.below (w' := w') hw') (by omega)
 have c109 := fun (w' : World) hw' => wfull_ok d wk L o c n w' hL (hrd.below (w' := w') hw') hn hc hb
 have c110 := fun (w' : World) => wrest_ok d wk o c n w' hn
 rw [decide_eq_false (by omega)] at c109
 obtain ⟨b, hbb⟩ : ∃ b, decide (d < x) = b := ⟨_, rfl⟩
 rw [hbb] at c108
 have e1 : (if d < x then (1 : Int) else 0) = if b = true then 1 else 0 := by rw [← hbb]; simp
 rw [e1]
 refine calls_val env mixed Tryz.func74 has74 Tryz.ntmps74 [.agg #[iv d, iv wk, .slice o (n + 1) c]] (by simp) ?_
 repeat'
  conv => whnf
  first
   |refine zB ?_
   |refine mkMv (dyV d wk o (n + 1) c) rfl (fun _ => rfl) rfl ?_
 refine loopE (fun k : Nat => [(2, .v (.int .u8 0)), (11, .agg [.v (.func (.func 108) #[dyV d wk o (n + 1) c] #[]), .v (.func (.func 109) #[dyV d wk o (n + 1) c] #[]), .v (.func (.func 110) #[dyV d wk o (n + 1) c] #[])]), (12, .v (iv k))]) (fun _ => []) (fun k => k ≤ 3 ∧ (1 ≤ k → b = false)) (fun k => 3 - k) 0 ⟨by decide, fun h => by omega⟩ ⟨rfl, rfl, rfl, trivial⟩ trivial (fun _ => ⟨rfl, rfl⟩) ?_
 intro k ⟨hk, hbk⟩
 obtain rfl | rfl | rfl | rfl : k = 0 ∨ k = 1 ∨ k = 2 ∨ k = 3 := by omega
 · cases b
   all_goals
    repeat'
     conv => whnf
     first
      |refine zD ?_|refine zF ?_|refine splT ?_|refine splF ?_
      |((with_reducible show CallEv _ _ 108 ..); refine callE (fun β w' hbw => c108 _ hbw) ?_)
      |refine Exists.intro (α := Value) (.int .u8 1) ⟨cv5n 1 (by decide), ?_⟩
      |refine idxS env rfl rfl rfl rfl (And.intro (by omega) (by omega)) rfl rfl (.inr ⟨rfl, rfl⟩) rfl ?_
    all_goals first|exact ⟨fun β => rfl, fun w' h => h⟩|exact ⟨1, ⟨by omega, fun _ => rfl⟩, by omega, Ent.weak rfl ⟨rfl, rfl, rfl, trivial⟩ trivial fun _ h => h⟩
 · skip
   repeat'
    conv => whnf
    first
     |refine zD ?_|refine zF ?_|refine splT ?_|refine splF ?_
     |((with_reducible show CallEv _ _ 109 ..); refine callE (fun β w' hbw => c109 _ hbw) ?_)
     |refine idxS env rfl rfl rfl rfl (And.intro (by omega) (by omega)) rfl rfl (.inr ⟨rfl, rfl⟩) rfl ?_
   all_goals exact ⟨2, ⟨by omega, fun _ => hbk (by decide)⟩, by omega, Ent.weak rfl ⟨rfl, rfl, rfl, trivial⟩ trivial fun _ h => h⟩
 · skip
   repeat'
    conv => whnf
    first
     |refine zD ?_|refine zF ?_|refine splT ?_|refine splF ?_
     |((with_reducible show CallEv _ _ 110 ..); refine callE (fun β w' hbw => c110 _) ?_)
     |refine idxS env rfl rfl rfl rfl (And.intro (by omega) (by omega)) rfl rfl (.inr ⟨rfl, rfl⟩) rfl ?_
   all_goals exact ⟨3, ⟨by omega, fun _ => hbk (by decide)⟩, by omega, Ent.weak rfl ⟨rfl, rfl, rfl, trivial⟩ trivial fun _ h => h⟩
 · rw [hbk (by decide)]
   repeat'
    conv => whnf
    first
     |refine splF ?_
   all_goals exact ⟨fun β => rfl, fun w' h => h⟩
structure WyIn (d wk : Int) (L : List Int) (i c : Nat) : Prop where
 hd : 0 ≤ d ∧ d ≤ 1440
 hk : 0 ≤ wk ∧ wk ≤ 10080
 hl : L.length ≤ 5 ∧ L.length ≤ c
 hb : ∀ x ∈ L, 0 ≤ x ∧ x ≤ (1440 : Nat)
 hs : ∀ k, (L.take k).sum ≤ wk
 hi : i ≤ L.length
 hf : ∀ j, j < i → ∀ x, L[j]? = some x → x ≤ d
 ht : ∀ x, L[i]? = some x → d < x
abbrev wyV (i n : Nat) : Value := if i < n then .tuple #[iv i, .int .u8 1, iv 0] else .tuple #[iv 0, .int .u8 0, iv 7]
theorem Weary_ok (d wk : Int) (L : List Int) (i : Nat) (o : Option Addr) (c : Nat) (w : World) (h : WyIn d wk L i c) (hrd : Rd 1 iF (.slice o L.length c) L w) :
 Calls Tryz.prog 31 #[.agg #[iv d, iv wk], .slice o L.length c] w fun e w' => e = .returned (wyV i L.length) ∧ Below w.heap.size w w' := by
 obtain ⟨hd, hk, ⟨hl, hc⟩, hb, hs, hi, hf, ht⟩ := h
 have c72 := fun (w' : World) (hw' : Below w.heap.size w w') => all72_ok L o c w' (hrd.below (w' := w') hw') (by omega)
 have hal : L.all (fun n : Int => inB n 0 1440) = true := List.all_eq_true.2 fun x hx => by
  have := hb x hx
  simp only [inB, Bool.and_eq_true, decide_eq_true_eq]; omega
 rw [hal] at c72
 have e1 : inB d 0 1440 = true := by simp only [inB, Bool.and_eq_true, decide_eq_true_eq]; omega
 have e2 : inB wk 0 10080 = true := by simp only [inB, Bool.and_eq_true, decide_eq_true_eq]; omega
 have w1 := fun w' => win_ok d 0 1440 w'
 have w2 := fun w' => win_ok wk 0 10080 w'
 rw [e1] at w1
 rw [e2] at w2
 refine calls_val env mixed Tryz.func31 has31 Tryz.ntmps31 [.agg #[iv d, iv wk], .slice o L.length c] (by simp) ?_
 repeat'
  conv => whnf
  first
   |refine zB ?_|refine zD ?_|refine splF ?_
   |(refine splD ?_ ?_ <;> intro hc <;> first|(exfalso; omega)|skip)
   |((with_reducible show CallEv _ _ 71 [_, .v (.int .i64 0), .v (.int .i64 1440)] _ _ _ _); refine callE (k := 71) (fun β w' hbw => w1 w') ?_)
   |((with_reducible show CallEv _ _ 71 [_, .v (.int .i64 0), .v (.int .i64 10080)] _ _ _ _); refine callE (k := 71) (fun β w' hbw => w2 w') ?_)
   |((with_reducible show CallEv _ _ 72 ..); refine callE (fun β w' hbw => c72 _ hbw) ?_)
 refine loopE (fun k : Nat => [(1, .v (.slice o L.length c)), (2, .ptr 0 0), (4, .v (iv 0)), (5, .v (.int .u8 0)), (6, .v (iv 0)), (29, .v (iv L.length)), (30, .v (iv k))]) (fun _ => [(0, .cells [.v (iv d), .v (iv wk)] 72)]) (fun k => k ≤ i) (fun k => i - k) 0 (Nat.zero_le _) ⟨rfl, rfl, rfl, rfl, rfl, rfl, rfl, trivial⟩ ⟨rfl, trivial⟩ (fun _ => ⟨rfl, rfl⟩) ?_
 intro k hki
 rcases Nat.lt_or_ge k L.length with hkl | hkl
 · obtain ⟨x, hx⟩ : ∃ b, L[k]? = some b := ⟨_, List.getElem?_eq_getElem hkl⟩
   obtain ⟨_, ad, rfl, _⟩ := hrd.ptr (by omega)
   have hlt : (L.take (k + 1)).length = k + 1 := by rw [List.length_take]; omega
   have c74 := fun (w' : World) (hw' : Below w.heap.size w w') => why74_ok d wk x (L.take (k + 1)) (some ad) c k w' hlt (by rw [List.getElem?_take, if_pos (Nat.lt_succ_self k)]; exact hx) (rd_take (hrd.below (w' := w') hw') hkl) (by omega) (by omega) (fun y hy => hb y (List.mem_of_mem_take hy)) (hs _)
   by_cases hke : k = i
   · subst hke
     rw [if_pos (ht x hx)] at c74
     rw [wyV, if_pos hkl]
     repeat'
      conv => whnf
      first
       |refine zA ?_|refine zB ?_|refine zD ?_|refine zF ?_|refine splT ?_
       |(refine splD ?_ ?_ <;> intro hc <;> first|(exfalso; omega)|skip)
       |refine slHi env (z := k + 1) rfl rfl rfl rfl (by omega) rfl ?_
       |((with_reducible show CallEv _ _ 74 ..); refine callE (fun β w' hbw => c74 _ hbw) ?_)
     all_goals exact ⟨fun β => rfl, fun w' h => h⟩
   · rw [if_neg (by have := hf k (by omega) x hx; omega)] at c74
     repeat'
      conv => whnf
      first
       |refine zA ?_|refine zB ?_|refine zD ?_|refine zF ?_|refine splF ?_
       |(refine splD ?_ ?_ <;> intro hc <;> first|(exfalso; omega)|skip)
       |refine slHi env (z := k + 1) rfl rfl rfl rfl (by omega) rfl ?_
       |((with_reducible show CallEv _ _ 74 ..); refine callE (fun β w' hbw => c74 _ hbw) ?_)
     all_goals exact ⟨k + 1, by omega, by omega, Ent.weak rfl ⟨rfl, rfl, rfl, rfl, rfl, rfl, rfl, trivial⟩ ⟨rfl, trivial⟩ fun _ h => h⟩
 · obtain rfl : k = i := by omega
   rw [wyV, if_neg (by omega)]
   repeat'
    conv => whnf
    first
     |(refine splD ?_ ?_ <;> intro hc <;> first|(exfalso; omega)|skip)
   all_goals exact ⟨fun β => rfl, fun w' h => h⟩
end Go.Proofs.YtkbfcofifhngfaaGreat
namespace Go.Proofs.YtkbfcofifhngfaaGreat
open Go Tx Go.RowKit
theorem flat_set {α : Type} {sz : Nat} {f : α → List Value} (hf : ∀ x, (f x).length = sz) : ∀ (bs : List α) (k j : Nat) (b b' : α) (v : Value), bs[k]? = some b → j < sz → f b' = (f b).set j v → (bs.flatMap f).set (k * sz + j) v = (bs.set k b').flatMap f
 | a :: r, 0, j, b, b', v, h, hj, e => by
  simp only [List.getElem?_cons_zero, Option.some.injEq] at h
  subst h
  rw [Nat.zero_mul, Nat.zero_add, List.set_cons_zero, List.flatMap_cons, List.flatMap_cons, e, List.set_append_left _ _ (by rw [hf]; exact hj)]
 | a :: r, k + 1, j, b, b', v, h, hj, e => by
  rw [List.set_cons_succ, List.flatMap_cons, List.flatMap_cons, ← flat_set hf r k j b b' v (by simpa using h) hj e, List.set_append_right _ _ (by rw [hf, Nat.add_mul]; omega), hf]
  congr 2
  rw [Nat.add_mul]; omega
theorem flat_len {α : Type} {sz : Nat} {f : α → List Value} (hf : ∀ x, (f x).length = sz) (bs : List α) : (bs.flatMap f).length = bs.length * sz := by
 induction bs with
 | nil => simp
 | cons a r ih => rw [List.flatMap_cons, List.length_append, hf, ih, List.length_cons, Nat.add_mul]; omega
def atI (A : List Int) (i : Nat) : Int := (A[i]?).getD 0
theorem atI_get {A : List Int} {i : Nat} (h : i < A.length) : A[i]? = some (atI A i) := by
 unfold atI; rw [List.getElem?_eq_getElem h]; rfl
theorem atI_set {A : List Int} {k i : Nat} {v : Int} (hk : k < A.length) : atI (A.set k v) i = if i = k then v else atI A i := by
 unfold atI
 by_cases e : i = k
 · subst e; rw [List.getElem?_set_self hk, if_pos rfl]; rfl
 · rw [List.getElem?_set_ne (Ne.symm e), if_neg e]
theorem yatS {L : List Int} {k : Nat} {n : Int} (h : L[k]? = some n) : ∀ j v, [iv n][j]? = some v → (L.flatMap iF)[(k : Int).toNat * 1 + j]? = some v := fun j v hj => by
 have := flat_get (f := iF) (sz := 1) (fun _ => rfl) L k j n v h hj
 rw [Int.toNat_natCast]; exact this
theorem ystS {L : List Int} {k : Nat} (hk : k < L.length) (n : Int) : (k : Int).toNat * 1 + [iv n].length ≤ (L.flatMap iF).length := by
 rw [flat_len (sz := 1) (fun _ => rfl), Int.toNat_natCast, List.length_singleton]; omega
theorem ystE {L : List Int} {k : Nat} (hk : k < L.length) (n : Int) : (L.flatMap iF).take ((k : Int).toNat * ti3.size) ++ [iv n] ++ (L.flatMap iF).drop ((k : Int).toNat * ti3.size + [iv n].length) = (L.set k n).flatMap iF := by
 rw [show ti3.size = 1 from rfl, Int.toNat_natCast]
 obtain ⟨b, hb⟩ : ∃ b, L[k]? = some b := ⟨_, List.getElem?_eq_getElem hk⟩
 have h1 := flat_set (f := iF) (sz := 1) (fun _ => rfl) L k 0 b n (iv n) hb (by decide) rfl
 rw [← h1, List.set_eq_take_append_cons_drop, if_pos (by rw [flat_len (sz := 1) (fun _ => rfl)]; omega), Nat.add_zero, List.length_singleton, List.append_assoc]
 rfl
structure FrOk (D : List Mk) (K : Nat) (A : List Int) (t : Nat) : Prop where
 b : 0 ≤ atI A t ∧ atI A t ≤ 1000000000
 le : (mkA D t).op = true → ∀ s, t < s → s ≤ D.length → fdB D K t s = true → atI A t ≤ prO D t s + atI A s
 at' : atI A t = 1000000000 ∨ (mkA D t).op = true ∧ ∃ s, t < s ∧ s ≤ D.length ∧ fdB D K t s = true ∧ atI A t = prO D t s + atI A s
def BtOk (D : List Mk) (A B : List Int) (t : Nat) : Prop := atI B t = if (mkA D t).nd = 0 then imin (atI A t) (atI B (t + 1)) else atI A t
structure ByOk (D : List Mk) (K m : Nat) (A B : List Int) : Prop where
 l : A.length = D.length + 1 ∧ B.length = D.length + 1
 z : atI A D.length = 0 ∧ atI B D.length = 0
 f : ∀ t, m ≤ t → t < D.length → FrOk D K A t
 t : ∀ t, m ≤ t → t < D.length → BtOk D A B t
theorem FrOk.congr {D : List Mk} {K : Nat} {A A' : List Int} {t : Nat} (h : FrOk D K A t) (e : ∀ i, t ≤ i → atI A' i = atI A i) : FrOk D K A' t := by
 obtain ⟨h1, h2, h3⟩ := h
 refine ⟨by rw [e t (Nat.le_refl _)]; exact h1, fun ho s hs hsn hf => by rw [e t (Nat.le_refl _), e s (by omega)]; exact h2 ho s hs hsn hf, ?_⟩
 rw [e t (Nat.le_refl _)]
 rcases h3 with h3 | ⟨ho, s, hs, hsn, hf, h4⟩
 · exact .inl h3
 · exact .inr ⟨ho, s, hs, hsn, hf, by rw [e s (by omega)]; exact h4⟩
theorem tb_bd {D : List Mk} {K m : Nat} {A B : List Int} (h : ByOk D K m A B) : ∀ k t, D.length - t = k → m ≤ t → t ≤ D.length → 0 ≤ atI B t ∧ atI B t ≤ 1000000000
 | 0, t, hk, hm, ht => by
  obtain rfl : t = D.length := by omega
  rw [h.z.2]; decide
 | k + 1, t, hk, hm, ht => by
  have ih := tb_bd h k (t + 1) (by omega) (by omega) (by omega)
  have h1 := h.t t hm (by omega)
  have h2 := (h.f t hm (by omega)).b
  unfold BtOk at h1
  have h3 := imin_eq (atI A t) (atI B (t + 1))
  split at h1 <;> omega
theorem fr_bd {D : List Mk} {K m : Nat} {A B : List Int} (h : ByOk D K m A B) {t : Nat} (hm : m ≤ t) (ht : t ≤ D.length) : 0 ≤ atI A t ∧ atI A t ≤ 1000000000 := by
 by_cases e : t = D.length
 · subst e; rw [h.z.1]; decide
 · exact (h.f t hm (by omega)).b
theorem fd_mono {D : List Mk} {K : Nat} (hR : RoadOk D K) {t s s' : Nat} (h1 : t ≤ s) (h2 : s ≤ s') (h3 : s' ≤ D.length) (h : fdB D K t s' = true) : fdB D K t s = true := by
 unfold fdB at h ⊢
 rw [decide_eq_true_eq] at h ⊢
 by_cases hk : s ≤ t + K
 · rw [show min s (t + K) = s from by omega]; omega
 · have e1 : min s (t + K) = t + K := by omega
   have e2 : min s' (t + K) = t + K := by omega
   rw [e1]
   rw [e2] at h
   have := pS_le hR (show s ≤ s' from h2) h3
   have := pS_le hR (show t + K ≤ s by omega) (by omega)
   omega
structure FrP (D : List Mk) (K t : Nat) (A : List Int) (a : Int) (s : Nat) : Prop where
 b : 0 ≤ a ∧ a ≤ 1000000000
 le : ∀ s', t < s' → s' < s → fdB D K t s' = true → a ≤ prO D t s' + atI A s'
 at' : a = 1000000000 ∨ ∃ s', t < s' ∧ s' ≤ D.length ∧ fdB D K t s' = true ∧ a = prO D t s' + atI A s'
theorem FrP.next {D : List Mk} {K t : Nat} {A : List Int} {a : Int} {s : Nat} (h : FrP D K t A a s) (hs : t < s ∧ s ≤ D.length) (hf : fdB D K t s = true) (hb : 0 ≤ prO D t s + atI A s) : FrP D K t A (imin a (prO D t s + atI A s)) (s + 1) := by
 have e := imin_eq a (prO D t s + atI A s)
 have h1 := h.b
 refine ⟨by omega, fun s' h2 h3 h4 => ?_, ?_⟩
 · by_cases e2 : s' = s
   · subst e2; omega
   · have := h.le s' h2 (by omega) h4; omega
 · rcases (by omega : imin a (prO D t s + atI A s) = a ∨ imin a (prO D t s + atI A s) = prO D t s + atI A s) with e2 | e2
   · rw [e2]; exact h.at'
   · rw [e2]; exact .inr ⟨s, hs.1, hs.2, hf, rfl⟩
theorem by_nil {D : List Mk} {K : Nat} : ByOk D K D.length (List.replicate (D.length + 1) 0) (List.replicate (D.length + 1) 0) := by
 have e : atI (List.replicate (D.length + 1) 0) D.length = 0 := by unfold atI; rw [List.getElem?_replicate, if_pos (by omega)]; rfl
 exact ⟨⟨by simp, by simp⟩, ⟨e, e⟩, fun t h1 h2 => by omega, fun t h1 h2 => by omega⟩
theorem ByOk.step {D : List Mk} {K t : Nat} {A B : List Int} {a b : Int} (h : ByOk D K (t + 1) A B) (ht : t < D.length) (ho : (mkA D t).op = true → ∀ s, t < s → s ≤ D.length → fdB D K t s = true → a ≤ prO D t s + atI A s) (hb : 0 ≤ a ∧ a ≤ 1000000000)
 (hat : a = 1000000000 ∨ (mkA D t).op = true ∧ ∃ s, t < s ∧ s ≤ D.length ∧ fdB D K t s = true ∧ a = prO D t s + atI A s) (hB : b = if (mkA D t).nd = 0 then imin a (atI B (t + 1)) else a) : ByOk D K t (A.set t a) (B.set t b) := by
 obtain ⟨⟨l1, l2⟩, ⟨z1, z2⟩, hf, htb⟩ := h
 have hA : ∀ i, atI (A.set t a) i = if i = t then a else atI A i := fun i => atI_set (by omega)
 have hBB : ∀ i, atI (B.set t b) i = if i = t then b else atI B i := fun i => atI_set (by omega)
 refine ⟨⟨by rw [List.length_set]; exact l1, by rw [List.length_set]; exact l2⟩, ⟨by rw [hA, if_neg (by omega)]; exact z1, by rw [hBB, if_neg (by omega)]; exact z2⟩, fun i h1 h2 => ?_, fun i h1 h2 => ?_⟩
 · by_cases e : i = t
   · subst e
     refine ⟨by rw [hA, if_pos rfl]; exact hb, fun ho' s h3 h4 h5 => by rw [hA, if_pos rfl, hA, if_neg (by omega)]; exact ho ho' s h3 h4 h5, ?_⟩
     rw [hA, if_pos rfl]
     rcases hat with h6 | ⟨h6, s, h7, h8, h9, h10⟩
     · exact .inl h6
     · exact .inr ⟨h6, s, h7, h8, h9, by rw [hA, if_neg (by omega)]; exact h10⟩
   · exact (hf i (by omega) h2).congr fun j hj => by rw [hA, if_neg (by omega)]
 · unfold BtOk
   by_cases e : i = t
   · subst e
     have e1 : atI (B.set i b) (i + 1) = atI B (i + 1) := by rw [hBB, if_neg (by omega)]
     have e2 : atI (B.set i b) i = b := by rw [hBB, if_pos rfl]
     have e3 : atI (A.set i a) i = a := by rw [hA, if_pos rfl]
     rw [e1, e2, e3]
     exact hB
   · have := htb i (by omega) h2
     unfold BtOk at this
     have e1 : atI (B.set t b) (i + 1) = atI B (i + 1) := by rw [hBB, if_neg (by omega)]
     have e2 : atI (B.set t b) i = atI B i := by rw [hBB, if_neg e]
     have e3 : atI (A.set t a) i = atI A i := by rw [hA, if_neg e]
     rw [e1, e2, e3]
     exact this
abbrev ByS (D : List Mk) (K : Nat) := Nat × List Int × List Int
theorem buy_ok (D : List Mk) (K : Nat) (o : Option Addr) (c : Nat) (w : World) (h : RdR o c D w) (hR : RoadOk D K) :
 Calls Tryz.prog 104 #[rdV o D.length c K] w fun e w' => ∃ y : {y : (List Int × List Int) × (Addr × Nat) × (Addr × Nat) // ByOk D K 0 y.1.1 y.1.2}, e = .returned (.agg #[.slice o D.length c, iv K, .slice (some y.1.2.1.1) (D.length + 1) y.1.2.1.2, .slice (some y.1.2.2.1) (D.length + 1) y.1.2.2.2]) ∧ Below w.heap.size w w' ∧
  St w.heap.size (fun w2 => Rd 1 iF (.slice (some y.1.2.1.1) (D.length + 1) y.1.2.1.2) y.1.1.1 w2 ∧ Rd 1 iF (.slice (some y.1.2.2.1) (D.length + 1) y.1.2.2.2) y.1.1.2 w2) w' := by
 have hl := hR.l
 have hk := hR.k
 obtain ⟨_, ad, rfl, _⟩ := h.r.ptr (by omega)
 have h127 := fun a b h1 h2 h3 w' hb => price_ok D K (some ad) c a b w' (h.below hb) hR h1 h2 h3
 have h126 := fun a b h1 h2 w' hb => feeds_ok D K (some ad) c a b w' (h.below hb) hR h1 h2
 have hd := h.r
 refine calls_fam env mixed Tryz.func104 has104 Tryz.ntmps104 [.agg #[.slice (some ad) D.length c, iv K]] (by simp) ?_
 repeat'
  conv => whnf
  first
   |refine zA ?_|refine zB ?_|refine zC ?_|refine zF ?_
   |refine mkO env 2 (D.length + 1) ((List.replicate (D.length + 1) (0 : Int)).flatMap iF) rfl rfl rfl (by decide) rfl (by omega) (by decide) (by rw [List.flatMap_replicate]; rfl) rfl ?_
   |refine mkO env 4 (D.length + 1) ((List.replicate (D.length + 1) (0 : Int)).flatMap iF) rfl rfl rfl (by decide) rfl (by omega) (by decide) (by rw [List.flatMap_replicate]; rfl) rfl ?_
 refine loopE (fun x : ByS D K => [(1, .ptr 0 0), (2, .ptr 1 0), (3, .v (iv D.length)), (4, .ptr 6 0), (5, .v (iv ((x.1 : Int) - 1)))]) (fun x => [(0, .cells [.v (.slice (some ad) D.length c), .v (iv K)] 125), (1, .cells [.v (.slice none 0 0), .v (iv 0), .v (.slice none 0 0), .v (.slice none 0 0)] 159), (2, .own 3 (D.length + 1) 1 (x.2.1.flatMap iF) 3), (4, .own 5 (D.length + 1) 1 (x.2.2.flatMap iF) 3), (6, .cells [.v (.slice (some ad) D.length c), .v (iv K), .os 2 3 (D.length + 1), .os 4 5 (D.length + 1)] 159)]) (fun x => x.1 ≤ D.length ∧ ByOk D K x.1 x.2.1 x.2.2) (fun x => x.1) (D.length, List.replicate (D.length + 1) 0, List.replicate (D.length + 1) 0)
  ⟨Nat.le_refl _, by_nil⟩ ⟨rfl, rfl, rfl, rfl, rfl, trivial⟩ ⟨rfl, rfl, rfl, rfl, rfl, trivial⟩ (fun _ => ⟨rfl, rfl⟩) ?_
 rintro ⟨m, A, B⟩ ⟨hm, hby⟩
 dsimp only at hm hby ⊢
 obtain ⟨hlA, hlB⟩ := hby.l
 rcases Nat.eq_zero_or_pos m with rfl | hm0
 · skip
   repeat'
    conv => whnf
    first
     |refine zC ?_|refine splF ?_
   all_goals exact ⟨fun w' h => h, fun β w' hB hblk => ⟨⟨((A, B), (⟨β 2, 0, none⟩, β 3), (⟨β 4, 0, none⟩, β 5)), hby⟩, rfl, fun w2 k2 => ⟨Rd.of_owns (sz := 1) (f := iF) (fun _ => rfl) rfl hlA.symm (hblk 2 _ rfl rfl w2 k2), Rd.of_owns (sz := 1) (f := iF) (fun _ => rfl) rfl hlB.symm (hblk 4 _ rfl rfl w2 k2)⟩⟩⟩
 · obtain ⟨t, rfl⟩ : ∃ t, m = t + 1 := ⟨m - 1, by omega⟩
   have et : ((t + 1 : Nat) : Int) - 1 = t := by omega
   rw [et]
   have htn : t < D.length := by omega
   have htA : t < A.length := by omega
   have htB : t < B.length := by omega
   obtain ⟨⟨nd, pr, tr, op⟩, hmk⟩ : ∃ b, D[t]? = some b := ⟨_, List.getElem?_eq_getElem htn⟩
   have emk : mkA D t = ⟨nd, pr, tr, op⟩ := by unfold mkA; rw [hmk]; rfl
   have eO := fun (w' : World) hw' => rd_fld (hd.below (w' := w') hw') hmk 3 (.bool op) rfl
   have eN := fun (w' : World) hw' => rd_fld (hd.below (w' := w') hw') hmk 0 (iv nd) rfl
   have eb := tb_bd hby (D.length - (t + 1)) (t + 1) rfl (Nat.le_refl _) (by omega)
   have hB1 : B[t + 1]? = some (atI B (t + 1)) := atI_get (by omega)
   generalize hb1 : atI B (t + 1) = b1 at *
   have key : ∀ a : Int, 0 ≤ a ∧ a ≤ 1000000000 → (op = true → ∀ s, t < s → s ≤ D.length → fdB D K t s = true → a ≤ prO D t s + atI A s) → (a = 1000000000 ∨ op = true ∧ ∃ s, t < s ∧ s ≤ D.length ∧ fdB D K t s = true ∧ a = prO D t s + atI A s) → ∀ b, (b = if nd = 0 then imin a b1 else a) → ByOk D K t (A.set t a) (B.set t b) := fun a ha hle hat b hb =>
    hby.step htn (by rw [emk]; exact hle) ha (by rw [emk]; exact hat) (by rw [emk, hb1]; exact hb)
   have hAt : ∀ a : Int, (A.set t a)[t]? = some a := fun a => List.getElem?_set_self htA
   have hBt : ∀ a : Int, (B.set t a)[t]? = some a := fun a => List.getElem?_set_self htB
   have hBs : ∀ a : Int, (B.set t a)[t + 1]? = some b1 := fun a => by rw [List.getElem?_set_ne (by omega)]; exact hB1
   have htA2 : ∀ a : Int, t < (A.set t a).length := fun a => by rw [List.length_set]; exact htA
   have htB2 : ∀ a : Int, t < (B.set t a).length := fun a => by rw [List.length_set]; exact htB
   clear hmk
   cases op with
   | false =>
    have hkey := key 1000000000 (by decide) (fun h => by cases h) (.inl rfl)
    clear key h127 h126
    repeat'
     conv => whnf
     first
      |refine zA ?_|refine zB ?_|refine zC ?_|refine zF ?_|refine zG ?_|refine splT ?_|refine splF ?_
      |refine splD (fun hc => ?_) (fun hc => ?_)
      |refine eL [.bool false] ⟨⟨rfl, fun w' hw' => eO w' hw'⟩, ?_⟩
      |(refine And.intro (a := _ + _ ≤ List.length _) (ystS htA _) ?_; rw [ystE htA])
      |(refine And.intro (a := _ + _ ≤ List.length _) (ystS htB _) ?_; rw [ystE htB])
      |refine eL [iv nd] ⟨⟨rfl, fun w' hw' => eN w' hw'⟩, ?_⟩
      |refine eL [iv 1000000000] ⟨⟨rfl, yatS (hAt 1000000000)⟩, ?_⟩
      |refine eL [iv 1000000000] ⟨⟨rfl, yatS (hBt 1000000000)⟩, ?_⟩
      |refine eL [iv b1] ⟨⟨rfl, yatS (hBs 1000000000)⟩, ?_⟩
      |(refine And.intro (a := _ + _ ≤ List.length _) (ystS (htB2 _) _) ?_; rw [ystE (htB2 _), List.set_set])
    all_goals first|exact ⟨(t, A.set t 1000000000, B.set t (imin 1000000000 b1)), ⟨by omega, hkey _ (by rw [if_pos (by assumption)])⟩, by omega, Ent.weak rfl ⟨rfl, rfl, rfl, rfl, rfl, trivial⟩ ⟨rfl, rfl, rfl, rfl, rfl, trivial⟩ fun _ h => h⟩|exact ⟨(t, A.set t 1000000000, B.set t 1000000000), ⟨by omega, hkey _ (by rw [if_neg (by assumption)])⟩, by omega, Ent.weak rfl ⟨rfl, rfl, rfl, rfl, rfl, trivial⟩ ⟨rfl, rfl, rfl, rfl, rfl, trivial⟩ fun _ h => h⟩
   | true =>
    repeat'
     conv => whnf
     first
      |refine zA ?_|refine zB ?_|refine zC ?_|refine zF ?_|refine zG ?_|refine splT ?_
      |refine eL [.bool true] ⟨⟨rfl, fun w' hw' => eO w' hw'⟩, ?_⟩
      |(refine And.intro (a := _ + _ ≤ List.length _) (ystS htA _) ?_; rw [ystE htA])
      |(refine And.intro (a := _ + _ ≤ List.length _) (ystS htB _) ?_; rw [ystE htB])
    refine loopE (fun y : Nat × Int => [(1, .ptr 0 0), (2, .ptr 1 0), (3, .v (iv D.length)), (4, .ptr 6 0), (5, .v (iv t)), (6, .v (iv y.1))]) (fun y => [(0, .cells [.v (.slice (some ad) D.length c), .v (iv K)] 125), (1, .cells [.v (.slice none 0 0), .v (iv 0), .v (.slice none 0 0), .v (.slice none 0 0)] 159), (2, .own 3 (D.length + 1) 1 ((A.set t y.2).flatMap iF) 3), (4, .own 5 (D.length + 1) 1 ((B.set t 1000000000).flatMap iF) 3), (6, .cells [.v (.slice (some ad) D.length c), .v (iv K), .os 2 3 (D.length + 1), .os 4 5 (D.length + 1)] 159)]) (fun y => t < y.1 ∧ y.1 ≤ D.length + 1 ∧ FrP D K t A y.2 y.1) (fun y => D.length + 1 - y.1) (t + 1, 1000000000) ⟨by omega, by omega, ⟨by show (0 : Int) ≤ 1000000000; decide, by show (1000000000 : Int) ≤ 1000000000; decide⟩, fun s' h1 h2 => by omega, .inl rfl⟩ ⟨rfl, rfl, rfl, rfl, rfl, rfl, trivial⟩ ⟨rfl, rfl, rfl, rfl, rfl, trivial⟩ (fun _ => ⟨rfl, rfl⟩) ?_
    rintro ⟨s, a⟩ ⟨hs1, hs2, hfp⟩
    dsimp only at hs1 hs2 hfp ⊢
    have hab := hfp.b
    have hat2 : a = 1000000000 ∨ true = true ∧ ∃ s, t < s ∧ s ≤ D.length ∧ fdB D K t s = true ∧ a = prO D t s + atI A s := hfp.at'.imp id fun h => ⟨rfl, h⟩
    rcases Nat.lt_or_ge D.length s with hsn | hsn
    · have hkey := key a hab (fun _ s' h1 h2 h3 => hfp.le s' h1 (by omega) h3) hat2
      clear key h127 h126
      repeat'
       conv => whnf
       first
        |refine zA ?_|refine zB ?_|refine zC ?_|refine zF ?_|refine zG ?_|refine splF ?_
        |(refine splD ?_ ?_ <;> intro hc <;> first|(exfalso; omega)|skip)
        |refine eL [iv nd] ⟨⟨rfl, fun w' hw' => eN w' hw'⟩, ?_⟩
        |refine eL [iv a] ⟨⟨rfl, yatS (hAt a)⟩, ?_⟩
        |refine eL [iv a] ⟨⟨rfl, yatS (hBt a)⟩, ?_⟩
        |refine eL [iv b1] ⟨⟨rfl, yatS (hBs a)⟩, ?_⟩
        |(refine And.intro (a := _ + _ ≤ List.length _) (ystS (htB2 _) _) ?_; rw [ystE (htB2 _), List.set_set])
      all_goals first|exact ⟨(t, A.set t a, B.set t (imin a b1)), ⟨by omega, hkey _ (by rw [if_pos (by assumption)])⟩, by omega, Ent.weak rfl ⟨rfl, rfl, rfl, rfl, rfl, trivial⟩ ⟨rfl, rfl, rfl, rfl, rfl, trivial⟩ fun _ h => h⟩|exact ⟨(t, A.set t a, B.set t a), ⟨by omega, hkey _ (by rw [if_neg (by assumption)])⟩, by omega, Ent.weak rfl ⟨rfl, rfl, rfl, rfl, rfl, trivial⟩ ⟨rfl, rfl, rfl, rfl, rfl, trivial⟩ fun _ h => h⟩
    · have hf := h126 t s (by omega) hsn
      obtain ⟨bv, hbv⟩ : ∃ b, fdB D K t s = b := ⟨_, rfl⟩
      rw [hbv] at hf
      cases bv with
      | false =>
       have hkey := key a hab (fun _ s' h1 h2 h3 => by
        rcases Nat.lt_or_ge s' s with h4 | h4
        · exact hfp.le s' h1 h4 h3
        · rw [fd_mono hR (by omega) h4 h2 h3] at hbv; cases hbv) hat2
       clear key h127 h126
       repeat'
        conv => whnf
        first
         |refine zA ?_|refine zB ?_|refine zC ?_|refine zD ?_|refine zF ?_|refine zG ?_|refine splF ?_
         |(refine splD ?_ ?_ <;> intro hc <;> first|(exfalso; omega)|skip)
         |((with_reducible show CallEv _ _ 137 ..); refine callE (fun β w' hbw => hf w' hbw) ?_)
         |refine eL [iv nd] ⟨⟨rfl, fun w' hw' => eN w' hw'⟩, ?_⟩
         |refine eL [iv a] ⟨⟨rfl, yatS (hAt a)⟩, ?_⟩
         |refine eL [iv a] ⟨⟨rfl, yatS (hBt a)⟩, ?_⟩
         |refine eL [iv b1] ⟨⟨rfl, yatS (hBs a)⟩, ?_⟩
         |(refine And.intro (a := _ + _ ≤ List.length _) (ystS (htB2 _) _) ?_; rw [ystE (htB2 _), List.set_set])
       all_goals first|exact ⟨(t, A.set t a, B.set t (imin a b1)), ⟨by omega, hkey _ (by rw [if_pos (by assumption)])⟩, by omega, Ent.weak rfl ⟨rfl, rfl, rfl, rfl, rfl, trivial⟩ ⟨rfl, rfl, rfl, rfl, rfl, trivial⟩ fun _ h => h⟩|exact ⟨(t, A.set t a, B.set t a), ⟨by omega, hkey _ (by rw [if_neg (by assumption)])⟩, by omega, Ent.weak rfl ⟨rfl, rfl, rfl, rfl, rfl, trivial⟩ ⟨rfl, rfl, rfl, rfl, rfl, trivial⟩ fun _ h => h⟩
      | true =>
       have hp := h127 t s (by omega) htn hsn
       have hpb := pr_bd hR (show t ≤ s by omega) hsn htn
       have hvb := fr_bd hby (show t + 1 ≤ s by omega) hsn
       have hnx := hfp.next ⟨hs1, hsn⟩ hbv (by omega)
       have hAs : (A.set t a)[s]? = some (atI A s) := by rw [List.getElem?_set_ne (by omega)]; exact atI_get (by omega)
       clear key h127 h126 hfp hat2
       generalize prO D t s = p at *
       generalize atI A s = v at *
       repeat'
        conv => whnf
        first
         |refine zA ?_|refine zB ?_|refine zC ?_|refine zD ?_|refine zF ?_|refine zG ?_|refine splT ?_
         |(refine splD ?_ ?_ <;> intro hc <;> first|(exfalso; omega)|skip)
         |((with_reducible show CallEv _ _ 137 ..); refine callE (fun β w' hbw => hf w' hbw) ?_)
         |((with_reducible show CallEv _ _ 138 ..); refine callE (fun β w' hbw => hp w' hbw) ?_)
         |refine eL [iv a] ⟨⟨rfl, yatS (hAt a)⟩, ?_⟩
         |refine eL [iv v] ⟨⟨rfl, yatS hAs⟩, ?_⟩
         |(refine And.intro (a := _ + _ ≤ List.length _) (ystS (htA2 a) _) ?_; rw [ystE (htA2 a), List.set_set])
       all_goals exact ⟨(s + 1, imin a (p + v)), ⟨by omega, by omega, hnx⟩, by omega, Ent.weak rfl ⟨rfl, rfl, rfl, rfl, rfl, rfl, trivial⟩ ⟨rfl, rfl, rfl, rfl, rfl, trivial⟩ fun _ h => h⟩
end Go.Proofs.YtkbfcofifhngfaaGreat
namespace Go.Proofs.YtkbfcofifhngfaaGreat
open Go Tx
structure Fit (D : SD) (X : List (List Ln)) : Prop where
 len : (X.length : Int) = D.sl
 ro : ∀ l ∈ X, (l.length : Int) ≤ D.ro
 one : ∀ l ∈ X, ∀ i j, i < l.length → j < l.length → ((lnAt l i).g = (lnAt l j).g ∨ (lnAt l i).t = (lnAt l j).t) → i = j
 rng : ∀ x ∈ X.flatten, ∃ a b t : Nat, x = ⟨a, b, t⟩ ∧ a < D.G.length ∧ b < D.su.toNat ∧ t < D.T.length ∧ teachB D t b = true
 cnt : ∀ g, g < D.G.length → ∀ i, i < D.su.toNat → cGU X.flatten g i = rowP D g i
 tea : ∀ t, t < D.T.length → cntT X.flatten t ≤ (D.T.getD t ([], 0)).2
theorem Fit.of {D : SD} (hv : scOk D = true) {X : List (List Ln)} (h : rfitB D X = true) : Fit D X := by
 obtain ⟨hv1, hv2, hv3, hv4, hv5, hv6, hv7⟩ := scOk_iff.1 hv
 unfold rfitB at h
 simp only [Bool.and_eq_true, decide_eq_true_eq] at h
 obtain ⟨h1, h2, h3, h4⟩ := h
 have hs := fun l hl => List.all_eq_true.1 h2 l hl
 unfold sltB at hs
 simp only [Bool.and_eq_true, decide_eq_true_eq] at hs
 refine ⟨h1, fun l hl => (hs l hl).1, fun l hl i j hi hj e => ?_, fun x hx => ?_, fun g hg i hi => ?_, fun t ht => of_decide_eq_true (alN_iff.1 h4 t ht)⟩
 · have hd : ∀ i k, i < l.length → k < i → ¬ ((lnAt l i).g = (lnAt l k).g ∨ (lnAt l i).t = (lnAt l k).t) := fun i k hi hk e => by
    have h5 := alN_iff.1 (hs l hl).2.2 i hi
    have h6 := alN_iff.1 h5 k hk
    unfold cfB at h6
    rcases e with e | e <;> simp [e] at h6
   rcases Nat.lt_trichotomy i j with h5 | h5 | h5
   · exact absurd (e.imp Eq.symm Eq.symm) (hd j i hj h5)
   · exact h5
   · exact absurd e (hd i j hi h5)
 · obtain ⟨l, hl, hxl⟩ := List.mem_flatten.1 hx
   have h5 := List.all_eq_true.1 (hs l hl).2.1 x hxl
   unfold lesB at h5
   simp only [Bool.and_eq_true, inB_iff] at h5
   obtain ⟨h6, h7, h8, h9⟩ := h5
   obtain ⟨g, j, t⟩ := x
   dsimp only at h6 h7 h8 h9
   refine ⟨g.toNat, j.toNat, t.toNat, ?_, by omega, by omega, by omega, ?_⟩
   · rw [Int.toNat_of_nonneg h6.1, Int.toNat_of_nonneg h7.1, Int.toNat_of_nonneg h8.1]
   · unfold teachB
     rw [Int.toNat_of_nonneg h7.1]
     exact h9
 · have h5 := alN_iff.1 (alN_iff.1 h3 g hg) i hi
   rw [cntP_cGU _ (by omega)] at h5
   exact beq_iff_eq.1 h5
end Go.Proofs.YtkbfcofifhngfaaGreat
namespace Go.Proofs.YtkbfcofifhngfaaGreat
open Go Tx Go.RowKit
def gS (g : Nat) (L : List Ln) : Int := (L.map fun x => b1 (decide (x.g = (g : Int)))).sum
def hS (g : Nat) (X : List (List Ln)) : Int := (X.map (gS g)).sum
def addL (A : List Int) (v : Int) : List Int := A.set (A.length - 1) (atI A (A.length - 1) + v)
def lg0 (A : List Int) (t : Nat) : List Int := if t % 8 = 0 then A ++ [0] else A
def lgS (k : Int) (g : Nat) (X : List (List Ln)) : Nat → List Int
 | 0 => []
 | t + 1 => addL (lg0 (lgS k g X t) t) (k * gS g (X.getD t []))
theorem addL_len (A : List Int) (v : Int) : (addL A v).length = A.length := by unfold addL; rw [List.length_set]
theorem lg0_len (A : List Int) (t : Nat) : (lg0 A t).length = A.length + if t % 8 = 0 then 1 else 0 := by
 unfold lg0; split <;> simp
theorem lgS_len (k : Int) (g : Nat) (X : List (List Ln)) : ∀ t, (lgS k g X t).length = (t + 7) / 8
 | 0 => rfl
 | t + 1 => by
  rw [lgS, addL_len, lg0_len, lgS_len k g X t]
  split <;> omega
theorem atI_addL {A : List Int} {v : Int} (h : A ≠ []) (i : Nat) : atI (addL A v) i = if i = A.length - 1 then atI A i + v else atI A i := by
 have := List.length_pos_iff.2 h
 unfold addL
 rw [atI_set (by omega)]
 split
 · rename_i e; rw [e]
 · rfl
theorem eq_atI {A B : List Int} (hl : A.length = B.length) (h : ∀ i, i < A.length → atI A i = atI B i) : A = B := by
 refine List.ext_getElem? fun i => ?_
 rcases Nat.lt_or_ge i A.length with h1 | h1
 · rw [atI_get h1, atI_get (by omega), h i h1]
 · rw [List.getElem?_eq_none h1, List.getElem?_eq_none (by omega)]
theorem addL_zero {A : List Int} (h : A ≠ []) : addL A 0 = A := eq_atI (addL_len _ _) fun i _ => by rw [atI_addL h]; split <;> omega
theorem addL_add {A : List Int} (h : A ≠ []) (v u : Int) : addL (addL A v) u = addL A (v + u) := by
 have h2 : addL A v ≠ [] := fun e => h (List.length_eq_zero_iff.1 (by rw [← addL_len A v, e]; rfl))
 refine eq_atI (by rw [addL_len, addL_len, addL_len]) fun i _ => ?_
 rw [atI_addL h2, atI_addL h, atI_addL h, addL_len]
 split <;> omega
theorem sum_atI (A : List Int) : A.sum = sumN (atI A) A.length := by
 have := sumN_list id 0 A
 rw [List.map_id] at this
 rw [this]
 exact sumN_congr fun i hi => by unfold atI; rw [List.getD_eq_getElem?_getD]; rfl
theorem addL_sum {A : List Int} (h : A ≠ []) (v : Int) : (addL A v).sum = A.sum + v := by
 have hl := List.length_pos_iff.2 h
 rw [sum_atI, sum_atI, addL_len, sumN_congr (g := fun i => if i = A.length - 1 then atI A (A.length - 1) + v else atI A i) fun i _ => by
  rw [atI_addL h]
  by_cases e : i = A.length - 1
  · rw [if_pos e, if_pos e, e]
  · rw [if_neg e, if_neg e], sumN_upd (by omega)]
 omega
theorem lg0_sum (A : List Int) (t : Nat) : (lg0 A t).sum = A.sum := by unfold lg0; split <;> simp
theorem lg0_ne (k : Int) (g : Nat) (X : List (List Ln)) (t : Nat) : lg0 (lgS k g X t) t ≠ [] := fun e => by
 have h1 := lg0_len (lgS k g X t) t
 rw [e, lgS_len] at h1
 have h2 : ([] : List Int).length = 0 := rfl
 rw [h2] at h1
 split at h1 <;> omega
theorem hS_step (g : Nat) {X : List (List Ln)} {t : Nat} {l : List Ln} (h : X[t]? = some l) : hS g (X.take (t + 1)) = hS g (X.take t) + gS g l := sum_tk h
theorem gS_step (g : Nat) {L : List Ln} {i : Nat} {x : Ln} (h : L[i]? = some x) : gS g (L.take (i + 1)) = gS g (L.take i) + b1 (decide (x.g = (g : Int))) := sum_tk (f := fun x : Ln => b1 (decide (x.g = (g : Int)))) h
theorem lgS_sum (k : Int) (g : Nat) (X : List (List Ln)) : ∀ t, t ≤ X.length → (lgS k g X t).sum = k * hS g (X.take t)
 | 0, _ => by show (0 : Int) = k * 0; omega
 | t + 1, h => by
  obtain ⟨l, hl⟩ : ∃ l, X[t]? = some l := ⟨_, List.getElem?_eq_getElem (by omega)⟩
  rw [lgS, addL_sum (lg0_ne k g X t), lg0_sum, lgS_sum k g X t (by omega), hS_step g hl, Int.mul_add, List.getD_eq_getElem?_getD, hl]
  rfl
theorem b1_b (b : Bool) : 0 ≤ b1 b ∧ b1 b ≤ 1 := by cases b <;> decide
theorem gS_nn (g : Nat) : ∀ L, 0 ≤ gS g L
 | [] => Int.le_refl _
 | x :: L => by
  have h1 := gS_nn g L
  have h2 := b1_b (decide (x.g = (g : Int)))
  unfold gS at h1 ⊢
  rw [List.map_cons, List.sum_cons]; omega
theorem gS_take (g : Nat) (L : List Ln) (i : Nat) : gS g (L.take i) ≤ gS g L := by
 have h1 := gS_nn g (L.drop i)
 have h2 : gS g L = gS g (L.take i) + gS g (L.drop i) := by
  conv => lhs; rw [← List.take_append_drop i L]
  unfold gS; rw [List.map_append, List.sum_append]
 omega
structure LgB (A : List Int) (t : Nat) : Prop where
 b : ∀ i, 0 ≤ atI A i ∧ atI A i ≤ 480
 l : t % 8 ≠ 0 → atI A (A.length - 1) ≤ 60 * ((t % 8 : Nat) : Int)
theorem atI_none {A : List Int} {i : Nat} (h : A.length ≤ i) : atI A i = 0 := by unfold atI; rw [List.getElem?_eq_none h]; rfl
theorem lg0_b {A : List Int} {t : Nat} (h : LgB A t) {v : Int} (hv : 0 ≤ v ∧ v ≤ 60) (hn : lg0 A t ≠ []) : LgB (addL (lg0 A t) v) (t + 1) := by
 have h1 : ∀ i, 0 ≤ atI (lg0 A t) i ∧ atI (lg0 A t) i ≤ 480 := fun i => by
  unfold lg0
  split
  · rcases Nat.lt_or_ge i A.length with e | e
    · have := h.b i
      unfold atI at this ⊢
      rwa [List.getElem?_append_left e]
    · unfold atI
      rw [List.getElem?_append_right e]
      rcases Nat.eq_zero_or_pos (i - A.length) with e2 | e2
      · rw [e2]; decide
      · rw [List.getElem?_eq_none (by simp; omega)]; decide
  · exact h.b i
 have h2 : atI (lg0 A t) ((lg0 A t).length - 1) ≤ 60 * ((t % 8 : Nat) : Int) := by
  unfold lg0
  split
  · rename_i e
    rw [List.length_append, List.length_singleton, Nat.add_sub_cancel, e]
    unfold atI
    rw [List.getElem?_append_right (Nat.le_refl _), Nat.sub_self]
    decide
  · rename_i e; exact h.l e
 have hl : (addL (lg0 A t) v).length = (lg0 A t).length := addL_len _ _
 refine ⟨fun i => ?_, fun e => ?_⟩
 · rw [atI_addL hn]
   have := h1 i
   split
   · rename_i e; rw [← e] at h2; omega
   · exact this
 · rw [hl, atI_addL hn, if_pos rfl]; omega
theorem lgS_b {k : Int} (hk : 1 ≤ k ∧ k ≤ 60) {g : Nat} {X : List (List Ln)} (h : ∀ l ∈ X, gS g l ≤ 1) : ∀ t, LgB (lgS k g X t) t
 | 0 => ⟨fun i => by show 0 ≤ atI [] i ∧ atI [] i ≤ 480; rw [atI_none (Nat.zero_le _)]; decide, fun e => absurd rfl e⟩
 | t + 1 => by
  have hv : 0 ≤ k * gS g (X.getD t []) ∧ k * gS g (X.getD t []) ≤ 60 := by
   have h0 := gS_nn g (X.getD t [])
   have h1 : gS g (X.getD t []) ≤ 1 := by
    rw [List.getD_eq_getElem?_getD]
    cases hx : X[t]? with
    | none => show (0 : Int) ≤ 1; decide
    | some l => exact h l (List.mem_of_getElem? hx)
   rcases (by omega : gS g (X.getD t []) = 0 ∨ gS g (X.getD t []) = 1) with e | e <;> rw [e] <;> omega
  exact lg0_b (lgS_b hk h t) hv (lg0_ne k g X t)
theorem Fit.gS1 {D : SD} {X : List (List Ln)} (h : Fit D X) (g : Nat) : ∀ l ∈ X, gS g l ≤ 1 := fun l hl => by
 unfold gS
 rw [sum_lnAt]
 have h2 := ind_le (P := fun k => decide ((lnAt l k).g = (g : Int)) = true) (n := l.length) fun i j hi hj e1 e2 => h.one l hl i j hi hj (.inl (by rw [decide_eq_true_eq] at e1 e2; omega))
 rw [sumN_congr (g := fun k => b1 (decide ((lnAt l k).g = (g : Int)))) fun k _ => by cases decide ((lnAt l k).g = (g : Int)) <;> rfl] at h2
 exact h2
theorem Fit.want {D : SD} (hv : scOk D = true) {X : List (List Ln)} (h : Fit D X) {g : Nat} (hg : g < D.G.length) : hS g X = (D.G.getD g []).sum := by
 obtain ⟨-, -, hv3, -, -, hv6, -⟩ := scOk_iff.1 hv
 have hrow := List.all_eq_true.1 hv6 (D.G.getD g []) (by rw [List.getD_eq_getElem?_getD, List.getElem?_eq_getElem hg]; exact List.getElem_mem hg)
 unfold grB at hrow
 simp only [Bool.and_eq_true, decide_eq_true_eq] at hrow
 have e1 : hS g X = (X.flatten.map fun x => b1 (decide (x.g = (g : Int)))).sum := (flat_sum _ X).symm
 have h2 := sum_split (fun x : Ln => decide (x.g = (g : Int))) (fun x => x.j) D.su.toNat X.flatten fun x hx => by
  obtain ⟨a, b, t, rfl, _, hb, _⟩ := h.rng x hx
  exact ⟨b, rfl, hb⟩
 have e3 := sumN_list id 0 (D.G.getD g [])
 rw [List.map_id] at e3
 rw [e1, h2, e3, show (D.G.getD g []).length = D.su.toNat from by omega]
 refine sumN_congr fun i hi => ?_
 show _ = rowP D g i
 rw [← h.cnt g hg i hi]
 unfold cGU
 congr 1
 refine List.map_congr_left fun x _ => ?_
 rw [Bool.decide_and]
def MxI (L : List Int) (k : Nat) (m : Int) (f : Nat) : Prop := (∀ j, j < k → atI L j ≤ m) ∧ ((m = 0 ∧ f = 0) ∨ (f < k ∧ atI L f = m ∧ 0 < m ∧ ∀ j, j < f → atI L j < m))
theorem MxI.nil (L : List Int) : MxI L 0 0 0 := ⟨fun j hj => by omega, .inl ⟨rfl, rfl⟩⟩
theorem MxI.nn {L : List Int} {k f : Nat} {m : Int} (h : MxI L k m f) : 0 ≤ m := by rcases h.2 with h | h <;> omega
theorem MxI.yes {L : List Int} {k f : Nat} {m : Int} (h : MxI L k m f) (hx : m < atI L k) : MxI L (k + 1) (atI L k) k := by
 have h0 := h.nn
 refine ⟨fun j hj => ?_, .inr ⟨by omega, rfl, by omega, fun j hj => ?_⟩⟩
 · by_cases e : j = k
   · rw [e]; omega
   · have := h.1 j (by omega); omega
 · have := h.1 j hj; omega
theorem MxI.no {L : List Int} {k f : Nat} {m : Int} (h : MxI L k m f) (hx : ¬ m < atI L k) : MxI L (k + 1) m f :=
 ⟨fun j hj => by
  by_cases e : j = k
  · rw [e]; omega
  · exact h.1 j (by omega), h.2.imp id fun ⟨h1, h2⟩ => ⟨by omega, h2⟩⟩
theorem sum_tkb {L : List Int} (h : ∀ i, 0 ≤ atI L i ∧ atI L i ≤ 480) (k : Nat) : 0 ≤ (L.take k).sum ∧ (L.take k).sum ≤ 480 * L.length ∧ (L.take k).sum ≤ L.sum := by
 have hm : ∀ x ∈ L, 0 ≤ x ∧ x ≤ (480 : Nat) := fun x hx => by
  obtain ⟨i, hi⟩ := List.mem_iff_getElem?.1 hx
  have := h i
  unfold atI at this
  rw [hi] at this
  exact this
 have h1 := sum_bt (f := id) (X := L) hm k
 have h2 := sum_b (f := id) (M := 480) (L.drop k) fun x hx => hm x (List.mem_of_mem_drop hx)
 have h3 : L.sum = (L.take k).sum + (L.drop k).sum := by rw [← List.sum_append, List.take_append_drop]
 simp only [List.map_id] at h1 h2
 omega
theorem atI_some {L : List Int} {i : Nat} {x : Int} (h : L[i]? = some x) : atI L i = x := by unfold atI; rw [h]; rfl
theorem MxI.w1 {L : List Int} {f c : Nat} {m : Int} (h : MxI L L.length m f) (hb : ∀ i, 0 ≤ atI L i ∧ atI L i ≤ 480) (hl : L.length ≤ 5) (hc : L.length ≤ c) : WyIn m L.sum L L.length c := by
 have h0 := h.nn
 have hs := sum_tkb hb L.length
 rw [List.take_length] at hs
 have hm : m ≤ 480 := by
  rcases h.2 with h1 | h1
  · omega
  · have := hb f; omega
 exact ⟨by omega, by omega, ⟨hl, hc⟩, fun x hx => by
  obtain ⟨i, hi⟩ := List.mem_iff_getElem?.1 hx
  have := hb i
  rw [atI_some hi] at this
  omega, fun k => (sum_tkb hb k).2.2, Nat.le_refl _, fun j hj x hx => by have := h.1 j hj; rwa [atI_some hx] at this, fun x hx => by rw [List.getElem?_eq_none (Nat.le_refl _)] at hx; cases hx⟩
theorem MxI.w2 {L : List Int} {f c : Nat} {m : Int} (h : MxI L L.length m f) (h0 : m ≠ 0) (hb : ∀ i, 0 ≤ atI L i ∧ atI L i ≤ 480) (hl : L.length ≤ 5) (hc : L.length ≤ c) : f < L.length ∧ WyIn (m - 1) L.sum L f c := by
 have h1 := h.w1 hb hl hc
 rcases h.2 with h2 | ⟨h2, h3, h4, h5⟩
 · exact absurd h2.1 h0
 · have hd := h1.hd
   exact ⟨h2, by omega, h1.hk, h1.hl, h1.hb, h1.hs, by omega, fun j hj x hx => by have := h5 j hj; rw [atI_some hx] at this; omega, fun x hx => by rw [← atI_some hx]; omega⟩
def fnd (p : Nat → Bool) : Nat → Nat → Nat
 | 0, i => i
 | f + 1, i => if p i = true then i else fnd p f (i + 1)
theorem fnd_spec {p : Nat → Bool} : ∀ (f i j : Nat), i ≤ j → j < i + f → p j = true → p (fnd p f i) = true ∧ i ≤ fnd p f i ∧ fnd p f i ≤ j ∧ ∀ k, i ≤ k → k < fnd p f i → p k = false
 | 0, i, j, h1, h2, h3 => by omega
 | f + 1, i, j, h1, h2, h3 => by
  unfold fnd
  by_cases hp : p i = true
  · rw [if_pos hp]
    exact ⟨hp, Nat.le_refl _, h1, fun k h4 h5 => by omega⟩
  · rw [if_neg hp]
    have hij : i ≠ j := fun e => by subst e; exact hp h3
    obtain ⟨g1, g2, g3, g4⟩ := fnd_spec f (i + 1) j (by omega) (by omega) h3
    refine ⟨g1, by omega, g3, fun k h4 h5 => ?_⟩
    by_cases e : k = i
    · subst e; rwa [Bool.not_eq_true] at hp
    · exact g4 k (by omega) h5
def nxO (D : List Mk) (A : List Int) (t : Nat) : Nat := fnd (fun s => decide (prO D t s + atI A s = atI A t)) (D.length - t) (t + 1)
def goO (D : List Mk) (K : Nat) (A : List Int) : Nat → Nat → List Nat
 | 0, _ => []
 | f + 1, t => if fdB D K t D.length = true ∧ prO D t D.length = atI A t then [] else if nxO D A t = D.length then [] else nxO D A t :: goO D K A f (nxO D A t)
def t0O (D : List Mk) (A B : List Int) : Nat := fnd (fun i => decide (atI A i = atI B 0)) D.length 0
def plO (D : List Mk) (K : Nat) (A B : List Int) : List Nat := t0O D A B :: goO D K A D.length (t0O D A B)
def Pc (D : List Mk) (K : Nat) (A : List Int) : Nat → List Nat → Prop
 | t, [] => fdB D K t D.length = true ∧ prO D t D.length = atI A t
 | t, s :: L => (t < s ∧ s < D.length) ∧ (mkA D s).op = true ∧ fdB D K t s = true ∧ atI A t = prO D t s + atI A s ∧ Pc D K A s L
theorem nx_ok {D : List Mk} {K : Nat} {A B : List Int} (hR : RoadOk D K) (h : ByOk D K 0 A B) {t : Nat} (ht : t < D.length) (hA : atI A t < 1000000000) :
 (t < nxO D A t ∧ nxO D A t ≤ D.length) ∧ fdB D K t (nxO D A t) = true ∧ atI A t = prO D t (nxO D A t) + atI A (nxO D A t) ∧ atI A (nxO D A t) < 1000000000 ∧ (∀ s, t < s → s < nxO D A t → prO D t s + atI A s ≠ atI A t) := by
 rcases (h.f t (Nat.zero_le _) ht).at' with h1 | ⟨ho, s, h1, h2, h3, h4⟩
 · omega
 · obtain ⟨g1, g2, g3, g4⟩ := fnd_spec (p := fun s => decide (prO D t s + atI A s = atI A t)) (D.length - t) (t + 1) s (by omega) (by omega) (by simpa using h4.symm)
   have e : nxO D A t = fnd (fun s => decide (prO D t s + atI A s = atI A t)) (D.length - t) (t + 1) := rfl
   rw [← e] at g1 g2 g3 g4
   simp only [decide_eq_true_eq] at g1
   have hp := pr_bd hR (show t ≤ nxO D A t by omega) (by omega) ht
   refine ⟨by omega, fd_mono hR (by omega) g3 h2 h3, g1.symm, by omega, fun s' h5 h6 => ?_⟩
   have := g4 s' (by omega) h6
   simpa using this
theorem open_of {D : List Mk} {K : Nat} {A B : List Int} (h : ByOk D K 0 A B) {t : Nat} (ht : t < D.length) (hA : atI A t < 1000000000) : (mkA D t).op = true := by
 rcases (h.f t (Nat.zero_le _) ht).at' with h1 | ⟨ho, _⟩
 · omega
 · exact ho
theorem go_ok {D : List Mk} {K : Nat} {A B : List Int} (hR : RoadOk D K) (h : ByOk D K 0 A B) : ∀ (f t : Nat), t < D.length → D.length - t ≤ f → atI A t < 1000000000 → Pc D K A t (goO D K A f t)
 | 0, t, h1, h2, h3 => by omega
 | f + 1, t, h1, h2, h3 => by
  obtain ⟨n1, n2, n3, n4, n5⟩ := nx_ok hR h h1 h3
  unfold goO
  by_cases hc : fdB D K t D.length = true ∧ prO D t D.length = atI A t
  · rw [if_pos hc]; exact hc
  · rw [if_neg hc]
    by_cases hn : nxO D A t = D.length
    · rw [if_pos hn]
      rw [hn, h.z.1] at n3
      rw [hn] at n2
      exact ⟨n2, by omega⟩
    · rw [if_neg hn]
      exact ⟨⟨n1.1, by omega⟩, open_of h (by omega) n4, n2, n3, go_ok hR h f _ (by omega) (by omega) n4⟩
theorem tb_chain {D : List Mk} {K : Nat} {A B : List Int} (hR : RoadOk D K) (h : ByOk D K 0 A B) : ∀ k t, D.length - t = k → t ≤ D.length → (∃ i, t ≤ i ∧ i < D.length ∧ atI A i = atI B t ∧ pS D i = pS D t) ∨ (atI B t = 0 ∧ pS D D.length = pS D t)
 | 0, t, hk, ht => by
  obtain rfl : t = D.length := by omega
  exact .inr ⟨h.z.2, rfl⟩
 | k + 1, t, hk, ht => by
  have h1 := h.t t (Nat.zero_le _) (by omega)
  unfold BtOk at h1
  by_cases hn : (mkA D t).nd = 0
  · rw [if_pos hn] at h1
    have e := imin_eq (atI A t) (atI B (t + 1))
    rcases (by omega : atI B t = atI A t ∨ atI B t = atI B (t + 1)) with h2 | h2
    · exact .inl ⟨t, Nat.le_refl _, by omega, h2.symm, rfl⟩
    · obtain ⟨m, hm⟩ : ∃ m, D[t]? = some m := ⟨_, List.getElem?_eq_getElem (by omega)⟩
      have hs := pS_succ hm
      have e2 : mkA D t = m := by unfold mkA; rw [hm]; rfl
      rw [e2] at hn
      rw [h2]
      rcases tb_chain hR h k (t + 1) (by omega) (by omega) with ⟨i, g1, g2, g3, g4⟩ | ⟨g1, g2⟩
      · exact .inl ⟨i, by omega, g2, g3, by omega⟩
      · exact .inr ⟨g1, by omega⟩
  · rw [if_neg hn] at h1
    exact .inl ⟨t, Nat.le_refl _, by omega, h1.symm, rfl⟩
theorem t0_ok {D : List Mk} {K : Nat} {A B : List Int} (hR : RoadOk D K) (h : ByOk D K 0 A B) (hB : atI B 0 < 1000000000) (hn : ¬ (atI B 0 = 0 ∧ pS D D.length = 0)) :
 t0O D A B < D.length ∧ atI A (t0O D A B) = atI B 0 ∧ pS D (t0O D A B) = 0 ∧ ∀ i, i < t0O D A B → atI A i ≠ atI B 0 := by
 rcases tb_chain hR h D.length 0 (by omega) (Nat.zero_le _) with ⟨i, h1, h2, h3, h4⟩ | h1
 · obtain ⟨g1, g2, g3, g4⟩ := fnd_spec (p := fun i => decide (atI A i = atI B 0)) D.length 0 i h1 (by omega) (by simpa using h3)
   have e : t0O D A B = fnd (fun i => decide (atI A i = atI B 0)) D.length 0 := rfl
   rw [← e] at g1 g2 g3 g4
   have h5 := pS_le hR (show t0O D A B ≤ i by omega) (by omega)
   have h6 := pS_le hR (Nat.zero_le (t0O D A B)) (by omega)
   have h7 : pS D 0 = 0 := rfl
   refine ⟨by omega, by simpa using g1, by omega, fun i hi => ?_⟩
   have := g4 i (Nat.zero_le _) hi
   simpa using this
 · exact absurd h1 hn
theorem plan_nil (D : List Mk) (K : Nat) (o : Option Addr) (c : Nat) (A B : List Int) (ao bo : Option Addr) (ac bc : Nat) (w : World) (h : RdR o c D w) (hR : RoadOk D K) (hby : ByOk D K 0 A B) (hA : Rd 1 iF (.slice ao (D.length + 1) ac) A w) (hB : Rd 1 iF (.slice bo (D.length + 1) bc) B w) (hn : atI B 0 = 0 ∧ pS D D.length = 0) :
 Calls Tryz.prog 105 #[.agg #[.slice o D.length c, iv K, .slice ao (D.length + 1) ac, .slice bo (D.length + 1) bc]] w fun e w' => e = .returned (.slice none 0 0) ∧ Below w.heap.size w w' := by
 have hl := hR.l
 have hk := hR.k
 obtain ⟨_, ad, rfl, _⟩ := h.r.ptr (by omega)
 obtain ⟨hlA, hlB⟩ := hby.l
 rw [← hlA] at hA
 rw [← hlB] at hB
 obtain ⟨_, aa, rfl, _⟩ := hA.ptr (by omega)
 obtain ⟨_, ab, rfl, _⟩ := hB.ptr (by omega)
 have eA := fun (i : Nat) (hi : i < D.length + 1) (w' : World) (hw' : Below w.heap.size w w') => rd_ati (hA.below (w' := w') hw') (atI_get (show i < A.length by omega))
 have eB := fun (w' : World) (hw' : Below w.heap.size w w') => rd_ati (hB.below (w' := w') hw') (atI_get (show 0 < B.length by omega))
 have h128 := fun w' hb => need_ok D K (some ad) c 0 D.length w' (h.below hb) hR (Nat.zero_le _) (Nat.le_refl _)
 have e0 : pS D D.length - pS D 0 = pS D D.length := by show _ - 0 = _; omega
 rw [e0] at h128
 obtain ⟨hn1, hn2⟩ := hn
 rw [hn1] at eB
 rw [hn2] at h128
 refine calls_val env mixed Tryz.func105 has105 Tryz.ntmps105 [.agg #[.slice (some ad) D.length c, iv K, .slice (some aa) (D.length + 1) ac, .slice (some ab) (D.length + 1) bc]] (by simp) ?_
 repeat'
  conv => whnf
  first
   |refine zB ?_|refine zD ?_|refine zG ?_|refine splT ?_
   |refine eL [iv 0] ⟨⟨rfl, fun w' hw' => eB w' hw'⟩, ?_⟩
   |((with_reducible show CallEv _ _ 139 ..); refine callE (fun β w' hbw => h128 w' hbw) ?_)
 all_goals exact ⟨fun β => rfl, fun w' h => h⟩
theorem plan_own (D : List Mk) (K : Nat) (o : Option Addr) (c : Nat) (A B : List Int) (ao bo : Option Addr) (ac bc : Nat) (w : World) (h : RdR o c D w) (hR : RoadOk D K) (hby : ByOk D K 0 A B) (hA : Rd 1 iF (.slice ao (D.length + 1) ac) A w) (hB : Rd 1 iF (.slice bo (D.length + 1) bc) B w) (hB0 : atI B 0 < 1000000000) (hn : ¬ (atI B 0 = 0 ∧ pS D D.length = 0)) :
 Calls Tryz.prog 105 #[.agg #[.slice o D.length c, iv K, .slice ao (D.length + 1) ac, .slice bo (D.length + 1) bc]] w fun e w' => ∃ b d, e = .returned (.slice (some ⟨b, 0, none⟩) (plO D K A B).length d) ∧ w.heap.size ≤ b ∧ Below w.heap.size w w' ∧ w'.ownsRow 0 3 1 (.slice (some ⟨b, 0, none⟩) (plO D K A B).length d) (plO D K A B).length ((plO D K A B).flatMap nF) := by
 have hl := hR.l
 have hk := hR.k
 obtain ⟨_, ad, rfl, _⟩ := h.r.ptr (by omega)
 obtain ⟨hlA, hlB⟩ := hby.l
 rw [← hlA] at hA
 rw [← hlB] at hB
 obtain ⟨_, aa, rfl, _⟩ := hA.ptr (by omega)
 obtain ⟨_, ab, rfl, _⟩ := hB.ptr (by omega)
 have eA := fun (i : Nat) (hi : i < D.length + 1) (w' : World) (hw' : Below w.heap.size w w') => rd_ati (hA.below (w' := w') hw') (atI_get (show i < A.length by omega))
 have eB := fun (w' : World) (hw' : Below w.heap.size w w') => rd_ati (hB.below (w' := w') hw') (atI_get (show 0 < B.length by omega))
 have h128 := fun w' hb => need_ok D K (some ad) c 0 D.length w' (h.below hb) hR (Nat.zero_le _) (Nat.le_refl _)
 have e0 : pS D D.length - pS D 0 = pS D D.length := by show _ - 0 = _; omega
 rw [e0] at h128
 obtain ⟨g1, g2, g3, g4⟩ := t0_ok hR hby hB0 hn
 have h126 := fun a b h1 h2 w' hb => feeds_ok D K (some ad) c a b w' (h.below hb) hR h1 h2
 have h127 := fun a b h1 h2 h3 w' hb => price_ok D K (some ad) c a b w' (h.below hb) hR h1 h2 h3
 have hpl : plO D K A B = [t0O D A B] ++ goO D K A D.length (t0O D A B) := rfl
 generalize hL : plO D K A B = L at *
 generalize hT : t0O D A B = T at *
 have hBb := tb_bd hby D.length 0 (by omega) (Nat.zero_le _) (Nat.zero_le _)
 have hpn := pS_le hR (Nat.zero_le D.length) (Nat.le_refl _)
 have hp0 : pS D 0 = 0 := rfl
 have hAb := fun i hi => fr_bd hby (Nat.zero_le i) hi
 refine calls_fam2 env mixed Tryz.func105 has105 Tryz.ntmps105 [.agg #[.slice (some ad) D.length c, iv K, .slice (some aa) (D.length + 1) ac, .slice (some ab) (D.length + 1) bc]] (by simp) ?_
 generalize hb0 : atI B 0 = b0 at *
 generalize hpn2 : pS D D.length = pn at *
 repeat'
  conv => whnf
  first
   |refine zB ?_|refine zD ?_|refine zG ?_|refine splF ?_
   |(refine splD ?_ ?_ <;> intro hc <;> first|(exfalso; omega)|skip)
   |refine eL [iv b0] ⟨⟨rfl, fun w' hw' => eB w' hw'⟩, ?_⟩
   |((with_reducible show CallEv _ _ 139 ..); refine callE (fun β w' hbw => h128 w' hbw) ?_)
 all_goals
  refine loopE (fun i : Nat => [(1, .ptr 0 0), (2, .v (.slice none 0 0)), (3, .v (iv D.length)), (4, .v (iv i))]) (fun _ => [(0, .cells [.v (.slice (some ad) D.length c), .v (iv K), .v (.slice (some aa) (D.length + 1) ac), .v (.slice (some ab) (D.length + 1) bc)] 159)]) (fun i => i ≤ T) (fun i => T - i) 0 (Nat.zero_le _) ⟨rfl, rfl, rfl, rfl, trivial⟩ ⟨rfl, trivial⟩ (fun _ => ⟨rfl, rfl⟩) ?_
  intro i hi
  rcases Nat.lt_or_ge i T with hil | hil
  · have hne := g4 i hil
    have e1 := eA i (by omega)
    generalize atI A i = ai at *
    repeat'
     conv => whnf
     first
      |refine zA ?_|refine zB ?_|refine zF ?_|refine zG ?_|refine splNot ?_
      |(refine splD ?_ ?_ <;> intro hc <;> first|(exfalso; omega)|skip)
      |refine eL [iv ai] ⟨⟨rfl, fun w' hw' => e1 w' hw'⟩, ?_⟩
      |refine eL [iv b0] ⟨⟨rfl, fun w' hw' => eB w' hw'⟩, ?_⟩
    all_goals exact ⟨i + 1, by omega, by omega, Ent.weak rfl ⟨rfl, rfl, rfl, rfl, trivial⟩ ⟨rfl, trivial⟩ fun _ h => h⟩
  · obtain rfl : i = T := by omega
    have e1 := eA i (by omega)
    rw [g2] at e1
    clear h128
    repeat'
     conv => whnf
     first
      |refine zA ?_|refine zB ?_|refine zG ?_|refine zI ?_|refine splNot ?_
      |(refine splD ?_ ?_ <;> intro hc <;> first|(exfalso; omega)|skip)
      |refine eL [iv b0] ⟨⟨rfl, fun w' hw' => e1 w' hw'⟩, ?_⟩
      |refine eL [iv b0] ⟨⟨rfl, fun w' hw' => eB w' hw'⟩, ?_⟩
    refine loopN 4 (fun x : List Nat × Nat × Nat => [(1, .ptr 0 0), (2, .os 2 3 (x.1.length + 1)), (3, .v (iv D.length)), (4, .v (iv x.2.1))]) (fun x => [(0, .cells [.v (.slice (some ad) D.length c), .v (iv K), .v (.slice (some aa) (D.length + 1) ac), .v (.slice (some ab) (D.length + 1) bc)] 159), (2, .own 3 (x.1.length + 1) 1 ((x.1 ++ [x.2.1]).flatMap nF) 3)]) (fun x => (x.2.1 < D.length ∧ D.length - x.2.1 ≤ x.2.2) ∧ atI A x.2.1 < 1000000000 ∧ L = x.1 ++ [x.2.1] ++ goO D K A x.2.2 x.2.1 ∧ x.1.length ≤ x.2.1) (fun x => D.length - x.2.1) ([], i, D.length) ⟨⟨g1, Nat.sub_le _ _⟩, by show atI A i < 1000000000; omega, hpl, Nat.zero_le _⟩ ⟨rfl, rfl, rfl, rfl, trivial⟩ ⟨rfl, rfl, trivial⟩ (fun _ _ => ⟨rfl, rfl⟩) ?_
    rintro ⟨Q, t, f⟩ ⟨⟨ht1, ht2⟩, hAt, hLQ, hQt⟩
    dsimp only at ht1 ht2 hAt hLQ hQt ⊢
    obtain ⟨n1, n2, n3, n4, n5⟩ := nx_ok hR hby ht1 hAt
    obtain ⟨f, rfl⟩ : ∃ f', f = f' + 1 := ⟨f - 1, by omega⟩
    have hgo : goO D K A (f + 1) t = if fdB D K t D.length = true ∧ prO D t D.length = atI A t then [] else if nxO D A t = D.length then [] else nxO D A t :: goO D K A f (nxO D A t) := rfl
    have f1 := h126 t D.length (by omega) (Nat.le_refl _)
    have p1 := h127 t D.length (by omega) ht1 (Nat.le_refl _)
    have pb1 := pr_bd hR (show t ≤ D.length by omega) (Nat.le_refl _) ht1
    have et := eA t (by omega)
    by_cases hc : fdB D K t D.length = true ∧ prO D t D.length = atI A t
    · have hL2 : L = Q ++ [t] := by rw [hLQ, hgo, if_pos hc, List.append_nil]
      rw [hc.1] at f1
      rw [hc.2] at p1
      clear h126 h127 hgo hLQ n5 n3
      generalize atI A t = at_ at *
      repeat'
       conv => whnf
       first
        |refine zA ?_|refine zB ?_|refine zD ?_|refine zG ?_|refine splT ?_
        |(refine splD ?_ ?_ <;> intro hc <;> first|(exfalso; omega)|skip)
        |((with_reducible show CallEv _ _ 137 ..); refine callE (fun β w' hbw => f1 w' hbw) ?_)
        |((with_reducible show CallEv _ _ 138 ..); refine callE (fun β w' hbw => p1 w' hbw) ?_)
        |refine eL [iv at_] ⟨⟨rfl, fun w' hw' => et w' hw'⟩, ?_⟩
      all_goals exact ⟨fun w' h => h, fun β w' hB hB2 hblk => ⟨β 2, β 3, by rw [hL2, List.length_append]; rfl, (hblk 2 _ rfl rfl).1, hB2, by rw [hL2, List.length_append]; exact (hblk 2 _ rfl rfl).2⟩⟩
    · rw [if_neg hc] at hgo
      have hp1 : fdB D K t D.length = true → prO D t D.length ≠ atI A t := fun h1 h2 => hc ⟨h1, h2⟩
      clear hc
      have hin : ∀ s, t < s → s ≤ D.length → 0 ≤ prO D t s + atI A s ∧ prO D t s + atI A s ≤ 2000000000 ∧ 0 ≤ prO D t s ∧ prO D t s ≤ 300100000 := fun s h1 h2 => by
       have := pr_bd hR (show t ≤ s by omega) h2 ht1
       have := hAb s h2
       omega
      generalize hat : atI A t = at_ at *
      generalize prO D t D.length = q1 at *
      generalize fdB D K t D.length = b1 at *
      generalize hnx : nxO D A t = nx at *
      cases b1
      all_goals
       simp only [Bool.false_eq_true, false_implies, true_implies] at hp1
       repeat'
        conv => whnf
        first
         |refine zA ?_|refine zB ?_|refine zD ?_|refine zF ?_|refine zG ?_|refine splT ?_|refine splF ?_
         |(refine splD ?_ ?_ <;> intro hc <;> first|(exfalso; omega)|skip)
         |((with_reducible show CallEv _ _ 137 ..); refine callE (fun β w' hbw => f1 w' hbw) ?_)
         |((with_reducible show CallEv _ _ 138 ..); refine callE (fun β w' hbw => p1 w' hbw) ?_)
         |refine eL [iv at_] ⟨⟨rfl, fun w' hw' => et w' hw'⟩, ?_⟩
       refine loopE (fun s : Nat => [(1, .ptr 0 0), (2, .os 2 3 (Q.length + 1)), (3, .v (iv D.length)), (4, .v (iv t)), (5, .v (iv s))]) (fun _ => [(0, .cells [.v (.slice (some ad) D.length c), .v (iv K), .v (.slice (some aa) (D.length + 1) ac), .v (.slice (some ab) (D.length + 1) bc)] 159), (2, .own 3 (Q.length + 1) 1 ((Q ++ [t]).flatMap nF) 3)]) (fun s => t < s ∧ s ≤ nx) (fun s => nx - s) (t + 1) ⟨by omega, by omega⟩ ⟨rfl, rfl, rfl, rfl, rfl, trivial⟩ ⟨rfl, rfl, trivial⟩ (fun _ => ⟨rfl, rfl⟩) ?_
       intro s ⟨hs1, hs2⟩
       have hsb := hin s hs1 (by omega)
       have es := eA s (by omega)
       have ps := h127 t s (by omega) ht1 (by omega)
       rcases Nat.lt_or_ge s nx with hsl | hsl
       · have hne := n5 s hs1 hsl
         generalize prO D t s = q at *
         generalize atI A s = vs at *
         clear f1 p1
         repeat'
          conv => whnf
          first
           |refine zA ?_|refine zB ?_|refine zD ?_|refine zF ?_|refine zG ?_|refine splNot ?_
           |(refine splD ?_ ?_ <;> intro hc <;> first|(exfalso; omega)|skip)
           |((with_reducible show CallEv _ _ 138 ..); refine callE (fun β w' hbw => ps w' hbw) ?_)
           |refine eL [iv vs] ⟨⟨rfl, fun w' hw' => es w' hw'⟩, ?_⟩
           |refine eL [iv at_] ⟨⟨rfl, fun w' hw' => et w' hw'⟩, ?_⟩
         all_goals exact ⟨s + 1, by omega, by omega, Ent.weak rfl ⟨rfl, rfl, rfl, rfl, rfl, trivial⟩ ⟨rfl, rfl, trivial⟩ fun _ h => h⟩
       · obtain rfl : s = nx := by omega
         by_cases hsn : s = D.length
         · have hL2 : L = Q ++ [t] := by rw [hLQ, hgo, if_pos hsn, List.append_nil]
           generalize prO D t s = q at *
           generalize atI A s = vs at *
           clear f1 p1
           repeat'
            conv => whnf
            first
             |refine zA ?_|refine zB ?_|refine zD ?_|refine zF ?_|refine zG ?_|refine splNot ?_
             |(refine splD ?_ ?_ <;> intro hc <;> first|(exfalso; omega)|skip)
             |((with_reducible show CallEv _ _ 138 ..); refine callE (fun β w' hbw => ps w' hbw) ?_)
             |refine eL [iv vs] ⟨⟨rfl, fun w' hw' => es w' hw'⟩, ?_⟩
             |refine eL [iv at_] ⟨⟨rfl, fun w' hw' => et w' hw'⟩, ?_⟩
           all_goals exact ⟨fun w' h => h, fun β w' hB hB2 hblk => ⟨β 2, β 3, by rw [hL2, List.length_append]; rfl, (hblk 2 _ rfl rfl).1, hB2, by rw [hL2, List.length_append]; exact (hblk 2 _ rfl rfl).2⟩⟩
         · have hL3 : L = (Q ++ [t]) ++ [s] ++ goO D K A f s := by rw [hLQ, hgo, if_neg hsn]; simp
           have hvs : atI A s < 1000000000 := n4
           generalize prO D t s = q at *
           generalize hvv : atI A s = vs at *
           clear f1 p1
           have e1 : (Q ++ [t]).length + 1 = Q.length + 1 + 1 := by simp
           have e2 : ((Q ++ [t]) ++ [s]).flatMap nF = (Q ++ [t]).flatMap nF ++ [iv s] := by rw [List.flatMap_append (xs := Q ++ [t])]; rfl
           repeat'
            conv => whnf
            first
             |refine zA ?_|refine zB ?_|refine zD ?_|refine zF ?_|refine zG ?_|refine zH ?_|refine zI ?_|refine splNot ?_
             |(refine splD ?_ ?_ <;> intro hc <;> first|(exfalso; omega)|skip)
             |((with_reducible show CallEv _ _ 138 ..); refine callE (fun β w' hbw => ps w' hbw) ?_)
             |refine eL [iv vs] ⟨⟨rfl, fun w' hw' => es w' hw'⟩, ?_⟩
             |refine eL [iv at_] ⟨⟨rfl, fun w' hw' => et w' hw'⟩, ?_⟩
           all_goals exact ⟨(Q ++ [t], s, f), ⟨⟨by show s < D.length; omega, by show D.length - s ≤ f; omega⟩, by show atI A s < 1000000000; omega, hL3, by show (Q ++ [t]).length ≤ s; rw [List.length_append, List.length_singleton]; omega⟩, by show D.length - s < D.length - t; omega, Ent.ren (rho [(2, 5), (3, 6)]) rfl rfl ⟨rfl, by dsimp only; rw [e1]; rfl, rfl, rfl, trivial⟩ ⟨rfl, by dsimp only; rw [e1, e2]; rfl, trivial⟩ fun _ h => h⟩
def PlanOk (D : List Mk) (K : Nat) (A B : List Int) (L : List Nat) : Prop := (L = [] ∧ atI B 0 = 0 ∧ pS D D.length = 0) ∨ ∃ t R, L = t :: R ∧ t < D.length ∧ (mkA D t).op = true ∧ atI A t = atI B 0 ∧ pS D t = 0 ∧ Pc D K A t R
structure BuyR where
 A : List Int
 B : List Int
 L : List Nat
 po : Option Addr
 pc : Nat
 to : Option Addr
 tn : Nat
 tc : Nat
 cost : Int
 er : Int
def BuyR.Ok (y : BuyR) (D : List Mk) (K : Nat) : Prop := (ByOk D K 0 y.A y.B ∧ (y.L ≠ [] → ∃ a, y.po = some a)) ∧ ((y.er = 7 ∧ 1000000000 ≤ atI y.B 0 ∧ y.cost = 0 ∧ y.L = [] ∧ y.tn = 0) ∨ (y.er = 0 ∧ atI y.B 0 < 1000000000 ∧ y.cost = atI y.B 0 ∧ PlanOk D K y.A y.B y.L ∧ y.tn = D.length + 1))
abbrev BuyR.v (y : BuyR) : Value := .tuple #[.slice y.po y.L.length y.pc, iv y.cost, .slice y.to y.tn y.tc, iv y.er]
def BuyR.In (y : BuyR) (w : World) : Prop := y.er = 0 → Rd 1 nF (.slice y.po y.L.length y.pc) y.L w ∧ Rd 1 iF (.slice y.to y.tn y.tc) y.B w
theorem st_st {n m : Nat} {p : World → Prop} {w : World} (h : St m p w) (hm : n ≤ m) : St m (St n p) w := fun w2 k => (h.keep k).mono hm
theorem plan_ok2 {D : List Mk} {K : Nat} {A B : List Int} (hR : RoadOk D K) (h : ByOk D K 0 A B) (hB : atI B 0 < 1000000000) (hn : ¬ (atI B 0 = 0 ∧ pS D D.length = 0)) : PlanOk D K A B (plO D K A B) := by
 obtain ⟨g1, g2, g3, g4⟩ := t0_ok hR h hB hn
 exact .inr ⟨t0O D A B, goO D K A D.length (t0O D A B), rfl, g1, open_of h g1 (by omega), g2, g3, go_ok hR h _ _ g1 (Nat.sub_le _ _) (by omega)⟩
abbrev ByT (D : List Mk) (K : Nat) := {y : (List Int × List Int) × (Addr × Nat) × (Addr × Nat) // ByOk D K 0 y.1.1 y.1.2}
def ByIn (D : List Mk) {K : Nat} (y : ByT D K) (w2 : World) : Prop := Rd 1 iF (.slice (some y.1.2.1.1) (D.length + 1) y.1.2.1.2) y.1.1.1 w2 ∧ Rd 1 iF (.slice (some y.1.2.2.1) (D.length + 1) y.1.2.2.2) y.1.1.2 w2
theorem Buy_ok (D : List Mk) (K : Nat) (o : Option Addr) (c : Nat) (w : World) (h : RdR o c D w) (hR : RoadOk D K) :
 Calls Tryz.prog 70 #[rdV o D.length c K] w fun e w' => ∃ y : {y : BuyR // y.Ok D K}, e = .returned y.1.v ∧ Below w.heap.size w w' ∧ St w.heap.size y.1.In w' := by
 have h86 := fun w' hb => rvalid_ok D K o c w' (h.below hb) hR
 have hl := hR.l
 have h87 : ∀ w' (hb : Below w.heap.size w w'), Calls Tryz.prog 104 #[rdV o D.length c K] w' fun e w2 => ∃ y : ByT D K, e = .returned (.agg #[.slice o D.length c, iv K, .slice (some y.1.2.1.1) (D.length + 1) y.1.2.1.2, .slice (some y.1.2.2.1) (D.length + 1) y.1.2.2.2]) ∧ Below w'.heap.size w' w2 ∧ St w'.heap.size (fun w3 => St w.heap.size (ByIn D y) w3) w2 := fun w' hb =>
  (buy_ok D K o c w' (h.below hb) hR).mono fun e w2 ⟨y, g1, g2, g3⟩ => ⟨y, g1, g2, st_st g3 hb.size⟩
 refine calls_fam env mixed Tryz.func70 has70 Tryz.ntmps70 [.agg #[.slice o D.length c, iv K]] (by simp) ?_
 repeat'
  conv => whnf
  first
   |refine zB ?_|refine zC ?_|refine zD ?_|refine zG ?_|refine splF ?_
   |((with_reducible show CallEv _ _ 103 ..); refine callE (fun β w' hbw => h86 w' hbw) ?_)
   |((with_reducible show CallEv _ _ 104 ..); refine callF [] (fun y : ByT D K => .agg #[.slice o D.length c, iv K, .slice (some y.1.2.1.1) (D.length + 1) y.1.2.1.2, .slice (some y.1.2.2.1) (D.length + 1) y.1.2.2.2]) (fun y w2 => St w.heap.size (ByIn D y) w2) (fun β w' _ hbw => h87 w' hbw) ?_; intro y)
 obtain ⟨⟨⟨A, B⟩, ⟨aa, ac⟩, ⟨ab, bc⟩⟩, hby⟩ := y
 dsimp only at hby
 have hlB := hby.l.2
 have hIn : ∀ w', (Below w.heap.size w w' ∧ St w.heap.size (ByIn D (⟨((A, B), (aa, ac), (ab, bc)), hby⟩ : ByT D K)) w') → Rd 1 iF (.slice (some aa) (D.length + 1) ac) A w' ∧ Rd 1 iF (.slice (some ab) (D.length + 1) bc) B w' := fun w' h => h.2.now
 have eB := fun (w' : World) hw' => rd_ati (hIn w' hw').2 (atI_get (show 0 < B.length by omega))
 have hBb := tb_bd hby D.length 0 (by omega) (Nat.zero_le _) (Nat.zero_le _)
 by_cases hB7 : 1000000000 ≤ atI B 0
 · have hok : BuyR.Ok ⟨A, B, [], none, 0, none, 0, 0, 0, 7⟩ D K := ⟨⟨hby, fun h => absurd rfl h⟩, .inl ⟨rfl, hB7, rfl, rfl, rfl⟩⟩
   generalize atI B 0 = b0 at *
   repeat'
    conv => whnf
    first
     |(refine splD ?_ ?_ <;> intro hc <;> first|(exfalso; omega)|skip)
     |refine eL [iv b0] ⟨⟨rfl, fun w' hw' => eB w' hw'⟩, ?_⟩
   all_goals exact ⟨fun w' h => h.1, fun β w' hB hblk => ⟨⟨_, hok⟩, rfl, fun w2 k2 h0 => absurd h0 (show ¬ ((7 : Int) = 0) by decide)⟩⟩
 · by_cases hn : atI B 0 = 0 ∧ pS D D.length = 0
   · have hok : BuyR.Ok ⟨A, B, [], none, 0, some ab, D.length + 1, bc, atI B 0, 0⟩ D K := ⟨⟨hby, fun h => absurd rfl h⟩, .inr ⟨rfl, by show atI B 0 < 1000000000; omega, rfl, .inl ⟨rfl, hn⟩, rfl⟩⟩
     have h88 := fun w' (hw' : Below w.heap.size w w' ∧ St w.heap.size (ByIn D (⟨((A, B), (aa, ac), (ab, bc)), hby⟩ : ByT D K)) w') => plan_nil D K o c A B (some aa) (some ab) ac bc w' (h.below hw'.1) hR hby (hIn w' hw').1 (hIn w' hw').2 hn
     generalize hb0 : atI B 0 = b0 at *
     repeat'
      conv => whnf
      first
       |refine zA ?_|refine zB ?_|refine zD ?_|refine zG ?_
       |(refine splD ?_ ?_ <;> intro hc <;> first|(exfalso; omega)|skip)
       |refine eL [iv b0] ⟨⟨rfl, fun w' hw' => eB w' hw'⟩, ?_⟩
       |((with_reducible show CallEv _ _ 105 ..); refine callE (fun β w' hbw => h88 w' hbw) ?_)
     all_goals exact ⟨fun w' h => h.1, fun β w' hB hblk => ⟨⟨_, hok⟩, rfl, fun w2 k2 _ => ⟨.inl ⟨rfl, rfl⟩, (hB.2 w2 k2).2⟩⟩⟩
   · have hok : ∀ (b d : Nat), BuyR.Ok ⟨A, B, plO D K A B, some ⟨b, 0, none⟩, d, some ab, D.length + 1, bc, atI B 0, 0⟩ D K := fun b d => ⟨⟨hby, fun _ => ⟨_, rfl⟩⟩, .inr ⟨rfl, by show atI B 0 < 1000000000; omega, rfl, plan_ok2 hR hby (by show atI B 0 < 1000000000; omega) hn, rfl⟩⟩
     have h88 := fun w' (hw' : Below w.heap.size w w' ∧ St w.heap.size (ByIn D (⟨((A, B), (aa, ac), (ab, bc)), hby⟩ : ByT D K)) w') => plan_own D K o c A B (some aa) (some ab) ac bc w' (h.below hw'.1) hR hby (hIn w' hw').1 (hIn w' hw').2 (by omega) hn
     generalize hb0 : atI B 0 = b0 at *
     generalize plO D K A B = L at *
     repeat'
      conv => whnf
      first
       |refine zA ?_|refine zB ?_|refine zD ?_|refine zG ?_
       |(refine splD ?_ ?_ <;> intro hc <;> first|(exfalso; omega)|skip)
       |refine eL [iv b0] ⟨⟨rfl, fun w' hw' => eB w' hw'⟩, ?_⟩
       |((with_reducible show CallEv _ _ 105 ..); refine callO 2 [] (.os 2 3 L.length) L.length 1 (L.flatMap nF) 3 rfl (fun β w' _ hbw => (h88 w' hbw).mono fun _ _ ⟨b, c, h1, h2, h3, h4⟩ => ⟨b, c, h1, h2, h3, h4⟩) ?_)
     all_goals exact ⟨fun w' h => h.1, fun β w' hB hblk => ⟨⟨_, hok (β 2) (β 3)⟩, rfl, fun w2 k2 _ => ⟨Rd.of_owns (sz := 1) (f := nF) (fun _ => rfl) rfl rfl (hblk 2 _ rfl rfl w2 k2), (hB.2 w2 k2).2⟩⟩⟩
end Go.Proofs.YtkbfcofifhngfaaGreat
