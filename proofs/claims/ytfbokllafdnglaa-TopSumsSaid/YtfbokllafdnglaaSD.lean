/- Loads at points are loads of a grid: the plain law. -/
import Derived.Test.YtfbokllafdnglaaSC
namespace Go.Proofs.Ytfbokllafdnglaa
open Go Tx Go.RowKit
set_option linter.unusedSimpArgs false
set_option linter.unusedVariables false

def ndP (p : Int) : Nd := ⟨0, 0, 0, p, 0⟩
def ndL (r : Rig) (l : Ld) : Nd := ⟨1 + l.at', l.lo, hiP r l, 10000000, 0⟩
def gdN (r : Rig) (PP : List Int) (LL : List Ld) : List Nd := ⟨-1, 0, 0, 0, 0⟩ :: (PP.map ndP ++ LL.map (ndL r))
theorem gdN_len (r : Rig) (PP : List Int) (LL : List Ld) : (gdN r PP LL).length = 1 + PP.length + LL.length := by simp [gdN]; omega
theorem gdN_p {r : Rig} {PP : List Int} {LL : List Ld} {j : Nat} {p : Int} (h : PP[j]? = some p) : (gdN r PP LL)[1 + j]? = some (ndP p) := by
  have hj := (List.getElem?_eq_some_iff.1 h).1
  rw [Nat.add_comm, gdN, List.getElem?_cons_succ, List.getElem?_append_left (by simpa using hj), List.getElem?_map, h]
  rfl
theorem gdN_l {r : Rig} {PP : List Int} {LL : List Ld} {t : Nat} {l : Ld} (h : LL[t]? = some l) : (gdN r PP LL)[1 + PP.length + t]? = some (ndL r l) := by
  rw [show 1 + PP.length + t = (PP.length + t) + 1 from by omega, gdN, List.getElem?_cons_succ, List.getElem?_append_right (by simp), List.length_map, Nat.add_sub_cancel_left, List.getElem?_map, h]
  rfl
theorem gdN_cases {PP : List Int} {LL : List Ld} {i : Nat} (h : i < 1 + PP.length + LL.length) : i = 0 ∨ (∃ j p, i = 1 + j ∧ PP[j]? = some p) ∨ ∃ t l, i = 1 + PP.length + t ∧ LL[t]? = some l := by
  by_cases h0 : i = 0
  · exact .inl h0
  · by_cases h1 : i < 1 + PP.length
    · exact .inr (.inl ⟨i - 1, PP[i - 1]'(by omega), by omega, List.getElem?_eq_getElem (by omega)⟩)
    · exact .inr (.inr ⟨i - (1 + PP.length), LL[i - (1 + PP.length)]'(by omega), by omega, List.getElem?_eq_getElem (by omega)⟩)
/-- What is asked of a rig whose loads are to be loads of a grid. -/
structure GrOk (r : Rig) (PP : List Int) (LL : List Ld) : Prop where
  p : 1 ≤ PP.length ∧ PP.length ≤ 12
  l : LL.length ≤ 20
  s : PP.length + LL.length ≤ 29
  b : ∀ p ∈ PP, 0 ≤ p ∧ p ≤ 1000000
  a : atP PP.length LL
  h : ∀ l ∈ LL, 0 ≤ l.lo ∧ l.lo ≤ hiP r l ∧ hiP r l ≤ 1000000
theorem gdN_ok {r : Rig} {PP : List Int} {LL : List Ld} (h : GrOk r PP LL) : GdOk (gdN r PP LL) := by
  have hs := h.s
  refine ⟨by rw [gdN_len]; omega, fun i x hx => ?_⟩
  have hi : i < 1 + PP.length + LL.length := by
    have := (List.getElem?_eq_some_iff.1 hx).1
    rwa [gdN_len] at this
  rcases gdN_cases hi with rfl | ⟨j, p, rfl, hp⟩ | ⟨t, l, rfl, hl⟩
  · simp only [gdN, List.getElem?_cons_zero, Option.some.injEq] at hx
    subst hx
    exact ⟨by simp, by simp, by simp, by simp, rfl, fun _ => ⟨rfl, rfl⟩, fun h => absurd h (by omega)⟩
  · rw [gdN_p hp, Option.some.injEq] at hx
    subst hx
    have := h.b p (List.mem_of_getElem? hp)
    refine ⟨by simp [ndP], by simp [ndP], by simp [ndP], ⟨this.1, ?_⟩, rfl, fun h => absurd h (by omega), fun _ => ⟨by simp [ndP], ?_⟩⟩
    · show p ≤ 10000000; omega
    · show (0 : Int) < _; omega
  · rw [gdN_l hl, Option.some.injEq] at hx
    subst hx
    have h1 := h.h l (List.mem_of_getElem? hl)
    have h2 := h.a l (List.mem_of_getElem? hl)
    refine ⟨h1.1, h1.2.1, h1.2.2, by simp [ndL], rfl, fun h => absurd h (by omega), fun _ => ⟨?_, ?_⟩⟩
    · show (0 : Int) ≤ 1 + l.at'; omega
    · show 1 + l.at' < _; omega
theorem smP_bd {f : Ld → Int} {j : Nat} : ∀ {L : List Ld}, (∀ l ∈ L, 0 ≤ f l ∧ f l ≤ 1000000) → 0 ≤ smP f j L ∧ smP f j L ≤ 1000000 * (L.length : Int)
  | [], _ => by simp [smP]
  | l :: L, h => by
    have ih := smP_bd (f := f) (j := j) (L := L) fun x hx => h x (List.mem_cons_of_mem _ hx)
    have h0 := h l List.mem_cons_self
    rw [smP, List.length_cons]
    split <;> omega
/-- What has flowed when all nodes from i on are done. -/
structure JF (r : Rig) (PP : List Int) (LL : List Ld) (i : Nat) (D : List (Int × Int)) : Prop where
  n : D.length = 1 + PP.length + LL.length
  p : ∀ j, j < PP.length → D[1 + j]? = some (smP (fun l => l.lo) j (LL.drop (i - (1 + PP.length))), smP (hiP r) j (LL.drop (i - (1 + PP.length))))
  l : ∀ (t : Nat) l, LL[t]? = some l → D[1 + PP.length + t]? = some (if i ≤ 1 + PP.length + t then (l.lo, hiP r l) else (0, 0))
  z : ∃ a b, D[0]? = some (a, b) ∧ b ≤ ((PP.length + 1 - i : Nat) : Int) * 30000000
theorem jf_step {r : Rig} {PP : List Int} {LL : List Ld} (h : GrOk r PP LL) {i : Nat} {D : List (Int × Int)} {x : Nd} (hj : JF r PP LL (i + 1) D) (hx : (gdN r PP LL)[i]? = some x) :
    JF r PP LL i (if i = 0 then upd D i (x.lo, x.hi) else upd (upd D i (x.lo, x.hi)) x.par.toNat ((upd D i (x.lo, x.hi)).getD i (0, 0))) := by
  have hi : i < 1 + PP.length + LL.length := by
    have := (List.getElem?_eq_some_iff.1 hx).1
    rwa [gdN_len] at this
  obtain ⟨hn, hp, hl, a, b, hz, hb⟩ := hj
  rcases gdN_cases hi with rfl | ⟨j, p, rfl, hpj⟩ | ⟨t, l, rfl, hlt⟩
  · rw [if_pos rfl]
    simp only [gdN, List.getElem?_cons_zero, Option.some.injEq] at hx
    subst hx
    rw [upd_at hz]
    refine ⟨by rw [List.length_set]; exact hn, fun j hj => ?_, fun t l ht => ?_, a, b, ?_, by omega⟩
    · rw [List.getElem?_set_ne (by omega), hp j hj]
      simp
    · rw [List.getElem?_set_ne (by omega), hl t l ht, if_pos (by omega), if_pos (by omega)]
    · rw [List.getElem?_set_self (by omega)]
      simp [addP]
  · rw [if_neg (by omega)]
    rw [gdN_p hpj, Option.some.injEq] at hx
    subst hx
    have hjl := (List.getElem?_eq_some_iff.1 hpj).1
    have hd0 : (1 + j + 1 - (1 + PP.length)) = 0 := by omega
    have hd1 : (1 + j - (1 + PP.length)) = 0 := by omega
    rw [hd0, List.drop_zero] at hp
    have hself : upd D (1 + j) ((ndP p).lo, (ndP p).hi) = D := by
      rw [upd_at (hp j hjl)]
      refine List.ext_getElem? fun m => ?_
      rw [List.getElem?_set]
      split
      · rename_i hm
        subst hm
        rw [if_pos (by omega), hp j hjl]
        simp [addP, ndP]
      · rfl
    rw [hself, List.getD_eq_getElem?_getD, hp j hjl, Option.getD_some]
    show JF r PP LL (1 + j) (upd D 0 _)
    rw [upd_at hz]
    have hS := smP_bd (f := hiP r) (j := j) (L := LL) fun l hl => by have := h.h l hl; omega
    have h20 := h.l
    refine ⟨by rw [List.length_set]; exact hn, fun k hk => ?_, fun t l ht => ?_, a + smP (fun l => l.lo) j LL, b + smP (hiP r) j LL, ?_, ?_⟩
    · rw [List.getElem?_set_ne (by omega), hp k hk, hd1, List.drop_zero]
    · rw [List.getElem?_set_ne (by omega), hl t l ht, if_pos (by omega), if_pos (by omega)]
    · rw [List.getElem?_set_self (by omega)]
      rfl
    · have e : ((PP.length + 1 - (1 + j) : Nat) : Int) = ((PP.length + 1 - (1 + j + 1) : Nat) : Int) + 1 := by omega
      rw [e]
      omega
  · rw [if_neg (by omega)]
    rw [gdN_l hlt, Option.some.injEq] at hx
    subst hx
    have htl := (List.getElem?_eq_some_iff.1 hlt).1
    have ha := h.a l (List.mem_of_getElem? hlt)
    obtain ⟨q, hq⟩ := Int.eq_ofNat_of_zero_le ha.2.1
    have hqp : q < PP.length := by omega
    have hpar : (ndL r l).par.toNat = 1 + q := by show (1 + l.at').toNat = _; omega
    have h0 := hl t l hlt
    rw [if_neg (by omega)] at h0
    have hd0 : (1 + PP.length + t + 1 - (1 + PP.length)) = t + 1 := by omega
    have hd1 : (1 + PP.length + t - (1 + PP.length)) = t := by omega
    rw [hd0] at hp
    rw [upd_at h0, hpar]
    have e1 : (D.set (1 + PP.length + t) (addP (0, 0) ((ndL r l).lo, (ndL r l).hi))).getD (1 + PP.length + t) (0, 0) = (l.lo, hiP r l) := by
      rw [List.getD_eq_getElem?_getD, List.getElem?_set_self (by omega)]
      simp [addP, ndL]
    have e2 : (D.set (1 + PP.length + t) (addP (0, 0) ((ndL r l).lo, (ndL r l).hi)))[1 + q]? = some (smP (fun l => l.lo) q (LL.drop (t + 1)), smP (hiP r) q (LL.drop (t + 1))) := by
      rw [List.getElem?_set_ne (by omega)]
      exact hp q hqp
    rw [e1, upd_at e2]
    have hdr : LL.drop t = l :: LL.drop (t + 1) := by
      rw [List.drop_eq_getElem_cons htl]
      rw [(List.getElem?_eq_some_iff.1 hlt).2]
    refine ⟨by rw [List.length_set, List.length_set]; exact hn, fun k hk => ?_, fun s m hs => ?_, a, b, ?_, ?_⟩
    · rw [hd1, hdr]
      by_cases hkq : k = q
      · subst hkq
        rw [List.getElem?_set_self (by rw [List.length_set]; omega)]
        simp only [smP, addP, Option.some.injEq, Prod.mk.injEq]
        rw [if_pos hq]
        omega
      · rw [List.getElem?_set_ne (by omega), List.getElem?_set_ne (by omega), hp k hk]
        simp only [smP, Option.some.injEq, Prod.mk.injEq]
        rw [if_neg (by omega)]
        omega
    · rw [List.getElem?_set_ne (by omega)]
      by_cases hst : s = t
      · subst hst
        rw [hlt, Option.some.injEq] at hs
        subst hs
        rw [List.getElem?_set_self (by omega), if_pos (by omega)]
        simp [addP, ndL]
      · rw [List.getElem?_set_ne (by omega), hl s m hs]
        by_cases hc : 1 + PP.length + t ≤ 1 + PP.length + s
        · rw [if_pos hc, if_pos (by omega)]
        · rw [if_neg hc, if_neg (by omega)]
    · rw [List.getElem?_set_ne (by omega), List.getElem?_set_ne (by omega)]
      exact hz
    · omega
theorem jf_all {r : Rig} {PP : List Int} {LL : List Ld} (h : GrOk r PP LL) : ∀ k, k ≤ (gdN r PP LL).length → JF r PP LL ((gdN r PP LL).length - k) (flow (gdN r PP LL) k)
  | 0, _ => by
    have hn := gdN_len r PP LL
    rw [Nat.sub_zero, hn]
    refine ⟨by simp [flow, hn], fun j hj => ?_, fun t l ht => ?_, 0, 0, ?_, ?_⟩
    · rw [flow, List.getElem?_replicate, if_pos (by omega), show 1 + PP.length + LL.length - (1 + PP.length) = LL.length from by omega, List.drop_length]
      rfl
    · have := (List.getElem?_eq_some_iff.1 ht).1
      rw [flow, List.getElem?_replicate, if_pos (by omega), if_neg (by omega)]
    · rw [flow, List.getElem?_replicate, if_pos (by omega)]
    · omega
  | k + 1, hk => by
    have ih := jf_all h k (by omega)
    obtain ⟨i, hi⟩ : ∃ i, i + k + 1 = (gdN r PP LL).length := ⟨(gdN r PP LL).length - 1 - k, by omega⟩
    obtain ⟨x, hx⟩ : ∃ x, (gdN r PP LL)[i]? = some x := ⟨_, List.getElem?_eq_getElem (by omega)⟩
    rw [show (gdN r PP LL).length - k = i + 1 from by omega] at ih
    rw [show (gdN r PP LL).length - (k + 1) = i from by omega, flow_snoc hi hx]
    exact jf_step h ih hx
/-- Points and cables have the same ranges. -/
theorem flow_p {r : Rig} {PP : List Int} {LL : List Ld} (h : GrOk r PP LL) {j : Nat} (hj : j < PP.length) : (flow (gdN r PP LL) (gdN r PP LL).length)[1 + j]? = some (smP (fun l => l.lo) j LL, smP (hiP r) j LL) := by
  have := (jf_all h _ (Nat.le_refl _)).p j hj
  rw [Nat.sub_self, Nat.zero_sub, List.drop_zero] at this
  exact this
theorem pf_eq {r : Rig} {PP : List Int} {LL : List Ld} (h : GrOk r PP LL) {i : Nat} (hi : i < (gdN r PP LL).length) : pfB (gdN r PP LL) (flow (gdN r PP LL) (gdN r PP LL).length) i = decide (1 ≤ i ∧ i ≤ PP.length ∧ smP (hiP r) (i - 1) LL > PP.getD (i - 1) 0) := by
  have hJ := jf_all h _ (Nat.le_refl _)
  rw [Nat.sub_self] at hJ
  rw [gdN_len] at hi
  unfold pfB fz
  rcases gdN_cases hi with rfl | ⟨j, p, rfl, hp⟩ | ⟨t, l, rfl, hl⟩
  · obtain ⟨a, b, hz, hb⟩ := hJ.z
    have := h.p
    rw [if_pos rfl, List.getD_eq_getElem?_getD, hz, Option.getD_some, decide_eq_false (by dsimp only; omega), decide_eq_false (by omega)]
  · have hjl := (List.getElem?_eq_some_iff.1 hp).1
    rw [if_neg (by omega), List.getD_eq_getElem?_getD, flow_p h hjl, gdN_p hp, Option.getD_some]
    have e : PP.getD (1 + j - 1) 0 = p := by rw [Nat.add_sub_cancel_left, List.getD_eq_getElem?_getD, hp]; rfl
    rw [e, Nat.add_sub_cancel_left]
    show decide (smP (hiP r) j LL > p) = _
    by_cases hc : smP (hiP r) j LL > p
    · rw [decide_eq_true hc, decide_eq_true ⟨by omega, by omega, hc⟩]
    · rw [decide_eq_false hc, decide_eq_false (fun q => hc q.2.2)]
  · have h1 := hJ.l t l hl
    have h2 := h.h l (List.mem_of_getElem? hl)
    rw [if_pos (by omega)] at h1
    rw [if_neg (by omega), List.getD_eq_getElem?_getD, h1, gdN_l hl, Option.getD_some]
    show decide (hiP r l > 10000000) = _
    rw [decide_eq_false (by omega), decide_eq_false (by omega)]
theorem abL_nil {f : Nat → Bool} : ∀ n, (∀ i, i < n → f i = false) → abL f n = []
  | 0, _ => rfl
  | n + 1, h => by rw [abL, abL_nil n fun i hi => h i (by omega), h n (by omega)]; rfl
theorem abL_head {f : Nat → Bool} {i : Nat} (hf : f i = true) (h0 : ∀ m, m < i → f m = false) : ∀ n, i < n → ∃ R, abL f n = (i : Int) :: R
  | 0, h => absurd h (by omega)
  | n + 1, h => by
    by_cases hi : i = n
    · subst hi
      exact ⟨[], by rw [abL, abL_nil i h0, hf]; rfl⟩
    · obtain ⟨R, hR⟩ := abL_head hf h0 n (by omega)
      exact ⟨R ++ (if f n = true then [(n : Int)] else []), by rw [abL, hR]; rfl⟩
/-- The first point that may be over is the first fuse that blows perhaps. -/
theorem pf_first {r : Rig} {PP : List Int} {LL : List Ld} (h : GrOk r PP LL) : (ovP r PP LL = PP.length ∧ abL (pfB (gdN r PP LL) (flow (gdN r PP LL) (gdN r PP LL).length)) (gdN r PP LL).length = []) ∨
    (ovP r PP LL < PP.length ∧ ∃ R, abL (pfB (gdN r PP LL) (flow (gdN r PP LL) (gdN r PP LL).length)) (gdN r PP LL).length = ((1 + ovP r PP LL : Nat) : Int) :: R) := by
  obtain ⟨_, s2, s3, s4⟩ := fstN_spec (p := fun j => decide (smP (enF r true) j LL > PP.getD j 0)) PP.length 0
  have e : enF r true = hiP r := funext fun l => by simp [enF]
  have hn := gdN_len r PP LL
  rw [Nat.zero_add] at s2 s4
  have ho : fstN (fun j => decide (smP (enF r true) j LL > PP.getD j 0)) PP.length 0 = ovP r PP LL := rfl
  rw [ho] at s2 s3 s4
  rw [e] at s3 s4
  by_cases hc : ovP r PP LL < PP.length
  · refine .inr ⟨hc, abL_head ?_ (fun m hm => ?_) _ (by omega)⟩
    · rw [pf_eq h (by omega), decide_eq_true_eq, Nat.add_sub_cancel_left]
      exact ⟨by omega, by omega, of_decide_eq_true (s4 hc)⟩
    · rw [pf_eq h (by omega), decide_eq_false_iff_not]
      rintro ⟨q1, q2, q3⟩
      have := s3 (m - 1) (by omega) (by omega)
      rw [decide_eq_false_iff_not] at this
      exact this q3
  · refine .inl ⟨by omega, abL_nil _ fun i hi => ?_⟩
    rw [pf_eq h hi, decide_eq_false_iff_not]
    rintro ⟨q1, q2, q3⟩
    have := s3 (i - 1) (by omega) (by omega)
    rw [decide_eq_false_iff_not] at this
    exact this q3
end Go.Proofs.Ytfbokllafdnglaa
