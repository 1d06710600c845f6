/- Windows in order, all good releases in them; lists of first catches: plain laws. -/
import Derived.Test.YtlehjapeomallaaVN
namespace Go.Proofs.Ytlehjapeomallaa.V
open Go Tx Go.RowKit
set_option linter.unusedSimpArgs false
set_option linter.unusedVariables false

theorem wRun_pair {p : Int → Bool} {a : Int} (ha : 0 ≤ a) : ∀ k : Nat, ((wRun p a k).1.Pairwise fun x y => x.2 < y.1) ∧ (0 ≤ (wRun p a k).2 → ∀ x ∈ (wRun p a k).1, x.2 < (wRun p a k).2) ∧
    ∀ r, a ≤ r → r < a + k → p r = true → (∃ x ∈ (wRun p a k).1, x.1 ≤ r ∧ r ≤ x.2) ∨ (0 ≤ (wRun p a k).2 ∧ (wRun p a k).2 ≤ r)
  | 0 => ⟨by simp [wRun], by simp [wRun], fun r h1 h2 => by omega⟩
  | k + 1 => by
    obtain ⟨h1, h2, h3⟩ := wRun_pair (p := p) ha k
    obtain ⟨i1, i2⟩ := wRun_in (p := p) ha k
    obtain ⟨_, b2, b3⟩ := wRun_bd (p := p) ha k
    have hr : wRun p a (k + 1) = wStep p (wRun p a k) (a + k) := rfl
    rw [hr]
    generalize wRun p a k = s at *
    obtain ⟨L, f⟩ := s
    dsimp only at h1 h2 h3 i1 i2 b2 b3
    cases hp : p (a + k) with
    | true =>
      simp only [wStep, hp, if_true]
      refine ⟨h1, fun h x hx => ?_, fun r q1 q2 q3 => ?_⟩
      · split
        · have := (i2 x hx).2.2.1
          omega
        · exact h2 (by omega) x hx
      · by_cases hrk : r = a + k
        · refine .inr ⟨?_, ?_⟩ <;> split <;> omega
        · rcases h3 r q1 (by omega) q3 with h | ⟨g1, g2⟩
          · exact .inl h
          · refine .inr ?_
            rw [if_neg (by omega)]
            exact ⟨g1, g2⟩
    | false =>
      simp only [wStep, hp, Bool.false_eq_true, if_false, wEnd]
      refine ⟨?_, fun h => by omega, fun r q1 q2 q3 => ?_⟩
      · split
        · rename_i hf
          rw [List.pairwise_append]
          refine ⟨h1, by simp, fun x hx y hy => ?_⟩
          rw [List.mem_singleton] at hy
          subst hy
          exact h2 hf x hx
        · exact h1
      · have hrk : r ≠ a + k := fun e => by rw [e, hp] at q3; cases q3
        refine .inl ?_
        rcases h3 r q1 (by omega) q3 with ⟨x, hx, h⟩ | ⟨g1, g2⟩
        · refine ⟨x, ?_, h⟩
          split
          · exact List.mem_append_left _ hx
          · exact hx
        · rw [if_pos g1]
          exact ⟨_, List.mem_append_right _ (List.mem_singleton.2 rfl), g2, by dsimp only; omega⟩
theorem wins_pair {p : Int → Bool} {a : Int} (ha : 0 ≤ a) (n : Nat) : ((wins p a n).Pairwise fun x y => x.2 < y.1) ∧ ∀ r, a ≤ r → r < a + n → p r = true → ∃ x ∈ wins p a n, x.1 ≤ r ∧ r ≤ x.2 := by
  obtain ⟨h1, h2, h3⟩ := wRun_pair (p := p) ha n
  unfold wins wEnd
  dsimp only
  split
  · rename_i hf
    refine ⟨?_, fun r q1 q2 q3 => ?_⟩
    · rw [List.pairwise_append]
      refine ⟨h1, by simp, fun x hx y hy => ?_⟩
      rw [List.mem_singleton] at hy
      subst hy
      exact h2 hf x hx
    · rcases h3 r q1 q2 q3 with ⟨x, hx, h⟩ | ⟨_, g2⟩
      · exact ⟨x, List.mem_append_left _ hx, h⟩
      · exact ⟨_, List.mem_append_right _ (List.mem_singleton.2 rfl), g2, by dsimp only; omega⟩
  · rename_i hf
    refine ⟨h1, fun r q1 q2 q3 => ?_⟩
    rcases h3 r q1 q2 q3 with h | ⟨g1, _⟩
    · exact h
    · exact absurd g1 hf

/-- The numbers hd a, hd (a + 1), .. -/
def heads (hd : Int → Int) (a : Int) (n : Nat) : List Int := (List.range n).map fun i : Nat => hd (a + (i : Int))
theorem heads_succ (hd : Int → Int) (a : Int) (n : Nat) : heads hd a (n + 1) = heads hd a n ++ [hd (a + n)] := by
  unfold heads
  rw [List.range_succ, List.map_append]
  rfl

/-- Where the law's first loop stands at a tick. -/
structure HI (W : List (Int × Int)) (hd : Int → Int) (r : Int) (k : Nat) (F : List Int) : Prop where
  le : k ≤ W.length
  bef : ∀ i x, i < k → W[i]? = some x → x.2 < r
  now : ∀ x, W[k]? = some x → (r ≤ x.1 ∧ F = []) ∨ (x.1 < r ∧ r ≤ x.2 ∧ F = heads hd x.1 (r - x.1).toNat)
  fin : k = W.length → F = []

/-- What is known of all windows of some ticks. -/
structure WI (p : Int → Bool) (W : List (Int × Int)) (a b : Int) : Prop where
  pair : W.Pairwise fun x y => x.2 < y.1
  cov : ∀ r, a ≤ r → r ≤ b → p r = true → ∃ x ∈ W, x.1 ≤ r ∧ r ≤ x.2
  mem : ∀ x ∈ W, a ≤ x.1 ∧ x.1 ≤ x.2 ∧ x.2 ≤ b ∧ ∀ r, x.1 ≤ r → r ≤ x.2 → p r = true
theorem wins_WI {p : Int → Bool} {a : Int} (ha : 0 ≤ a) (n : Nat) : WI p (wins p a (n + 1)) a (a + n) := by
  obtain ⟨h1, h2⟩ := wins_pair (p := p) ha (n + 1)
  exact ⟨h1, fun r q1 q2 => h2 r q1 (by omega), fun x hx => by
    obtain ⟨q1, q2, q3, q4⟩ := wins_in (p := p) ha x hx
    exact ⟨q1, q2, by omega, q4⟩⟩

section
variable {p : Int → Bool} {W : List (Int × Int)} {a b : Int} {hd : Int → Int} {r : Int} {k : Nat} {F : List Int}
theorem HI.start (hw : WI p W a b) : HI W hd a 0 [] :=
  ⟨Nat.zero_le _, fun i x h => by omega, fun x hx => .inl ⟨(hw.mem x (List.mem_of_getElem? hx)).1, rfl⟩, fun _ => rfl⟩
theorem HI.yes (hw : WI p W a b) (h : HI W hd r k F) (ha : a ≤ r) (hb : r ≤ b) (hp : p r = true) : ∃ x, W[k]? = some x ∧ x.1 ≤ r ∧ r ≤ x.2 := by
  obtain ⟨x, hx, h1, h2⟩ := hw.cov r ha hb hp
  obtain ⟨i, hi⟩ := List.mem_iff_getElem?.1 hx
  have hki : ¬ i < k := fun hik => by have := h.bef i x hik hi; omega
  by_cases hik : i = k
  · subst hik; exact ⟨x, hi, h1, h2⟩
  · exfalso
    have hil := (List.getElem?_eq_some_iff.1 hi).1
    obtain ⟨y, hy⟩ : ∃ y, W[k]? = some y := ⟨_, List.getElem?_eq_getElem (by omega)⟩
    have h3 : y.2 < x.1 := by
      have := List.pairwise_iff_getElem.1 hw.pair k i (by omega) hil (by omega)
      rw [(List.getElem?_eq_some_iff.1 hy).2, (List.getElem?_eq_some_iff.1 hi).2] at this
      exact this
    have h4 := (hw.mem y (List.mem_of_getElem? hy)).2.1
    rcases h.now y hy with ⟨h5, _⟩ | ⟨_, h5, _⟩ <;> omega
theorem HI.no (hw : WI p W a b) (h : HI W hd r k F) (hp : p r = false) : ∀ x, W[k]? = some x → ¬ x.1 ≤ r := fun x hx hle => by
  have := hw.mem x (List.mem_of_getElem? hx)
  have h2 : p r = true := this.2.2.2 r hle (by rcases h.now x hx with ⟨h5, _⟩ | ⟨_, h5, _⟩ <;> omega)
  rw [hp] at h2; cases h2
theorem HI.skip (hw : WI p W a b) (h : HI W hd r k F) (hp : p r = false) : HI W hd (r + 1) k F := by
  refine ⟨h.le, fun i x hi hx => by have := h.bef i x hi hx; omega, fun x hx => ?_, h.fin⟩
  have := h.no hw hp x hx
  rcases h.now x hx with ⟨h1, h2⟩ | ⟨h1, h2, h3⟩
  · exact .inl ⟨by omega, h2⟩
  · omega
theorem HI.more (hw : WI p W a b) (h : HI W hd r k F) {x : Int × Int} (hx : W[k]? = some x) (h1 : x.1 ≤ r) (h2 : r ≤ x.2) : F ++ [hd r] = heads hd x.1 (r + 1 - x.1).toNat := by
  rcases h.now x hx with ⟨h3, rfl⟩ | ⟨h3, h4, rfl⟩
  · obtain rfl : x.1 = r := by omega
    rw [show (x.1 + 1 - x.1).toNat = 0 + 1 from by omega, heads_succ]
    simp [heads]
  · rw [show (r + 1 - x.1).toNat = (r - x.1).toNat + 1 from by omega, heads_succ, show x.1 + ((r - x.1).toNat : Int) = r from by omega]
theorem HI.grow (hw : WI p W a b) (h : HI W hd r k F) {x : Int × Int} (hx : W[k]? = some x) (h1 : x.1 ≤ r) (h2 : r < x.2) : HI W hd (r + 1) k (F ++ [hd r]) := by
  refine ⟨h.le, fun i x hi hx => by have := h.bef i x hi hx; omega, fun y hy => ?_, fun hk => ?_⟩
  · rw [hx] at hy
    cases hy
    exact .inr ⟨by omega, by omega, h.more hw hx h1 (by omega)⟩
  · have := (List.getElem?_eq_some_iff.1 hx).1
    omega
theorem HI.last (hw : WI p W a b) (h : HI W hd r k F) {x : Int × Int} (hx : W[k]? = some x) (h2 : r = x.2) : HI W hd (r + 1) (k + 1) [] := by
  have hk := (List.getElem?_eq_some_iff.1 hx).1
  refine ⟨hk, fun i y hi hy => ?_, fun y hy => .inl ⟨?_, rfl⟩, fun _ => rfl⟩
  · by_cases hik : i = k
    · subst hik
      rw [hx] at hy
      cases hy
      omega
    · have := h.bef i y (by omega) hy
      omega
  · have hk2 := (List.getElem?_eq_some_iff.1 hy).1
    have := List.pairwise_iff_getElem.1 hw.pair k (k + 1) hk hk2 (by omega)
    rw [(List.getElem?_eq_some_iff.1 hx).2, (List.getElem?_eq_some_iff.1 hy).2] at this
    omega
theorem HI.done (hw : WI p W a b) (h : HI W hd (b + 1) k F) : k = W.length := by
  refine Classical.byContradiction fun hk => ?_
  obtain ⟨x, hx⟩ : ∃ x, W[k]? = some x := ⟨_, List.getElem?_eq_getElem (by have := h.le; omega)⟩
  have := hw.mem x (List.mem_of_getElem? hx)
  rcases h.now x hx with ⟨h1, _⟩ | ⟨_, h1, _⟩ <;> omega
theorem heads_len (hd : Int → Int) (a : Int) (n : Nat) : (heads hd a n).length = n := by simp [heads]
theorem HI.len (hw : WI p W a b) (h : HI W hd r k F) (ha : a ≤ r) (hr : r ≤ b + 1) : (F.length : Int) ≤ b - a + 1 := by
  by_cases hk : k = W.length
  · rw [h.fin hk]
    show ((0 : Nat) : Int) ≤ _
    omega
  · obtain ⟨x, hx⟩ : ∃ x, W[k]? = some x := ⟨_, List.getElem?_eq_getElem (by have := h.le; omega)⟩
    have := hw.mem x (List.mem_of_getElem? hx)
    rcases h.now x hx with ⟨h1, rfl⟩ | ⟨h0, h1, rfl⟩
    · show ((0 : Nat) : Int) ≤ _
      omega
    · rw [heads_len]; omega
end

/-- The first catch of a release. -/
def hdc (g : Fg) (bs : List Bx) (r : Int) : Int := (catL g bs r g.k).head?.getD 0
theorem gd_iff {g : Fg} {bs : List Bx} {r : Int} : gd g bs r = true ↔ catL g bs r g.k ≠ [] := by simp [gd]
theorem hdc_mem {g : Fg} {bs : List Bx} {r : Int} (h : gd g bs r = true) : hdc g bs r ∈ catL g bs r g.k := by
  rw [gd_iff] at h
  unfold hdc
  cases hc : catL g bs r g.k with
  | nil => exact absurd hc h
  | cons x l => simp
/-- First catches of good releases are accepted. -/
theorem prB_heads {g : Fg} {bs : List Bx} {a : Int} : ∀ (n i : Nat), (∀ r, a + i ≤ r → r < a + i + n → gd g bs r = true) → prB g bs a (heads (hdc g bs) (a + i) n) i = true
  | 0, i, _ => rfl
  | n + 1, i, h => by
    have e : heads (hdc g bs) (a + i) (n + 1) = hdc g bs (a + i) :: heads (hdc g bs) (a + ((i + 1 : Nat) : Int)) n := by
      unfold heads
      rw [List.range_succ_eq_map, List.map_cons, List.map_map]
      rw [Int.natCast_zero, Int.add_zero]
      refine congrArg (hdc g bs (a + i) :: ·) (List.map_congr_left fun j _ => ?_)
      show hdc g bs (a + i + ((j + 1 : Nat) : Int)) = hdc g bs (a + ((i + 1 : Nat) : Int) + (j : Int))
      congr 1
      omega
    rw [e, prB, prB_heads n (i + 1) (fun r q1 q2 => h r (by omega) (by omega)), Bool.and_true]
    obtain ⟨k, h1, h2, h3⟩ := catL_mem (hdc_mem (h (a + i) (by omega) (by omega)))
    rw [Bool.and_eq_true, decide_eq_true_eq]
    rw [show hdc g bs (a + i) - a - i - g.le = k from by omega]
    exact ⟨by omega, h3⟩
theorem prv_heads {g : Fg} {bs : List Bx} {a b : Int} (hg : g.ok bs = true) (h0 : 0 ≤ a ∧ a ≤ b) (h2 : b ≤ 6000) (h : ∀ r, a ≤ r → r ≤ b → gd g bs r = true) : prv g bs a b (heads (hdc g bs) a (b + 1 - a).toNat) = true := by
  unfold prv
  rw [show askE g bs a b = 0 from by rw [askE, if_pos hg, if_pos ⟨h0, h2⟩], heads_len]
  have := prB_heads (g := g) (bs := bs) (a := a) (b + 1 - a).toNat 0 (fun r q1 q2 => h r (by omega) (by omega))
  rw [Int.natCast_zero, Int.add_zero] at this
  rw [this, decide_eq_true (show (((b + 1 - a).toNat : Nat) : Int) = b - a + 1 by omega)]
  rfl
/-- Where anything is accepted, each release is good. -/
theorem prv_good {g : Fg} {bs : List Bx} {a b : Int} {L : List Int} (h : prv g bs a b L = true) : (g.ok bs = true ∧ (0 ≤ a ∧ a ≤ b) ∧ b ≤ 6000) ∧ ∀ r, a ≤ r → r ≤ b → gd g bs r = true := by
  unfold prv at h
  simp only [Bool.and_eq_true, decide_eq_true_eq] at h
  obtain ⟨⟨h1, h2⟩, h3⟩ := h
  have hok : g.ok bs = true ∧ (0 ≤ a ∧ a ≤ b) ∧ b ≤ 6000 := by
    unfold askE at h1
    by_cases hg : g.ok bs = true
    · rw [if_pos hg] at h1
      by_cases hh : (0 ≤ a ∧ a ≤ b) ∧ b ≤ 6000
      · exact ⟨hg, hh⟩
      · rw [if_neg hh] at h1; cases h1
    · rw [if_neg hg] at h1; cases h1
  refine ⟨hok, fun r q1 q2 => ?_⟩
  have key : ∀ (L : List Int) (i : Nat), prB g bs a L i = true → ∀ j : Nat, i ≤ j → j < i + L.length → gd g bs (a + j) = true := by
    intro L
    induction L with
    | nil => intro i _ j h1 h2; simp at h2; omega
    | cons n L ih =>
      intro i h j h1 h2
      rw [prB, Bool.and_eq_true, Bool.and_eq_true, decide_eq_true_eq] at h
      simp only [List.length_cons] at h2
      by_cases hij : j = i
      · subst hij
        obtain ⟨m, hm⟩ : ∃ m : Nat, n - a - j - g.le = m := ⟨(n - a - j - g.le).toNat, by omega⟩
        obtain ⟨⟨⟨_, g1⟩, g2⟩, _⟩ := h
        rw [hm] at g1 g2
        rw [gd_iff]
        have hpre := catL_pre g bs (a + j) (k := m) (m := g.k) g2 (by omega)
        intro he
        rw [he] at hpre
        have := List.eq_nil_of_prefix_nil hpre
        simp at this
      · exact ih (i + 1) h.2 j (by omega) (by omega)
  have := key L 0 h3 (r - a).toNat (Nat.zero_le _) (by omega)
  rwa [show a + ((r - a).toNat : Int) = r from by omega] at this
end Go.Proofs.Ytlehjapeomallaa.V
