/- Windows, the widest one, and the reference's windows: what these functions return. -/
import Derived.Test.YtlehjapeomallaaVA
namespace Go.Proofs.Ytlehjapeomallaa.V
open Go Tx Go.RowKit
set_option linter.unusedSimpArgs false
set_option linter.unusedVariables false

def askE (g : Fg) (bs : List Bx) (a b : Int) : Int := if g.ok bs = true then (if (0 ≤ a ∧ a ≤ b) ∧ b ≤ 6000 then 0 else 2) else 1

theorem asked_ok (g : Fg) (bs : List Bx) (a b : Int) (w : World) (hrd : Rd 4 Bx.cs (.slice g.o g.n g.c) bs w) (hl : bs.length ≤ 1000000) :
    Calls Try.prog 73 #[g.v, iv a, iv b] w fun e w' => e = .returned (iv (askE g bs a b)) ∧ Below w.heap.size w w' := by
  refine calls_val env mixed Try.func73 has73 Try.ntmps73 [g.v, iv a, iv b] (by simp) ?_
  have hv := fun w' hb => Gvalid_ok g bs w' (hrd.below hb) hl
  unfold askE
  by_cases hg : g.ok bs = true
  · simp only [hg] at hv ⊢
    by_cases h1 : 0 ≤ a ∧ a ≤ b <;> by_cases h2 : b ≤ 6000 <;> simp only [h1, h2, true_and, and_true, and_false, false_and, and_self, if_true, if_false]
    all_goals skip
    repeat'
      conv => whnf
      first
        | refine And.intro (a := drawB _ = true) (by kernel_rfl) ?_
        | refine And.intro (a := (_ : Bool) = true) rfl ?_
        | refine And.intro (a := (_ : Bool) = true ∧ (_ : Bool) = true) ⟨rfl, rfl⟩ ?_
        | refine And.intro (a := (_ : Bool) = true ∧ (_ : List _) = []) ⟨rfl, rfl⟩ ?_
        | refine And.intro (a := IR _ _) (And.intro (by omega) (by omega)) ?_
        | refine wrapE (And.intro (by omega) (by omega)) ?_
        | refine And.intro (a := (0 : Int) ≤ _ ∧ _ < _) (And.intro (by omega) (by omega)) ?_
        | refine And.intro (a := (_ : Bool) = true) (by simp only [Nat.beq_refl]; rfl) ?_
        | refine And.intro (a := ((_ : Bool) = true → 1 ≤ _) ∧ _ ≤ 9223372036854775807 ∧ _ ≤ 140737488355328) ⟨fun h => (by first | omega | cases h), by omega, by omega⟩ ?_
        | refine splT ?_
        | refine splF ?_
        | refine splNot ?_
        | (refine splIn (fun hc => ?_) (fun hc => ?_) <;> first | (exfalso; omega) | (exfalso; dsimp only at hc; omega) | skip)
        | (refine splD (fun hc => ?_) (fun hc => ?_) <;> first | (exfalso; omega) | (exfalso; dsimp only at hc; omega) | skip)
        | (refine splE (fun hc => ?_) (fun hc => ?_) <;> first | (exfalso; omega) | (exfalso; dsimp only at hc; omega) | skip)
        | (refine splNE (fun hc => ?_) (fun hc => ?_) <;> first | (exfalso; omega) | (exfalso; dsimp only at hc; omega) | skip)
        | ((with_reducible show CallEv _ _ 60 _ _ _ _ _); refine callE (k := 60) (fun β w' hbw => hv _ (by first | exact hbw | exact hbw.1 | exact hbw.1.1 | exact hbw.1.1.1 | exact hbw.1.1.1.1 | exact hbw.1.1.1.1.1 | exact hbw.1.1.1.1.1.1 | exact hbw.1.1.1.1.1.1.1)) ?_)
        | ((with_reducible show CallEv _ _ 58 _ _ _ _ _); refine callE (k := 58) (fun β w' hbw => within_ok _ _ _ _) ?_)
    all_goals exact ⟨fun β => rfl, fun w' h => h⟩
  · simp only [hg] at hv ⊢
    repeat'
      conv => whnf
      first
        | refine And.intro (a := drawB _ = true) (by kernel_rfl) ?_
        | refine And.intro (a := (_ : Bool) = true) rfl ?_
        | refine And.intro (a := (_ : Bool) = true ∧ (_ : Bool) = true) ⟨rfl, rfl⟩ ?_
        | refine And.intro (a := (_ : Bool) = true ∧ (_ : List _) = []) ⟨rfl, rfl⟩ ?_
        | refine And.intro (a := IR _ _) (And.intro (by omega) (by omega)) ?_
        | refine wrapE (And.intro (by omega) (by omega)) ?_
        | refine And.intro (a := (0 : Int) ≤ _ ∧ _ < _) (And.intro (by omega) (by omega)) ?_
        | refine And.intro (a := (_ : Bool) = true) (by simp only [Nat.beq_refl]; rfl) ?_
        | refine And.intro (a := ((_ : Bool) = true → 1 ≤ _) ∧ _ ≤ 9223372036854775807 ∧ _ ≤ 140737488355328) ⟨fun h => (by first | omega | cases h), by omega, by omega⟩ ?_
        | refine splT ?_
        | refine splF ?_
        | refine splNot ?_
        | (refine splIn (fun hc => ?_) (fun hc => ?_) <;> first | (exfalso; omega) | (exfalso; dsimp only at hc; omega) | skip)
        | (refine splD (fun hc => ?_) (fun hc => ?_) <;> first | (exfalso; omega) | (exfalso; dsimp only at hc; omega) | skip)
        | (refine splE (fun hc => ?_) (fun hc => ?_) <;> first | (exfalso; omega) | (exfalso; dsimp only at hc; omega) | skip)
        | (refine splNE (fun hc => ?_) (fun hc => ?_) <;> first | (exfalso; omega) | (exfalso; dsimp only at hc; omega) | skip)
        | ((with_reducible show CallEv _ _ 60 _ _ _ _ _); refine callE (k := 60) (fun β w' hbw => hv _ (by first | exact hbw | exact hbw.1 | exact hbw.1.1 | exact hbw.1.1.1 | exact hbw.1.1.1.1 | exact hbw.1.1.1.1.1 | exact hbw.1.1.1.1.1.1 | exact hbw.1.1.1.1.1.1.1)) ?_)
        | ((with_reducible show CallEv _ _ 58 _ _ _ _ _); refine callE (k := 58) (fun β w' hbw => within_ok _ _ _ _) ?_)
    all_goals exact ⟨fun β => rfl, fun w' h => h⟩

theorem wins_len {p : Int → Bool} {a : Int} (ha : 0 ≤ a) (n : Nat) : (wins p a n).length ≤ n + 1 := by
  obtain ⟨h, _⟩ := wRun_bd (p := p) ha n
  unfold wins wEnd
  dsimp only
  split
  · simp only [List.length_append, List.length_cons, List.length_nil]; omega
  · omega

set_option maxRecDepth 100000 in
theorem Windows_no (g : Fg) (bs : List Bx) (a b c : Int) (w : World) (hrd : Rd 4 Bx.cs (.slice g.o g.n g.c) bs w) (hl : bs.length ≤ 1000000) (he : askE g bs a b = c) (hc : c ≠ 0) :
    Calls Try.prog 54 #[g.v, iv a, iv b] w fun e w' => e = .returned (.tuple #[.slice none 0 0, iv c]) ∧ Below w.heap.size w w' := by
  refine calls_val env mixed Try.func54 has54 Try.ntmps54 [g.v, iv a, iv b] (by simp) ?_
  have hv := fun w' hb => asked_ok g bs a b w' (hrd.below hb) hl
  rw [he] at hv
  repeat'
    conv => whnf
    first
      | refine And.intro (a := drawB _ = true) (by kernel_rfl) ?_
      | refine And.intro (a := (_ : Bool) = true) rfl ?_
      | refine And.intro (a := (_ : Bool) = true ∧ (_ : Bool) = true) ⟨rfl, rfl⟩ ?_
      | refine And.intro (a := (_ : Bool) = true ∧ (_ : List _) = []) ⟨rfl, rfl⟩ ?_
      | refine And.intro (a := IR _ _) (And.intro (by omega) (by omega)) ?_
      | refine wrapE (And.intro (by omega) (by omega)) ?_
      | refine And.intro (a := (0 : Int) ≤ _ ∧ _ < _) (And.intro (by omega) (by omega)) ?_
      | refine And.intro (a := (_ : Bool) = true) (by simp only [Nat.beq_refl]; rfl) ?_
      | refine And.intro (a := ((_ : Bool) = true → 1 ≤ _) ∧ _ ≤ 9223372036854775807 ∧ _ ≤ 140737488355328) ⟨fun h => (by first | omega | cases h), by omega, by omega⟩ ?_
      | refine splT ?_
      | refine splF ?_
      | refine splNot ?_
      | (refine splIn (fun hc => ?_) (fun hc => ?_) <;> first | (exfalso; omega) | (exfalso; dsimp only at hc; omega) | skip)
      | (refine splD (fun hc => ?_) (fun hc => ?_) <;> first | (exfalso; omega) | (exfalso; dsimp only at hc; omega) | skip)
      | (refine splE (fun hc => ?_) (fun hc => ?_) <;> first | (exfalso; omega) | (exfalso; dsimp only at hc; omega) | skip)
      | (refine splNE (fun hc => ?_) (fun hc => ?_) <;> first | (exfalso; omega) | (exfalso; dsimp only at hc; omega) | skip)
      | ((with_reducible show CallEv _ _ 73 _ _ _ _ _); refine callE (k := 73) (fun β w' hbw => hv _ (by first | exact hbw | exact hbw.1 | exact hbw.1.1 | exact hbw.1.1.1 | exact hbw.1.1.1.1 | exact hbw.1.1.1.1.1 | exact hbw.1.1.1.1.1.1 | exact hbw.1.1.1.1.1.1.1)) ?_)
  exact ⟨fun β => rfl, fun w' h => h⟩

set_option maxRecDepth 100000 in
theorem Windows_yes (g : Fg) (bs : List Bx) (a b : Int) (hg : g.ok bs = true) (h0 : 0 ≤ a) (h1 : a ≤ b) (h2 : b ≤ 6000) (w : World) (hrd : Rd 4 Bx.cs (.slice g.o g.n g.c) bs w) (hl : bs.length ≤ 1000000) :
    Calls Try.prog 54 #[g.v, iv a, iv b] w fun e w' => ∃ y : YS (wins (gd g bs) a (b - a + 1).toNat), e = .returned (.tuple #[sV (wins (gd g bs) a (b - a + 1).toNat).length y.1, iv 0]) ∧ Below w.heap.size w w' ∧
      St w.heap.size (Rd 2 wF (sV (wins (gd g bs) a (b - a + 1).toNat).length y.1) (wins (gd g bs) a (b - a + 1).toNat)) w' := by
  have hg' := Fg.ok_iff.1 hg
  refine calls_fam env mixed Try.func54 has54 Try.ntmps54 [g.v, iv a, iv b] (by simp) ?_
  have hv := fun w' hb => asked_ok g bs a b w' (hrd.below hb) hl
  rw [show askE g bs a b = 0 from by rw [askE, if_pos hg, if_pos (by omega)]] at hv
  repeat'
    conv => whnf
    first
      | refine And.intro (a := drawB _ = true) (by kernel_rfl) ?_
      | refine And.intro (a := (_ : Bool) = true) rfl ?_
      | refine And.intro (a := (_ : Bool) = true ∧ (_ : Bool) = true) ⟨rfl, rfl⟩ ?_
      | refine And.intro (a := (_ : Bool) = true ∧ (_ : List _) = []) ⟨rfl, rfl⟩ ?_
      | refine And.intro (a := IR _ _) (And.intro (by omega) (by omega)) ?_
      | refine wrapE (And.intro (by omega) (by omega)) ?_
      | refine And.intro (a := (0 : Int) ≤ _ ∧ _ < _) (And.intro (by omega) (by omega)) ?_
      | refine And.intro (a := (_ : Bool) = true) (by simp only [Nat.beq_refl]; rfl) ?_
      | refine And.intro (a := ((_ : Bool) = true → 1 ≤ _) ∧ _ ≤ 9223372036854775807 ∧ _ ≤ 140737488355328) ⟨fun h => (by first | omega | cases h), by omega, by omega⟩ ?_
      | refine splT ?_
      | refine splF ?_
      | refine splNot ?_
      | (refine splIn (fun hc => ?_) (fun hc => ?_) <;> first | (exfalso; omega) | (exfalso; dsimp only at hc; omega) | skip)
      | (refine splD (fun hc => ?_) (fun hc => ?_) <;> first | (exfalso; omega) | (exfalso; dsimp only at hc; omega) | skip)
      | (refine splE (fun hc => ?_) (fun hc => ?_) <;> first | (exfalso; omega) | (exfalso; dsimp only at hc; omega) | skip)
      | (refine splNE (fun hc => ?_) (fun hc => ?_) <;> first | (exfalso; omega) | (exfalso; dsimp only at hc; omega) | skip)
      | ((with_reducible show CallEv _ _ 73 _ _ _ _ _); refine callE (k := 73) (fun β w' hbw => hv _ (by first | exact hbw | exact hbw.1 | exact hbw.1.1 | exact hbw.1.1.1 | exact hbw.1.1.1.1 | exact hbw.1.1.1.1.1 | exact hbw.1.1.1.1.1.1 | exact hbw.1.1.1.1.1.1.1)) ?_)
      | ((with_reducible show CallEv _ _ 62 _ _ _ _ _); refine callF [] (fun x : SeeX => g.sv (x.bv g.k) (x.lv g.k)) (fun x => x.hx g) (fun β w' _ hbw => fam (see_ok g w' hg'.1 (by omega) (by omega) (by omega) (by omega))) ?_; intro x)
      | ((with_reducible show CallEv _ _ 78 _ _ _ _ _); refine callF [] (fun y : Option Addr × Nat => sV (wins (gd g bs) a (b - a + 1).toNat).length y) (fun y => St w.heap.size (Rd 2 wF (sV (wins (gd g bs) a (b - a + 1).toNat).length y) (wins (gd g bs) a (b - a + 1).toNat))) (fun β w' _ hbw => famS hbw.1 (windows_ok g bs x a b hg h0 h1 h2 w' hbw.2 (hrd.below hbw.1))) ?_; intro y)
  exact ⟨fun w' h => h.1.1, fun β w' h _ => ⟨⟨y, rd_ys h.2.now⟩, rfl, h.2⟩⟩

/-- The first of the widest windows. -/
def wide (L : List (Int × Int)) : Nat → (Int × Int) → (Int × Int)
  | 0, b => b
  | k + 1, b => match L[k]? with
    | some x => if x.2 - x.1 > (wide L k b).2 - (wide L k b).1 then x else wide L k b
    | none => wide L k b
def best (L : List (Int × Int)) : Int × Int := wide L L.length (L.head?.getD (0, 0))

theorem wide_bd {L : List (Int × Int)} {b : Int × Int} (h : ∀ x ∈ L, 0 ≤ x.1 ∧ x.1 ≤ 6000 ∧ 0 ≤ x.2 ∧ x.2 ≤ 6000) (hb : 0 ≤ b.1 ∧ b.1 ≤ 6000 ∧ 0 ≤ b.2 ∧ b.2 ≤ 6000) : ∀ k, 0 ≤ (wide L k b).1 ∧ (wide L k b).1 ≤ 6000 ∧ 0 ≤ (wide L k b).2 ∧ (wide L k b).2 ≤ 6000
  | 0 => hb
  | k + 1 => by
    have := wide_bd h hb k
    rw [wide]
    split
    · rename_i x hx
      split
      · exact h x (List.mem_of_getElem? hx)
      · exact this
    · exact this

/-- Where the search stands: the window under way, and those that have ended. -/
theorem wRun_in {p : Int → Bool} {a : Int} (ha : 0 ≤ a) : ∀ k : Nat, (0 ≤ (wRun p a k).2 → a ≤ (wRun p a k).2 ∧ ∀ r, (wRun p a k).2 ≤ r → r < a + k → p r = true) ∧
    ∀ x ∈ (wRun p a k).1, a ≤ x.1 ∧ x.1 ≤ x.2 ∧ x.2 < a + k ∧ ∀ r, x.1 ≤ r → r ≤ x.2 → p r = true
  | 0 => ⟨fun h => by simp [wRun] at h, by simp [wRun]⟩
  | k + 1 => by
    obtain ⟨h1, h4⟩ := wRun_in (p := p) ha k
    obtain ⟨_, h2, h3⟩ := wRun_bd (p := p) ha k
    have hr : wRun p a (k + 1) = wStep p (wRun p a k) (a + k) := rfl
    rw [hr]
    generalize wRun p a k = s at *
    obtain ⟨L, f⟩ := s
    dsimp only at h1 h2 h3 h4
    cases hp : p (a + k) with
    | true =>
      simp only [wStep, hp, if_true]
      refine ⟨fun h => ?_, fun x hx => ?_⟩
      · split
        · refine ⟨by omega, fun r q1 q2 => ?_⟩
          rw [show r = a + k from by omega]; exact hp
        · refine ⟨(h1 (by omega)).1, fun r q1 q2 => ?_⟩
          by_cases hrk : r = a + k
          · rw [hrk]; exact hp
          · exact (h1 (by omega)).2 r q1 (by omega)
      · obtain ⟨q1, q2, q3, q4⟩ := h4 x hx
        exact ⟨q1, q2, by omega, q4⟩
    | false =>
      simp only [wStep, hp, Bool.false_eq_true, if_false, wEnd]
      refine ⟨fun h => by omega, fun x hx => ?_⟩
      split at hx
      · rename_i hf
        rcases List.mem_append.1 hx with hx | hx
        · obtain ⟨q1, q2, q3, q4⟩ := h4 x hx
          exact ⟨q1, q2, by omega, q4⟩
        · rw [List.mem_singleton] at hx
          subst hx
          exact ⟨(h1 hf).1, by dsimp only; omega, by dsimp only; omega, fun r q1 q2 => (h1 hf).2 r q1 (by dsimp only at q2; omega)⟩
      · obtain ⟨q1, q2, q3, q4⟩ := h4 x hx
        exact ⟨q1, q2, by omega, q4⟩

theorem wins_in {p : Int → Bool} {a : Int} (ha : 0 ≤ a) {n : Nat} : ∀ x ∈ wins p a n, a ≤ x.1 ∧ x.1 ≤ x.2 ∧ x.2 < a + n ∧ ∀ r, x.1 ≤ r → r ≤ x.2 → p r = true := fun x hx => by
  obtain ⟨h1, h4⟩ := wRun_in (p := p) ha n
  obtain ⟨_, h2, h3⟩ := wRun_bd (p := p) ha n
  unfold wins wEnd at hx
  dsimp only at hx
  split at hx
  · rename_i hf
    rcases List.mem_append.1 hx with hx | hx
    · exact h4 x hx
    · rw [List.mem_singleton] at hx
      subst hx
      exact ⟨(h1 hf).1, by dsimp only; omega, by dsimp only; omega, fun r q1 q2 => (h1 hf).2 r q1 (by dsimp only at q2; omega)⟩
  · exact h4 x hx

theorem wins_no {p : Int → Bool} {a : Int} {k : Nat} (hp : p (a + k) = false) : wins p a (k + 1) = wins p a k := by
  have hr : wRun p a (k + 1) = wStep p (wRun p a k) (a + k) := rfl
  unfold wins
  rw [hr, wStep, hp]
  simp [wEnd]
theorem wins_new {p : Int → Bool} {a : Int} (ha : 0 ≤ a) {k : Nat} (hp : p (a + k) = true) (hf : (wRun p a k).2 < 0) : wins p a (k + 1) = wins p a k ++ [(a + k, a + k)] := by
  have hr : wRun p a (k + 1) = wStep p (wRun p a k) (a + k) := rfl
  unfold wins
  rw [hr, wStep, hp]
  simp only [wEnd, if_true, if_pos hf]
  rw [if_pos (by omega), if_neg (by omega)]
  rw [show a + ((k + 1 : Nat) : Int) - 1 = a + k from by omega]
theorem wins_ext {p : Int → Bool} {a : Int} {k : Nat} (hp : p (a + k) = true) (hf : 0 ≤ (wRun p a k).2) :
    wins p a (k + 1) = (wRun p a k).1 ++ [((wRun p a k).2, a + k)] ∧ wins p a k = (wRun p a k).1 ++ [((wRun p a k).2, a + k - 1)] := by
  have hr : wRun p a (k + 1) = wStep p (wRun p a k) (a + k) := rfl
  unfold wins
  rw [hr, wStep, hp]
  have hn : ¬ (wRun p a k).2 < 0 := by omega
  simp only [wEnd, if_true, if_neg hn, if_pos hf]
  rw [show a + ((k + 1 : Nat) : Int) - 1 = a + k from by omega]
  exact ⟨rfl, trivial⟩
/-- Whether a window is under way. -/
theorem wRun_f {p : Int → Bool} {a : Int} (ha : 0 ≤ a) {k : Nat} : decide (0 ≤ (wRun p a (k + 1)).2) = p (a + k) := by
  have hr : wRun p a (k + 1) = wStep p (wRun p a k) (a + k) := rfl
  rw [hr, wStep]
  cases hp : p (a + k) with
  | true =>
    simp only [if_true]
    split <;> simp <;> omega
  | false => simp [wEnd]
end Go.Proofs.Ytlehjapeomallaa.V
