/- The law of steady catches answers true at every flight, release and choice of smaller ranges. -/
import Derived.Test.YtlehjapeomallaaFU
namespace Go.Proofs.Ytlehjapeomallaa
open Go Sx Go.RowKit
set_option linter.unusedSimpArgs false
set_option linter.unusedVariables false

set_option maxRecDepth 100000 in
theorem within_yes (y z : Option Addr × Nat) (xs ys : List Int) (w : World) (hx : Rd 1 iF (sV xs.length y) xs w) (hy : Rd 1 iF (sV ys.length z) ys w) (hl : xs.length ≤ 1000000) (hl2 : ys.length ≤ 1000000) (hsub : ∀ x ∈ xs, x ∈ ys) :
    Calls Try.prog 32 #[sV xs.length y, sV ys.length z] w fun e w' => e = .returned (.bool true) ∧ Below w.heap.size w w' := by
  obtain ⟨o1, c1⟩ := y
  obtain ⟨o2, c2⟩ := z
  refine calls_val env mixed Try.func32 has32 Try.ntmps32 [.slice o1 xs.length c1, .slice o2 ys.length c2] (by simp) ?_
  repeat'
    conv => whnf
    first
      | refine And.intro (a := drawB _ = true) (by kernel_rfl) ?_
      | refine And.intro (a := (_ : Bool) = true) rfl ?_
      | refine And.intro (a := (_ : Bool) = true ∧ (_ : Bool) = true) ⟨rfl, rfl⟩ ?_
      | refine And.intro (a := (_ : Bool) = true ∧ (_ : List _) = []) ⟨rfl, rfl⟩ ?_
      | refine And.intro (a := IR _ _) (And.intro (by omega) (by omega)) ?_
      | refine And.intro (a := (0 : Int) ≤ _ ∧ _ < _) (And.intro (by omega) (by omega)) ?_
      | refine And.intro (a := (_ : Bool) = true) (by simp only [Nat.beq_refl]; rfl) ?_
      | refine And.intro (a := ((_ : Bool) = true → 1 ≤ _) ∧ _ ≤ 9223372036854775807 ∧ _ ≤ 140737488355328) ⟨fun h => (by first | omega | cases h), by omega, by omega⟩ ?_
      | refine splT ?_
      | refine splF ?_
      | refine splNot ?_
      | (refine splIn (fun hc => ?_) (fun hc => ?_) <;> first | (exfalso; omega) | (exfalso; dsimp only at hc; omega) | skip)
      | (refine splD (fun hc => ?_) (fun hc => ?_) <;> first | (exfalso; omega) | (exfalso; dsimp only at hc; omega) | skip)
      | (refine splE (fun hc => ?_) (fun hc => ?_) <;> first | (exfalso; omega) | (exfalso; dsimp only at hc; omega) | skip)
      | (refine splNE (fun hc => ?_) (fun hc => ?_) <;> first | (exfalso; omega) | (exfalso; dsimp only at hc; omega) | skip)
  refine loopE (fun k : Nat => [(0, .v (.slice o1 xs.length c1)), (1, .v (.slice o2 ys.length c2)), (5, .v (iv k))]) (fun _ => []) (fun k => k ≤ xs.length) (fun k => xs.length - k) 0 (Nat.zero_le _) ⟨rfl, rfl, rfl, trivial⟩ trivial (fun _ => ⟨rfl, rfl⟩) ?_
  intro k hk
  rcases Nat.lt_or_ge k xs.length with hkl | hkl
  · obtain ⟨a, ha⟩ : ∃ a, xs[k]? = some a := ⟨_, List.getElem?_eq_getElem hkl⟩
    have hin := hsub a (List.mem_of_getElem? ha)
    obtain ⟨_, a1, rfl, _⟩ := hx.some (by omega)
    have hy0 : 0 < ys.length := List.length_pos_of_mem hin
    obtain ⟨_, a2, rfl, _⟩ := hy.some (by omega)
    repeat'
      conv => whnf
      first
        | refine And.intro (a := drawB _ = true) (by kernel_rfl) ?_
        | refine And.intro (a := (_ : Bool) = true) rfl ?_
        | refine And.intro (a := (_ : Bool) = true ∧ (_ : Bool) = true) ⟨rfl, rfl⟩ ?_
        | refine And.intro (a := (_ : Bool) = true ∧ (_ : List _) = []) ⟨rfl, rfl⟩ ?_
        | refine And.intro (a := IR _ _) (And.intro (by omega) (by omega)) ?_
        | refine And.intro (a := (0 : Int) ≤ _ ∧ _ < _) (And.intro (by omega) (by omega)) ?_
        | refine And.intro (a := (_ : Bool) = true) (by simp only [Nat.beq_refl]; rfl) ?_
        | refine And.intro (a := ((_ : Bool) = true → 1 ≤ _) ∧ _ ≤ 9223372036854775807 ∧ _ ≤ 140737488355328) ⟨fun h => (by first | omega | cases h), by omega, by omega⟩ ?_
        | refine splT ?_
        | refine splF ?_
        | refine splNot ?_
        | (refine splIn (fun hc => ?_) (fun hc => ?_) <;> first | (exfalso; omega) | (exfalso; dsimp only at hc; omega) | skip)
        | (refine splD (fun hc => ?_) (fun hc => ?_) <;> first | (exfalso; omega) | (exfalso; dsimp only at hc; omega) | skip)
        | (refine splE (fun hc => ?_) (fun hc => ?_) <;> first | (exfalso; omega) | (exfalso; dsimp only at hc; omega) | skip)
        | (refine splNE (fun hc => ?_) (fun hc => ?_) <;> first | (exfalso; omega) | (exfalso; dsimp only at hc; omega) | skip)
    refine loopE (fun j : Nat => [(0, .v (.slice (some a1) xs.length c1)), (1, .v (.slice (some a2) ys.length c2)), (5, .v (iv k)), (6, .v (.bool (decide (a ∈ ys.take j)))), (7, .v (iv j))]) (fun _ => []) (fun j => j ≤ ys.length) (fun j => ys.length - j) 0 (Nat.zero_le _) ⟨rfl, rfl, rfl, rfl, rfl, trivial⟩ trivial (fun _ => ⟨rfl, rfl⟩) ?_
    intro j hj
    rcases Nat.lt_or_ge j ys.length with hjl | hjl
    · obtain ⟨b, hb⟩ : ∃ b, ys[j]? = some b := ⟨_, List.getElem?_eq_getElem hjl⟩
      have ht : (a ∈ ys.take (j + 1)) ↔ (a ∈ ys.take j ∨ a = b) := by rw [List.take_add_one, hb]; simp
      by_cases hm : a ∈ ys.take j
      · rw [decide_eq_true hm]
        repeat'
          conv => whnf
          first
            | refine And.intro (a := drawB _ = true) (by kernel_rfl) ?_
            | refine And.intro (a := (_ : Bool) = true) rfl ?_
            | refine And.intro (a := (_ : Bool) = true ∧ (_ : Bool) = true) ⟨rfl, rfl⟩ ?_
            | refine And.intro (a := (_ : Bool) = true ∧ (_ : List _) = []) ⟨rfl, rfl⟩ ?_
            | refine And.intro (a := IR _ _) (And.intro (by omega) (by omega)) ?_
            | refine And.intro (a := (0 : Int) ≤ _ ∧ _ < _) (And.intro (by omega) (by omega)) ?_
            | refine And.intro (a := (_ : Bool) = true) (by simp only [Nat.beq_refl]; rfl) ?_
            | refine And.intro (a := ((_ : Bool) = true → 1 ≤ _) ∧ _ ≤ 9223372036854775807 ∧ _ ≤ 140737488355328) ⟨fun h => (by first | omega | cases h), by omega, by omega⟩ ?_
            | refine splT ?_
            | refine splF ?_
            | refine splNot ?_
            | (refine splIn (fun hc => ?_) (fun hc => ?_) <;> first | (exfalso; omega) | (exfalso; dsimp only at hc; omega) | skip)
            | (refine splD (fun hc => ?_) (fun hc => ?_) <;> first | (exfalso; omega) | (exfalso; dsimp only at hc; omega) | skip)
            | (refine splE (fun hc => ?_) (fun hc => ?_) <;> first | (exfalso; omega) | (exfalso; dsimp only at hc; omega) | skip)
            | (refine splNE (fun hc => ?_) (fun hc => ?_) <;> first | (exfalso; omega) | (exfalso; dsimp only at hc; omega) | skip)
        exact ⟨j + 1, by omega, by omega, Ent.weak rfl ⟨rfl, rfl, rfl, by rw [decide_eq_true (ht.2 (.inl hm))]; rfl, rfl, trivial⟩ trivial fun _ h => h⟩
      · rw [decide_eq_false hm]
        have hd : decide (a ∈ ys.take (j + 1)) = (a == b) := by
          rw [Bool.eq_iff_iff]; simp [ht, hm]
        repeat'
          conv => whnf
          first
            | refine And.intro (a := drawB _ = true) (by kernel_rfl) ?_
            | refine And.intro (a := (_ : Bool) = true) rfl ?_
            | refine And.intro (a := (_ : Bool) = true ∧ (_ : Bool) = true) ⟨rfl, rfl⟩ ?_
            | refine And.intro (a := (_ : Bool) = true ∧ (_ : List _) = []) ⟨rfl, rfl⟩ ?_
            | refine And.intro (a := IR _ _) (And.intro (by omega) (by omega)) ?_
            | refine And.intro (a := (0 : Int) ≤ _ ∧ _ < _) (And.intro (by omega) (by omega)) ?_
            | refine And.intro (a := (_ : Bool) = true) (by simp only [Nat.beq_refl]; rfl) ?_
            | refine And.intro (a := ((_ : Bool) = true → 1 ≤ _) ∧ _ ≤ 9223372036854775807 ∧ _ ≤ 140737488355328) ⟨fun h => (by first | omega | cases h), by omega, by omega⟩ ?_
            | refine splT ?_
            | refine splF ?_
            | refine splNot ?_
            | (refine splIn (fun hc => ?_) (fun hc => ?_) <;> first | (exfalso; omega) | (exfalso; dsimp only at hc; omega) | skip)
            | (refine splD (fun hc => ?_) (fun hc => ?_) <;> first | (exfalso; omega) | (exfalso; dsimp only at hc; omega) | skip)
            | (refine splE (fun hc => ?_) (fun hc => ?_) <;> first | (exfalso; omega) | (exfalso; dsimp only at hc; omega) | skip)
            | (refine splNE (fun hc => ?_) (fun hc => ?_) <;> first | (exfalso; omega) | (exfalso; dsimp only at hc; omega) | skip)
            | refine Exists.intro (α := List Value) [iv a] ⟨⟨rfl, fun w' hw' => rd_ati (hx.below hw') ha⟩, ?_⟩
            | refine Exists.intro (α := List Value) [iv b] ⟨⟨rfl, fun w' hw' => rd_ati (hy.below hw') hb⟩, ?_⟩
        exact ⟨j + 1, by omega, by omega, Ent.weak rfl ⟨rfl, rfl, rfl, by rw [hd]; rfl, rfl, trivial⟩ trivial fun _ h => h⟩
    · rw [List.take_of_length_le hjl, decide_eq_true hin]
      repeat'
        conv => whnf
        first
          | refine And.intro (a := drawB _ = true) (by kernel_rfl) ?_
          | refine And.intro (a := (_ : Bool) = true) rfl ?_
          | refine And.intro (a := (_ : Bool) = true ∧ (_ : Bool) = true) ⟨rfl, rfl⟩ ?_
          | refine And.intro (a := (_ : Bool) = true ∧ (_ : List _) = []) ⟨rfl, rfl⟩ ?_
          | refine And.intro (a := IR _ _) (And.intro (by omega) (by omega)) ?_
          | refine And.intro (a := (0 : Int) ≤ _ ∧ _ < _) (And.intro (by omega) (by omega)) ?_
          | refine And.intro (a := (_ : Bool) = true) (by simp only [Nat.beq_refl]; rfl) ?_
          | refine And.intro (a := ((_ : Bool) = true → 1 ≤ _) ∧ _ ≤ 9223372036854775807 ∧ _ ≤ 140737488355328) ⟨fun h => (by first | omega | cases h), by omega, by omega⟩ ?_
          | refine splT ?_
          | refine splF ?_
          | refine splNot ?_
          | (refine splIn (fun hc => ?_) (fun hc => ?_) <;> first | (exfalso; omega) | (exfalso; dsimp only at hc; omega) | skip)
          | (refine splD (fun hc => ?_) (fun hc => ?_) <;> first | (exfalso; omega) | (exfalso; dsimp only at hc; omega) | skip)
          | (refine splE (fun hc => ?_) (fun hc => ?_) <;> first | (exfalso; omega) | (exfalso; dsimp only at hc; omega) | skip)
          | (refine splNE (fun hc => ?_) (fun hc => ?_) <;> first | (exfalso; omega) | (exfalso; dsimp only at hc; omega) | skip)
      exact ⟨k + 1, by omega, by omega, Ent.weak rfl ⟨rfl, rfl, rfl, trivial⟩ trivial fun _ h => h⟩
  · skip
    repeat'
      conv => whnf
      first
        | refine And.intro (a := drawB _ = true) (by kernel_rfl) ?_
        | refine And.intro (a := (_ : Bool) = true) rfl ?_
        | refine And.intro (a := (_ : Bool) = true ∧ (_ : Bool) = true) ⟨rfl, rfl⟩ ?_
        | refine And.intro (a := (_ : Bool) = true ∧ (_ : List _) = []) ⟨rfl, rfl⟩ ?_
        | refine And.intro (a := IR _ _) (And.intro (by omega) (by omega)) ?_
        | refine And.intro (a := (0 : Int) ≤ _ ∧ _ < _) (And.intro (by omega) (by omega)) ?_
        | refine And.intro (a := (_ : Bool) = true) (by simp only [Nat.beq_refl]; rfl) ?_
        | refine And.intro (a := ((_ : Bool) = true → 1 ≤ _) ∧ _ ≤ 9223372036854775807 ∧ _ ≤ 140737488355328) ⟨fun h => (by first | omega | cases h), by omega, by omega⟩ ?_
        | refine splT ?_
        | refine splF ?_
        | refine splNot ?_
        | (refine splIn (fun hc => ?_) (fun hc => ?_) <;> first | (exfalso; omega) | (exfalso; dsimp only at hc; omega) | skip)
        | (refine splD (fun hc => ?_) (fun hc => ?_) <;> first | (exfalso; omega) | (exfalso; dsimp only at hc; omega) | skip)
        | (refine splE (fun hc => ?_) (fun hc => ?_) <;> first | (exfalso; omega) | (exfalso; dsimp only at hc; omega) | skip)
        | (refine splNE (fun hc => ?_) (fun hc => ?_) <;> first | (exfalso; omega) | (exfalso; dsimp only at hc; omega) | skip)
    exact ⟨fun β => rfl, fun w' h => h⟩

theorem mem_catL {g : Fg} {bs : List Bx} {r : Int} {k : Nat} : ∀ {m : Nat}, k < m → sureB g bs r k = true → r + g.le + k ∈ catL g bs r m
  | m + 1, h, hs => by
    rw [catL, List.mem_append]
    by_cases hk : k = m
    · subst hk; rw [if_pos hs]; exact .inr (List.mem_singleton.2 rfl)
    · exact .inl (mem_catL (by omega) hs)
theorem catL_sub {g g' : Fg} {bs : List Bx} {r : Int} {m : Nat} (hle : g'.le = g.le) (h : ∀ k : Nat, k < m → sureB g bs r k = true → sureB g' bs r k = true) : ∀ x ∈ catL g bs r m, x ∈ catL g' bs r m := fun x hx => by
  obtain ⟨k, h1, h2, h3⟩ := catL_mem hx
  rw [h2, ← hle]
  exact mem_catL h1 (h k h1 h3)

theorem sure_more {g g' : Fg} {bs : List Bx} {r : Int} (k : Nat) (hf : g'.f = g.f) (hn : g'.n = g.n) (hso : g'.so = g.so) (hle : g'.le = g.le) (hre : g.re ≤ g'.re) (hbe : g.be ≤ g'.be) (h : sureB g bs r k = true) : sureB g' bs r k = true := by
  have hh : ∀ t, hnd g' bs t = hnd g bs t := fun t => by unfold hnd; rw [hn]
  unfold sureB nearB at *
  rw [hf, hso, hle, hh]
  simp only [Bool.and_eq_true, decide_eq_true_eq] at *
  omega
theorem nar_bd {r : Rg} {a b : Int} (h : r.lo ≤ r.hi) : r.lo ≤ (nar r a b).lo ∧ (nar r a b).lo ≤ (nar r a b).hi ∧ (nar r a b).hi ≤ r.hi := by
  have h1 := pick_bd (w := a) h
  have h2 := pick_bd (lo := r.lo + a % (r.hi - r.lo + 1)) (hi := r.hi) (w := b) (by omega)
  simp only [nar]; omega
theorem gr_ge (a b c d : Int) : 0 ≤ gr [a, b, c, d] ∧ (-gr [a, b, c, d] ≤ a ∧ a ≤ gr [a, b, c, d]) ∧ (-gr [a, b, c, d] ≤ b ∧ b ≤ gr [a, b, c, d]) ∧ (-gr [a, b, c, d] ≤ c ∧ c ≤ gr [a, b, c, d]) ∧ (-gr [a, b, c, d] ≤ d ∧ d ≤ gr [a, b, c, d]) := by
  rw [gr4]
  simp only [imax_eq]
  refine ⟨?_, ?_, ?_, ?_, ?_⟩ <;> omega
theorem sure_less {g g' : Fg} {bs : List Bx} {r : Int} (k : Nat) (hg : g.ok bs = true) (hk : k < g.k) (hm : g'.f.m = g.f.m)
    (h1 : g.f.a.x.lo ≤ g'.f.a.x.lo ∧ g'.f.a.x.lo ≤ g'.f.a.x.hi ∧ g'.f.a.x.hi ≤ g.f.a.x.hi) (h2 : g.f.a.z.lo ≤ g'.f.a.z.lo ∧ g'.f.a.z.lo ≤ g'.f.a.z.hi ∧ g'.f.a.z.hi ≤ g.f.a.z.hi)
    (h3 : g.f.s.x.lo ≤ g'.f.s.x.lo ∧ g'.f.s.x.lo ≤ g'.f.s.x.hi ∧ g'.f.s.x.hi ≤ g.f.s.x.hi) (h4 : g.f.s.z.lo ≤ g'.f.s.z.lo ∧ g'.f.s.z.lo ≤ g'.f.s.z.hi ∧ g'.f.s.z.hi ≤ g.f.s.z.hi)
    (hn : g'.n = g.n) (hso : g'.so = g.so) (hle : g'.le = g.le) (hre : g'.re = g.re) (hbe : g'.be = g.be) (h : sureB g bs r k = true) : sureB g' bs r k = true := by
  have hg' := Fg.ok_iff.1 hg
  have hf' := Fl.ok_iff.1 hg'.1
  have hkk : (g.k : Int) = g.mo - g.le + 1 := by unfold Fg.k; omega
  have hh : ∀ t, hnd g' bs t = hnd g bs t := fun t => by unfold hnd; rw [hn]
  have m1 := Int.mul_le_mul_of_nonneg_left h3.1 (show 0 ≤ g.le + (k : Int) by omega)
  have m2 := Int.mul_le_mul_of_nonneg_left h3.2.2 (show 0 ≤ g.le + (k : Int) by omega)
  have m3 := Int.mul_le_mul_of_nonneg_left h4.1 (show 0 ≤ g.le + (k : Int) by omega)
  have m4 := Int.mul_le_mul_of_nonneg_left h4.2.2 (show 0 ≤ g.le + (k : Int) by omega)
  have hgr : gr [g'.f.s.x.lo, g'.f.s.x.hi, g'.f.s.z.lo - 98 * (g.le + k), g'.f.s.z.hi - 98 * (g.le + k)] ≤ gr [g.f.s.x.lo, g.f.s.x.hi, g.f.s.z.lo - 98 * (g.le + k), g.f.s.z.hi - 98 * (g.le + k)] := by
    clear h m1 m2 m3 m4 hf' hg'
    obtain ⟨q0, q1, q2, q3, q4⟩ := gr_ge g.f.s.x.lo g.f.s.x.hi (g.f.s.z.lo - 98 * (g.le + k)) (g.f.s.z.hi - 98 * (g.le + k))
    generalize gr [g.f.s.x.lo, g.f.s.x.hi, g.f.s.z.lo - 98 * (g.le + k), g.f.s.z.hi - 98 * (g.le + k)] = G at *
    refine (gr_bd _ G q0 fun x hx => ?_).2
    simp only [List.mem_cons, List.not_mem_nil, or_false] at hx
    rcases hx with rfl | rfl | rfl | rfl <;> omega
  have hld : ldF g'.f g.so (g.le + k) ≤ ldF g.f g.so (g.le + k) := by
    unfold ldF
    rw [hm]
    have := Int.ediv_le_ediv (c := g.so) (by omega) (show gr [g'.f.s.x.lo, g'.f.s.x.hi, g'.f.s.z.lo - 98 * (g.le + k), g'.f.s.z.hi - 98 * (g.le + k)] + g.so - 1 ≤ gr [g.f.s.x.lo, g.f.s.x.hi, g.f.s.z.lo - 98 * (g.le + k), g.f.s.z.hi - 98 * (g.le + k)] + g.so - 1 by omega)
    exact Int.mul_le_mul_of_nonneg_left (by omega) (by omega)
  unfold sureB nearB at h ⊢
  rw [hso, hle, hre, hbe, hh]
  simp only [Bool.and_eq_true, decide_eq_true_eq] at h ⊢
  obtain ⟨q1, ⟨q2, q3⟩, q4, q5⟩ := h
  simp only [Fl.af] at q2 q3 q4 q5 ⊢
  generalize hnd g bs (r + g.le + (k : Int)) = H at *
  clear hg' hf' hgr
  exact ⟨by omega, ⟨by omega, by omega⟩, by omega, by omega⟩

theorem conv_cat (g : Fg) (bs : List Bx) (r : Int) (hg : g.ok bs = true) (hl : bs.length ≤ 1000000) (hr : 0 ≤ r ∧ r ≤ 6000) : ∃ V : Option Addr × Nat → Value,
    (∀ w, Rd 4 Bx.cs (.slice g.o g.n g.c) bs w → Calls Try.prog 25 #[g.v] w fun e w' => ∃ y : Option Addr × Nat, e = .returned (V y) ∧ Below w.heap.size w w' ∧ St w.heap.size (Rd 4 Bx.cs (.slice y.1 g.n y.2) bs) w') ∧
    (∀ y w, Rd 4 Bx.cs (.slice y.1 g.n y.2) bs w → Calls Try.prog 24 #[V y, iv r] w fun e w' => ∃ z : YS (catL g bs r g.k), e = .returned (.tuple #[sV (catL g bs r g.k).length z.1, iv 0]) ∧ Below w.heap.size w w' ∧ St w.heap.size (Rd 1 iF (sV (catL g bs r g.k).length z.1) (catL g bs r g.k)) w') :=
  ⟨fun y => (g.at y).v, fun w h => Flight_ok g bs w h hl, fun y w h => fam_ys (F := fun z => .tuple #[sV (catL g bs r g.k).length z, iv 0]) (Cat_yes g bs y r w h hl hg hr)⟩

abbrev ub (n : Int) : Value := .int .u8 n
set_option maxRecDepth 100000 in
theorem FlightSteady_ok (g : Fg) (bs : List Bx) (rel ra ba w0 w1 w2 w3 w4 w5 w6 w7 : Int) (w : World) (hrd : Rd 4 Bx.cs (.slice g.o g.n g.c) bs w) (hrel : 0 ≤ rel ∧ rel ≤ 65535) (hra : 0 ≤ ra ∧ ra ≤ 65535) (hba : 0 ≤ ba ∧ ba ≤ 65535)
    (h0 : 0 ≤ w0 ∧ w0 ≤ 255) (h1 : 0 ≤ w1 ∧ w1 ≤ 255) (h2 : 0 ≤ w2 ∧ w2 ≤ 255) (h3 : 0 ≤ w3 ∧ w3 ≤ 255) (h4 : 0 ≤ w4 ∧ w4 ≤ 255) (h5 : 0 ≤ w5 ∧ w5 ≤ 255) (h6 : 0 ≤ w6 ∧ w6 ≤ 255) (h7 : 0 ≤ w7 ∧ w7 ≤ 255) :
    Calls Try.prog 7 #[g.v, .int .u16 rel, .int .u16 ra, .int .u16 ba, .agg #[ub w0, ub w1, ub w2, ub w3, ub w4, ub w5, ub w6, ub w7]] w fun e w' => e = .returned (.bool true) ∧ Below w.heap.size w w' := by
  have hn : g.n = bs.length := hrd.len
  refine calls_val env mixed Try.func7 has7 Try.ntmps7 [g.v, .int .u16 rel, .int .u16 ra, .int .u16 ba, .agg #[ub w0, ub w1, ub w2, ub w3, ub w4, ub w5, ub w6, ub w7]] (by simp) ?_
  by_cases hfew : (g.n : Int) ≤ 700
  case neg =>
    repeat'
      conv => whnf
      first
        | refine And.intro (a := drawB _ = true) (by kernel_rfl) ?_
        | refine And.intro (a := (_ : Bool) = true) rfl ?_
        | refine And.intro (a := (_ : Bool) = true ∧ (_ : Bool) = true) ⟨rfl, rfl⟩ ?_
        | refine And.intro (a := (_ : Bool) = true ∧ (_ : List _) = []) ⟨rfl, rfl⟩ ?_
        | refine And.intro (a := IR _ _) (And.intro (by omega) (by omega)) ?_
        | refine And.intro (a := (0 : Int) ≤ _ ∧ _ < _) (And.intro (by omega) (by omega)) ?_
        | refine And.intro (a := (_ : Bool) = true) (by simp only [Nat.beq_refl]; rfl) ?_
        | refine And.intro (a := ((_ : Bool) = true → 1 ≤ _) ∧ _ ≤ 9223372036854775807 ∧ _ ≤ 140737488355328) ⟨fun h => (by first | omega | cases h), by omega, by omega⟩ ?_
        | refine splT ?_
        | refine splF ?_
        | refine splNot ?_
        | (refine splIn (fun hc => ?_) (fun hc => ?_) <;> first | (exfalso; omega) | (exfalso; dsimp only at hc; omega) | skip)
        | (refine splD (fun hc => ?_) (fun hc => ?_) <;> first | (exfalso; omega) | (exfalso; dsimp only at hc; omega) | skip)
        | (refine splE (fun hc => ?_) (fun hc => ?_) <;> first | (exfalso; omega) | (exfalso; dsimp only at hc; omega) | skip)
        | (refine splNE (fun hc => ?_) (fun hc => ?_) <;> first | (exfalso; omega) | (exfalso; dsimp only at hc; omega) | skip)
        | ((with_reducible show CallEv _ _ 23 _ _ _ _ _); refine callE (k := 23) (fun β w' hbw => few_ok g _) ?_)
        | ((with_reducible show CallEv _ _ 20 _ _ _ _ _); refine callE (k := 20) (fun β w' hbw => wakes_ok _) ?_)
    exact ⟨fun β => rfl, fun w' h => h⟩
  have hl : bs.length ≤ 1000000 := by omega
  by_cases hg : g.ok bs = true
  case neg =>
    have hR : ∀ w', Below w.heap.size w w' → Calls Try.prog 26 #[g.v] w' fun e w'' => e = .returned (.bool false) ∧ Below w'.heap.size w' w'' := fun w' hb => by
      have := Right_ok g bs w' (hrd.below hb) hl
      rwa [Bool.eq_false_iff.2 hg] at this
    repeat'
      conv => whnf
      first
        | refine And.intro (a := drawB _ = true) (by kernel_rfl) ?_
        | refine And.intro (a := (_ : Bool) = true) rfl ?_
        | refine And.intro (a := (_ : Bool) = true ∧ (_ : Bool) = true) ⟨rfl, rfl⟩ ?_
        | refine And.intro (a := (_ : Bool) = true ∧ (_ : List _) = []) ⟨rfl, rfl⟩ ?_
        | refine And.intro (a := IR _ _) (And.intro (by omega) (by omega)) ?_
        | refine And.intro (a := (0 : Int) ≤ _ ∧ _ < _) (And.intro (by omega) (by omega)) ?_
        | refine And.intro (a := (_ : Bool) = true) (by simp only [Nat.beq_refl]; rfl) ?_
        | refine And.intro (a := ((_ : Bool) = true → 1 ≤ _) ∧ _ ≤ 9223372036854775807 ∧ _ ≤ 140737488355328) ⟨fun h => (by first | omega | cases h), by omega, by omega⟩ ?_
        | refine splT ?_
        | refine splF ?_
        | refine splNot ?_
        | (refine splIn (fun hc => ?_) (fun hc => ?_) <;> first | (exfalso; omega) | (exfalso; dsimp only at hc; omega) | skip)
        | (refine splD (fun hc => ?_) (fun hc => ?_) <;> first | (exfalso; omega) | (exfalso; dsimp only at hc; omega) | skip)
        | (refine splE (fun hc => ?_) (fun hc => ?_) <;> first | (exfalso; omega) | (exfalso; dsimp only at hc; omega) | skip)
        | (refine splNE (fun hc => ?_) (fun hc => ?_) <;> first | (exfalso; omega) | (exfalso; dsimp only at hc; omega) | skip)
        | ((with_reducible show CallEv _ _ 23 _ _ _ _ _); refine callE (k := 23) (fun β w' hbw => few_ok g _) ?_)
        | ((with_reducible show CallEv _ _ 26 _ _ _ _ _); refine callE (k := 26) (fun β w' hbw => hR _ hbw) ?_)
        | ((with_reducible show CallEv _ _ 20 _ _ _ _ _); refine callE (k := 20) (fun β w' hbw => wakes_ok _) ?_)
    exact ⟨fun β => rfl, fun w' h => h⟩
  have hR : ∀ w', Below w.heap.size w w' → Calls Try.prog 26 #[g.v] w' fun e w'' => e = .returned (.bool true) ∧ Below w'.heap.size w' w'' := fun w' hb => by
    have := Right_ok g bs w' (hrd.below hb) hl
    rwa [hg] at this
  have hg' := Fg.ok_iff.1 hg
  have hf' := Fl.ok_iff.1 hg'.1
  have m0 := Int.emod_nonneg rel (b := 6001) (by omega)
  have m1 := Int.emod_lt_of_pos rel (b := 6001) (by omega)
  have hrr : ∃ r, rel % 6001 = r := ⟨_, rfl⟩
  obtain ⟨r, hr⟩ := hrr
  rw [hr] at m0 m1
  have n1 := nar_bd (r := g.f.a.x) (a := w0) (b := w1) (by omega)
  have n2 := nar_bd (r := g.f.a.z) (a := w2) (b := w3) (by omega)
  have n3 := nar_bd (r := g.f.s.x) (a := w4) (b := w5) (by omega)
  have n4 := nar_bd (r := g.f.s.z) (a := w6) (b := w7) (by omega)
  have e1 : imin 10000000 (g.re + ra) = min 10000000 (g.re + ra) := imin_eq _ _
  have e2 : imin 100000000 (g.be + ba) = min 100000000 (g.be + ba) := imin_eq _ _
  have k1 := fun w' => narrow_ok g.f.a.x w0 w1 w' (by omega) (by omega) (by omega) h0 h1
  have k2 := fun w' => narrow_ok g.f.a.z w2 w3 w' (by omega) (by omega) (by omega) h2 h3
  have k3 := fun w' => narrow_ok g.f.s.x w4 w5 w' (by omega) (by omega) (by omega) h4 h5
  have k4 := fun w' => narrow_ok g.f.s.z w6 w7 w' (by omega) (by omega) (by omega) h6 h7
  have hkk : (g.k : Int) = g.mo - g.le + 1 := by unfold Fg.k; omega
  obtain ⟨gx, hgx⟩ : ∃ G : Fg, G = ⟨g.f, g.o, g.n, g.c, imin 10000000 (g.re + ra), g.so, imin 100000000 (g.be + ba), g.le, g.mo⟩ := ⟨_, rfl⟩
  obtain ⟨gy, hgy⟩ : ∃ G : Fg, G = ⟨⟨⟨nar g.f.a.x w0 w1, nar g.f.a.z w2 w3⟩, ⟨nar g.f.s.x w4 w5, nar g.f.s.z w6 w7⟩, g.f.m⟩, g.o, g.n, g.c, g.re, g.so, g.be, g.le, g.mo⟩ := ⟨_, rfl⟩
  have hX : gx.ok bs = true := by
    rw [Fg.ok_iff, hgx]; exact ⟨hg'.1, hg'.2.1, hg'.2.2.1, by dsimp only; omega, hg'.2.2.2.2.1, by dsimp only; omega, hg'.2.2.2.2.2.2⟩
  have hY : gy.ok bs = true := by
    rw [Fg.ok_iff, hgy]; exact ⟨Fl.ok_iff.2 (by dsimp only; omega), hg'.2⟩
  have sX : ∀ x ∈ catL g bs r g.k, x ∈ catL gx bs r g.k := catL_sub (by rw [hgx]) fun k _ h => sure_more (g := g) k (by rw [hgx]) (by rw [hgx]) (by rw [hgx]) (by rw [hgx]) (by rw [hgx]; dsimp only; omega) (by rw [hgx]; dsimp only; omega) h
  have sY : ∀ x ∈ catL g bs r g.k, x ∈ catL gy bs r g.k := catL_sub (by rw [hgy]) fun k hk h => sure_less (g := g) k hg hk (by rw [hgy]) (by rw [hgy]; exact n1) (by rw [hgy]; exact n2) (by rw [hgy]; exact n3) (by rw [hgy]; exact n4) (by rw [hgy]) (by rw [hgy]) (by rw [hgy]) (by rw [hgy]) (by rw [hgy]) h
  have l1 := catL_len g bs r g.k
  have l2 := catL_len gx bs r g.k
  have l3 := catL_len gy bs r g.k
  obtain ⟨V1, a1, b1⟩ := conv_cat g bs r hg hl (by omega)
  obtain ⟨V2, a2, b2⟩ := conv_cat gx bs r hX hl (by omega)
  obtain ⟨V3, a3, b3⟩ := conv_cat gy bs r hY hl (by omega)
  rw [show gx.k = g.k from by rw [hgx]; rfl] at b2
  rw [show gy.k = g.k from by rw [hgy]; rfl] at b3
  generalize catL g bs r g.k = L1 at *
  generalize catL gx bs r g.k = L2 at *
  generalize catL gy bs r g.k = L3 at *
  have wX := fun y z w' hx hy => within_yes y z L1 L2 w' hx hy (by omega) (by omega) sX
  have wY := fun y z w' hx hy => within_yes y z L1 L3 w' hx hy (by omega) (by omega) sY
  clear hX hY sX sY
  subst hgx hgy
  repeat'
    conv => whnf
    first
      | refine And.intro (a := drawB _ = true) (by kernel_rfl) ?_
      | refine And.intro (a := (_ : Bool) = true) rfl ?_
      | refine And.intro (a := (_ : Bool) = true ∧ (_ : Bool) = true) ⟨rfl, rfl⟩ ?_
      | refine And.intro (a := (_ : Bool) = true ∧ (_ : List _) = []) ⟨rfl, rfl⟩ ?_
      | refine And.intro (a := IR _ _) (And.intro (by omega) (by omega)) ?_
      | refine And.intro (a := (0 : Int) ≤ _ ∧ _ < _) (And.intro (by omega) (by omega)) ?_
      | refine And.intro (a := (_ : Bool) = true) (by simp only [Nat.beq_refl]; rfl) ?_
      | refine And.intro (a := ((_ : Bool) = true → 1 ≤ _) ∧ _ ≤ 9223372036854775807 ∧ _ ≤ 140737488355328) ⟨fun h => (by first | omega | cases h), by omega, by omega⟩ ?_
      | refine splT ?_
      | refine splF ?_
      | refine splNot ?_
      | (refine splIn (fun hc => ?_) (fun hc => ?_) <;> first | (exfalso; omega) | (exfalso; dsimp only at hc; omega) | skip)
      | (refine splD (fun hc => ?_) (fun hc => ?_) <;> first | (exfalso; omega) | (exfalso; dsimp only at hc; omega) | skip)
      | (refine splE (fun hc => ?_) (fun hc => ?_) <;> first | (exfalso; omega) | (exfalso; dsimp only at hc; omega) | skip)
      | (refine splNE (fun hc => ?_) (fun hc => ?_) <;> first | (exfalso; omega) | (exfalso; dsimp only at hc; omega) | skip)
      | ((with_reducible show CallEv _ _ 23 _ _ _ _ _); refine callE (k := 23) (fun β w' hbw => few_ok g _) ?_)
      | ((with_reducible show CallEv _ _ 26 _ _ _ _ _); refine callE (k := 26) (fun β w' hbw => hR _ hbw) ?_)
      | refine Exists.intro (α := Value) (iv rel) ⟨cv16 rel hrel, ?_⟩
      | refine Exists.intro (α := Value) (iv ra) ⟨cv16 ra hra, ?_⟩
      | refine Exists.intro (α := Value) (iv ba) ⟨cv16 ba hba, ?_⟩
      | refine remE (by omega) (by omega) ?_; rw [hr]
      | ((with_reducible show CallEv _ _ 24 [.v (V1 _), _] _ _ _ _); refine callF [] (fun z : YS L1 => .tuple #[sV L1.length z.1, iv 0]) (fun z => Rd 1 iF (sV L1.length z.1) L1) (fun β w' _ hbw => b1 _ w' hbw.2) ?_; rintro ⟨z1, hz1⟩)
      | ((with_reducible show CallEv _ _ 24 [.v (V2 _), _] _ _ _ _); refine callF [] (fun z : YS L2 => .tuple #[sV L2.length z.1, iv 0]) (fun z => Rd 1 iF (sV L2.length z.1) L2) (fun β w' _ hbw => b2 _ w' hbw.2) ?_; rintro ⟨z2, hz2⟩)
      | ((with_reducible show CallEv _ _ 24 [.v (V3 _), _] _ _ _ _); refine callF [] (fun z : YS L3 => .tuple #[sV L3.length z.1, iv 0]) (fun z => Rd 1 iF (sV L3.length z.1) L3) (fun β w' _ hbw => b3 _ w' hbw.2) ?_; rintro ⟨z3, hz3⟩)
      | ((with_reducible show CallEv _ _ 31 [.agg [.v (iv g.f.a.x.lo), _], _, _] _ _ _ _); refine callE (fun β w' hbw => k1 _) ?_)
      | ((with_reducible show CallEv _ _ 31 [.agg [.v (iv g.f.a.z.lo), _], _, _] _ _ _ _); refine callE (fun β w' hbw => k2 _) ?_)
      | ((with_reducible show CallEv _ _ 31 [.agg [.v (iv g.f.s.x.lo), _], _, _] _ _ _ _); refine callE (fun β w' hbw => k3 _) ?_)
      | ((with_reducible show CallEv _ _ 31 [.agg [.v (iv g.f.s.z.lo), _], _, _] _ _ _ _); refine callE (fun β w' hbw => k4 _) ?_)
      | ((with_reducible show CallEv _ _ 25 [.agg [.v (iv g.f.a.x.lo), _, _, _, _, _, _, _, _, _, .v (iv g.re), _, _, _, _]] _ _ _ _); refine callF [] V1 (fun y => Rd 4 Bx.cs (.slice y.1 g.n y.2) bs) (fun β w' _ hbw => a1 w' (hrd.below (by first | exact hbw | exact hbw.1 | exact hbw.1.1 | exact hbw.1.1.1 | exact hbw.1.1.1.1 | exact hbw.1.1.1.1.1 | exact hbw.1.1.1.1.1.1 | exact hbw.1.1.1.1.1.1.1))) ?_; intro y1)
      | ((with_reducible show CallEv _ _ 25 [.agg [.v (iv g.f.a.x.lo), _, _, _, _, _, _, _, _, _, .v (iv (imin _ _)), _, _, _, _]] _ _ _ _); refine callF [] V2 (fun y => Rd 4 Bx.cs (.slice y.1 g.n y.2) bs) (fun β w' _ hbw => a2 w' (hrd.below (by first | exact hbw | exact hbw.1 | exact hbw.1.1 | exact hbw.1.1.1 | exact hbw.1.1.1.1 | exact hbw.1.1.1.1.1 | exact hbw.1.1.1.1.1.1 | exact hbw.1.1.1.1.1.1.1))) ?_; intro y2)
      | ((with_reducible show CallEv _ _ 25 [.agg [.v (iv (nar g.f.a.x _ _).lo), _, _, _, _, _, _, _, _, _, _, _, _, _, _]] _ _ _ _); refine callF [] V3 (fun y => Rd 4 Bx.cs (.slice y.1 g.n y.2) bs) (fun β w' _ hbw => a3 w' (hrd.below (by first | exact hbw | exact hbw.1 | exact hbw.1.1 | exact hbw.1.1.1 | exact hbw.1.1.1.1 | exact hbw.1.1.1.1.1 | exact hbw.1.1.1.1.1.1 | exact hbw.1.1.1.1.1.1.1))) ?_; intro y3)
      | ((with_reducible show CallEv _ _ 32 [.v (sV L1.length _), .v (sV L2.length _)] _ _ _ _); refine callE (fun β w' hbw => wX _ _ w' hbw.1.1.1.1.2 hbw.1.1.2) ?_)
      | ((with_reducible show CallEv _ _ 32 [.v (sV L1.length _), .v (sV L3.length _)] _ _ _ _); refine callE (fun β w' hbw => wY _ _ w' hbw.1.1.1.1.2 hbw.2) ?_)
      | ((with_reducible show CallEv _ _ 20 _ _ _ _ _); refine callE (k := 20) (fun β w' hbw => wakes_ok _) ?_)
  all_goals exact ⟨fun β => rfl, fun w' h => (by first | exact h | exact h.1 | exact h.1.1 | exact h.1.1.1 | exact h.1.1.1.1 | exact h.1.1.1.1.1 | exact h.1.1.1.1.1.1 | exact h.1.1.1.1.1.1.1)⟩
end Go.Proofs.Ytlehjapeomallaa
