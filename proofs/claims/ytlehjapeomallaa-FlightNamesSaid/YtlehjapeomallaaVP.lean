/- The chain of an act: what the function returns. -/
import Derived.Test.YtlehjapeomallaaVO
namespace Go.Proofs.Ytlehjapeomallaa.V
open Go Tx Go.RowKit
set_option linter.unusedSimpArgs false
set_option linter.unusedVariables false

/-- The error of an act and numbers. -/
def chE (act : List (Fg × List Bx)) (need rst : Int) : Int :=
  if (1 ≤ (act.length : Int) ∧ (act.length : Int) ≤ 12) then (if act.all okP = true then (if (1 ≤ need ∧ need ≤ 100) ∧ (0 ≤ rst ∧ rst ≤ 1000) then 0 else 2) else 1) else 3

set_option maxRecDepth 100000 in
theorem Chain_no (act : List (Fg × List Bx)) (o : Option Addr) (c : Nat) (need rst e : Int) (w : World) (hrd : Rd 15 csP (.slice o act.length c) act w) (hl : act.length ≤ 1000000)
    (hbx : ∀ p ∈ act, Rd 4 Bx.cs (.slice p.1.o p.1.n p.1.c) p.2 w ∧ p.2.length ≤ 1000000) (he : chE act need rst = e) (h0 : e ≠ 0) :
    Calls Try.prog 50 #[.slice o act.length c, iv need, iv rst] w fun x w' => x = .returned (.tuple #[.slice none 0 0, iv 0, iv e]) ∧ Below w.heap.size w w' := by
  refine calls_val env mixed Try.func50 has50 Try.ntmps50 [.slice o act.length c, iv need, iv rst] (by simp) ?_
  have hall := fun w' (hb : Below w.heap.size w w') => all75_ok act o c w' (hrd.below hb) hl fun p hp => ⟨Rd.below (hbx p hp).1 hb, (hbx p hp).2⟩
  unfold chE at he
  by_cases h1 : (1 ≤ (act.length : Int) ∧ (act.length : Int) ≤ 12)
  · rw [if_pos h1] at he
    cases h2 : act.all okP with
    | false =>
      rw [h2] at he hall
      rw [if_neg (by decide)] at he
      subst he
      repeat'
        conv => whnf
        first
          | refine And.intro (a := drawB _ = true) (by kernel_rfl) ?_
          | refine And.intro (a := (_ : Bool) = true) rfl ?_
          | refine And.intro (a := (_ : Bool) = true ∧ (_ : Bool) = true) ⟨rfl, rfl⟩ ?_
          | refine And.intro (a := (_ : Bool) = true ∧ (_ : List _) = []) ⟨rfl, rfl⟩ ?_
          | refine And.intro (a := IR _ _) (And.intro (by omega) (by omega)) ?_
          | refine wrapE (And.intro (by omega) (by omega)) ?_
          | refine And.intro (a := (0 : Int) ≤ _ ∧ _ < _) (And.intro (by omega) (by omega)) ?_
          | refine And.intro (a := (_ : Bool) = true) (by simp only [Nat.beq_refl]; rfl) ?_
          | refine And.intro (a := ((_ : Bool) = true → 1 ≤ _) ∧ _ ≤ 9223372036854775807 ∧ _ ≤ 140737488355328) ⟨fun h => (by first | omega | cases h), by omega, by omega⟩ ?_
          | refine splT ?_
          | refine splF ?_
          | refine splNot ?_
          | (refine splIn (fun hc => ?_) (fun hc => ?_) <;> first | (exfalso; omega) | (exfalso; dsimp only at hc; omega) | skip)
          | (refine splD (fun hc => ?_) (fun hc => ?_) <;> first | (exfalso; omega) | (exfalso; dsimp only at hc; omega) | skip)
          | (refine splE (fun hc => ?_) (fun hc => ?_) <;> first | (exfalso; omega) | (exfalso; dsimp only at hc; omega) | skip)
          | (refine splNE (fun hc => ?_) (fun hc => ?_) <;> first | (exfalso; omega) | (exfalso; dsimp only at hc; omega) | skip)
          | ((with_reducible show CallEv _ _ 58 _ _ _ _ _); refine callE (k := 58) (fun β w' hbw => within_ok _ _ _ _) ?_)
          | ((with_reducible show CallEv _ _ 75 _ _ _ _ _); refine callE (k := 75) (fun β w' hbw => hall _ hbw) ?_)
      all_goals first | exact ⟨fun β => rfl, fun w' h => h⟩ | skip
    | true =>
      rw [h2, if_pos rfl] at he
      rw [h2] at hall
      by_cases h3 : (1 ≤ need ∧ need ≤ 100) ∧ (0 ≤ rst ∧ rst ≤ 1000)
      · rw [if_pos h3] at he; exact absurd he.symm h0
      · rw [if_neg h3] at he
        subst he
        repeat'
          conv => whnf
          first
            | refine And.intro (a := drawB _ = true) (by kernel_rfl) ?_
            | refine And.intro (a := (_ : Bool) = true) rfl ?_
            | refine And.intro (a := (_ : Bool) = true ∧ (_ : Bool) = true) ⟨rfl, rfl⟩ ?_
            | refine And.intro (a := (_ : Bool) = true ∧ (_ : List _) = []) ⟨rfl, rfl⟩ ?_
            | refine And.intro (a := IR _ _) (And.intro (by omega) (by omega)) ?_
            | refine wrapE (And.intro (by omega) (by omega)) ?_
            | refine And.intro (a := (0 : Int) ≤ _ ∧ _ < _) (And.intro (by omega) (by omega)) ?_
            | refine And.intro (a := (_ : Bool) = true) (by simp only [Nat.beq_refl]; rfl) ?_
            | refine And.intro (a := ((_ : Bool) = true → 1 ≤ _) ∧ _ ≤ 9223372036854775807 ∧ _ ≤ 140737488355328) ⟨fun h => (by first | omega | cases h), by omega, by omega⟩ ?_
            | refine splT ?_
            | refine splF ?_
            | refine splNot ?_
            | (refine splIn (fun hc => ?_) (fun hc => ?_) <;> first | (exfalso; omega) | (exfalso; dsimp only at hc; omega) | skip)
            | (refine splD (fun hc => ?_) (fun hc => ?_) <;> first | (exfalso; omega) | (exfalso; dsimp only at hc; omega) | skip)
            | (refine splE (fun hc => ?_) (fun hc => ?_) <;> first | (exfalso; omega) | (exfalso; dsimp only at hc; omega) | skip)
            | (refine splNE (fun hc => ?_) (fun hc => ?_) <;> first | (exfalso; omega) | (exfalso; dsimp only at hc; omega) | skip)
            | ((with_reducible show CallEv _ _ 58 _ _ _ _ _); refine callE (k := 58) (fun β w' hbw => within_ok _ _ _ _) ?_)
            | ((with_reducible show CallEv _ _ 75 _ _ _ _ _); refine callE (k := 75) (fun β w' hbw => hall _ hbw) ?_)
        all_goals first | exact ⟨fun β => rfl, fun w' h => h⟩ | skip
  · rw [if_neg h1] at he
    subst he
    repeat'
      conv => whnf
      first
        | refine And.intro (a := drawB _ = true) (by kernel_rfl) ?_
        | refine And.intro (a := (_ : Bool) = true) rfl ?_
        | refine And.intro (a := (_ : Bool) = true ∧ (_ : Bool) = true) ⟨rfl, rfl⟩ ?_
        | refine And.intro (a := (_ : Bool) = true ∧ (_ : List _) = []) ⟨rfl, rfl⟩ ?_
        | refine And.intro (a := IR _ _) (And.intro (by omega) (by omega)) ?_
        | refine wrapE (And.intro (by omega) (by omega)) ?_
        | refine And.intro (a := (0 : Int) ≤ _ ∧ _ < _) (And.intro (by omega) (by omega)) ?_
        | refine And.intro (a := (_ : Bool) = true) (by simp only [Nat.beq_refl]; rfl) ?_
        | refine And.intro (a := ((_ : Bool) = true → 1 ≤ _) ∧ _ ≤ 9223372036854775807 ∧ _ ≤ 140737488355328) ⟨fun h => (by first | omega | cases h), by omega, by omega⟩ ?_
        | refine splT ?_
        | refine splF ?_
        | refine splNot ?_
        | (refine splIn (fun hc => ?_) (fun hc => ?_) <;> first | (exfalso; omega) | (exfalso; dsimp only at hc; omega) | skip)
        | (refine splD (fun hc => ?_) (fun hc => ?_) <;> first | (exfalso; omega) | (exfalso; dsimp only at hc; omega) | skip)
        | (refine splE (fun hc => ?_) (fun hc => ?_) <;> first | (exfalso; omega) | (exfalso; dsimp only at hc; omega) | skip)
        | (refine splNE (fun hc => ?_) (fun hc => ?_) <;> first | (exfalso; omega) | (exfalso; dsimp only at hc; omega) | skip)
        | ((with_reducible show CallEv _ _ 58 _ _ _ _ _); refine callE (k := 58) (fun β w' hbw => within_ok _ _ _ _) ?_)
    all_goals first | exact ⟨fun β => rfl, fun w' h => h⟩ | skip

abbrev seeC (g : Fg) (x : SeeX) : List SV := [.v (iv g.f.a.x.lo), .v (iv g.f.a.x.hi), .v (iv g.f.a.z.lo), .v (iv g.f.a.z.hi), .v (iv g.f.s.x.lo), .v (iv g.f.s.x.hi), .v (iv g.f.s.z.lo), .v (iv g.f.s.z.hi), .v (iv g.f.m), .v (.slice g.o g.n g.c), .v (iv g.re), .v (iv g.so), .v (iv g.be), .v (iv g.le), .v (iv g.mo), .v (x.bv g.k), .v (x.lv g.k)]
def iE : Option Nat → Int
  | none => 0
  | some i => i
def eE : Option Nat → Int
  | none => 0
  | some _ => 7

set_option maxRecDepth 100000 in
theorem Chain_yes (act : List (Fg × List Bx)) (o : Option Addr) (c : Nat) (need rst : Int) (w : World) (hrd : Rd 15 csP (.slice o act.length c) act w) (hl : 1 ≤ act.length ∧ act.length ≤ 12) (hn : 1 ≤ need ∧ need ≤ 100) (hr : 0 ≤ rst ∧ rst ≤ 1000)
    (hbx : ∀ p ∈ act, Rd 4 Bx.cs (.slice p.1.o p.1.n p.1.c) p.2 w ∧ p.1.ok p.2 = true ∧ p.2.length ≤ 1000000) :
    Calls Try.prog 50 #[.slice o act.length c, iv need, iv rst] w fun e w' => ∃ y : Option Addr × Nat, e = .returned (.tuple #[sV (chn need rst act 0 0 []).1.length y, iv (iE (chn need rst act 0 0 []).2), iv (eE (chn need rst act 0 0 []).2)]) ∧ Below w.heap.size w w' ∧
      St w.heap.size (Rd 2 wF (sV (chn need rst act 0 0 []).1.length y) (chn need rst act 0 0 []).1) w' := by
  refine calls_fam env mixed Try.func50 has50 Try.ntmps50 [.slice o act.length c, iv need, iv rst] (by simp) ?_
  have hall := fun w' (hb : Below w.heap.size w w') => all75_ok act o c w' (hrd.below hb) (by omega) fun p hp => ⟨Rd.below (hbx p hp).1 hb, (hbx p hp).2.2⟩
  have ht : act.all okP = true := by rw [List.all_eq_true]; exact fun p hp => (hbx p hp).2.1
  rw [ht] at hall
  repeat'
    conv => whnf
    first
      | refine And.intro (a := drawB _ = true) (by kernel_rfl) ?_
      | refine And.intro (a := (_ : Bool) = true) rfl ?_
      | refine And.intro (a := (_ : Bool) = true ∧ (_ : Bool) = true) ⟨rfl, rfl⟩ ?_
      | refine And.intro (a := (_ : Bool) = true ∧ (_ : List _) = []) ⟨rfl, rfl⟩ ?_
      | refine And.intro (a := IR _ _) (And.intro (by omega) (by omega)) ?_
      | refine wrapE (And.intro (by omega) (by omega)) ?_
      | refine And.intro (a := (0 : Int) ≤ _ ∧ _ < _) (And.intro (by omega) (by omega)) ?_
      | refine And.intro (a := (_ : Bool) = true) (by simp only [Nat.beq_refl]; rfl) ?_
      | refine And.intro (a := ((_ : Bool) = true → 1 ≤ _) ∧ _ ≤ 9223372036854775807 ∧ _ ≤ 140737488355328) ⟨fun h => (by first | omega | cases h), by omega, by omega⟩ ?_
      | refine splT ?_
      | refine splF ?_
      | refine splNot ?_
      | (refine splIn (fun hc => ?_) (fun hc => ?_) <;> first | (exfalso; omega) | (exfalso; dsimp only at hc; omega) | skip)
      | (refine splD (fun hc => ?_) (fun hc => ?_) <;> first | (exfalso; omega) | (exfalso; dsimp only at hc; omega) | skip)
      | (refine splE (fun hc => ?_) (fun hc => ?_) <;> first | (exfalso; omega) | (exfalso; dsimp only at hc; omega) | skip)
      | (refine splNE (fun hc => ?_) (fun hc => ?_) <;> first | (exfalso; omega) | (exfalso; dsimp only at hc; omega) | skip)
      | ((with_reducible show CallEv _ _ 58 _ _ _ _ _); refine callE (k := 58) (fun β w' hbw => within_ok _ _ _ _) ?_)
      | ((with_reducible show CallEv _ _ 75 _ _ _ _ _); refine callE (k := 75) (fun β w' hbw => hall _ hbw) ?_)
  refine loopN 2 (fun x : Nat × Int × List (Int × Int) => [(1, .v (iv need)), (2, .v (iv rst)), (6, oSV 0 1 x.2.2), (9, .v (iv x.2.1)), (33, .v (.slice o act.length c)), (34, .v (iv act.length)), (35, .v (iv x.1))]) (fun x => oM 0 1 2 wF 97 x.2.2)
    (fun x => x.1 ≤ act.length ∧ (0 ≤ x.2.1 ∧ x.2.1 ≤ 7400) ∧ x.2.2.length ≤ x.1 ∧ chn need rst (act.drop x.1) x.1 x.2.1 x.2.2 = chn need rst act 0 0 []) (fun x => act.length - x.1) (0, 0, []) ⟨Nat.zero_le _, ⟨Int.le_refl _, by show (0 : Int) ≤ _; omega⟩, Nat.le_refl _, rfl⟩ ⟨rfl, rfl, rfl, rfl, rfl, rfl, rfl, trivial⟩ trivial (fun x _ => by obtain ⟨k, fr, L⟩ := x; cases L <;> exact ⟨rfl, rfl⟩) ?_
  rintro ⟨k, fr, L⟩ ⟨hk, hfr, hlk, hch⟩
  dsimp only at hk hfr hlk hch
  have hi : ((k + 1 : Nat) : Int) = (k : Int) + 1 := by omega
  rcases Nat.lt_or_ge k act.length with hkl | hkl
  · obtain ⟨⟨g, bs⟩, hb⟩ : ∃ b, act[k]? = some b := ⟨_, List.getElem?_eq_getElem hkl⟩
    obtain ⟨_, ad, rfl, _⟩ := hrd.some (by omega)
    have e0 := fun (w' : World) hw' => rd_ati (hrd.below (w' := w') hw') hb
    obtain ⟨hr1, hg, hbl⟩ := hbx _ (List.mem_of_getElem? hb)
    have hg' := Fg.ok_iff.1 hg
    dsimp only at hr1 hg hbl hg'
    rw [chn_drop hb] at hch
    rcases L with _ | ⟨l0, L⟩ <;> try simp only [List.length_cons] at hlk
    all_goals skip
    repeat'
      conv => whnf
      first
        | refine And.intro (a := drawB _ = true) (by kernel_rfl) ?_
        | refine And.intro (a := (_ : Bool) = true) rfl ?_
        | refine And.intro (a := (_ : Bool) = true ∧ (_ : Bool) = true) ⟨rfl, rfl⟩ ?_
        | refine And.intro (a := (_ : Bool) = true ∧ (_ : List _) = []) ⟨rfl, rfl⟩ ?_
        | refine And.intro (a := IR _ _) (And.intro (by omega) (by omega)) ?_
        | refine wrapE (And.intro (by omega) (by omega)) ?_
        | refine And.intro (a := (0 : Int) ≤ _ ∧ _ < _) (And.intro (by omega) (by omega)) ?_
        | refine And.intro (a := (_ : Bool) = true) (by simp only [Nat.beq_refl]; rfl) ?_
        | refine And.intro (a := ((_ : Bool) = true → 1 ≤ _) ∧ _ ≤ 9223372036854775807 ∧ _ ≤ 140737488355328) ⟨fun h => (by first | omega | cases h), by omega, by omega⟩ ?_
        | refine splT ?_
        | refine splF ?_
        | refine splNot ?_
        | (refine splIn (fun hc => ?_) (fun hc => ?_) <;> first | (exfalso; omega) | (exfalso; dsimp only at hc; omega) | skip)
        | (refine splD (fun hc => ?_) (fun hc => ?_) <;> first | (exfalso; omega) | (exfalso; dsimp only at hc; omega) | skip)
        | (refine splE (fun hc => ?_) (fun hc => ?_) <;> first | (exfalso; omega) | (exfalso; dsimp only at hc; omega) | skip)
        | (refine splNE (fun hc => ?_) (fun hc => ?_) <;> first | (exfalso; omega) | (exfalso; dsimp only at hc; omega) | skip)
        | refine Exists.intro (α := List Value) g.cs ⟨⟨rfl, fun w' hw' => e0 w' hw'⟩, ?_⟩
        | ((with_reducible show CallEv _ _ 62 _ _ _ _ _); refine callF [] (fun x : SeeX => g.sv (x.bv g.k) (x.lv g.k)) (fun x => St w.heap.size (x.hx g)) (fun β w' _ hbw => famS (by first | exact hbw | exact hbw.1 | exact hbw.1.1 | exact hbw.1.1.1 | exact hbw.1.1.1.1 | exact hbw.1.1.1.1.1 | exact hbw.1.1.1.1.1.1 | exact hbw.1.1.1.1.1.1.1) (fam (see_ok g w' hg'.1 (by omega) (by omega) (by omega) (by omega)))) ?_; intro x)
    · have hgood : ∀ r w', 0 ≤ r ∧ r ≤ 6000 → (Below w.heap.size w w' ∧ St w.heap.size (x.hx g) w') → Calls Try.prog 76 #[g.sv (x.bv g.k) (x.lv g.k), iv r] w' fun e W' => e = .returned (.bool (gd g bs r)) ∧ Below w'.heap.size w' W' :=
        fun r w' hr hb => good_ok g bs x r hg hr w' hb.2.now (hr1.below hb.1)
      refine loopE (fun j : Nat => [(1, .v (iv need)), (2, .v (iv rst)), (6, .v (.slice none 0 0)), (10, .v (iv k)), (11, .ptr 2 0), (12, .ptr 3 0), (13, .v (iv (rc (gd g bs) fr j))), (14, .v (iv (fr + j))), (33, .v (.slice (some ad) act.length c)), (34, .v (iv act.length)), (35, .v (iv k))])
        (fun _ => [(2, .cells (gss g) 54), (3, .cells (seeC g x) 123)])
        (fun j => j ≤ (6001 - fr).toNat ∧ srch (gd g bs) fr need ((6001 - fr).toNat - j) j = frs (g, bs) need fr) (fun j => (6001 - fr).toNat - j) 0 ⟨Nat.zero_le _, rfl⟩ ⟨rfl, rfl, rfl, rfl, rfl, rfl, rfl, by rw [Int.ofNat_zero, Int.add_zero]; rfl, rfl, rfl, rfl, trivial⟩ ⟨rfl, rfl, trivial⟩ (fun _ => ⟨rfl, rfl⟩) ?_
      intro j ⟨hj, hs⟩
      have hij : fr + ((j + 1 : Nat) : Int) = fr + (j : Int) + 1 := by omega
      have hrl := rc_le (gd g bs) fr j
      rcases Nat.lt_or_ge j (6001 - fr).toNat with hjl | hjl
      · obtain ⟨m, hm⟩ : ∃ m, (6001 - fr).toNat - j = m + 1 := ⟨(6001 - fr).toNat - j - 1, by omega⟩
        have hm2 : (6001 - fr).toNat - (j + 1) = m := by omega
        have hgk := fun w' hb => hgood (fr + j) w' (by omega) hb
        rw [hm, srch] at hs
        have hrc : rc (gd g bs) fr (j + 1) = if gd g bs (fr + j) then rc (gd g bs) fr j + 1 else 0 := rfl
        cases hp : gd g bs (fr + j) with
        | true =>
          rw [hp, if_pos rfl] at hrc
          simp only [hp] at hgk
          have hc1 : ((rc (gd g bs) fr j + 1 : Nat) : Int) = (rc (gd g bs) fr j : Int) + 1 := by omega
          by_cases hq : (rc (gd g bs) fr j : Int) + 1 = need
          · rw [if_pos (by rw [hrc]; omega)] at hs
            rw [← hs] at hch
            dsimp only at hch
            repeat'
              conv => whnf
              first
                | refine And.intro (a := drawB _ = true) (by kernel_rfl) ?_
                | refine And.intro (a := (_ : Bool) = true) rfl ?_
                | refine And.intro (a := (_ : Bool) = true ∧ (_ : Bool) = true) ⟨rfl, rfl⟩ ?_
                | refine And.intro (a := (_ : Bool) = true ∧ (_ : List _) = []) ⟨rfl, rfl⟩ ?_
                | refine And.intro (a := IR _ _) (And.intro (by omega) (by omega)) ?_
                | refine wrapE (And.intro (by omega) (by omega)) ?_
                | refine And.intro (a := (0 : Int) ≤ _ ∧ _ < _) (And.intro (by omega) (by omega)) ?_
                | refine And.intro (a := (_ : Bool) = true) (by simp only [Nat.beq_refl]; rfl) ?_
                | refine And.intro (a := ((_ : Bool) = true → 1 ≤ _) ∧ _ ≤ 9223372036854775807 ∧ _ ≤ 140737488355328) ⟨fun h => (by first | omega | cases h), by omega, by omega⟩ ?_
                | refine splT ?_
                | refine splF ?_
                | refine splNot ?_
                | (refine splIn (fun hc => ?_) (fun hc => ?_) <;> first | (exfalso; omega) | (exfalso; dsimp only at hc; omega) | skip)
                | (refine splD (fun hc => ?_) (fun hc => ?_) <;> first | (exfalso; omega) | (exfalso; dsimp only at hc; omega) | skip)
                | (refine splE (fun hc => ?_) (fun hc => ?_) <;> first | (exfalso; omega) | (exfalso; dsimp only at hc; omega) | skip)
                | (refine splNE (fun hc => ?_) (fun hc => ?_) <;> first | (exfalso; omega) | (exfalso; dsimp only at hc; omega) | skip)
                | ((with_reducible show CallEv _ _ 76 _ _ _ _ _); refine callE (k := 76) (fun β w' hbw => hgk _ hbw) ?_)
            all_goals first | (exfalso; omega) | skip
            exact ⟨(k + 1, fr + j + g.mo + rst, [] ++ [(fr + j - need + 1, fr + j)]), ⟨by show k + 1 ≤ _; omega, by show 0 ≤ fr + j + g.mo + rst ∧ fr + j + g.mo + rst ≤ 7400; omega, by show _ ≤ k + 1; simp; try omega, hch⟩, by show _ - (k + 1) < _ - k; omega, Ent.ren (rho [(0, 5), (1, 6)]) rfl rfl ⟨rfl, rfl, rfl, rfl, rfl, rfl, by show _ = some (SV.v (iv ((k + 1 : Nat) : Int))); rw [hi]; rfl, trivial⟩ ⟨rfl, trivial⟩ fun _ h => h.1⟩
          · rw [if_neg (by rw [hrc]; omega)] at hs
            repeat'
              conv => whnf
              first
                | refine And.intro (a := drawB _ = true) (by kernel_rfl) ?_
                | refine And.intro (a := (_ : Bool) = true) rfl ?_
                | refine And.intro (a := (_ : Bool) = true ∧ (_ : Bool) = true) ⟨rfl, rfl⟩ ?_
                | refine And.intro (a := (_ : Bool) = true ∧ (_ : List _) = []) ⟨rfl, rfl⟩ ?_
                | refine And.intro (a := IR _ _) (And.intro (by omega) (by omega)) ?_
                | refine wrapE (And.intro (by omega) (by omega)) ?_
                | refine And.intro (a := (0 : Int) ≤ _ ∧ _ < _) (And.intro (by omega) (by omega)) ?_
                | refine And.intro (a := (_ : Bool) = true) (by simp only [Nat.beq_refl]; rfl) ?_
                | refine And.intro (a := ((_ : Bool) = true → 1 ≤ _) ∧ _ ≤ 9223372036854775807 ∧ _ ≤ 140737488355328) ⟨fun h => (by first | omega | cases h), by omega, by omega⟩ ?_
                | refine splT ?_
                | refine splF ?_
                | refine splNot ?_
                | (refine splIn (fun hc => ?_) (fun hc => ?_) <;> first | (exfalso; omega) | (exfalso; dsimp only at hc; omega) | skip)
                | (refine splD (fun hc => ?_) (fun hc => ?_) <;> first | (exfalso; omega) | (exfalso; dsimp only at hc; omega) | skip)
                | (refine splE (fun hc => ?_) (fun hc => ?_) <;> first | (exfalso; omega) | (exfalso; dsimp only at hc; omega) | skip)
                | (refine splNE (fun hc => ?_) (fun hc => ?_) <;> first | (exfalso; omega) | (exfalso; dsimp only at hc; omega) | skip)
                | ((with_reducible show CallEv _ _ 76 _ _ _ _ _); refine callE (k := 76) (fun β w' hbw => hgk _ hbw) ?_)
            all_goals first | (exfalso; omega) | exact ⟨j + 1, ⟨by omega, by rw [hm2]; exact hs⟩, by omega, Ent.weak rfl ⟨rfl, rfl, rfl, rfl, rfl, rfl, by rw [hrc, hc1]; rfl, by rw [hij]; rfl, rfl, rfl, rfl, trivial⟩ ⟨rfl, rfl, trivial⟩ fun _ h => h⟩
        | false =>
          rw [hp, if_neg (by decide)] at hrc
          simp only [hp] at hgk
          rw [if_neg (by rw [hrc]; omega)] at hs
          repeat'
            conv => whnf
            first
              | refine And.intro (a := drawB _ = true) (by kernel_rfl) ?_
              | refine And.intro (a := (_ : Bool) = true) rfl ?_
              | refine And.intro (a := (_ : Bool) = true ∧ (_ : Bool) = true) ⟨rfl, rfl⟩ ?_
              | refine And.intro (a := (_ : Bool) = true ∧ (_ : List _) = []) ⟨rfl, rfl⟩ ?_
              | refine And.intro (a := IR _ _) (And.intro (by omega) (by omega)) ?_
              | refine wrapE (And.intro (by omega) (by omega)) ?_
              | refine And.intro (a := (0 : Int) ≤ _ ∧ _ < _) (And.intro (by omega) (by omega)) ?_
              | refine And.intro (a := (_ : Bool) = true) (by simp only [Nat.beq_refl]; rfl) ?_
              | refine And.intro (a := ((_ : Bool) = true → 1 ≤ _) ∧ _ ≤ 9223372036854775807 ∧ _ ≤ 140737488355328) ⟨fun h => (by first | omega | cases h), by omega, by omega⟩ ?_
              | refine splT ?_
              | refine splF ?_
              | refine splNot ?_
              | (refine splIn (fun hc => ?_) (fun hc => ?_) <;> first | (exfalso; omega) | (exfalso; dsimp only at hc; omega) | skip)
              | (refine splD (fun hc => ?_) (fun hc => ?_) <;> first | (exfalso; omega) | (exfalso; dsimp only at hc; omega) | skip)
              | (refine splE (fun hc => ?_) (fun hc => ?_) <;> first | (exfalso; omega) | (exfalso; dsimp only at hc; omega) | skip)
              | (refine splNE (fun hc => ?_) (fun hc => ?_) <;> first | (exfalso; omega) | (exfalso; dsimp only at hc; omega) | skip)
              | ((with_reducible show CallEv _ _ 76 _ _ _ _ _); refine callE (k := 76) (fun β w' hbw => hgk _ hbw) ?_)
          all_goals first | (exfalso; omega) | exact ⟨j + 1, ⟨by omega, by rw [hm2]; exact hs⟩, by omega, Ent.weak rfl ⟨rfl, rfl, rfl, rfl, rfl, rfl, by rw [hrc]; rfl, by rw [hij]; rfl, rfl, rfl, rfl, trivial⟩ ⟨rfl, rfl, trivial⟩ fun _ h => h⟩
      · rw [show (6001 - fr).toNat - j = 0 from by omega, srch] at hs
        rw [← hs] at hch
        dsimp only at hch
        rw [← hch]
        repeat'
          conv => whnf
          first
            | refine And.intro (a := drawB _ = true) (by kernel_rfl) ?_
            | refine And.intro (a := (_ : Bool) = true) rfl ?_
            | refine And.intro (a := (_ : Bool) = true ∧ (_ : Bool) = true) ⟨rfl, rfl⟩ ?_
            | refine And.intro (a := (_ : Bool) = true ∧ (_ : List _) = []) ⟨rfl, rfl⟩ ?_
            | refine And.intro (a := IR _ _) (And.intro (by omega) (by omega)) ?_
            | refine wrapE (And.intro (by omega) (by omega)) ?_
            | refine And.intro (a := (0 : Int) ≤ _ ∧ _ < _) (And.intro (by omega) (by omega)) ?_
            | refine And.intro (a := (_ : Bool) = true) (by simp only [Nat.beq_refl]; rfl) ?_
            | refine And.intro (a := ((_ : Bool) = true → 1 ≤ _) ∧ _ ≤ 9223372036854775807 ∧ _ ≤ 140737488355328) ⟨fun h => (by first | omega | cases h), by omega, by omega⟩ ?_
            | refine splT ?_
            | refine splF ?_
            | refine splNot ?_
            | (refine splIn (fun hc => ?_) (fun hc => ?_) <;> first | (exfalso; omega) | (exfalso; dsimp only at hc; omega) | skip)
            | (refine splD (fun hc => ?_) (fun hc => ?_) <;> first | (exfalso; omega) | (exfalso; dsimp only at hc; omega) | skip)
            | (refine splE (fun hc => ?_) (fun hc => ?_) <;> first | (exfalso; omega) | (exfalso; dsimp only at hc; omega) | skip)
            | (refine splNE (fun hc => ?_) (fun hc => ?_) <;> first | (exfalso; omega) | (exfalso; dsimp only at hc; omega) | skip)
        all_goals first | (exfalso; omega) | skip
        exact ⟨fun w' h => h.1, fun β w' hB hblk => ⟨(none, 0), rfl, fun _ _ => .inl ⟨rfl, rfl⟩⟩⟩
    · have hgood : ∀ r w', 0 ≤ r ∧ r ≤ 6000 → (Below w.heap.size w w' ∧ St w.heap.size (x.hx g) w') → Calls Try.prog 76 #[g.sv (x.bv g.k) (x.lv g.k), iv r] w' fun e W' => e = .returned (.bool (gd g bs r)) ∧ Below w'.heap.size w' W' :=
        fun r w' hr hb => good_ok g bs x r hg hr w' hb.2.now (hr1.below hb.1)
      refine loopE (fun j : Nat => [(1, .v (iv need)), (2, .v (iv rst)), (6, .os 0 1 (L.length + 1)), (10, .v (iv k)), (11, .ptr 2 0), (12, .ptr 3 0), (13, .v (iv (rc (gd g bs) fr j))), (14, .v (iv (fr + j))), (33, .v (.slice (some ad) act.length c)), (34, .v (iv act.length)), (35, .v (iv k))])
        (fun _ => [(2, .cells (gss g) 54), (3, .cells (seeC g x) 123), (0, .own 1 (L.length + 1) 2 ((l0 :: L).flatMap wF) 97)])
        (fun j => j ≤ (6001 - fr).toNat ∧ srch (gd g bs) fr need ((6001 - fr).toNat - j) j = frs (g, bs) need fr) (fun j => (6001 - fr).toNat - j) 0 ⟨Nat.zero_le _, rfl⟩ ⟨rfl, rfl, rfl, rfl, rfl, rfl, rfl, by rw [Int.ofNat_zero, Int.add_zero]; rfl, rfl, rfl, rfl, trivial⟩ ⟨rfl, rfl, rfl, trivial⟩ (fun _ => ⟨rfl, rfl⟩) ?_
      intro j ⟨hj, hs⟩
      have hij : fr + ((j + 1 : Nat) : Int) = fr + (j : Int) + 1 := by omega
      have hrl := rc_le (gd g bs) fr j
      rcases Nat.lt_or_ge j (6001 - fr).toNat with hjl | hjl
      · obtain ⟨m, hm⟩ : ∃ m, (6001 - fr).toNat - j = m + 1 := ⟨(6001 - fr).toNat - j - 1, by omega⟩
        have hm2 : (6001 - fr).toNat - (j + 1) = m := by omega
        have hgk := fun w' hb => hgood (fr + j) w' (by omega) hb
        rw [hm, srch] at hs
        have hrc : rc (gd g bs) fr (j + 1) = if gd g bs (fr + j) then rc (gd g bs) fr j + 1 else 0 := rfl
        cases hp : gd g bs (fr + j) with
        | true =>
          rw [hp, if_pos rfl] at hrc
          simp only [hp] at hgk
          have hc1 : ((rc (gd g bs) fr j + 1 : Nat) : Int) = (rc (gd g bs) fr j : Int) + 1 := by omega
          by_cases hq : (rc (gd g bs) fr j : Int) + 1 = need
          · rw [if_pos (by rw [hrc]; omega)] at hs
            rw [← hs] at hch
            dsimp only at hch
            repeat'
              conv => whnf
              first
                | refine And.intro (a := drawB _ = true) (by kernel_rfl) ?_
                | refine And.intro (a := (_ : Bool) = true) rfl ?_
                | refine And.intro (a := (_ : Bool) = true ∧ (_ : Bool) = true) ⟨rfl, rfl⟩ ?_
                | refine And.intro (a := (_ : Bool) = true ∧ (_ : List _) = []) ⟨rfl, rfl⟩ ?_
                | refine And.intro (a := IR _ _) (And.intro (by omega) (by omega)) ?_
                | refine wrapE (And.intro (by omega) (by omega)) ?_
                | refine And.intro (a := (0 : Int) ≤ _ ∧ _ < _) (And.intro (by omega) (by omega)) ?_
                | refine And.intro (a := (_ : Bool) = true) (by simp only [Nat.beq_refl]; rfl) ?_
                | refine And.intro (a := ((_ : Bool) = true → 1 ≤ _) ∧ _ ≤ 9223372036854775807 ∧ _ ≤ 140737488355328) ⟨fun h => (by first | omega | cases h), by omega, by omega⟩ ?_
                | refine splT ?_
                | refine splF ?_
                | refine splNot ?_
                | (refine splIn (fun hc => ?_) (fun hc => ?_) <;> first | (exfalso; omega) | (exfalso; dsimp only at hc; omega) | skip)
                | (refine splD (fun hc => ?_) (fun hc => ?_) <;> first | (exfalso; omega) | (exfalso; dsimp only at hc; omega) | skip)
                | (refine splE (fun hc => ?_) (fun hc => ?_) <;> first | (exfalso; omega) | (exfalso; dsimp only at hc; omega) | skip)
                | (refine splNE (fun hc => ?_) (fun hc => ?_) <;> first | (exfalso; omega) | (exfalso; dsimp only at hc; omega) | skip)
                | ((with_reducible show CallEv _ _ 76 _ _ _ _ _); refine callE (k := 76) (fun β w' hbw => hgk _ hbw) ?_)
            all_goals first | (exfalso; omega) | skip
            exact ⟨(k + 1, fr + j + g.mo + rst, (l0 :: L) ++ [(fr + j - need + 1, fr + j)]), ⟨by show k + 1 ≤ _; omega, by show 0 ≤ fr + j + g.mo + rst ∧ fr + j + g.mo + rst ≤ 7400; omega, by show _ ≤ k + 1; simp; try omega, hch⟩, by show _ - (k + 1) < _ - k; omega, Ent.ren (rho [(0, 5), (1, 6)]) rfl rfl ⟨rfl, rfl, by simp [oSV]; rfl, rfl, rfl, rfl, by show _ = some (SV.v (iv ((k + 1 : Nat) : Int))); rw [hi]; rfl, trivial⟩ ⟨by simp [oM]; rfl, trivial⟩ fun _ h => h.1⟩
          · rw [if_neg (by rw [hrc]; omega)] at hs
            repeat'
              conv => whnf
              first
                | refine And.intro (a := drawB _ = true) (by kernel_rfl) ?_
                | refine And.intro (a := (_ : Bool) = true) rfl ?_
                | refine And.intro (a := (_ : Bool) = true ∧ (_ : Bool) = true) ⟨rfl, rfl⟩ ?_
                | refine And.intro (a := (_ : Bool) = true ∧ (_ : List _) = []) ⟨rfl, rfl⟩ ?_
                | refine And.intro (a := IR _ _) (And.intro (by omega) (by omega)) ?_
                | refine wrapE (And.intro (by omega) (by omega)) ?_
                | refine And.intro (a := (0 : Int) ≤ _ ∧ _ < _) (And.intro (by omega) (by omega)) ?_
                | refine And.intro (a := (_ : Bool) = true) (by simp only [Nat.beq_refl]; rfl) ?_
                | refine And.intro (a := ((_ : Bool) = true → 1 ≤ _) ∧ _ ≤ 9223372036854775807 ∧ _ ≤ 140737488355328) ⟨fun h => (by first | omega | cases h), by omega, by omega⟩ ?_
                | refine splT ?_
                | refine splF ?_
                | refine splNot ?_
                | (refine splIn (fun hc => ?_) (fun hc => ?_) <;> first | (exfalso; omega) | (exfalso; dsimp only at hc; omega) | skip)
                | (refine splD (fun hc => ?_) (fun hc => ?_) <;> first | (exfalso; omega) | (exfalso; dsimp only at hc; omega) | skip)
                | (refine splE (fun hc => ?_) (fun hc => ?_) <;> first | (exfalso; omega) | (exfalso; dsimp only at hc; omega) | skip)
                | (refine splNE (fun hc => ?_) (fun hc => ?_) <;> first | (exfalso; omega) | (exfalso; dsimp only at hc; omega) | skip)
                | ((with_reducible show CallEv _ _ 76 _ _ _ _ _); refine callE (k := 76) (fun β w' hbw => hgk _ hbw) ?_)
            all_goals first | (exfalso; omega) | exact ⟨j + 1, ⟨by omega, by rw [hm2]; exact hs⟩, by omega, Ent.weak rfl ⟨rfl, rfl, rfl, rfl, rfl, rfl, by rw [hrc, hc1]; rfl, by rw [hij]; rfl, rfl, rfl, rfl, trivial⟩ ⟨rfl, rfl, rfl, trivial⟩ fun _ h => h⟩
        | false =>
          rw [hp, if_neg (by decide)] at hrc
          simp only [hp] at hgk
          rw [if_neg (by rw [hrc]; omega)] at hs
          repeat'
            conv => whnf
            first
              | refine And.intro (a := drawB _ = true) (by kernel_rfl) ?_
              | refine And.intro (a := (_ : Bool) = true) rfl ?_
              | refine And.intro (a := (_ : Bool) = true ∧ (_ : Bool) = true) ⟨rfl, rfl⟩ ?_
              | refine And.intro (a := (_ : Bool) = true ∧ (_ : List _) = []) ⟨rfl, rfl⟩ ?_
              | refine And.intro (a := IR _ _) (And.intro (by omega) (by omega)) ?_
              | refine wrapE (And.intro (by omega) (by omega)) ?_
              | refine And.intro (a := (0 : Int) ≤ _ ∧ _ < _) (And.intro (by omega) (by omega)) ?_
              | refine And.intro (a := (_ : Bool) = true) (by simp only [Nat.beq_refl]; rfl) ?_
              | refine And.intro (a := ((_ : Bool) = true → 1 ≤ _) ∧ _ ≤ 9223372036854775807 ∧ _ ≤ 140737488355328) ⟨fun h => (by first | omega | cases h), by omega, by omega⟩ ?_
              | refine splT ?_
              | refine splF ?_
              | refine splNot ?_
              | (refine splIn (fun hc => ?_) (fun hc => ?_) <;> first | (exfalso; omega) | (exfalso; dsimp only at hc; omega) | skip)
              | (refine splD (fun hc => ?_) (fun hc => ?_) <;> first | (exfalso; omega) | (exfalso; dsimp only at hc; omega) | skip)
              | (refine splE (fun hc => ?_) (fun hc => ?_) <;> first | (exfalso; omega) | (exfalso; dsimp only at hc; omega) | skip)
              | (refine splNE (fun hc => ?_) (fun hc => ?_) <;> first | (exfalso; omega) | (exfalso; dsimp only at hc; omega) | skip)
              | ((with_reducible show CallEv _ _ 76 _ _ _ _ _); refine callE (k := 76) (fun β w' hbw => hgk _ hbw) ?_)
          all_goals first | (exfalso; omega) | exact ⟨j + 1, ⟨by omega, by rw [hm2]; exact hs⟩, by omega, Ent.weak rfl ⟨rfl, rfl, rfl, rfl, rfl, rfl, by rw [hrc]; rfl, by rw [hij]; rfl, rfl, rfl, rfl, trivial⟩ ⟨rfl, rfl, rfl, trivial⟩ fun _ h => h⟩
      · rw [show (6001 - fr).toNat - j = 0 from by omega, srch] at hs
        rw [← hs] at hch
        dsimp only at hch
        rw [← hch]
        repeat'
          conv => whnf
          first
            | refine And.intro (a := drawB _ = true) (by kernel_rfl) ?_
            | refine And.intro (a := (_ : Bool) = true) rfl ?_
            | refine And.intro (a := (_ : Bool) = true ∧ (_ : Bool) = true) ⟨rfl, rfl⟩ ?_
            | refine And.intro (a := (_ : Bool) = true ∧ (_ : List _) = []) ⟨rfl, rfl⟩ ?_
            | refine And.intro (a := IR _ _) (And.intro (by omega) (by omega)) ?_
            | refine wrapE (And.intro (by omega) (by omega)) ?_
            | refine And.intro (a := (0 : Int) ≤ _ ∧ _ < _) (And.intro (by omega) (by omega)) ?_
            | refine And.intro (a := (_ : Bool) = true) (by simp only [Nat.beq_refl]; rfl) ?_
            | refine And.intro (a := ((_ : Bool) = true → 1 ≤ _) ∧ _ ≤ 9223372036854775807 ∧ _ ≤ 140737488355328) ⟨fun h => (by first | omega | cases h), by omega, by omega⟩ ?_
            | refine splT ?_
            | refine splF ?_
            | refine splNot ?_
            | (refine splIn (fun hc => ?_) (fun hc => ?_) <;> first | (exfalso; omega) | (exfalso; dsimp only at hc; omega) | skip)
            | (refine splD (fun hc => ?_) (fun hc => ?_) <;> first | (exfalso; omega) | (exfalso; dsimp only at hc; omega) | skip)
            | (refine splE (fun hc => ?_) (fun hc => ?_) <;> first | (exfalso; omega) | (exfalso; dsimp only at hc; omega) | skip)
            | (refine splNE (fun hc => ?_) (fun hc => ?_) <;> first | (exfalso; omega) | (exfalso; dsimp only at hc; omega) | skip)
        all_goals first | (exfalso; omega) | skip
        exact ⟨fun w' h => h.1, fun β w' hB hblk => ⟨(none, 0), rfl, fun _ _ => .inl ⟨rfl, rfl⟩⟩⟩
  · obtain rfl : k = act.length := by omega
    rw [List.drop_of_length_le (Nat.le_refl _), chn] at hch
    rw [← hch]
    cases L with
    | nil =>
      repeat'
        conv => whnf
        first
          | refine And.intro (a := drawB _ = true) (by kernel_rfl) ?_
          | refine And.intro (a := (_ : Bool) = true) rfl ?_
          | refine And.intro (a := (_ : Bool) = true ∧ (_ : Bool) = true) ⟨rfl, rfl⟩ ?_
          | refine And.intro (a := (_ : Bool) = true ∧ (_ : List _) = []) ⟨rfl, rfl⟩ ?_
          | refine And.intro (a := IR _ _) (And.intro (by omega) (by omega)) ?_
          | refine wrapE (And.intro (by omega) (by omega)) ?_
          | refine And.intro (a := (0 : Int) ≤ _ ∧ _ < _) (And.intro (by omega) (by omega)) ?_
          | refine And.intro (a := (_ : Bool) = true) (by simp only [Nat.beq_refl]; rfl) ?_
          | refine And.intro (a := ((_ : Bool) = true → 1 ≤ _) ∧ _ ≤ 9223372036854775807 ∧ _ ≤ 140737488355328) ⟨fun h => (by first | omega | cases h), by omega, by omega⟩ ?_
          | refine splT ?_
          | refine splF ?_
          | refine splNot ?_
          | (refine splIn (fun hc => ?_) (fun hc => ?_) <;> first | (exfalso; omega) | (exfalso; dsimp only at hc; omega) | skip)
          | (refine splD (fun hc => ?_) (fun hc => ?_) <;> first | (exfalso; omega) | (exfalso; dsimp only at hc; omega) | skip)
          | (refine splE (fun hc => ?_) (fun hc => ?_) <;> first | (exfalso; omega) | (exfalso; dsimp only at hc; omega) | skip)
          | (refine splNE (fun hc => ?_) (fun hc => ?_) <;> first | (exfalso; omega) | (exfalso; dsimp only at hc; omega) | skip)
      exact ⟨fun w' h => h, fun β w' hB hblk => ⟨(none, 0), rfl, fun _ _ => .inl ⟨rfl, rfl⟩⟩⟩
    | cons a L =>
      repeat'
        conv => whnf
        first
          | refine And.intro (a := drawB _ = true) (by kernel_rfl) ?_
          | refine And.intro (a := (_ : Bool) = true) rfl ?_
          | refine And.intro (a := (_ : Bool) = true ∧ (_ : Bool) = true) ⟨rfl, rfl⟩ ?_
          | refine And.intro (a := (_ : Bool) = true ∧ (_ : List _) = []) ⟨rfl, rfl⟩ ?_
          | refine And.intro (a := IR _ _) (And.intro (by omega) (by omega)) ?_
          | refine wrapE (And.intro (by omega) (by omega)) ?_
          | refine And.intro (a := (0 : Int) ≤ _ ∧ _ < _) (And.intro (by omega) (by omega)) ?_
          | refine And.intro (a := (_ : Bool) = true) (by simp only [Nat.beq_refl]; rfl) ?_
          | refine And.intro (a := ((_ : Bool) = true → 1 ≤ _) ∧ _ ≤ 9223372036854775807 ∧ _ ≤ 140737488355328) ⟨fun h => (by first | omega | cases h), by omega, by omega⟩ ?_
          | refine splT ?_
          | refine splF ?_
          | refine splNot ?_
          | (refine splIn (fun hc => ?_) (fun hc => ?_) <;> first | (exfalso; omega) | (exfalso; dsimp only at hc; omega) | skip)
          | (refine splD (fun hc => ?_) (fun hc => ?_) <;> first | (exfalso; omega) | (exfalso; dsimp only at hc; omega) | skip)
          | (refine splE (fun hc => ?_) (fun hc => ?_) <;> first | (exfalso; omega) | (exfalso; dsimp only at hc; omega) | skip)
          | (refine splNE (fun hc => ?_) (fun hc => ?_) <;> first | (exfalso; omega) | (exfalso; dsimp only at hc; omega) | skip)
      refine ⟨fun w' h => h, fun β w' hB hblk => ?_⟩
      obtain ⟨y, h1, h2⟩ := oEnd (sz := 2) (f := wF) (fun _ => rfl) a L (hblk 0 _ rfl rfl)
      exact ⟨y, by (show Value.tuple _ = _; simp [SV.cs]; exact ⟨h1, rfl, rfl⟩), h2⟩
end Go.Proofs.Ytlehjapeomallaa.V
