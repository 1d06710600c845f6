/- An act for the program: what the function returns. -/
import Derived.Test.YtlehjapeomallaaVP
import Derived.Test.YtlehjapeomallaaTo
namespace Go.Proofs.Ytlehjapeomallaa.V
open Go Tx Go.RowKit
set_option linter.unusedSimpArgs false
set_option linter.unusedVariables false

/-- The flights of an act, their boxes elsewhere. -/
def atA (act : List (Fg × List Bx)) (ys : List (Option Addr × Nat)) : List (Fg × List Bx) := List.zipWith (fun p y => (p.1.at y, p.2)) act ys
/-- An act that lies in new memory. -/
structure AtM (act : List (Fg × List Bx)) (x : (Option Addr × Nat) × List (Option Addr × Nat)) (w : World) : Prop where
  len : x.2.length = act.length
  rd : Rd 15 csP (.slice x.1.1 act.length x.1.2) (atA act x.2) w
  bx : ∀ (i : Nat) p y, act[i]? = some p → x.2[i]? = some y → Rd 4 Bx.cs (.slice y.1 p.1.n y.2) p.2 w
theorem atA_len {act : List (Fg × List Bx)} {ys : List (Option Addr × Nat)} (h : ys.length = act.length) : (atA act ys).length = act.length := by simp [atA, h]
theorem atA_take {act : List (Fg × List Bx)} {ys : List (Option Addr × Nat)} {p : Fg × List Bx} {y : Option Addr × Nat} (h : act[ys.length]? = some p) :
    atA (act.take (ys.length + 1)) (ys ++ [y]) = atA (act.take ys.length) ys ++ [(p.1.at y, p.2)] := by
  have h1 : ys.length < act.length := (List.getElem?_eq_some_iff.1 h).1
  rw [List.take_add_one, h, Option.toList_some, atA, List.zipWith_append (by simp; omega)]
  rfl

set_option maxRecDepth 100000 in
theorem Act_ok (act : List (Fg × List Bx)) (o : Option Addr) (c : Nat) (w : World) (hrd : Rd 15 csP (.slice o act.length c) act w) (hl : act.length ≤ 1000000)
    (hbx : ∀ p ∈ act, Rd 4 Bx.cs (.slice p.1.o p.1.n p.1.c) p.2 w ∧ p.2.length ≤ 1000000) :
    Calls Try.prog 51 #[.slice o act.length c] w fun e w' => ∃ x : (Option Addr × Nat) × List (Option Addr × Nat), e = .returned (.slice x.1.1 act.length x.1.2) ∧ Below w.heap.size w w' ∧ St w.heap.size (AtM act x) w' := by
  refine calls_fam env mixed Try.func51 has51 Try.ntmps51 [.slice o act.length c] (by simp) ?_
  repeat'
    conv => whnf
    first
      | refine And.intro (a := drawB _ = true) (by kernel_rfl) ?_
      | refine And.intro (a := (_ : Bool) = true) rfl ?_
      | refine And.intro (a := (_ : Bool) = true ∧ (_ : Bool) = true) ⟨rfl, rfl⟩ ?_
      | refine And.intro (a := (_ : Bool) = true ∧ (_ : List _) = []) ⟨rfl, rfl⟩ ?_
      | refine And.intro (a := IR _ _) (And.intro (by omega) (by omega)) ?_
      | refine wrapE (And.intro (by omega) (by omega)) ?_
      | refine And.intro (a := (0 : Int) ≤ _ ∧ _ < _) (And.intro (by omega) (by omega)) ?_
      | refine And.intro (a := (_ : Bool) = true) (by simp only [Nat.beq_refl]; rfl) ?_
      | refine And.intro (a := ((_ : Bool) = true → 1 ≤ _) ∧ _ ≤ 9223372036854775807 ∧ _ ≤ 140737488355328) ⟨fun h => (by first | omega | cases h), by omega, by omega⟩ ?_
      | refine splT ?_
      | refine splF ?_
      | refine splNot ?_
      | (refine splIn (fun hc => ?_) (fun hc => ?_) <;> first | (exfalso; omega) | (exfalso; dsimp only at hc; omega) | skip)
      | (refine splD (fun hc => ?_) (fun hc => ?_) <;> first | (exfalso; omega) | (exfalso; dsimp only at hc; omega) | skip)
      | (refine splE (fun hc => ?_) (fun hc => ?_) <;> first | (exfalso; omega) | (exfalso; dsimp only at hc; omega) | skip)
      | (refine splNE (fun hc => ?_) (fun hc => ?_) <;> first | (exfalso; omega) | (exfalso; dsimp only at hc; omega) | skip)
  refine loopH 2 (fun ys : List (Option Addr × Nat) => [(0, .v (.slice o act.length c)), (3, oSV 0 1 (atA (act.take ys.length) ys)), (4, .v (iv ys.length))]) (fun ys => oM 0 1 15 csP 54 (atA (act.take ys.length) ys))
    (fun ys w' => Below w.heap.size w w' ∧ ∀ (i : Nat) p y, act[i]? = some p → ys[i]? = some y → St w.heap.size (Rd 4 Bx.cs (.slice y.1 p.1.n y.2) p.2) w')
    (fun ys => ys.length ≤ act.length) (fun ys => act.length - ys.length) [] (Nat.zero_le _) ⟨rfl, rfl, rfl, trivial⟩ trivial (fun w' h => ⟨h, fun i p y _ h2 => by simp at h2⟩) (fun ys _ => by cases atA (act.take ys.length) ys <;> exact ⟨rfl, rfl⟩) ?_
  intro ys hk
  rcases Nat.lt_or_ge ys.length act.length with hkl | hkl
  · obtain ⟨⟨g, bs⟩, hb⟩ : ∃ b, act[ys.length]? = some b := ⟨_, List.getElem?_eq_getElem hkl⟩
    obtain ⟨_, ad, rfl, _⟩ := hrd.some (by omega)
    have e0 := fun (w' : World) hw' => rd_ati (hrd.below (w' := w') hw') hb
    obtain ⟨hr1, hbl⟩ := hbx _ (List.mem_of_getElem? hb)
    have htk := fun y => atA_take (ys := ys) (y := y) hb
    have hlen : (atA (act.take ys.length) ys).length = ys.length := by simp [atA]; omega
    have hh : ∀ (y : Option Addr × Nat) w', ((Below w.heap.size w w' ∧ ∀ (i : Nat) p y, act[i]? = some p → ys[i]? = some y → St w.heap.size (Rd 4 Bx.cs (.slice y.1 p.1.n y.2) p.2) w') ∧ St w.heap.size (Rd 4 Bx.cs (.slice y.1 g.n y.2) bs) w') →
        Below w.heap.size w w' ∧ ∀ (i : Nat) p z, act[i]? = some p → (ys ++ [y])[i]? = some z → St w.heap.size (Rd 4 Bx.cs (.slice z.1 p.1.n z.2) p.2) w' := fun y w' h => ⟨h.1.1, fun i p z h1 h2 => by
      rw [List.getElem?_append] at h2
      split at h2
      · exact h.1.2 i p z h1 h2
      · rename_i hi
        have hi2 : i = ys.length := by
          have := (List.getElem?_eq_some_iff.1 h2).1
          simp only [List.length_singleton] at this
          omega
        subst hi2
        rw [Nat.sub_self] at h2
        simp only [List.getElem?_cons_zero, Option.some.injEq] at h2
        subst h2
        rw [hb] at h1
        cases h1
        exact h.2⟩
    generalize hA : atA (act.take ys.length) ys = A at *
    have hl2 : ∀ y : Option Addr × Nat, (ys ++ [y]).length = ys.length + 1 := fun y => by simp
    cases A <;> try simp only [List.length_cons] at hlen
    all_goals skip
    repeat'
      conv => whnf
      first
        | refine And.intro (a := drawB _ = true) (by kernel_rfl) ?_
        | refine And.intro (a := (_ : Bool) = true) rfl ?_
        | refine And.intro (a := (_ : Bool) = true ∧ (_ : Bool) = true) ⟨rfl, rfl⟩ ?_
        | refine And.intro (a := (_ : Bool) = true ∧ (_ : List _) = []) ⟨rfl, rfl⟩ ?_
        | refine And.intro (a := IR _ _) (And.intro (by omega) (by omega)) ?_
        | refine wrapE (And.intro (by omega) (by omega)) ?_
        | refine And.intro (a := (0 : Int) ≤ _ ∧ _ < _) (And.intro (by omega) (by omega)) ?_
        | refine And.intro (a := (_ : Bool) = true) (by simp only [Nat.beq_refl]; rfl) ?_
        | refine And.intro (a := ((_ : Bool) = true → 1 ≤ _) ∧ _ ≤ 9223372036854775807 ∧ _ ≤ 140737488355328) ⟨fun h => (by first | omega | cases h), by omega, by omega⟩ ?_
        | refine splT ?_
        | refine splF ?_
        | refine splNot ?_
        | (refine splIn (fun hc => ?_) (fun hc => ?_) <;> first | (exfalso; omega) | (exfalso; dsimp only at hc; omega) | skip)
        | (refine splD (fun hc => ?_) (fun hc => ?_) <;> first | (exfalso; omega) | (exfalso; dsimp only at hc; omega) | skip)
        | (refine splE (fun hc => ?_) (fun hc => ?_) <;> first | (exfalso; omega) | (exfalso; dsimp only at hc; omega) | skip)
        | (refine splNE (fun hc => ?_) (fun hc => ?_) <;> first | (exfalso; omega) | (exfalso; dsimp only at hc; omega) | skip)
        | refine Exists.intro (α := List Value) g.cs ⟨⟨rfl, fun w' hw' => e0 w' hw'.1⟩, ?_⟩
        | ((with_reducible show CallEv _ _ 25 _ _ _ _ _); refine callF [] (fun y => (g.at y).v) (fun y => St w.heap.size (Rd 4 Bx.cs (.slice y.1 g.n y.2) bs)) (fun β w' _ hbw => famS (by first | exact hbw | exact hbw.1 | exact hbw.1.1 | exact hbw.1.1.1 | exact hbw.1.1.1.1 | exact hbw.1.1.1.1.1 | exact hbw.1.1.1.1.1.1 | exact hbw.1.1.1.1.1.1.1) (fam (Flight_ok g bs w' (hr1.below (by first | exact hbw | exact hbw.1 | exact hbw.1.1 | exact hbw.1.1.1 | exact hbw.1.1.1.1 | exact hbw.1.1.1.1.1 | exact hbw.1.1.1.1.1.1 | exact hbw.1.1.1.1.1.1.1)) hbl))) ?_; intro y)
    · exact ⟨ys ++ [y], by rw [hl2]; omega, by rw [hl2]; omega, Ent.ren (rho [(0, 3), (1, 4)]) rfl (by rw [hl2, htk]; rfl) ⟨rfl, by rw [hl2, htk]; rfl, by rw [hl2]; rfl, trivial⟩ (by rw [hl2, htk]; exact ⟨rfl, trivial⟩) (hh y)⟩
    · exact ⟨ys ++ [y], by rw [hl2]; omega, by rw [hl2]; omega, Ent.ren (rho [(0, 3), (1, 4)]) rfl (by rw [hl2, htk]; rfl) ⟨rfl, by rw [hl2, htk]; simp [oSV]; rfl, by rw [hl2]; rfl, trivial⟩ (by rw [hl2, htk]; exact ⟨by simp [oM]; rfl, trivial⟩) (hh y)⟩
  · obtain hk2 : ys.length = act.length := by omega
    have h0 : ∀ ys', ys' = ys → True := fun _ _ => trivial
    rw [hk2, List.take_of_length_le (Nat.le_refl _)]
    have hlen := atA_len hk2
    generalize hA : atA act ys = A at *
    cases A with
    | nil =>
      repeat'
        conv => whnf
        first
          | refine And.intro (a := drawB _ = true) (by kernel_rfl) ?_
          | refine And.intro (a := (_ : Bool) = true) rfl ?_
          | refine And.intro (a := (_ : Bool) = true ∧ (_ : Bool) = true) ⟨rfl, rfl⟩ ?_
          | refine And.intro (a := (_ : Bool) = true ∧ (_ : List _) = []) ⟨rfl, rfl⟩ ?_
          | refine And.intro (a := IR _ _) (And.intro (by omega) (by omega)) ?_
          | refine wrapE (And.intro (by omega) (by omega)) ?_
          | refine And.intro (a := (0 : Int) ≤ _ ∧ _ < _) (And.intro (by omega) (by omega)) ?_
          | refine And.intro (a := (_ : Bool) = true) (by simp only [Nat.beq_refl]; rfl) ?_
          | refine And.intro (a := ((_ : Bool) = true → 1 ≤ _) ∧ _ ≤ 9223372036854775807 ∧ _ ≤ 140737488355328) ⟨fun h => (by first | omega | cases h), by omega, by omega⟩ ?_
          | refine splT ?_
          | refine splF ?_
          | refine splNot ?_
          | (refine splIn (fun hc => ?_) (fun hc => ?_) <;> first | (exfalso; omega) | (exfalso; dsimp only at hc; omega) | skip)
          | (refine splD (fun hc => ?_) (fun hc => ?_) <;> first | (exfalso; omega) | (exfalso; dsimp only at hc; omega) | skip)
          | (refine splE (fun hc => ?_) (fun hc => ?_) <;> first | (exfalso; omega) | (exfalso; dsimp only at hc; omega) | skip)
          | (refine splNE (fun hc => ?_) (fun hc => ?_) <;> first | (exfalso; omega) | (exfalso; dsimp only at hc; omega) | skip)
      refine ⟨fun w' h => h.1, fun β w' hB hblk => ⟨((none, 0), ys), ?_, fun w2 k2 => ⟨hk2, ?_, fun i p y h1 h2 => hB.2 i p y h1 h2 w2 k2⟩⟩⟩
      · rw [← hlen]; rfl
      · rw [hA, ← hlen]; exact .inl ⟨rfl, rfl⟩
    | cons a L =>
      repeat'
        conv => whnf
        first
          | refine And.intro (a := drawB _ = true) (by kernel_rfl) ?_
          | refine And.intro (a := (_ : Bool) = true) rfl ?_
          | refine And.intro (a := (_ : Bool) = true ∧ (_ : Bool) = true) ⟨rfl, rfl⟩ ?_
          | refine And.intro (a := (_ : Bool) = true ∧ (_ : List _) = []) ⟨rfl, rfl⟩ ?_
          | refine And.intro (a := IR _ _) (And.intro (by omega) (by omega)) ?_
          | refine wrapE (And.intro (by omega) (by omega)) ?_
          | refine And.intro (a := (0 : Int) ≤ _ ∧ _ < _) (And.intro (by omega) (by omega)) ?_
          | refine And.intro (a := (_ : Bool) = true) (by simp only [Nat.beq_refl]; rfl) ?_
          | refine And.intro (a := ((_ : Bool) = true → 1 ≤ _) ∧ _ ≤ 9223372036854775807 ∧ _ ≤ 140737488355328) ⟨fun h => (by first | omega | cases h), by omega, by omega⟩ ?_
          | refine splT ?_
          | refine splF ?_
          | refine splNot ?_
          | (refine splIn (fun hc => ?_) (fun hc => ?_) <;> first | (exfalso; omega) | (exfalso; dsimp only at hc; omega) | skip)
          | (refine splD (fun hc => ?_) (fun hc => ?_) <;> first | (exfalso; omega) | (exfalso; dsimp only at hc; omega) | skip)
          | (refine splE (fun hc => ?_) (fun hc => ?_) <;> first | (exfalso; omega) | (exfalso; dsimp only at hc; omega) | skip)
          | (refine splNE (fun hc => ?_) (fun hc => ?_) <;> first | (exfalso; omega) | (exfalso; dsimp only at hc; omega) | skip)
      refine ⟨fun w' h => h.1, fun β w' hB hblk => ?_⟩
      obtain ⟨y, h1, h2⟩ := oEnd (sz := 15) (f := csP) (fun _ => rfl) a L (hblk 0 _ rfl rfl)
      refine ⟨(y, ys), ?_, fun w2 k2 => ⟨hk2, ?_, fun i p y h1 h2 => hB.2 i p y h1 h2 w2 k2⟩⟩
      · rw [← hlen]; exact h1
      · rw [hA, ← hlen]; exact h2 w2 k2
end Go.Proofs.Ytlehjapeomallaa.V
