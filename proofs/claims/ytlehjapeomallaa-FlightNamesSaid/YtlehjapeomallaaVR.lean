/- The law of chains answers true at every act. -/
import Derived.Test.YtlehjapeomallaaVQ
namespace Go.Proofs.Ytlehjapeomallaa.V
open Go Tx Go.RowKit
set_option linter.unusedSimpArgs false
set_option linter.unusedVariables false

theorem atA_mem {act : List (Fg × List Bx)} {ys : List (Option Addr × Nat)} {p : Fg × List Bx} (h : p ∈ atA act ys) : ∃ (i : Nat) (q : Fg × List Bx) (y : Option Addr × Nat), act[i]? = some q ∧ ys[i]? = some y ∧ p = (q.1.at y, q.2) := by
  obtain ⟨i, hi⟩ := List.getElem?_of_mem h
  unfold atA at hi
  rw [List.getElem?_zipWith] at hi
  cases h1 : act[i]? with
  | none => rw [h1] at hi; simp at hi
  | some q =>
    cases h2 : ys[i]? with
    | none => rw [h1, h2] at hi; simp at hi
    | some y => rw [h1, h2] at hi; simp at hi; exact ⟨i, q, y, h1, h2, hi.symm⟩
theorem okP_at (p : Fg × List Bx) (y : Option Addr × Nat) : okP (p.1.at y, p.2) = okP p := ok_at p.1 p.2 y
theorem all_at {act : List (Fg × List Bx)} : ∀ {ys : List (Option Addr × Nat)}, ys.length = act.length → (atA act ys).all okP = act.all okP := by
  induction act with
  | nil => intro ys _; simp [atA]
  | cons p act ih =>
    intro ys h
    cases ys with
    | nil => simp at h
    | cons y ys =>
      have := ih (ys := ys) (by simpa using h)
      unfold atA at this
      rw [atA, List.zipWith_cons_cons, List.all_cons, List.all_cons, okP_at, this]
theorem chn_at {need rst : Int} {act : List (Fg × List Bx)} : ∀ {ys : List (Option Addr × Nat)} (i : Nat) (fr : Int) (acc : List (Int × Int)), ys.length = act.length → chn need rst (atA act ys) i fr acc = chn need rst act i fr acc := by
  induction act with
  | nil => intro ys i fr acc _; simp [atA]
  | cons p act ih =>
    intro ys i fr acc h
    cases ys with
    | nil => simp at h
    | cons y ys =>
      have := fun j f a => ih (ys := ys) j f a (by simpa using h)
      unfold atA at this
      rw [atA, List.zipWith_cons_cons, chn, chn]
      have hf : frs (p.1.at y, p.2) need fr = frs p need fr := by unfold frs; rw [gd_at]
      rw [hf]
      cases frs p need fr with
      | none => rfl
      | some q => exact this _ _ _
theorem chE_at {need rst : Int} {act : List (Fg × List Bx)} {ys : List (Option Addr × Nat)} (h : ys.length = act.length) : chE (atA act ys) need rst = chE act need rst := by
  unfold chE
  rw [atA_len h, all_at h]
theorem Rd.mapf {α β : Type} {sz : Nat} {f : β → List Value} (g : α → β) {o : Option Addr} {n c : Nat} {L : List α} {w : World} (h : Rd sz (fun x => f (g x)) (.slice o n c) L w) : Rd sz f (.slice o n c) (L.map g) w := by
  rcases h with ⟨h1, rfl⟩ | ⟨ad, c', h1, h2⟩
  · exact .inl ⟨h1, rfl⟩
  · refine .inr ⟨ad, c', by rw [List.length_map]; exact h1, fun k b hk j v hv => ?_⟩
    rw [List.getElem?_map] at hk
    cases hx : L[k]? with
    | none => rw [hx] at hk; cases hk
    | some x =>
      rw [hx] at hk
      cases hk
      exact h2 k x hx j v hv

set_option maxRecDepth 100000 in
theorem want13 (act : List (Fg × List Bx)) (o : Option Addr) (c : Nat) (need rst : Int) (s7 s8 s9 : Value) (w : World) (h : World → Prop) (hB : ∀ w', h w' → Below w.heap.size w w') (hrd : Rd 15 csP (.slice o act.length c) act w) (hl : act.length ≤ 1000000)
    (hbx : ∀ p ∈ act, Rd 4 Bx.cs (.slice p.1.o p.1.n p.1.c) p.2 w ∧ p.2.length ≤ 1000000) {Φ : Exit → Sg → Prop}
    (hfin : VC Try.prog (rest 7 body13) ⟨118, [(0, .v (.slice o act.length c)), (1, .v (iv need)), (2, .v (iv rst)), (7, .v s7), (8, .v s8), (9, .v s9), (10, .v (iv (chE act need rst)))], [], 0, h, z0⟩ Φ) :
    VC Try.prog (rest 4 body13) ⟨118, [(0, .v (.slice o act.length c)), (1, .v (iv need)), (2, .v (iv rst)), (7, .v s7), (8, .v s8), (9, .v s9), (10, .v (iv 0))], [], 0, h, z0⟩ Φ := by
  refine VC.cutE env mixed 3 0 (fun _ : Unit => [(0, .v (.slice o act.length c)), (1, .v (iv need)), (2, .v (iv rst)), (7, .v s7), (8, .v s8), (9, .v s9), (10, .v (iv (chE act need rst)))]) (fun _ => []) (fun _ => True) (fun _ _ => ⟨rfl, rfl⟩) ?_ (fun _ _ => hfin)
  have hR : ∀ p ∈ act, ∀ w', h w' → Calls Try.prog 26 #[p.1.v] w' fun e w'' => e = .returned (.bool (p.1.ok p.2)) ∧ Below w'.heap.size w' w'' := fun p hp w' hw => Right_ok p.1 p.2 w' (Rd.below (hbx p hp).1 (hB w' hw)) (hbx p hp).2
  have hin : ∀ e0 : Int, (e0 = 0 ∧ (1 ≤ (act.length : Int) ∧ (act.length : Int) ≤ 12)) ∨ (e0 = 3 ∧ ¬ (1 ≤ (act.length : Int) ∧ (act.length : Int) ≤ 12)) → True := fun _ _ => trivial
  have key : ∀ (e : Int), ((e = 0 ∧ (1 ≤ (act.length : Int) ∧ (act.length : Int) ≤ 12) ∧ act.all okP = true) ∨ (e = 1 ∧ (1 ≤ (act.length : Int) ∧ (act.length : Int) ≤ 12) ∧ act.all okP = false) ∨ (e = 3 ∧ ¬ (1 ≤ (act.length : Int) ∧ (act.length : Int) ≤ 12))) →
      (e ≠ 0 → chE act need rst = e) ∧ (e = 0 → chE act need rst = if (1 ≤ need ∧ need ≤ 100) ∧ (0 ≤ rst ∧ rst ≤ 1000) then 0 else 2) := fun e he => by
    unfold chE
    rcases he with ⟨rfl, h1, h2⟩ | ⟨rfl, h1, h2⟩ | ⟨rfl, h1⟩
    · exact ⟨fun h => absurd rfl h, fun _ => by rw [if_pos h1, if_pos h2]⟩
    · exact ⟨fun _ => by rw [if_pos h1, if_neg (by simp [h2])], fun h => by cases h⟩
    · exact ⟨fun _ => by rw [if_neg h1], fun h => by cases h⟩
  by_cases h1 : (1 ≤ (act.length : Int) ∧ (act.length : Int) ≤ 12)
  · skip
    repeat'
      conv => whnf
      first
        | refine And.intro (a := drawB _ = true) (by kernel_rfl) ?_
        | refine And.intro (a := (_ : Bool) = true) rfl ?_
        | refine And.intro (a := (_ : Bool) = true ∧ (_ : Bool) = true) ⟨rfl, rfl⟩ ?_
        | refine And.intro (a := (_ : Bool) = true ∧ (_ : List _) = []) ⟨rfl, rfl⟩ ?_
        | refine And.intro (a := IR _ _) (And.intro (by omega) (by omega)) ?_
        | refine wrapE (And.intro (by omega) (by omega)) ?_
        | refine And.intro (a := (0 : Int) ≤ _ ∧ _ < _) (And.intro (by omega) (by omega)) ?_
        | refine And.intro (a := (_ : Bool) = true) (by simp only [Nat.beq_refl]; rfl) ?_
        | refine And.intro (a := ((_ : Bool) = true → 1 ≤ _) ∧ _ ≤ 9223372036854775807 ∧ _ ≤ 140737488355328) ⟨fun h => (by first | omega | cases h), by omega, by omega⟩ ?_
        | refine splT ?_
        | refine splF ?_
        | refine splNot ?_
        | (refine splIn (fun hc => ?_) (fun hc => ?_) <;> first | (exfalso; omega) | (exfalso; dsimp only at hc; omega) | skip)
        | (refine splD (fun hc => ?_) (fun hc => ?_) <;> first | (exfalso; omega) | (exfalso; dsimp only at hc; omega) | skip)
        | (refine splE (fun hc => ?_) (fun hc => ?_) <;> first | (exfalso; omega) | (exfalso; dsimp only at hc; omega) | skip)
        | (refine splNE (fun hc => ?_) (fun hc => ?_) <;> first | (exfalso; omega) | (exfalso; dsimp only at hc; omega) | skip)
    refine loopE (fun x : Nat × Int => [(0, .v (.slice o act.length c)), (1, .v (iv need)), (2, .v (iv rst)), (7, .v s7), (8, .v s8), (9, .v s9), (10, .v (iv x.2)), (11, .v (iv x.1))]) (fun _ => [])
      (fun x => x.1 ≤ act.length ∧ ((x.2 = 0 ∧ (1 ≤ (act.length : Int) ∧ (act.length : Int) ≤ 12) ∧ (act.take x.1).all okP = true) ∨ (x.2 = 1 ∧ (1 ≤ (act.length : Int) ∧ (act.length : Int) ≤ 12) ∧ act.all okP = false) ∨ (x.2 = 3 ∧ ¬ (1 ≤ (act.length : Int) ∧ (act.length : Int) ≤ 12)))) (fun x => act.length - x.1) (0, 0) ⟨Nat.zero_le _, .inl ⟨rfl, h1, rfl⟩⟩ ⟨rfl, rfl, rfl, rfl, rfl, rfl, rfl, rfl, trivial⟩ trivial (fun _ => ⟨rfl, rfl⟩) ?_
    rintro ⟨k, e⟩ ⟨hk, he⟩
    dsimp only at hk he
    rcases Nat.lt_or_ge k act.length with hkl | hkl
    · obtain ⟨p, hb⟩ : ∃ b, act[k]? = some b := ⟨_, List.getElem?_eq_getElem hkl⟩
      obtain ⟨_, ad, rfl, _⟩ := hrd.some (by omega)
      have e0 := fun (w' : World) hw' => rd_ati (hrd.below (w' := w') (hB w' hw')) hb
      have hRp := hR p (List.mem_of_getElem? hb)
      have ht : (act.take (k + 1)).all okP = ((act.take k).all okP && okP p) := by rw [List.take_add_one, hb]; simp
      rcases he with ⟨rfl, _, he⟩ | ⟨rfl, _, he⟩ | ⟨rfl, he⟩
      · cases hp : p.1.ok p.2 with
        | true =>
          rw [hp] at hRp
          repeat'
            conv => whnf
            first
              | refine And.intro (a := drawB _ = true) (by kernel_rfl) ?_
              | refine And.intro (a := (_ : Bool) = true) rfl ?_
              | refine And.intro (a := (_ : Bool) = true ∧ (_ : Bool) = true) ⟨rfl, rfl⟩ ?_
              | refine And.intro (a := (_ : Bool) = true ∧ (_ : List _) = []) ⟨rfl, rfl⟩ ?_
              | refine And.intro (a := IR _ _) (And.intro (by omega) (by omega)) ?_
              | refine wrapE (And.intro (by omega) (by omega)) ?_
              | refine And.intro (a := (0 : Int) ≤ _ ∧ _ < _) (And.intro (by omega) (by omega)) ?_
              | refine And.intro (a := (_ : Bool) = true) (by simp only [Nat.beq_refl]; rfl) ?_
              | refine And.intro (a := ((_ : Bool) = true → 1 ≤ _) ∧ _ ≤ 9223372036854775807 ∧ _ ≤ 140737488355328) ⟨fun h => (by first | omega | cases h), by omega, by omega⟩ ?_
              | refine splT ?_
              | refine splF ?_
              | refine splNot ?_
              | (refine splIn (fun hc => ?_) (fun hc => ?_) <;> first | (exfalso; omega) | (exfalso; dsimp only at hc; omega) | skip)
              | (refine splD (fun hc => ?_) (fun hc => ?_) <;> first | (exfalso; omega) | (exfalso; dsimp only at hc; omega) | skip)
              | (refine splE (fun hc => ?_) (fun hc => ?_) <;> first | (exfalso; omega) | (exfalso; dsimp only at hc; omega) | skip)
              | (refine splNE (fun hc => ?_) (fun hc => ?_) <;> first | (exfalso; omega) | (exfalso; dsimp only at hc; omega) | skip)
              | refine Exists.intro (α := List Value) p.1.cs ⟨⟨rfl, fun w' hw' => e0 w' hw'⟩, ?_⟩
              | ((with_reducible show CallEv _ _ 26 _ _ _ _ _); refine callE (k := 26) (fun β w' hbw => hRp _ hbw) ?_)
          exact ⟨(k + 1, 0), ⟨by show k + 1 ≤ _; omega, .inl ⟨rfl, h1, by show (act.take (k + 1)).all okP = true; rw [ht, he, okP, hp]; rfl⟩⟩, by show _ - (k + 1) < _ - k; omega, Ent.weak rfl ⟨rfl, rfl, rfl, rfl, rfl, rfl, rfl, rfl, trivial⟩ trivial fun _ h => h⟩
        | false =>
          rw [hp] at hRp
          repeat'
            conv => whnf
            first
              | refine And.intro (a := drawB _ = true) (by kernel_rfl) ?_
              | refine And.intro (a := (_ : Bool) = true) rfl ?_
              | refine And.intro (a := (_ : Bool) = true ∧ (_ : Bool) = true) ⟨rfl, rfl⟩ ?_
              | refine And.intro (a := (_ : Bool) = true ∧ (_ : List _) = []) ⟨rfl, rfl⟩ ?_
              | refine And.intro (a := IR _ _) (And.intro (by omega) (by omega)) ?_
              | refine wrapE (And.intro (by omega) (by omega)) ?_
              | refine And.intro (a := (0 : Int) ≤ _ ∧ _ < _) (And.intro (by omega) (by omega)) ?_
              | refine And.intro (a := (_ : Bool) = true) (by simp only [Nat.beq_refl]; rfl) ?_
              | refine And.intro (a := ((_ : Bool) = true → 1 ≤ _) ∧ _ ≤ 9223372036854775807 ∧ _ ≤ 140737488355328) ⟨fun h => (by first | omega | cases h), by omega, by omega⟩ ?_
              | refine splT ?_
              | refine splF ?_
              | refine splNot ?_
              | (refine splIn (fun hc => ?_) (fun hc => ?_) <;> first | (exfalso; omega) | (exfalso; dsimp only at hc; omega) | skip)
              | (refine splD (fun hc => ?_) (fun hc => ?_) <;> first | (exfalso; omega) | (exfalso; dsimp only at hc; omega) | skip)
              | (refine splE (fun hc => ?_) (fun hc => ?_) <;> first | (exfalso; omega) | (exfalso; dsimp only at hc; omega) | skip)
              | (refine splNE (fun hc => ?_) (fun hc => ?_) <;> first | (exfalso; omega) | (exfalso; dsimp only at hc; omega) | skip)
              | refine Exists.intro (α := List Value) p.1.cs ⟨⟨rfl, fun w' hw' => e0 w' hw'⟩, ?_⟩
              | ((with_reducible show CallEv _ _ 26 _ _ _ _ _); refine callE (k := 26) (fun β w' hbw => hRp _ hbw) ?_)
          exact ⟨(k + 1, 1), ⟨by show k + 1 ≤ _; omega, .inr (.inl ⟨rfl, h1, by rw [List.all_eq_false]; exact ⟨p, List.mem_of_getElem? hb, by simp [okP, hp]⟩⟩)⟩, by show _ - (k + 1) < _ - k; omega, Ent.weak rfl ⟨rfl, rfl, rfl, rfl, rfl, rfl, rfl, rfl, trivial⟩ trivial fun _ h => h⟩
      · have hch := (key 1 (.inr (.inl ⟨rfl, h1, he⟩))).1 (by decide)
        repeat'
          conv => whnf
          first
            | refine And.intro (a := drawB _ = true) (by kernel_rfl) ?_
            | refine And.intro (a := (_ : Bool) = true) rfl ?_
            | refine And.intro (a := (_ : Bool) = true ∧ (_ : Bool) = true) ⟨rfl, rfl⟩ ?_
            | refine And.intro (a := (_ : Bool) = true ∧ (_ : List _) = []) ⟨rfl, rfl⟩ ?_
            | refine And.intro (a := IR _ _) (And.intro (by omega) (by omega)) ?_
            | refine wrapE (And.intro (by omega) (by omega)) ?_
            | refine And.intro (a := (0 : Int) ≤ _ ∧ _ < _) (And.intro (by omega) (by omega)) ?_
            | refine And.intro (a := (_ : Bool) = true) (by simp only [Nat.beq_refl]; rfl) ?_
            | refine And.intro (a := ((_ : Bool) = true → 1 ≤ _) ∧ _ ≤ 9223372036854775807 ∧ _ ≤ 140737488355328) ⟨fun h => (by first | omega | cases h), by omega, by omega⟩ ?_
            | refine splT ?_
            | refine splF ?_
            | refine splNot ?_
            | (refine splIn (fun hc => ?_) (fun hc => ?_) <;> first | (exfalso; omega) | (exfalso; dsimp only at hc; omega) | skip)
            | (refine splD (fun hc => ?_) (fun hc => ?_) <;> first | (exfalso; omega) | (exfalso; dsimp only at hc; omega) | skip)
            | (refine splE (fun hc => ?_) (fun hc => ?_) <;> first | (exfalso; omega) | (exfalso; dsimp only at hc; omega) | skip)
            | (refine splNE (fun hc => ?_) (fun hc => ?_) <;> first | (exfalso; omega) | (exfalso; dsimp only at hc; omega) | skip)
        all_goals exact ⟨rfl, (), trivial, Ent.weak rfl ⟨rfl, rfl, rfl, rfl, rfl, rfl, by rw [hch]; rfl, trivial⟩ trivial fun _ h => h⟩
      · exact absurd h1 he
    · obtain rfl : k = act.length := by omega
      rw [List.take_of_length_le (Nat.le_refl _)] at he
      rcases he with ⟨rfl, _, he⟩ | ⟨rfl, _, he⟩ | ⟨rfl, he⟩
      · have hch := (key 0 (.inl ⟨rfl, h1, he⟩)).2 rfl
        by_cases h3 : (1 ≤ need ∧ need ≤ 100) ∧ (0 ≤ rst ∧ rst ≤ 1000)
        · rw [if_pos h3] at hch
          repeat'
            conv => whnf
            first
              | refine And.intro (a := drawB _ = true) (by kernel_rfl) ?_
              | refine And.intro (a := (_ : Bool) = true) rfl ?_
              | refine And.intro (a := (_ : Bool) = true ∧ (_ : Bool) = true) ⟨rfl, rfl⟩ ?_
              | refine And.intro (a := (_ : Bool) = true ∧ (_ : List _) = []) ⟨rfl, rfl⟩ ?_
              | refine And.intro (a := IR _ _) (And.intro (by omega) (by omega)) ?_
              | refine wrapE (And.intro (by omega) (by omega)) ?_
              | refine And.intro (a := (0 : Int) ≤ _ ∧ _ < _) (And.intro (by omega) (by omega)) ?_
              | refine And.intro (a := (_ : Bool) = true) (by simp only [Nat.beq_refl]; rfl) ?_
              | refine And.intro (a := ((_ : Bool) = true → 1 ≤ _) ∧ _ ≤ 9223372036854775807 ∧ _ ≤ 140737488355328) ⟨fun h => (by first | omega | cases h), by omega, by omega⟩ ?_
              | refine splT ?_
              | refine splF ?_
              | refine splNot ?_
              | (refine splIn (fun hc => ?_) (fun hc => ?_) <;> first | (exfalso; omega) | (exfalso; dsimp only at hc; omega) | skip)
              | (refine splD (fun hc => ?_) (fun hc => ?_) <;> first | (exfalso; omega) | (exfalso; dsimp only at hc; omega) | skip)
              | (refine splE (fun hc => ?_) (fun hc => ?_) <;> first | (exfalso; omega) | (exfalso; dsimp only at hc; omega) | skip)
              | (refine splNE (fun hc => ?_) (fun hc => ?_) <;> first | (exfalso; omega) | (exfalso; dsimp only at hc; omega) | skip)
              | ((with_reducible show CallEv _ _ 19 _ _ _ _ _); refine callE (k := 19) (fun β w' hbw => In_ok _ _ _ _) ?_)
          all_goals first | (exfalso; omega) | exact ⟨rfl, (), trivial, Ent.weak rfl ⟨rfl, rfl, rfl, rfl, rfl, rfl, by rw [hch]; rfl, trivial⟩ trivial fun _ h => h⟩
        · rw [if_neg h3] at hch
          repeat'
            conv => whnf
            first
              | refine And.intro (a := drawB _ = true) (by kernel_rfl) ?_
              | refine And.intro (a := (_ : Bool) = true) rfl ?_
              | refine And.intro (a := (_ : Bool) = true ∧ (_ : Bool) = true) ⟨rfl, rfl⟩ ?_
              | refine And.intro (a := (_ : Bool) = true ∧ (_ : List _) = []) ⟨rfl, rfl⟩ ?_
              | refine And.intro (a := IR _ _) (And.intro (by omega) (by omega)) ?_
              | refine wrapE (And.intro (by omega) (by omega)) ?_
              | refine And.intro (a := (0 : Int) ≤ _ ∧ _ < _) (And.intro (by omega) (by omega)) ?_
              | refine And.intro (a := (_ : Bool) = true) (by simp only [Nat.beq_refl]; rfl) ?_
              | refine And.intro (a := ((_ : Bool) = true → 1 ≤ _) ∧ _ ≤ 9223372036854775807 ∧ _ ≤ 140737488355328) ⟨fun h => (by first | omega | cases h), by omega, by omega⟩ ?_
              | refine splT ?_
              | refine splF ?_
              | refine splNot ?_
              | (refine splIn (fun hc => ?_) (fun hc => ?_) <;> first | (exfalso; omega) | (exfalso; dsimp only at hc; omega) | skip)
              | (refine splD (fun hc => ?_) (fun hc => ?_) <;> first | (exfalso; omega) | (exfalso; dsimp only at hc; omega) | skip)
              | (refine splE (fun hc => ?_) (fun hc => ?_) <;> first | (exfalso; omega) | (exfalso; dsimp only at hc; omega) | skip)
              | (refine splNE (fun hc => ?_) (fun hc => ?_) <;> first | (exfalso; omega) | (exfalso; dsimp only at hc; omega) | skip)
              | ((with_reducible show CallEv _ _ 19 _ _ _ _ _); refine callE (k := 19) (fun β w' hbw => In_ok _ _ _ _) ?_)
          all_goals first | (exfalso; omega) | exact ⟨rfl, (), trivial, Ent.weak rfl ⟨rfl, rfl, rfl, rfl, rfl, rfl, by rw [hch]; rfl, trivial⟩ trivial fun _ h => h⟩
      · have hch := (key 1 (.inr (.inl ⟨rfl, h1, he⟩))).1 (by decide)
        repeat'
          conv => whnf
          first
            | refine And.intro (a := drawB _ = true) (by kernel_rfl) ?_
            | refine And.intro (a := (_ : Bool) = true) rfl ?_
            | refine And.intro (a := (_ : Bool) = true ∧ (_ : Bool) = true) ⟨rfl, rfl⟩ ?_
            | refine And.intro (a := (_ : Bool) = true ∧ (_ : List _) = []) ⟨rfl, rfl⟩ ?_
            | refine And.intro (a := IR _ _) (And.intro (by omega) (by omega)) ?_
            | refine wrapE (And.intro (by omega) (by omega)) ?_
            | refine And.intro (a := (0 : Int) ≤ _ ∧ _ < _) (And.intro (by omega) (by omega)) ?_
            | refine And.intro (a := (_ : Bool) = true) (by simp only [Nat.beq_refl]; rfl) ?_
            | refine And.intro (a := ((_ : Bool) = true → 1 ≤ _) ∧ _ ≤ 9223372036854775807 ∧ _ ≤ 140737488355328) ⟨fun h => (by first | omega | cases h), by omega, by omega⟩ ?_
            | refine splT ?_
            | refine splF ?_
            | refine splNot ?_
            | (refine splIn (fun hc => ?_) (fun hc => ?_) <;> first | (exfalso; omega) | (exfalso; dsimp only at hc; omega) | skip)
            | (refine splD (fun hc => ?_) (fun hc => ?_) <;> first | (exfalso; omega) | (exfalso; dsimp only at hc; omega) | skip)
            | (refine splE (fun hc => ?_) (fun hc => ?_) <;> first | (exfalso; omega) | (exfalso; dsimp only at hc; omega) | skip)
            | (refine splNE (fun hc => ?_) (fun hc => ?_) <;> first | (exfalso; omega) | (exfalso; dsimp only at hc; omega) | skip)
        all_goals exact ⟨rfl, (), trivial, Ent.weak rfl ⟨rfl, rfl, rfl, rfl, rfl, rfl, by rw [hch]; rfl, trivial⟩ trivial fun _ h => h⟩
      · exact absurd h1 he
  · have hch := (key 3 (.inr (.inr ⟨rfl, h1⟩))).1 (by decide)
    repeat'
      conv => whnf
      first
        | refine And.intro (a := drawB _ = true) (by kernel_rfl) ?_
        | refine And.intro (a := (_ : Bool) = true) rfl ?_
        | refine And.intro (a := (_ : Bool) = true ∧ (_ : Bool) = true) ⟨rfl, rfl⟩ ?_
        | refine And.intro (a := (_ : Bool) = true ∧ (_ : List _) = []) ⟨rfl, rfl⟩ ?_
        | refine And.intro (a := IR _ _) (And.intro (by omega) (by omega)) ?_
        | refine wrapE (And.intro (by omega) (by omega)) ?_
        | refine And.intro (a := (0 : Int) ≤ _ ∧ _ < _) (And.intro (by omega) (by omega)) ?_
        | refine And.intro (a := (_ : Bool) = true) (by simp only [Nat.beq_refl]; rfl) ?_
        | refine And.intro (a := ((_ : Bool) = true → 1 ≤ _) ∧ _ ≤ 9223372036854775807 ∧ _ ≤ 140737488355328) ⟨fun h => (by first | omega | cases h), by omega, by omega⟩ ?_
        | refine splT ?_
        | refine splF ?_
        | refine splNot ?_
        | (refine splIn (fun hc => ?_) (fun hc => ?_) <;> first | (exfalso; omega) | (exfalso; dsimp only at hc; omega) | skip)
        | (refine splD (fun hc => ?_) (fun hc => ?_) <;> first | (exfalso; omega) | (exfalso; dsimp only at hc; omega) | skip)
        | (refine splE (fun hc => ?_) (fun hc => ?_) <;> first | (exfalso; omega) | (exfalso; dsimp only at hc; omega) | skip)
        | (refine splNE (fun hc => ?_) (fun hc => ?_) <;> first | (exfalso; omega) | (exfalso; dsimp only at hc; omega) | skip)
    all_goals conv => whnf
    all_goals
     refine loopE (fun x : Nat × Int => [(0, .v (.slice o act.length c)), (1, .v (iv need)), (2, .v (iv rst)), (7, .v s7), (8, .v s8), (9, .v s9), (10, .v (iv x.2)), (11, .v (iv x.1))]) (fun _ => [])
      (fun x => x.1 ≤ act.length ∧ ((x.2 = 0 ∧ (1 ≤ (act.length : Int) ∧ (act.length : Int) ≤ 12) ∧ (act.take x.1).all okP = true) ∨ (x.2 = 1 ∧ (1 ≤ (act.length : Int) ∧ (act.length : Int) ≤ 12) ∧ act.all okP = false) ∨ (x.2 = 3 ∧ ¬ (1 ≤ (act.length : Int) ∧ (act.length : Int) ≤ 12)))) (fun x => act.length - x.1) (0, 3) ⟨Nat.zero_le _, .inr (.inr ⟨rfl, h1⟩)⟩ ⟨rfl, rfl, rfl, rfl, rfl, rfl, rfl, rfl, trivial⟩ trivial (fun _ => ⟨rfl, rfl⟩) ?_
    all_goals
      rintro ⟨k, e⟩ ⟨hk, he⟩
      dsimp only at hk he
      have he : e = 3 := by omega
      subst he
    all_goals skip
    repeat'
      conv => whnf
      first
        | refine And.intro (a := drawB _ = true) (by kernel_rfl) ?_
        | refine And.intro (a := (_ : Bool) = true) rfl ?_
        | refine And.intro (a := (_ : Bool) = true ∧ (_ : Bool) = true) ⟨rfl, rfl⟩ ?_
        | refine And.intro (a := (_ : Bool) = true ∧ (_ : List _) = []) ⟨rfl, rfl⟩ ?_
        | refine And.intro (a := IR _ _) (And.intro (by omega) (by omega)) ?_
        | refine wrapE (And.intro (by omega) (by omega)) ?_
        | refine And.intro (a := (0 : Int) ≤ _ ∧ _ < _) (And.intro (by omega) (by omega)) ?_
        | refine And.intro (a := (_ : Bool) = true) (by simp only [Nat.beq_refl]; rfl) ?_
        | refine And.intro (a := ((_ : Bool) = true → 1 ≤ _) ∧ _ ≤ 9223372036854775807 ∧ _ ≤ 140737488355328) ⟨fun h => (by first | omega | cases h), by omega, by omega⟩ ?_
        | refine splT ?_
        | refine splF ?_
        | refine splNot ?_
        | (refine splIn (fun hc => ?_) (fun hc => ?_) <;> first | (exfalso; omega) | (exfalso; dsimp only at hc; omega) | skip)
        | (refine splD (fun hc => ?_) (fun hc => ?_) <;> first | (exfalso; omega) | (exfalso; dsimp only at hc; omega) | skip)
        | (refine splE (fun hc => ?_) (fun hc => ?_) <;> first | (exfalso; omega) | (exfalso; dsimp only at hc; omega) | skip)
        | (refine splNE (fun hc => ?_) (fun hc => ?_) <;> first | (exfalso; omega) | (exfalso; dsimp only at hc; omega) | skip)
    all_goals exact ⟨rfl, (), trivial, Ent.weak rfl ⟨rfl, rfl, rfl, rfl, rfl, rfl, by rw [hch]; rfl, trivial⟩ trivial fun _ h => h⟩

theorem Chain_atn (act : List (Fg × List Bx)) (need rst e : Int) (he : chE act need rst = e) (h0 : e ≠ 0) (hl : act.length ≤ 1000000) (hb : ∀ p ∈ act, p.2.length ≤ 1000000) (x : (Option Addr × Nat) × List (Option Addr × Nat)) (w : World) (hx : AtM act x w) :
    Calls Try.prog 50 #[.slice x.1.1 act.length x.1.2, iv need, iv rst] w fun e' w' => e' = .returned (.tuple #[.slice none 0 0, iv 0, iv e]) ∧ Below w.heap.size w w' := by
  have hlen := atA_len hx.len
  have := Chain_no (atA act x.2) x.1.1 x.1.2 need rst e w (by rw [hlen]; exact hx.rd) (by rw [hlen]; exact hl) (fun p hp => by
    obtain ⟨i, q, y, h1, h2, rfl⟩ := atA_mem hp
    exact ⟨hx.bx i q y h1 h2, hb q (List.mem_of_getElem? h1)⟩) (by rw [chE_at hx.len]; exact he) h0
  rwa [hlen] at this
theorem Chain_aty (act : List (Fg × List Bx)) (need rst : Int) (hl : 1 ≤ act.length ∧ act.length ≤ 12) (hn : 1 ≤ need ∧ need ≤ 100) (hr : 0 ≤ rst ∧ rst ≤ 1000) (hb : ∀ p ∈ act, p.1.ok p.2 = true ∧ p.2.length ≤ 1000000) (x : (Option Addr × Nat) × List (Option Addr × Nat)) (w : World) (hx : AtM act x w) :
    Calls Try.prog 50 #[.slice x.1.1 act.length x.1.2, iv need, iv rst] w fun e w' => ∃ y : YS (chn need rst act 0 0 []).1, e = .returned (.tuple #[sV (chn need rst act 0 0 []).1.length y.1, iv (iE (chn need rst act 0 0 []).2), iv (eE (chn need rst act 0 0 []).2)]) ∧ Below w.heap.size w w' ∧
      St w.heap.size (Rd 2 wF (sV (chn need rst act 0 0 []).1.length y.1) (chn need rst act 0 0 []).1) w' := by
  have hlen := atA_len hx.len
  have := Chain_yes (atA act x.2) x.1.1 x.1.2 need rst w (by rw [hlen]; exact hx.rd) (by rw [hlen]; exact hl) hn hr (fun p hp => by
    obtain ⟨i, q, y, h1, h2, rfl⟩ := atA_mem hp
    obtain ⟨g1, g2⟩ := hb q (List.mem_of_getElem? h1)
    exact ⟨hx.bx i q y h1 h2, by rw [show (q.1.at y).ok q.2 = q.1.ok q.2 from rfl]; exact g1, g2⟩)
  rw [hlen, chn_at 0 0 [] hx.len] at this
  exact this.mono fun _ _ ⟨y, h1, h2, h3⟩ => ⟨⟨y, rd_ys h3.now⟩, h1, h2, h3⟩
theorem Rchain_ys (act : List (Fg × List Bx)) (o : Option Addr) (c : Nat) (need rst : Int) (w : World) (hrd : Rd 15 csP (.slice o act.length c) act w) (hl : act.length ≤ 12) (hn : 1 ≤ need ∧ need ≤ 100) (hr : 0 ≤ rst ∧ rst ≤ 1000)
    (hbx : ∀ p ∈ act, Rd 4 Bx.cs (.slice p.1.o p.1.n p.1.c) p.2 w ∧ p.1.ok p.2 = true) :
    Calls Try.prog 52 #[.slice o act.length c, iv need, iv rst] w fun e w' => ∃ y : YS (chn need rst act 0 0 []).1, e = .returned (.tuple #[sV (chn need rst act 0 0 []).1.length y.1, iv (noI (chn need rst act 0 0 []).2)]) ∧ Below w.heap.size w w' ∧
      St w.heap.size (Rd 2 wF (sV (chn need rst act 0 0 []).1.length y.1) (chn need rst act 0 0 []).1) w' :=
  (Rchain_ok act o c need rst w hrd hl hn hr hbx).mono fun _ _ ⟨y, h1, h2, h3⟩ => ⟨⟨y, rd_ys h3.now⟩, h1, h2, h3⟩
theorem chn_len {need rst : Int} : ∀ {act : List (Fg × List Bx)} {i : Nat} {fr : Int} {acc : List (Int × Int)}, (chn need rst act i fr acc).1.length ≤ acc.length + act.length ∧ ((chn need rst act i fr acc).2 ≠ none → (chn need rst act i fr acc).1 = [])
  | [], i, fr, acc => ⟨by simp [chn], fun h => absurd rfl h⟩
  | p :: r, i, fr, acc => by
    rw [chn]
    cases frs p need fr with
    | none => exact ⟨by simp, fun _ => rfl⟩
    | some q =>
      obtain ⟨h1, h2⟩ := chn_len (need := need) (rst := rst) (act := r) (i := i + 1) (fr := q + p.1.mo + rst) (acc := acc ++ [(q - need + 1, q)])
      exact ⟨Nat.le_trans h1 (by simp; omega), h2⟩

set_option maxRecDepth 100000 in
theorem FlightChains_ok (act : List (Fg × List Bx)) (o : Option Addr) (c : Nat) (need rst : Int) (w : World) (hrd : Rd 15 csP (.slice o act.length c) act w) (hl : act.length ≤ 9223372036854775807)
    (hbx : ∀ p ∈ act, Rd 4 Bx.cs (.slice p.1.o p.1.n p.1.c) p.2 w) :
    Calls Try.prog 13 #[.slice o act.length c, iv need, iv rst] w fun e w' => e = .returned (.bool true) ∧ Below w.heap.size w w' := by
  refine calls_valV env mixed Try.func13 has13 Try.ntmps13 [.slice o act.length c, iv need, iv rst] (by simp) ?_
  have hL : ∀ w', Below w.heap.size w w' → Calls Try.prog 49 #[.slice o act.length c] w' fun e w'' => e = .returned (.bool (ltB (act.map Prod.fst))) ∧ Below w'.heap.size w' w'' := fun w' hb => by
    have := light_ok (act.map Prod.fst) o c w' (by rw [List.length_map]; exact Rd.mapf (f := Fg.cs) Prod.fst (hrd.below hb)) (by rw [List.length_map]; exact hl)
    rwa [List.length_map] at this
  cases hlt : ltB (act.map Prod.fst) with
  | false =>
    rw [hlt] at hL
    refine VC.of env mixed ?_
    repeat'
      conv => whnf
      first
        | refine And.intro (a := drawB _ = true) (by kernel_rfl) ?_
        | refine And.intro (a := (_ : Bool) = true) rfl ?_
        | refine And.intro (a := (_ : Bool) = true ∧ (_ : Bool) = true) ⟨rfl, rfl⟩ ?_
        | refine And.intro (a := (_ : Bool) = true ∧ (_ : List _) = []) ⟨rfl, rfl⟩ ?_
        | refine And.intro (a := IR _ _) (And.intro (by omega) (by omega)) ?_
        | refine wrapE (And.intro (by omega) (by omega)) ?_
        | refine And.intro (a := (0 : Int) ≤ _ ∧ _ < _) (And.intro (by omega) (by omega)) ?_
        | refine And.intro (a := (_ : Bool) = true) (by simp only [Nat.beq_refl]; rfl) ?_
        | refine And.intro (a := ((_ : Bool) = true → 1 ≤ _) ∧ _ ≤ 9223372036854775807 ∧ _ ≤ 140737488355328) ⟨fun h => (by first | omega | cases h), by omega, by omega⟩ ?_
        | refine splT ?_
        | refine splF ?_
        | refine splNot ?_
        | (refine splIn (fun hc => ?_) (fun hc => ?_) <;> first | (exfalso; omega) | (exfalso; dsimp only at hc; omega) | skip)
        | (refine splD (fun hc => ?_) (fun hc => ?_) <;> first | (exfalso; omega) | (exfalso; dsimp only at hc; omega) | skip)
        | (refine splE (fun hc => ?_) (fun hc => ?_) <;> first | (exfalso; omega) | (exfalso; dsimp only at hc; omega) | skip)
        | (refine splNE (fun hc => ?_) (fun hc => ?_) <;> first | (exfalso; omega) | (exfalso; dsimp only at hc; omega) | skip)
        | ((with_reducible show CallEv _ _ 49 _ _ _ _ _); refine callE (k := 49) (fun β w' hbw => hL _ hbw) ?_)
        | ((with_reducible show CallEv _ _ 20 _ _ _ _ _); refine callE (k := 20) (fun β w' hbw => wakes_ok _) ?_)
    exact ⟨fun β => rfl, fun w' h => h⟩
  | true =>
    rw [hlt] at hL
    simp only [ltB, Bool.and_eq_true, Bool.or_eq_true, decide_eq_true_eq, List.length_map, List.all_eq_true, List.mem_map, forall_exists_index, and_imp, forall_apply_eq_imp_iff₂] at hlt
    have hbl : ∀ p ∈ act, p.2.length ≤ 1000000 := fun p hp => by
      have h1 := hlt.1 p hp
      unfold lt1 at h1
      simp only [Bool.and_eq_true, decide_eq_true_eq] at h1
      have h2 : p.1.n = p.2.length := (hbx p hp).len
      omega
    have hl2 : act.length ≤ 14 := by omega
    have hbx2 : ∀ p ∈ act, Rd 4 Bx.cs (.slice p.1.o p.1.n p.1.c) p.2 w ∧ p.2.length ≤ 1000000 := fun p hp => ⟨hbx p hp, hbl p hp⟩
    have hA := fun w' (hb : Below w.heap.size w w') => Act_ok act o c w' (hrd.below hb) (by omega) fun p hp => ⟨(hbx p hp).below hb, hbl p hp⟩
    have hwant := fun s7 s8 s9 h hB Φ hfin => want13 act o c need rst s7 s8 s9 w h hB hrd (by omega) hbx2 (Φ := Φ) hfin
    by_cases he : chE act need rst = 0
    case neg =>
      have hN := fun x w' (hx : AtM act x w') => Chain_atn act need rst _ rfl he (by omega) hbl x w' hx
      generalize chE act need rst = e at *
      refine VC.cutE env mixed 4 0 (fun _ : Unit => [(0, .v (.slice o act.length c)), (1, .v (iv need)), (2, .v (iv rst)), (7, .v (.slice none 0 0)), (8, .v (iv 0)), (9, .v (iv e)), (10, .v (iv 0))]) (fun _ => []) (fun _ => True) (fun _ _ => ⟨rfl, rfl⟩) ?_ (fun _ _ => hwant _ _ _ _ (fun _ h => h) _ ?_)
      · skip
        repeat'
          conv => whnf
          first
            | refine And.intro (a := drawB _ = true) (by kernel_rfl) ?_
            | refine And.intro (a := (_ : Bool) = true) rfl ?_
            | refine And.intro (a := (_ : Bool) = true ∧ (_ : Bool) = true) ⟨rfl, rfl⟩ ?_
            | refine And.intro (a := (_ : Bool) = true ∧ (_ : List _) = []) ⟨rfl, rfl⟩ ?_
            | refine And.intro (a := IR _ _) (And.intro (by omega) (by omega)) ?_
            | refine wrapE (And.intro (by omega) (by omega)) ?_
            | refine And.intro (a := (0 : Int) ≤ _ ∧ _ < _) (And.intro (by omega) (by omega)) ?_
            | refine And.intro (a := (_ : Bool) = true) (by simp only [Nat.beq_refl]; rfl) ?_
            | refine And.intro (a := ((_ : Bool) = true → 1 ≤ _) ∧ _ ≤ 9223372036854775807 ∧ _ ≤ 140737488355328) ⟨fun h => (by first | omega | cases h), by omega, by omega⟩ ?_
            | refine splT ?_
            | refine splF ?_
            | refine splNot ?_
            | (refine splIn (fun hc => ?_) (fun hc => ?_) <;> first | (exfalso; omega) | (exfalso; dsimp only at hc; omega) | skip)
            | (refine splD (fun hc => ?_) (fun hc => ?_) <;> first | (exfalso; omega) | (exfalso; dsimp only at hc; omega) | skip)
            | (refine splE (fun hc => ?_) (fun hc => ?_) <;> first | (exfalso; omega) | (exfalso; dsimp only at hc; omega) | skip)
            | (refine splNE (fun hc => ?_) (fun hc => ?_) <;> first | (exfalso; omega) | (exfalso; dsimp only at hc; omega) | skip)
            | ((with_reducible show CallEv _ _ 49 _ _ _ _ _); refine callE (k := 49) (fun β w' hbw => hL _ hbw) ?_)
            | ((with_reducible show CallEv _ _ 51 _ _ _ _ _); refine callF [] (fun x : (Option Addr × Nat) × List (Option Addr × Nat) => .slice x.1.1 act.length x.1.2) (fun x => AtM act x) (fun β w' _ hbw => hA w' hbw) ?_; intro x)
            | ((with_reducible show CallEv _ _ 50 _ _ _ _ _); refine callE (k := 50) (fun β w' hbw => hN x _ hbw.2) ?_)
        exact ⟨rfl, (), trivial, Ent.weak rfl ⟨rfl, rfl, rfl, rfl, rfl, rfl, rfl, trivial⟩ trivial fun _ h => h.1⟩
      · refine VC.of env mixed ?_
        repeat'
          conv => whnf
          first
            | refine And.intro (a := drawB _ = true) (by kernel_rfl) ?_
            | refine And.intro (a := (_ : Bool) = true) rfl ?_
            | refine And.intro (a := (_ : Bool) = true ∧ (_ : Bool) = true) ⟨rfl, rfl⟩ ?_
            | refine And.intro (a := (_ : Bool) = true ∧ (_ : List _) = []) ⟨rfl, rfl⟩ ?_
            | refine And.intro (a := IR _ _) (And.intro (by omega) (by omega)) ?_
            | refine wrapE (And.intro (by omega) (by omega)) ?_
            | refine And.intro (a := (0 : Int) ≤ _ ∧ _ < _) (And.intro (by omega) (by omega)) ?_
            | refine And.intro (a := (_ : Bool) = true) (by simp only [Nat.beq_refl]; rfl) ?_
            | refine And.intro (a := ((_ : Bool) = true → 1 ≤ _) ∧ _ ≤ 9223372036854775807 ∧ _ ≤ 140737488355328) ⟨fun h => (by first | omega | cases h), by omega, by omega⟩ ?_
            | refine splT ?_
            | refine splF ?_
            | refine splNot ?_
            | (refine splIn (fun hc => ?_) (fun hc => ?_) <;> first | (exfalso; omega) | (exfalso; dsimp only at hc; omega) | skip)
            | (refine splD (fun hc => ?_) (fun hc => ?_) <;> first | (exfalso; omega) | (exfalso; dsimp only at hc; omega) | skip)
            | (refine splE (fun hc => ?_) (fun hc => ?_) <;> first | (exfalso; omega) | (exfalso; dsimp only at hc; omega) | skip)
            | (refine splNE (fun hc => ?_) (fun hc => ?_) <;> first | (exfalso; omega) | (exfalso; dsimp only at hc; omega) | skip)
            | ((with_reducible show CallEv _ _ 20 _ _ _ _ _); refine callE (k := 20) (fun β w' hbw => wakes_ok _) ?_)
        all_goals first | exact ⟨fun β => rfl, fun w' h => h⟩ | (exfalso; omega) | skip
    case pos =>
      have hE : (1 ≤ act.length ∧ act.length ≤ 12) ∧ act.all okP = true ∧ (1 ≤ need ∧ need ≤ 100) ∧ (0 ≤ rst ∧ rst ≤ 1000) := by
        unfold chE at he
        by_cases h1 : (1 ≤ (act.length : Int) ∧ (act.length : Int) ≤ 12)
        · rw [if_pos h1] at he
          by_cases h2 : act.all okP = true
          · rw [if_pos h2] at he
            by_cases h3 : (1 ≤ need ∧ need ≤ 100) ∧ (0 ≤ rst ∧ rst ≤ 1000)
            · exact ⟨by omega, h2, h3.1, h3.2⟩
            · rw [if_neg h3] at he; cases he
          · rw [if_neg h2] at he; cases he
        · rw [if_neg h1] at he; cases he
      obtain ⟨hE1, hE2, hE3, hE4⟩ := hE
      rw [List.all_eq_true] at hE2
      have hY := fun x w' (hx : AtM act x w') => Chain_aty act need rst hE1 hE3 hE4 (fun p hp => ⟨hE2 p hp, hbl p hp⟩) x w' hx
      have hRc := fun w' (hb : Below w.heap.size w w') => Rchain_ys act o c need rst w' (hrd.below hb) hE1.2 hE3 hE4 fun p hp => ⟨(hbx p hp).below hb, hE2 p hp⟩
      obtain ⟨hc1, hc2⟩ := chn_len (need := need) (rst := rst) (act := act) (i := 0) (fr := 0) (acc := [])
      generalize hch : chn need rst act 0 0 [] = R at *
      obtain ⟨L, no⟩ := R
      dsimp only at hY hRc hc1 hc2
      have hcmp := fun y z w' h1 h2 => wcmp_same y z L w' h1 h2 (by simp at hc1; omega)
      refine VC.cutH env mixed 4 0 (fun y : YS L => [(0, .v (.slice o act.length c)), (1, .v (iv need)), (2, .v (iv rst)), (7, .v (sV L.length y.1)), (8, .v (iv (iE no))), (9, .v (iv (eE no))), (10, .v (iv 0))]) (fun _ => []) (fun y w' => Below w.heap.size w w' ∧ Rd 2 wF (sV L.length y.1) L w') (fun _ => True) (fun _ _ => ⟨rfl, rfl⟩) ?_ (fun y _ => hwant _ _ _ _ (fun _ h => h.1) _ ?_)
      · skip
        repeat'
          conv => whnf
          first
            | refine And.intro (a := drawB _ = true) (by kernel_rfl) ?_
            | refine And.intro (a := (_ : Bool) = true) rfl ?_
            | refine And.intro (a := (_ : Bool) = true ∧ (_ : Bool) = true) ⟨rfl, rfl⟩ ?_
            | refine And.intro (a := (_ : Bool) = true ∧ (_ : List _) = []) ⟨rfl, rfl⟩ ?_
            | refine And.intro (a := IR _ _) (And.intro (by omega) (by omega)) ?_
            | refine wrapE (And.intro (by omega) (by omega)) ?_
            | refine And.intro (a := (0 : Int) ≤ _ ∧ _ < _) (And.intro (by omega) (by omega)) ?_
            | refine And.intro (a := (_ : Bool) = true) (by simp only [Nat.beq_refl]; rfl) ?_
            | refine And.intro (a := ((_ : Bool) = true → 1 ≤ _) ∧ _ ≤ 9223372036854775807 ∧ _ ≤ 140737488355328) ⟨fun h => (by first | omega | cases h), by omega, by omega⟩ ?_
            | refine splT ?_
            | refine splF ?_
            | refine splNot ?_
            | (refine splIn (fun hc => ?_) (fun hc => ?_) <;> first | (exfalso; omega) | (exfalso; dsimp only at hc; omega) | skip)
            | (refine splD (fun hc => ?_) (fun hc => ?_) <;> first | (exfalso; omega) | (exfalso; dsimp only at hc; omega) | skip)
            | (refine splE (fun hc => ?_) (fun hc => ?_) <;> first | (exfalso; omega) | (exfalso; dsimp only at hc; omega) | skip)
            | (refine splNE (fun hc => ?_) (fun hc => ?_) <;> first | (exfalso; omega) | (exfalso; dsimp only at hc; omega) | skip)
            | ((with_reducible show CallEv _ _ 49 _ _ _ _ _); refine callE (k := 49) (fun β w' hbw => hL _ hbw) ?_)
            | ((with_reducible show CallEv _ _ 51 _ _ _ _ _); refine callF [] (fun x : (Option Addr × Nat) × List (Option Addr × Nat) => .slice x.1.1 act.length x.1.2) (fun x => AtM act x) (fun β w' _ hbw => hA w' hbw) ?_; intro x)
            | ((with_reducible show CallEv _ _ 50 _ _ _ _ _); refine callF [] (fun y : YS L => .tuple #[sV L.length y.1, iv (iE no), iv (eE no)]) (fun y => Rd 2 wF (sV L.length y.1) L) (fun β w' _ hbw => hY x w' hbw.2) ?_; intro y)
        exact ⟨rfl, y, trivial, Ent.weak rfl ⟨rfl, rfl, rfl, rfl, rfl, rfl, rfl, trivial⟩ trivial fun _ h => ⟨h.1.1, h.2⟩⟩
      · refine VC.of env mixed ?_
        rw [he]
        cases no with
        | none =>
          repeat'
            conv => whnf
            first
              | refine And.intro (a := drawB _ = true) (by kernel_rfl) ?_
              | refine And.intro (a := (_ : Bool) = true) rfl ?_
              | refine And.intro (a := (_ : Bool) = true ∧ (_ : Bool) = true) ⟨rfl, rfl⟩ ?_
              | refine And.intro (a := (_ : Bool) = true ∧ (_ : List _) = []) ⟨rfl, rfl⟩ ?_
              | refine And.intro (a := IR _ _) (And.intro (by omega) (by omega)) ?_
              | refine wrapE (And.intro (by omega) (by omega)) ?_
              | refine And.intro (a := (0 : Int) ≤ _ ∧ _ < _) (And.intro (by omega) (by omega)) ?_
              | refine And.intro (a := (_ : Bool) = true) (by simp only [Nat.beq_refl]; rfl) ?_
              | refine And.intro (a := ((_ : Bool) = true → 1 ≤ _) ∧ _ ≤ 9223372036854775807 ∧ _ ≤ 140737488355328) ⟨fun h => (by first | omega | cases h), by omega, by omega⟩ ?_
              | refine splT ?_
              | refine splF ?_
              | refine splNot ?_
              | (refine splIn (fun hc => ?_) (fun hc => ?_) <;> first | (exfalso; omega) | (exfalso; dsimp only at hc; omega) | skip)
              | (refine splD (fun hc => ?_) (fun hc => ?_) <;> first | (exfalso; omega) | (exfalso; dsimp only at hc; omega) | skip)
              | (refine splE (fun hc => ?_) (fun hc => ?_) <;> first | (exfalso; omega) | (exfalso; dsimp only at hc; omega) | skip)
              | (refine splNE (fun hc => ?_) (fun hc => ?_) <;> first | (exfalso; omega) | (exfalso; dsimp only at hc; omega) | skip)
              | ((with_reducible show CallEv _ _ 52 _ _ _ _ _); refine callF [] (fun z : YS L => .tuple #[sV L.length z.1, iv (noI none)]) (fun z => Rd 2 wF (sV L.length z.1) L) (fun β w' _ hbw => hRc w' hbw.1) ?_; intro z)
              | ((with_reducible show CallEv _ _ 53 _ _ _ _ _); refine callE (k := 53) (fun β w' hbw => hcmp y.1 z.1 _ hbw.1.2 hbw.2) ?_)
              | ((with_reducible show CallEv _ _ 20 _ _ _ _ _); refine callE (k := 20) (fun β w' hbw => wakes_ok _) ?_)
          all_goals first | exact ⟨fun β => rfl, fun w' h => h.1.1⟩ | (exfalso; omega) | skip
        | some i =>
          obtain rfl : L = [] := hc2 (by simp)
          rw [show iE (some i) = (i : Int) from rfl, show eE (some i) = 7 from rfl]
          repeat'
            conv => whnf
            first
              | refine And.intro (a := drawB _ = true) (by kernel_rfl) ?_
              | refine And.intro (a := (_ : Bool) = true) rfl ?_
              | refine And.intro (a := (_ : Bool) = true ∧ (_ : Bool) = true) ⟨rfl, rfl⟩ ?_
              | refine And.intro (a := (_ : Bool) = true ∧ (_ : List _) = []) ⟨rfl, rfl⟩ ?_
              | refine And.intro (a := IR _ _) (And.intro (by omega) (by omega)) ?_
              | refine wrapE (And.intro (by omega) (by omega)) ?_
              | refine And.intro (a := (0 : Int) ≤ _ ∧ _ < _) (And.intro (by omega) (by omega)) ?_
              | refine And.intro (a := (_ : Bool) = true) (by simp only [Nat.beq_refl]; rfl) ?_
              | refine And.intro (a := ((_ : Bool) = true → 1 ≤ _) ∧ _ ≤ 9223372036854775807 ∧ _ ≤ 140737488355328) ⟨fun h => (by first | omega | cases h), by omega, by omega⟩ ?_
              | refine splT ?_
              | refine splF ?_
              | refine splNot ?_
              | (refine splIn (fun hc => ?_) (fun hc => ?_) <;> first | (exfalso; omega) | (exfalso; dsimp only at hc; omega) | skip)
              | (refine splD (fun hc => ?_) (fun hc => ?_) <;> first | (exfalso; omega) | (exfalso; dsimp only at hc; omega) | skip)
              | (refine splE (fun hc => ?_) (fun hc => ?_) <;> first | (exfalso; omega) | (exfalso; dsimp only at hc; omega) | skip)
              | (refine splNE (fun hc => ?_) (fun hc => ?_) <;> first | (exfalso; omega) | (exfalso; dsimp only at hc; omega) | skip)
              | ((with_reducible show CallEv _ _ 52 _ _ _ _ _); refine callF [] (fun z : YS ([] : List (Int × Int)) => .tuple #[sV 0 z.1, iv (i : Int)]) (fun z => Rd 2 wF (sV 0 z.1) ([] : List (Int × Int))) (fun β w' _ hbw => hRc w' hbw.1) ?_; intro z)
              | ((with_reducible show CallEv _ _ 53 _ _ _ _ _); refine callE (k := 53) (fun β w' hbw => hcmp y.1 z.1 _ hbw.1.2 hbw.2) ?_)
              | ((with_reducible show CallEv _ _ 20 _ _ _ _ _); refine callE (k := 20) (fun β w' hbw => wakes_ok _) ?_)
          all_goals first | exact ⟨fun β => rfl, fun w' h => h.1.1⟩ | (exfalso; omega) | skip
end Go.Proofs.Ytlehjapeomallaa.V
