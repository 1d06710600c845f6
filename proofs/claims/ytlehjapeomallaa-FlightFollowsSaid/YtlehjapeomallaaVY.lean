/- The law of what follows in a chain answers true at every act. -/
import Derived.Test.YtlehjapeomallaaVX
namespace Go.Proofs.Ytlehjapeomallaa.V
open Go Tx Go.RowKit
set_option linter.unusedSimpArgs false
set_option linter.unusedVariables false

theorem chn_no_lt {need rst : Int} : ∀ {act : List (Fg × List Bx)} {i : Nat} {fr : Int} {acc L : List (Int × Int)} {j : Nat}, chn need rst act i fr acc = (L, some j) → j < i + act.length
  | [], i, fr, acc, L, j, h => by rw [chn] at h; cases h
  | p :: r, i, fr, acc, L, j, h => by
    rw [chn] at h
    cases hf : frs p need fr with
    | none => rw [hf] at h; cases h; simp
    | some q =>
      rw [hf] at h
      have := chn_no_lt h
      simp only [List.length_cons]; omega

set_option maxHeartbeats 1000000 in
set_option maxRecDepth 100000 in
theorem FlightFollows_ok (act : List (Fg × List Bx)) (o : Option Addr) (c : Nat) (need rst : Int) (w : World) (hrd : Rd 15 csP (.slice o act.length c) act w) (hl : act.length ≤ 9223372036854775807)
    (hbx : ∀ p ∈ act, Rd 4 Bx.cs (.slice p.1.o p.1.n p.1.c) p.2 w) :
    Calls Try.prog 16 #[.slice o act.length c, iv need, iv rst] w fun e w' => e = .returned (.bool true) ∧ Below w.heap.size w w' := by
  refine calls_valV env mixed Try.func16 has16 Try.ntmps16 [.slice o act.length c, iv need, iv rst] (by simp) ?_
  have hL : ∀ w', Below w.heap.size w w' → Calls Try.prog 49 #[.slice o act.length c] w' fun e w'' => e = .returned (.bool (ltB (act.map Prod.fst))) ∧ Below w'.heap.size w' w'' := fun w' hb => by
    have := light_ok (act.map Prod.fst) o c w' (by rw [List.length_map]; exact Rd.mapf (f := Fg.cs) Prod.fst (hrd.below hb)) (by rw [List.length_map]; exact hl)
    rwa [List.length_map] at this
  cases hlt : ltB (act.map Prod.fst) with
  | false =>
    rw [hlt] at hL
    refine VC.of env mixed ?_
    repeat'
      conv => whnf
      first
        | refine And.intro (a := drawB _ = true) (by kernel_rfl) ?_
        | refine And.intro (a := (_ : Bool) = true) rfl ?_
        | refine And.intro (a := (_ : Bool) = true ∧ (_ : Bool) = true) ⟨rfl, rfl⟩ ?_
        | refine And.intro (a := (_ : Bool) = true ∧ (_ : List _) = []) ⟨rfl, rfl⟩ ?_
        | refine And.intro (a := IR _ _) (And.intro (by omega) (by omega)) ?_
        | refine wrapE (And.intro (by omega) (by omega)) ?_
        | refine And.intro (a := (0 : Int) ≤ _ ∧ _ < _) (And.intro (by omega) (by omega)) ?_
        | refine And.intro (a := (_ : Bool) = true) (by simp only [Nat.beq_refl]; rfl) ?_
        | refine And.intro (a := ((_ : Bool) = true → 1 ≤ _) ∧ _ ≤ 9223372036854775807 ∧ _ ≤ 140737488355328) ⟨fun h => (by first | omega | cases h), by omega, by omega⟩ ?_
        | refine splT ?_
        | refine splF ?_
        | refine splNot ?_
        | (refine splIn (fun hc => ?_) (fun hc => ?_) <;> first | (exfalso; omega) | (exfalso; dsimp only at hc; omega) | skip)
        | (refine splD (fun hc => ?_) (fun hc => ?_) <;> first | (exfalso; omega) | (exfalso; dsimp only at hc; omega) | skip)
        | (refine splE (fun hc => ?_) (fun hc => ?_) <;> first | (exfalso; omega) | (exfalso; dsimp only at hc; omega) | skip)
        | (refine splNE (fun hc => ?_) (fun hc => ?_) <;> first | (exfalso; omega) | (exfalso; dsimp only at hc; omega) | skip)
        | ((with_reducible show CallEv _ _ 49 _ _ _ _ _); refine callE (k := 49) (fun β w' hbw => hL _ hbw) ?_)
        | ((with_reducible show CallEv _ _ 20 _ _ _ _ _); refine callE (k := 20) (fun β w' hbw => wakes_ok _) ?_)
    exact ⟨fun β => rfl, fun w' h => h⟩
  | true =>
    rw [hlt] at hL
    simp only [ltB, Bool.and_eq_true, Bool.or_eq_true, decide_eq_true_eq, List.length_map, List.all_eq_true, List.mem_map, forall_exists_index, and_imp, forall_apply_eq_imp_iff₂] at hlt
    have hbl : ∀ p ∈ act, p.2.length ≤ 1000000 := fun p hp => by
      have h1 := hlt.1 p hp
      unfold lt1 at h1
      simp only [Bool.and_eq_true, decide_eq_true_eq] at h1
      have h2 : p.1.n = p.2.length := (hbx p hp).len
      omega
    have hl2 : act.length ≤ 14 := by omega
    by_cases hcond : (1 ≤ act.length ∧ act.length ≤ 3) ∧ (1 ≤ need ∧ need ≤ 100) ∧ (0 ≤ rst ∧ rst ≤ 1000)
    case neg =>
      refine VC.of env mixed ?_
      repeat'
        conv => whnf
        first
          | refine And.intro (a := drawB _ = true) (by kernel_rfl) ?_
          | refine And.intro (a := (_ : Bool) = true) rfl ?_
          | refine And.intro (a := (_ : Bool) = true ∧ (_ : Bool) = true) ⟨rfl, rfl⟩ ?_
          | refine And.intro (a := (_ : Bool) = true ∧ (_ : List _) = []) ⟨rfl, rfl⟩ ?_
          | refine And.intro (a := IR _ _) (And.intro (by omega) (by omega)) ?_
          | refine wrapE (And.intro (by omega) (by omega)) ?_
          | refine And.intro (a := (0 : Int) ≤ _ ∧ _ < _) (And.intro (by omega) (by omega)) ?_
          | refine And.intro (a := (_ : Bool) = true) (by simp only [Nat.beq_refl]; rfl) ?_
          | refine And.intro (a := ((_ : Bool) = true → 1 ≤ _) ∧ _ ≤ 9223372036854775807 ∧ _ ≤ 140737488355328) ⟨fun h => (by first | omega | cases h), by omega, by omega⟩ ?_
          | refine splT ?_
          | refine splF ?_
          | refine splNot ?_
          | (refine splIn (fun hc => ?_) (fun hc => ?_) <;> first | (exfalso; omega) | (exfalso; dsimp only at hc; omega) | skip)
          | (refine splD (fun hc => ?_) (fun hc => ?_) <;> first | (exfalso; omega) | (exfalso; dsimp only at hc; omega) | skip)
          | (refine splE (fun hc => ?_) (fun hc => ?_) <;> first | (exfalso; omega) | (exfalso; dsimp only at hc; omega) | skip)
          | (refine splNE (fun hc => ?_) (fun hc => ?_) <;> first | (exfalso; omega) | (exfalso; dsimp only at hc; omega) | skip)
          | ((with_reducible show CallEv _ _ 49 _ _ _ _ _); refine callE (k := 49) (fun β w' hbw => hL _ hbw) ?_)
          | ((with_reducible show CallEv _ _ 20 _ _ _ _ _); refine callE (k := 20) (fun β w' hbw => wakes_ok _) ?_)
          | ((with_reducible show CallEv _ _ 19 _ _ _ _ _); refine callE (k := 19) (fun β w' hbw => In_ok _ _ _ _) ?_)
      all_goals first | exact ⟨fun β => rfl, fun w' h => h⟩ | (exfalso; omega) | skip
    obtain ⟨h13, hn, hr⟩ := hcond
    obtain ⟨_, ad, rfl, _⟩ := hrd.some (by omega)
    have hRt : ∀ p ∈ act, ∀ w', Below w.heap.size w w' → Calls Try.prog 26 #[p.1.v] w' fun e w'' => e = .returned (.bool (p.1.ok p.2)) ∧ Below w'.heap.size w' w'' := fun p hp w' hb => Right_ok p.1 p.2 w' (Rd.below (hbx p hp) hb) (hbl p hp)
    have hA := fun w' (hb : Below w.heap.size w w') => Act_ok act (some ad) c w' (hrd.below hb) (by omega) fun p hp => ⟨(hbx p hp).below hb, hbl p hp⟩
    -- all flights are right, or the law answers at once
    refine VC.cutE env mixed 3 0 (fun _ : Unit => [(0, .v (.slice (some ad) act.length c)), (1, .v (iv need)), (2, .v (iv rst))]) (fun _ => []) (fun _ => ∀ p ∈ act, p.1.ok p.2 = true) (fun _ _ => ⟨rfl, rfl⟩) ?_ (fun _ hall => ?_)
    · skip
      repeat'
        conv => whnf
        first
          | refine And.intro (a := drawB _ = true) (by kernel_rfl) ?_
          | refine And.intro (a := (_ : Bool) = true) rfl ?_
          | refine And.intro (a := (_ : Bool) = true ∧ (_ : Bool) = true) ⟨rfl, rfl⟩ ?_
          | refine And.intro (a := (_ : Bool) = true ∧ (_ : List _) = []) ⟨rfl, rfl⟩ ?_
          | refine And.intro (a := IR _ _) (And.intro (by omega) (by omega)) ?_
          | refine wrapE (And.intro (by omega) (by omega)) ?_
          | refine And.intro (a := (0 : Int) ≤ _ ∧ _ < _) (And.intro (by omega) (by omega)) ?_
          | refine And.intro (a := (_ : Bool) = true) (by simp only [Nat.beq_refl]; rfl) ?_
          | refine And.intro (a := ((_ : Bool) = true → 1 ≤ _) ∧ _ ≤ 9223372036854775807 ∧ _ ≤ 140737488355328) ⟨fun h => (by first | omega | cases h), by omega, by omega⟩ ?_
          | refine splT ?_
          | refine splF ?_
          | refine splNot ?_
          | (refine splIn (fun hc => ?_) (fun hc => ?_) <;> first | (exfalso; omega) | (exfalso; dsimp only at hc; omega) | skip)
          | (refine splD (fun hc => ?_) (fun hc => ?_) <;> first | (exfalso; omega) | (exfalso; dsimp only at hc; omega) | skip)
          | (refine splE (fun hc => ?_) (fun hc => ?_) <;> first | (exfalso; omega) | (exfalso; dsimp only at hc; omega) | skip)
          | (refine splNE (fun hc => ?_) (fun hc => ?_) <;> first | (exfalso; omega) | (exfalso; dsimp only at hc; omega) | skip)
          | ((with_reducible show CallEv _ _ 49 _ _ _ _ _); refine callE (k := 49) (fun β w' hbw => hL _ hbw) ?_)
          | ((with_reducible show CallEv _ _ 19 _ _ _ _ _); refine callE (k := 19) (fun β w' hbw => In_ok _ _ _ _) ?_)
      all_goals first | (exfalso; omega) | skip
      refine loopE (fun k : Nat => [(0, .v (.slice (some ad) act.length c)), (1, .v (iv need)), (2, .v (iv rst)), (7, .v (iv k))]) (fun _ => []) (fun k => k ≤ act.length ∧ ∀ (j : Nat) p, j < k → act[j]? = some p → p.1.ok p.2 = true) (fun k => act.length - k) 0 ⟨Nat.zero_le _, fun j p h => by omega⟩ ⟨rfl, rfl, rfl, rfl, trivial⟩ trivial (fun _ => ⟨rfl, rfl⟩) ?_
      intro k ⟨hk, hall⟩
      rcases Nat.lt_or_ge k act.length with hkl | hkl
      · obtain ⟨p, hb⟩ : ∃ b, act[k]? = some b := ⟨_, List.getElem?_eq_getElem hkl⟩
        have e0 := fun (w' : World) hw' => rd_ati (hrd.below (w' := w') hw') hb
        have hRp := hRt p (List.mem_of_getElem? hb)
        cases hp : p.1.ok p.2 with
        | false =>
          rw [hp] at hRp
          repeat'
            conv => whnf
            first
              | refine And.intro (a := drawB _ = true) (by kernel_rfl) ?_
              | refine And.intro (a := (_ : Bool) = true) rfl ?_
              | refine And.intro (a := (_ : Bool) = true ∧ (_ : Bool) = true) ⟨rfl, rfl⟩ ?_
              | refine And.intro (a := (_ : Bool) = true ∧ (_ : List _) = []) ⟨rfl, rfl⟩ ?_
              | refine And.intro (a := IR _ _) (And.intro (by omega) (by omega)) ?_
              | refine wrapE (And.intro (by omega) (by omega)) ?_
              | refine And.intro (a := (0 : Int) ≤ _ ∧ _ < _) (And.intro (by omega) (by omega)) ?_
              | refine And.intro (a := (_ : Bool) = true) (by simp only [Nat.beq_refl]; rfl) ?_
              | refine And.intro (a := ((_ : Bool) = true → 1 ≤ _) ∧ _ ≤ 9223372036854775807 ∧ _ ≤ 140737488355328) ⟨fun h => (by first | omega | cases h), by omega, by omega⟩ ?_
              | refine splT ?_
              | refine splF ?_
              | refine splNot ?_
              | (refine splIn (fun hc => ?_) (fun hc => ?_) <;> first | (exfalso; omega) | (exfalso; dsimp only at hc; omega) | skip)
              | (refine splD (fun hc => ?_) (fun hc => ?_) <;> first | (exfalso; omega) | (exfalso; dsimp only at hc; omega) | skip)
              | (refine splE (fun hc => ?_) (fun hc => ?_) <;> first | (exfalso; omega) | (exfalso; dsimp only at hc; omega) | skip)
              | (refine splNE (fun hc => ?_) (fun hc => ?_) <;> first | (exfalso; omega) | (exfalso; dsimp only at hc; omega) | skip)
              | refine Exists.intro (α := List Value) p.1.cs ⟨⟨rfl, fun w' hw' => e0 w' hw'⟩, ?_⟩
              | ((with_reducible show CallEv _ _ 26 _ _ _ _ _); refine callE (k := 26) (fun β w' hbw => hRp _ hbw) ?_)
              | ((with_reducible show CallEv _ _ 20 _ _ _ _ _); refine callE (k := 20) (fun β w' hbw => wakes_ok _) ?_)
          all_goals first | exact ⟨fun β => rfl, fun w' h => h⟩ | (exfalso; omega) | skip
        | true =>
          rw [hp] at hRp
          repeat'
            conv => whnf
            first
              | refine And.intro (a := drawB _ = true) (by kernel_rfl) ?_
              | refine And.intro (a := (_ : Bool) = true) rfl ?_
              | refine And.intro (a := (_ : Bool) = true ∧ (_ : Bool) = true) ⟨rfl, rfl⟩ ?_
              | refine And.intro (a := (_ : Bool) = true ∧ (_ : List _) = []) ⟨rfl, rfl⟩ ?_
              | refine And.intro (a := IR _ _) (And.intro (by omega) (by omega)) ?_
              | refine wrapE (And.intro (by omega) (by omega)) ?_
              | refine And.intro (a := (0 : Int) ≤ _ ∧ _ < _) (And.intro (by omega) (by omega)) ?_
              | refine And.intro (a := (_ : Bool) = true) (by simp only [Nat.beq_refl]; rfl) ?_
              | refine And.intro (a := ((_ : Bool) = true → 1 ≤ _) ∧ _ ≤ 9223372036854775807 ∧ _ ≤ 140737488355328) ⟨fun h => (by first | omega | cases h), by omega, by omega⟩ ?_
              | refine splT ?_
              | refine splF ?_
              | refine splNot ?_
              | (refine splIn (fun hc => ?_) (fun hc => ?_) <;> first | (exfalso; omega) | (exfalso; dsimp only at hc; omega) | skip)
              | (refine splD (fun hc => ?_) (fun hc => ?_) <;> first | (exfalso; omega) | (exfalso; dsimp only at hc; omega) | skip)
              | (refine splE (fun hc => ?_) (fun hc => ?_) <;> first | (exfalso; omega) | (exfalso; dsimp only at hc; omega) | skip)
              | (refine splNE (fun hc => ?_) (fun hc => ?_) <;> first | (exfalso; omega) | (exfalso; dsimp only at hc; omega) | skip)
              | refine Exists.intro (α := List Value) p.1.cs ⟨⟨rfl, fun w' hw' => e0 w' hw'⟩, ?_⟩
              | ((with_reducible show CallEv _ _ 26 _ _ _ _ _); refine callE (k := 26) (fun β w' hbw => hRp _ hbw) ?_)
          exact ⟨k + 1, ⟨by omega, fun j p' hj hp' => by
            by_cases hjk : j = k
            · subst hjk; rw [hb] at hp'; cases hp'; exact hp
            · exact hall j p' (by omega) hp'⟩, by omega, Ent.weak rfl ⟨rfl, rfl, rfl, rfl, trivial⟩ trivial fun _ h => h⟩
      · skip
        repeat'
          conv => whnf
          first
            | refine And.intro (a := drawB _ = true) (by kernel_rfl) ?_
            | refine And.intro (a := (_ : Bool) = true) rfl ?_
            | refine And.intro (a := (_ : Bool) = true ∧ (_ : Bool) = true) ⟨rfl, rfl⟩ ?_
            | refine And.intro (a := (_ : Bool) = true ∧ (_ : List _) = []) ⟨rfl, rfl⟩ ?_
            | refine And.intro (a := IR _ _) (And.intro (by omega) (by omega)) ?_
            | refine wrapE (And.intro (by omega) (by omega)) ?_
            | refine And.intro (a := (0 : Int) ≤ _ ∧ _ < _) (And.intro (by omega) (by omega)) ?_
            | refine And.intro (a := (_ : Bool) = true) (by simp only [Nat.beq_refl]; rfl) ?_
            | refine And.intro (a := ((_ : Bool) = true → 1 ≤ _) ∧ _ ≤ 9223372036854775807 ∧ _ ≤ 140737488355328) ⟨fun h => (by first | omega | cases h), by omega, by omega⟩ ?_
            | refine splT ?_
            | refine splF ?_
            | refine splNot ?_
            | (refine splIn (fun hc => ?_) (fun hc => ?_) <;> first | (exfalso; omega) | (exfalso; dsimp only at hc; omega) | skip)
            | (refine splD (fun hc => ?_) (fun hc => ?_) <;> first | (exfalso; omega) | (exfalso; dsimp only at hc; omega) | skip)
            | (refine splE (fun hc => ?_) (fun hc => ?_) <;> first | (exfalso; omega) | (exfalso; dsimp only at hc; omega) | skip)
            | (refine splNE (fun hc => ?_) (fun hc => ?_) <;> first | (exfalso; omega) | (exfalso; dsimp only at hc; omega) | skip)
        exact ⟨rfl, (), fun p hp => by
          obtain ⟨j, hj⟩ := List.mem_iff_getElem?.1 hp
          exact hall j p (by have := (List.getElem?_eq_some_iff.1 hj).1; omega) hj, Ent.weak rfl ⟨rfl, rfl, rfl, trivial⟩ trivial fun _ h => h⟩
    · have hY := fun x w' (hx : AtM act x w') => Chain_aty act need rst (by omega) hn hr (fun p hp => ⟨hall p hp, hbl p hp⟩) x w' hx
      cases hch : chn need rst act 0 0 [] with
      | mk L no =>
      rw [hch] at hY
      dsimp only at hY
      cases no with
      | some i =>
        have hi := chn_no_lt hch
        rw [Nat.zero_add] at hi
        refine VC.of env mixed ?_
        repeat'
          conv => whnf
          first
            | refine And.intro (a := drawB _ = true) (by kernel_rfl) ?_
            | refine And.intro (a := (_ : Bool) = true) rfl ?_
            | refine And.intro (a := (_ : Bool) = true ∧ (_ : Bool) = true) ⟨rfl, rfl⟩ ?_
            | refine And.intro (a := (_ : Bool) = true ∧ (_ : List _) = []) ⟨rfl, rfl⟩ ?_
            | refine And.intro (a := IR _ _) (And.intro (by omega) (by omega)) ?_
            | refine wrapE (And.intro (by omega) (by omega)) ?_
            | refine And.intro (a := (0 : Int) ≤ _ ∧ _ < _) (And.intro (by omega) (by omega)) ?_
            | refine And.intro (a := (_ : Bool) = true) (by simp only [Nat.beq_refl]; rfl) ?_
            | refine And.intro (a := ((_ : Bool) = true → 1 ≤ _) ∧ _ ≤ 9223372036854775807 ∧ _ ≤ 140737488355328) ⟨fun h => (by first | omega | cases h), by omega, by omega⟩ ?_
            | refine splT ?_
            | refine splF ?_
            | refine splNot ?_
            | (refine splIn (fun hc => ?_) (fun hc => ?_) <;> first | (exfalso; omega) | (exfalso; dsimp only at hc; omega) | skip)
            | (refine splD (fun hc => ?_) (fun hc => ?_) <;> first | (exfalso; omega) | (exfalso; dsimp only at hc; omega) | skip)
            | (refine splE (fun hc => ?_) (fun hc => ?_) <;> first | (exfalso; omega) | (exfalso; dsimp only at hc; omega) | skip)
            | (refine splNE (fun hc => ?_) (fun hc => ?_) <;> first | (exfalso; omega) | (exfalso; dsimp only at hc; omega) | skip)
            | ((with_reducible show CallEv _ _ 51 _ _ _ _ _); refine callF [] (fun x : (Option Addr × Nat) × List (Option Addr × Nat) => .slice x.1.1 act.length x.1.2) (fun x => AtM act x) (fun β w' _ hbw => hA w' hbw) ?_; intro x)
            | ((with_reducible show CallEv _ _ 50 _ _ _ _ _); refine callF [] (fun y : YS L => .tuple #[sV L.length y.1, iv (i : Int), iv 7]) (fun y => Rd 2 wF (sV L.length y.1) L) (fun β w' _ hbw => hY x w' hbw.2) ?_; intro y)
            | ((with_reducible show CallEv _ _ 20 _ _ _ _ _); refine callE (k := 20) (fun β w' hbw => wakes_ok _) ?_)
        all_goals first | exact ⟨fun β => rfl, fun w' h => h.1.1⟩ | (exfalso; omega) | skip
      | none =>
        have hLl : L.length = act.length := by have := (chn_pre hch).2; simpa using this
        have hne : L ≠ [] := by rintro rfl; simp at hLl; omega
        refine VC.cutH env mixed 3 0 (fun y : Addr × Nat => [(0, .v (.slice (some ad) act.length c)), (1, .v (iv need)), (2, .v (iv rst)), (8, .v (.slice (some y.1) L.length y.2))]) (fun _ => []) (fun y w' => Below w.heap.size w w' ∧ Rd 2 wF (.slice (some y.1) L.length y.2) L w') (fun _ => True) (fun _ _ => ⟨rfl, rfl⟩) ?_
          (fun y _ => follows_loop act ad y.1 c y.2 need rst L w hrd (by omega) hn hr (fun p hp => ⟨hbx p hp, hall p hp, hbl p hp⟩) hch)
        repeat'
          conv => whnf
          first
            | refine And.intro (a := drawB _ = true) (by kernel_rfl) ?_
            | refine And.intro (a := (_ : Bool) = true) rfl ?_
            | refine And.intro (a := (_ : Bool) = true ∧ (_ : Bool) = true) ⟨rfl, rfl⟩ ?_
            | refine And.intro (a := (_ : Bool) = true ∧ (_ : List _) = []) ⟨rfl, rfl⟩ ?_
            | refine And.intro (a := IR _ _) (And.intro (by omega) (by omega)) ?_
            | refine wrapE (And.intro (by omega) (by omega)) ?_
            | refine And.intro (a := (0 : Int) ≤ _ ∧ _ < _) (And.intro (by omega) (by omega)) ?_
            | refine And.intro (a := (_ : Bool) = true) (by simp only [Nat.beq_refl]; rfl) ?_
            | refine And.intro (a := ((_ : Bool) = true → 1 ≤ _) ∧ _ ≤ 9223372036854775807 ∧ _ ≤ 140737488355328) ⟨fun h => (by first | omega | cases h), by omega, by omega⟩ ?_
            | refine splT ?_
            | refine splF ?_
            | refine splNot ?_
            | (refine splIn (fun hc => ?_) (fun hc => ?_) <;> first | (exfalso; omega) | (exfalso; dsimp only at hc; omega) | skip)
            | (refine splD (fun hc => ?_) (fun hc => ?_) <;> first | (exfalso; omega) | (exfalso; dsimp only at hc; omega) | skip)
            | (refine splE (fun hc => ?_) (fun hc => ?_) <;> first | (exfalso; omega) | (exfalso; dsimp only at hc; omega) | skip)
            | (refine splNE (fun hc => ?_) (fun hc => ?_) <;> first | (exfalso; omega) | (exfalso; dsimp only at hc; omega) | skip)
            | ((with_reducible show CallEv _ _ 51 _ _ _ _ _); refine callF [] (fun x : (Option Addr × Nat) × List (Option Addr × Nat) => .slice x.1.1 act.length x.1.2) (fun x => AtM act x) (fun β w' _ hbw => hA w' hbw) ?_; intro x)
            | ((with_reducible show CallEv _ _ 50 _ _ _ _ _); refine callF [] (fun y : YS L => .tuple #[sV L.length y.1, iv 0, iv 0]) (fun y => Rd 2 wF (sV L.length y.1) L) (fun β w' _ hbw => hY x w' hbw.2) ?_; intro y; obtain ⟨⟨yo, yc⟩, hy⟩ := y; obtain ⟨adL, hyo⟩ := hy.resolve_left hne; dsimp only at hyo; subst hyo)
        all_goals first | (exfalso; omega) | skip
        exact ⟨rfl, (adL, yc), trivial, Ent.weak rfl ⟨rfl, rfl, rfl, rfl, trivial⟩ trivial fun _ h => ⟨h.1.1, h.2⟩⟩
end Go.Proofs.Ytlehjapeomallaa.V
