/- Windows in memory that is the caller's own; the windows ahead of the first run that is long enough. -/
import Derived.Test.YtlehjapeomallaaVR
import Derived.Test.YtlehjapeomallaaVG
namespace Go.Proofs.Ytlehjapeomallaa.V
open Go Tx Go.RowKit
set_option linter.unusedSimpArgs false
set_option linter.unusedVariables false

set_option maxRecDepth 100000 in
theorem windows_own (g : Fg) (bs : List Bx) (x : SeeX) (a b : Int) (hg : g.ok bs = true) (h0 : 0 ≤ a) (h1 : a ≤ b) (h2 : b ≤ 6000) (w : World) (hx : x.hx g w) (hrd : Rd 4 Bx.cs (.slice g.o g.n g.c) bs w) (N : Nat) (XS : List Value) (hN : N = (wins (gd g bs) a (b - a + 1).toNat).length) (hX : XS = (wins (gd g bs) a (b - a + 1).toNat).flatMap wF) (hne : 0 < N) :
    Calls Try.prog 78 #[g.sv (x.bv g.k) (x.lv g.k), iv a, iv b] w fun e w' => ∃ b c, e = .returned (.slice (some ⟨b, 0, none⟩) N c) ∧ w.heap.size ≤ b ∧ Below w.heap.size w w' ∧ w'.ownsRow 0 97 2 (.slice (some ⟨b, 0, none⟩) N c) N XS := by
  obtain ⟨n, hn⟩ : ∃ n : Nat, b = a + n := ⟨(b - a).toNat, by omega⟩
  rw [show (b - a + 1).toNat = n + 1 from by omega] at hN hX
  have hgood : ∀ r w', 0 ≤ r ∧ r ≤ 6000 → Below w.heap.size w w' → Calls Try.prog 76 #[g.sv (x.bv g.k) (x.lv g.k), iv r] w' fun e W' => e = .returned (.bool (gd g bs r)) ∧ Below w'.heap.size w' W' :=
    fun r w' hr hb => good_ok g bs x r hg hr w' ⟨hx.1.below hb, hx.2.below hb⟩ (hrd.below hb)
  refine calls_fam2 env mixed Try.func78 has78 Try.ntmps78 [g.sv (x.bv g.k) (x.lv g.k), iv a, iv b] (by simp) ?_
  repeat'
    conv => whnf
    first
      | refine And.intro (a := drawB _ = true) (by kernel_rfl) ?_
      | refine And.intro (a := (_ : Bool) = true) rfl ?_
      | refine And.intro (a := (_ : Bool) = true ∧ (_ : Bool) = true) ⟨rfl, rfl⟩ ?_
      | refine And.intro (a := (_ : Bool) = true ∧ (_ : List _) = []) ⟨rfl, rfl⟩ ?_
      | refine And.intro (a := IR _ _) (And.intro (by omega) (by omega)) ?_
      | refine wrapE (And.intro (by omega) (by omega)) ?_
      | refine And.intro (a := (0 : Int) ≤ _ ∧ _ < _) (And.intro (by omega) (by omega)) ?_
      | refine And.intro (a := (_ : Bool) = true) (by simp only [Nat.beq_refl]; rfl) ?_
      | refine And.intro (a := ((_ : Bool) = true → 1 ≤ _) ∧ _ ≤ 9223372036854775807 ∧ _ ≤ 140737488355328) ⟨fun h => (by first | omega | cases h), by omega, by omega⟩ ?_
      | refine splT ?_
      | refine splF ?_
      | refine splNot ?_
      | (refine splIn (fun hc => ?_) (fun hc => ?_) <;> first | (exfalso; omega) | (exfalso; dsimp only at hc; omega) | skip)
      | (refine splD (fun hc => ?_) (fun hc => ?_) <;> first | (exfalso; omega) | (exfalso; dsimp only at hc; omega) | skip)
      | (refine splE (fun hc => ?_) (fun hc => ?_) <;> first | (exfalso; omega) | (exfalso; dsimp only at hc; omega) | skip)
      | (refine splNE (fun hc => ?_) (fun hc => ?_) <;> first | (exfalso; omega) | (exfalso; dsimp only at hc; omega) | skip)
  refine loopN 5 (fun k : Nat => [(2, .v (iv b)), (3, .ptr 0 0), (6, .ptr 1 0), (7, .ptr 2 0), (8, .fn (.func 95) [.ptr 2 0, .ptr 1 0]), (9, .v (iv (a + k)))]) (fun k => winM g x (wRun (gd g bs) a k).1 (wRun (gd g bs) a k).2)
    (fun k => k ≤ n + 1) (fun k => n + 1 - k) 0 (Nat.zero_le _) ⟨rfl, rfl, rfl, rfl, rfl, by rw [Int.ofNat_zero, Int.add_zero]; rfl, trivial⟩ ⟨rfl, rfl, rfl, trivial⟩ (fun k _ => by unfold winM; cases (wRun (gd g bs) a k).1 <;> exact ⟨rfl, rfl⟩) ?_
  intro k hk
  obtain ⟨hb1, hb2, hb3⟩ := wRun_bd (p := gd g bs) h0 k
  have hstep : wRun (gd g bs) a (k + 1) = wStep (gd g bs) (wRun (gd g bs) a k) (a + k) := rfl
  have hi : a + ((k + 1 : Nat) : Int) = a + (k : Int) + 1 := by omega
  rcases Nat.lt_or_ge k (n + 1) with hlt | hge
  · generalize wRun (gd g bs) a k = s at *
    obtain ⟨L, f⟩ := s
    dsimp only at hb1 hb2 hb3 ⊢
    have hm0 : ¬ ((-1 : Int) ≥ 0) := by omega
    rcases Bool.eq_false_or_eq_true (gd g bs (a + k)) with hp | hp
    · have hs2 : wRun (gd g bs) a (k + 1) = (L, if f < 0 then a + k else f) := by rw [hstep]; simp [wStep, hp]
      have hgk := fun w' hb => hgood (a + k) w' (by omega) hb
      simp only [hp] at hgk
      by_cases hf : f < 0
      · rw [if_pos hf] at hs2
        cases L <;> try simp only [List.length_cons] at hb1
        all_goals skip
        repeat'
          conv => whnf
          first
            | refine And.intro (a := drawB _ = true) (by kernel_rfl) ?_
            | refine And.intro (a := (_ : Bool) = true) rfl ?_
            | refine And.intro (a := (_ : Bool) = true ∧ (_ : Bool) = true) ⟨rfl, rfl⟩ ?_
            | refine And.intro (a := (_ : Bool) = true ∧ (_ : List _) = []) ⟨rfl, rfl⟩ ?_
            | refine And.intro (a := IR _ _) (And.intro (by omega) (by omega)) ?_
            | refine wrapE (And.intro (by omega) (by omega)) ?_
            | refine And.intro (a := (0 : Int) ≤ _ ∧ _ < _) (And.intro (by omega) (by omega)) ?_
            | refine And.intro (a := (_ : Bool) = true) (by simp only [Nat.beq_refl]; rfl) ?_
            | refine And.intro (a := ((_ : Bool) = true → 1 ≤ _) ∧ _ ≤ 9223372036854775807 ∧ _ ≤ 140737488355328) ⟨fun h => (by first | omega | cases h), by omega, by omega⟩ ?_
            | refine splT ?_
            | refine splF ?_
            | refine splNot ?_
            | (refine splIn (fun hc => ?_) (fun hc => ?_) <;> first | (exfalso; omega) | (exfalso; dsimp only at hc; omega) | skip)
            | (refine splD (fun hc => ?_) (fun hc => ?_) <;> first | (exfalso; omega) | (exfalso; dsimp only at hc; omega) | skip)
            | (refine splE (fun hc => ?_) (fun hc => ?_) <;> first | (exfalso; omega) | (exfalso; dsimp only at hc; omega) | skip)
            | (refine splNE (fun hc => ?_) (fun hc => ?_) <;> first | (exfalso; omega) | (exfalso; dsimp only at hc; omega) | skip)
            | ((with_reducible show CallEv _ _ 76 _ _ _ _ _); refine callE (k := 76) (fun β w' hbw => hgk _ (by first | exact hbw | exact hbw.1 | exact hbw.1.1 | exact hbw.1.1.1 | exact hbw.1.1.1.1 | exact hbw.1.1.1.1.1 | exact hbw.1.1.1.1.1.1 | exact hbw.1.1.1.1.1.1.1)) ?_)
        · exact ⟨k + 1, by omega, by omega, Ent.weak rfl ⟨rfl, rfl, rfl, rfl, rfl, by rw [hi]; rfl, trivial⟩ (by rw [hs2]; exact ⟨rfl, rfl, rfl, trivial⟩) fun _ h => h⟩
        · exact ⟨k + 1, by omega, by omega, Ent.weak rfl ⟨rfl, rfl, rfl, rfl, rfl, by rw [hi]; rfl, trivial⟩ (by rw [hs2]; exact ⟨rfl, rfl, rfl, rfl, trivial⟩) fun _ h => h⟩
      · rw [if_neg hf] at hs2
        cases L <;> try simp only [List.length_cons] at hb1
        all_goals skip
        repeat'
          conv => whnf
          first
            | refine And.intro (a := drawB _ = true) (by kernel_rfl) ?_
            | refine And.intro (a := (_ : Bool) = true) rfl ?_
            | refine And.intro (a := (_ : Bool) = true ∧ (_ : Bool) = true) ⟨rfl, rfl⟩ ?_
            | refine And.intro (a := (_ : Bool) = true ∧ (_ : List _) = []) ⟨rfl, rfl⟩ ?_
            | refine And.intro (a := IR _ _) (And.intro (by omega) (by omega)) ?_
            | refine wrapE (And.intro (by omega) (by omega)) ?_
            | refine And.intro (a := (0 : Int) ≤ _ ∧ _ < _) (And.intro (by omega) (by omega)) ?_
            | refine And.intro (a := (_ : Bool) = true) (by simp only [Nat.beq_refl]; rfl) ?_
            | refine And.intro (a := ((_ : Bool) = true → 1 ≤ _) ∧ _ ≤ 9223372036854775807 ∧ _ ≤ 140737488355328) ⟨fun h => (by first | omega | cases h), by omega, by omega⟩ ?_
            | refine splT ?_
            | refine splF ?_
            | refine splNot ?_
            | (refine splIn (fun hc => ?_) (fun hc => ?_) <;> first | (exfalso; omega) | (exfalso; dsimp only at hc; omega) | skip)
            | (refine splD (fun hc => ?_) (fun hc => ?_) <;> first | (exfalso; omega) | (exfalso; dsimp only at hc; omega) | skip)
            | (refine splE (fun hc => ?_) (fun hc => ?_) <;> first | (exfalso; omega) | (exfalso; dsimp only at hc; omega) | skip)
            | (refine splNE (fun hc => ?_) (fun hc => ?_) <;> first | (exfalso; omega) | (exfalso; dsimp only at hc; omega) | skip)
            | ((with_reducible show CallEv _ _ 76 _ _ _ _ _); refine callE (k := 76) (fun β w' hbw => hgk _ (by first | exact hbw | exact hbw.1 | exact hbw.1.1 | exact hbw.1.1.1 | exact hbw.1.1.1.1 | exact hbw.1.1.1.1.1 | exact hbw.1.1.1.1.1.1 | exact hbw.1.1.1.1.1.1.1)) ?_)
        · exact ⟨k + 1, by omega, by omega, Ent.weak rfl ⟨rfl, rfl, rfl, rfl, rfl, by rw [hi]; rfl, trivial⟩ (by rw [hs2]; exact ⟨rfl, rfl, rfl, trivial⟩) fun _ h => h⟩
        · exact ⟨k + 1, by omega, by omega, Ent.weak rfl ⟨rfl, rfl, rfl, rfl, rfl, by rw [hi]; rfl, trivial⟩ (by rw [hs2]; exact ⟨rfl, rfl, rfl, rfl, trivial⟩) fun _ h => h⟩
    · have hgk := fun w' hb => hgood (a + k) w' (by omega) hb
      simp only [hp] at hgk
      by_cases hf : 0 ≤ f
      · have hs2 : wRun (gd g bs) a (k + 1) = (L ++ [(f, a + k - 1)], -1) := by rw [hstep]; simp [wStep, hp, wEnd, hf]
        cases L <;> try simp only [List.length_cons] at hb1
        all_goals skip
        repeat'
          conv => whnf
          first
            | refine And.intro (a := drawB _ = true) (by kernel_rfl) ?_
            | refine And.intro (a := (_ : Bool) = true) rfl ?_
            | refine And.intro (a := (_ : Bool) = true ∧ (_ : Bool) = true) ⟨rfl, rfl⟩ ?_
            | refine And.intro (a := (_ : Bool) = true ∧ (_ : List _) = []) ⟨rfl, rfl⟩ ?_
            | refine And.intro (a := IR _ _) (And.intro (by omega) (by omega)) ?_
            | refine wrapE (And.intro (by omega) (by omega)) ?_
            | refine And.intro (a := (0 : Int) ≤ _ ∧ _ < _) (And.intro (by omega) (by omega)) ?_
            | refine And.intro (a := (_ : Bool) = true) (by simp only [Nat.beq_refl]; rfl) ?_
            | refine And.intro (a := ((_ : Bool) = true → 1 ≤ _) ∧ _ ≤ 9223372036854775807 ∧ _ ≤ 140737488355328) ⟨fun h => (by first | omega | cases h), by omega, by omega⟩ ?_
            | refine splT ?_
            | refine splF ?_
            | refine splNot ?_
            | (refine splIn (fun hc => ?_) (fun hc => ?_) <;> first | (exfalso; omega) | (exfalso; dsimp only at hc; omega) | skip)
            | (refine splD (fun hc => ?_) (fun hc => ?_) <;> first | (exfalso; omega) | (exfalso; dsimp only at hc; omega) | skip)
            | (refine splE (fun hc => ?_) (fun hc => ?_) <;> first | (exfalso; omega) | (exfalso; dsimp only at hc; omega) | skip)
            | (refine splNE (fun hc => ?_) (fun hc => ?_) <;> first | (exfalso; omega) | (exfalso; dsimp only at hc; omega) | skip)
            | ((with_reducible show CallEv _ _ 76 _ _ _ _ _); refine callE (k := 76) (fun β w' hbw => hgk _ (by first | exact hbw | exact hbw.1 | exact hbw.1.1 | exact hbw.1.1.1 | exact hbw.1.1.1.1 | exact hbw.1.1.1.1.1 | exact hbw.1.1.1.1.1.1 | exact hbw.1.1.1.1.1.1.1)) ?_)
            | ((with_reducible show CallEv _ _ 95 _ _ _ _ _); refine callI env mixed 1000 [2,3,6,7,8,9] Try.func95 has95 Try.ntmps95 (Nat.le_of_ble_eq_true rfl) rfl rfl rfl ?_)
        · exact ⟨k + 1, by omega, by omega, Ent.ren (rho [(3, 6), (4, 7)]) rfl (by rw [hs2]; rfl) ⟨rfl, rfl, rfl, rfl, rfl, by rw [hi]; rfl, trivial⟩ (by rw [hs2]; exact ⟨rfl, rfl, rfl, rfl, trivial⟩) fun _ h => h⟩
        · exact ⟨k + 1, by omega, by omega, Ent.ren (rho [(3, 6), (4, 7)]) rfl (by rw [hs2]; rfl) ⟨rfl, rfl, rfl, rfl, rfl, by rw [hi]; rfl, trivial⟩ (by rw [hs2]; exact ⟨rfl, by simp [oSV]; rfl, rfl, by simp [oM]; rfl, trivial⟩) fun _ h => h⟩
      · have hs2 : wRun (gd g bs) a (k + 1) = (L, -1) := by rw [hstep]; simp [wStep, hp, wEnd, hf]
        cases L <;> try simp only [List.length_cons] at hb1
        all_goals skip
        repeat'
          conv => whnf
          first
            | refine And.intro (a := drawB _ = true) (by kernel_rfl) ?_
            | refine And.intro (a := (_ : Bool) = true) rfl ?_
            | refine And.intro (a := (_ : Bool) = true ∧ (_ : Bool) = true) ⟨rfl, rfl⟩ ?_
            | refine And.intro (a := (_ : Bool) = true ∧ (_ : List _) = []) ⟨rfl, rfl⟩ ?_
            | refine And.intro (a := IR _ _) (And.intro (by omega) (by omega)) ?_
            | refine wrapE (And.intro (by omega) (by omega)) ?_
            | refine And.intro (a := (0 : Int) ≤ _ ∧ _ < _) (And.intro (by omega) (by omega)) ?_
            | refine And.intro (a := (_ : Bool) = true) (by simp only [Nat.beq_refl]; rfl) ?_
            | refine And.intro (a := ((_ : Bool) = true → 1 ≤ _) ∧ _ ≤ 9223372036854775807 ∧ _ ≤ 140737488355328) ⟨fun h => (by first | omega | cases h), by omega, by omega⟩ ?_
            | refine splT ?_
            | refine splF ?_
            | refine splNot ?_
            | (refine splIn (fun hc => ?_) (fun hc => ?_) <;> first | (exfalso; omega) | (exfalso; dsimp only at hc; omega) | skip)
            | (refine splD (fun hc => ?_) (fun hc => ?_) <;> first | (exfalso; omega) | (exfalso; dsimp only at hc; omega) | skip)
            | (refine splE (fun hc => ?_) (fun hc => ?_) <;> first | (exfalso; omega) | (exfalso; dsimp only at hc; omega) | skip)
            | (refine splNE (fun hc => ?_) (fun hc => ?_) <;> first | (exfalso; omega) | (exfalso; dsimp only at hc; omega) | skip)
            | ((with_reducible show CallEv _ _ 76 _ _ _ _ _); refine callE (k := 76) (fun β w' hbw => hgk _ (by first | exact hbw | exact hbw.1 | exact hbw.1.1 | exact hbw.1.1.1 | exact hbw.1.1.1.1 | exact hbw.1.1.1.1.1 | exact hbw.1.1.1.1.1.1 | exact hbw.1.1.1.1.1.1.1)) ?_)
            | ((with_reducible show CallEv _ _ 95 _ _ _ _ _); refine callI env mixed 1000 [2,3,6,7,8,9] Try.func95 has95 Try.ntmps95 (Nat.le_of_ble_eq_true rfl) rfl rfl rfl ?_)
        · exact ⟨k + 1, by omega, by omega, Ent.weak rfl ⟨rfl, rfl, rfl, rfl, rfl, by rw [hi]; rfl, trivial⟩ (by rw [hs2]; exact ⟨rfl, rfl, rfl, trivial⟩) fun _ h => h⟩
        · exact ⟨k + 1, by omega, by omega, Ent.weak rfl ⟨rfl, rfl, rfl, rfl, rfl, by rw [hi]; rfl, trivial⟩ (by rw [hs2]; exact ⟨rfl, rfl, rfl, rfl, trivial⟩) fun _ h => h⟩
  · obtain rfl : k = n + 1 := by omega
    have hw : wins (gd g bs) a (n + 1) = (wEnd (wRun (gd g bs) a (n + 1)) b).1 := by unfold wins; rw [show a + ((n + 1 : Nat) : Int) - 1 = b from by omega]
    rw [hw] at hN hX
    clear hw hstep
    generalize wRun (gd g bs) a (n + 1) = s at *
    obtain ⟨L, f⟩ := s
    dsimp only at hb1 hb2 hb3 ⊢
    by_cases hf : 0 ≤ f
    · rw [show (wEnd (L, f) b).1 = L ++ [(f, b)] from by simp [wEnd, hf]] at hN hX
      rcases L with _ | ⟨c0, L0⟩ <;> try simp only [List.length_cons] at hb1
      all_goals skip
      repeat'
        conv => whnf
        first
          | refine And.intro (a := drawB _ = true) (by kernel_rfl) ?_
          | refine And.intro (a := (_ : Bool) = true) rfl ?_
          | refine And.intro (a := (_ : Bool) = true ∧ (_ : Bool) = true) ⟨rfl, rfl⟩ ?_
          | refine And.intro (a := (_ : Bool) = true ∧ (_ : List _) = []) ⟨rfl, rfl⟩ ?_
          | refine And.intro (a := IR _ _) (And.intro (by omega) (by omega)) ?_
          | refine wrapE (And.intro (by omega) (by omega)) ?_
          | refine And.intro (a := (0 : Int) ≤ _ ∧ _ < _) (And.intro (by omega) (by omega)) ?_
          | refine And.intro (a := (_ : Bool) = true) (by simp only [Nat.beq_refl]; rfl) ?_
          | refine And.intro (a := ((_ : Bool) = true → 1 ≤ _) ∧ _ ≤ 9223372036854775807 ∧ _ ≤ 140737488355328) ⟨fun h => (by first | omega | cases h), by omega, by omega⟩ ?_
          | refine splT ?_
          | refine splF ?_
          | refine splNot ?_
          | (refine splIn (fun hc => ?_) (fun hc => ?_) <;> first | (exfalso; omega) | (exfalso; dsimp only at hc; omega) | skip)
          | (refine splD (fun hc => ?_) (fun hc => ?_) <;> first | (exfalso; omega) | (exfalso; dsimp only at hc; omega) | skip)
          | (refine splE (fun hc => ?_) (fun hc => ?_) <;> first | (exfalso; omega) | (exfalso; dsimp only at hc; omega) | skip)
          | (refine splNE (fun hc => ?_) (fun hc => ?_) <;> first | (exfalso; omega) | (exfalso; dsimp only at hc; omega) | skip)
          | ((with_reducible show CallEv _ _ 95 _ _ _ _ _); refine callI env mixed 1000 [2,3,6,7,8,9] Try.func95 has95 Try.ntmps95 (Nat.le_of_ble_eq_true rfl) rfl rfl rfl ?_)
      · obtain rfl : N = 0 + 1 := by rw [hN]; rfl
        obtain rfl : XS = [] ++ [iv f, iv b] := by rw [hX]; rfl
        exact ⟨fun w' h => h, fun β w' hB hB2 hblk => ⟨β 6, β 7, rfl, (hblk 6 _ rfl rfl).1, hB2, (hblk 6 _ rfl rfl).2⟩⟩
      · obtain rfl : N = L0.length + 1 + 1 := by rw [hN]; simp
        obtain rfl : XS = (c0 :: L0).flatMap wF ++ [iv f, iv b] := by rw [hX]; simp
        exact ⟨fun w' h => h, fun β w' hB hB2 hblk => ⟨β 6, β 7, rfl, (hblk 6 _ rfl rfl).1, hB2, (hblk 6 _ rfl rfl).2⟩⟩
    · rw [show (wEnd (L, f) b).1 = L from by simp [wEnd, hf]] at hN hX
      cases L with
      | nil => rw [hN] at hne; simp at hne
      | cons c L =>
        repeat'
          conv => whnf
          first
            | refine And.intro (a := drawB _ = true) (by kernel_rfl) ?_
            | refine And.intro (a := (_ : Bool) = true) rfl ?_
            | refine And.intro (a := (_ : Bool) = true ∧ (_ : Bool) = true) ⟨rfl, rfl⟩ ?_
            | refine And.intro (a := (_ : Bool) = true ∧ (_ : List _) = []) ⟨rfl, rfl⟩ ?_
            | refine And.intro (a := IR _ _) (And.intro (by omega) (by omega)) ?_
            | refine wrapE (And.intro (by omega) (by omega)) ?_
            | refine And.intro (a := (0 : Int) ≤ _ ∧ _ < _) (And.intro (by omega) (by omega)) ?_
            | refine And.intro (a := (_ : Bool) = true) (by simp only [Nat.beq_refl]; rfl) ?_
            | refine And.intro (a := ((_ : Bool) = true → 1 ≤ _) ∧ _ ≤ 9223372036854775807 ∧ _ ≤ 140737488355328) ⟨fun h => (by first | omega | cases h), by omega, by omega⟩ ?_
            | refine splT ?_
            | refine splF ?_
            | refine splNot ?_
            | (refine splIn (fun hc => ?_) (fun hc => ?_) <;> first | (exfalso; omega) | (exfalso; dsimp only at hc; omega) | skip)
            | (refine splD (fun hc => ?_) (fun hc => ?_) <;> first | (exfalso; omega) | (exfalso; dsimp only at hc; omega) | skip)
            | (refine splE (fun hc => ?_) (fun hc => ?_) <;> first | (exfalso; omega) | (exfalso; dsimp only at hc; omega) | skip)
            | (refine splNE (fun hc => ?_) (fun hc => ?_) <;> first | (exfalso; omega) | (exfalso; dsimp only at hc; omega) | skip)
            | ((with_reducible show CallEv _ _ 95 _ _ _ _ _); refine callI env mixed 1000 [2,3,6,7,8,9] Try.func95 has95 Try.ntmps95 (Nat.le_of_ble_eq_true rfl) rfl rfl rfl ?_)
        obtain rfl : N = L.length + 1 := by rw [hN]; rfl
        subst hX
        exact ⟨fun w' h => h, fun β w' hB hB2 hblk => ⟨β 3, β 4, rfl, (hblk 3 _ rfl rfl).1, hB2, (hblk 3 _ rfl rfl).2⟩⟩

set_option maxRecDepth 100000 in
theorem Windows_own (g : Fg) (bs : List Bx) (a b : Int) (hg : g.ok bs = true) (h0 : 0 ≤ a) (h1 : a ≤ b) (h2 : b ≤ 6000) (w : World) (hrd : Rd 4 Bx.cs (.slice g.o g.n g.c) bs w) (hl : bs.length ≤ 1000000) (N : Nat) (XS : List Value) (hN : N = (wins (gd g bs) a (b - a + 1).toNat).length) (hX : XS = (wins (gd g bs) a (b - a + 1).toNat).flatMap wF) (hne : 0 < N) :
    Calls Try.prog 54 #[g.v, iv a, iv b] w fun e w' => ∃ b c, e = .returned (.tuple #[.slice (some ⟨b, 0, none⟩) N c, iv 0]) ∧ w.heap.size ≤ b ∧ Below w.heap.size w w' ∧ w'.ownsRow 0 97 2 (.slice (some ⟨b, 0, none⟩) N c) N XS := by
  have hg' := Fg.ok_iff.1 hg
  refine calls_fam2 env mixed Try.func54 has54 Try.ntmps54 [g.v, iv a, iv b] (by simp) ?_
  have hv := fun w' hb => asked_ok g bs a b w' (hrd.below hb) hl
  rw [show askE g bs a b = 0 from by rw [askE, if_pos hg, if_pos (by omega)]] at hv
  repeat'
    conv => whnf
    first
      | refine And.intro (a := drawB _ = true) (by kernel_rfl) ?_
      | refine And.intro (a := (_ : Bool) = true) rfl ?_
      | refine And.intro (a := (_ : Bool) = true ∧ (_ : Bool) = true) ⟨rfl, rfl⟩ ?_
      | refine And.intro (a := (_ : Bool) = true ∧ (_ : List _) = []) ⟨rfl, rfl⟩ ?_
      | refine And.intro (a := IR _ _) (And.intro (by omega) (by omega)) ?_
      | refine wrapE (And.intro (by omega) (by omega)) ?_
      | refine And.intro (a := (0 : Int) ≤ _ ∧ _ < _) (And.intro (by omega) (by omega)) ?_
      | refine And.intro (a := (_ : Bool) = true) (by simp only [Nat.beq_refl]; rfl) ?_
      | refine And.intro (a := ((_ : Bool) = true → 1 ≤ _) ∧ _ ≤ 9223372036854775807 ∧ _ ≤ 140737488355328) ⟨fun h => (by first | omega | cases h), by omega, by omega⟩ ?_
      | refine splT ?_
      | refine splF ?_
      | refine splNot ?_
      | (refine splIn (fun hc => ?_) (fun hc => ?_) <;> first | (exfalso; omega) | (exfalso; dsimp only at hc; omega) | skip)
      | (refine splD (fun hc => ?_) (fun hc => ?_) <;> first | (exfalso; omega) | (exfalso; dsimp only at hc; omega) | skip)
      | (refine splE (fun hc => ?_) (fun hc => ?_) <;> first | (exfalso; omega) | (exfalso; dsimp only at hc; omega) | skip)
      | (refine splNE (fun hc => ?_) (fun hc => ?_) <;> first | (exfalso; omega) | (exfalso; dsimp only at hc; omega) | skip)
      | ((with_reducible show CallEv _ _ 73 _ _ _ _ _); refine callE (k := 73) (fun β w' hbw => hv _ (by first | exact hbw | exact hbw.1 | exact hbw.1.1 | exact hbw.1.1.1 | exact hbw.1.1.1.1 | exact hbw.1.1.1.1.1 | exact hbw.1.1.1.1.1.1 | exact hbw.1.1.1.1.1.1.1)) ?_)
      | ((with_reducible show CallEv _ _ 62 _ _ _ _ _); refine callF [] (fun x : SeeX => g.sv (x.bv g.k) (x.lv g.k)) (fun x => x.hx g) (fun β w' _ hbw => fam (see_ok g w' hg'.1 (by omega) (by omega) (by omega) (by omega))) ?_; intro x)
      | ((with_reducible show CallEv _ _ 78 _ _ _ _ _); refine callO 1 [] (.os 1 2 N) N 2 XS 97 rfl (fun β w' _ hbw => windows_own g bs x a b hg h0 h1 h2 w' hbw.2 (hrd.below hbw.1) N XS hN hX hne) ?_)
  exact ⟨fun w' h => h.1, fun β w' hB hB2 hblk => ⟨β 1, β 2, rfl, (hblk 1 _ rfl rfl).1, hB2, (hblk 1 _ rfl rfl).2⟩⟩

/-! ### The windows ahead of the first run that is long enough -/
theorem srch_spec {p : Int → Bool} {a need : Int} : ∀ {n k : Nat} {r : Int}, srch p a need n k = some r → ∃ j : Nat, r = a + j ∧ k ≤ j ∧ j < k + n ∧ (rc p a (j + 1) : Int) = need ∧ ∀ i, k ≤ i → i < j → (rc p a (i + 1) : Int) ≠ need
  | 0, _, _, h => by simp [srch] at h
  | n + 1, k, r, h => by
    rw [srch] at h
    split at h
    · rename_i hq
      cases h
      exact ⟨k, rfl, Nat.le_refl _, by omega, hq, fun i h1 h2 => by omega⟩
    · rename_i hq
      obtain ⟨j, h1, h2, h3, h4, h5⟩ := srch_spec h
      refine ⟨j, h1, by omega, by omega, h4, fun i q1 q2 => ?_⟩
      by_cases hik : i = k
      · subst hik; exact hq
      · exact h5 i (by omega) q2
theorem rc_lt {p : Int → Bool} {a need : Int} (hn : 1 ≤ need) {j : Nat} (h : ∀ i, i < j → (rc p a (i + 1) : Int) ≠ need) : ∀ i, i ≤ j → (rc p a i : Int) < need
  | 0, _ => by show ((0 : Nat) : Int) < need; omega
  | i + 1, hi => by
    have h1 := rc_lt hn h i (by omega)
    have h2 := h i (by omega)
    rw [rc] at h2 ⊢
    split at h2
    · rw [if_pos (by assumption)]; omega
    · rw [if_neg (by assumption)]; omega
theorem rc_good {p : Int → Bool} {a : Int} : ∀ (k t : Nat), k - rc p a k ≤ t → t < k → p (a + t) = true
  | 0, _, _, h => by omega
  | k + 1, t, h1, h2 => by
    rw [rc] at h1
    split at h1
    · rename_i hp
      by_cases ht : t = k
      · subst ht; exact hp
      · exact rc_good k t (by have := rc_le p a k; omega) (by omega)
    · omega
theorem wRun_rc {p : Int → Bool} {a : Int} (ha : 0 ≤ a) : ∀ k : Nat, (wRun p a k).2 = if rc p a k = 0 then -1 else a + k - rc p a k
  | 0 => rfl
  | k + 1 => by
    have ih := wRun_rc (p := p) ha k
    have hr : wRun p a (k + 1) = wStep p (wRun p a k) (a + k) := rfl
    have hl := rc_le p a k
    rw [hr, rc]
    cases hp : p (a + k) with
    | true =>
      simp only [wStep, hp, if_true]
      rw [ih]
      rw [if_neg (Nat.succ_ne_zero _)]
      by_cases h0 : rc p a k = 0
      · rw [if_pos h0, if_pos (by omega)]; omega
      · rw [if_neg h0, if_neg (by omega)]; omega
    | false => simp [wStep, hp, wEnd]
theorem wRun_short {p : Int → Bool} {a need : Int} (ha : 0 ≤ a) : ∀ k : Nat, (∀ i, i ≤ k → (rc p a i : Int) < need) → ∀ x ∈ (wRun p a k).1, x.2 - x.1 + 1 < need
  | 0, _, x, hx => by simp [wRun] at hx
  | k + 1, h, x, hx => by
    have ih := wRun_short (p := p) ha k (fun i hi => h i (by omega)) x
    have hr : wRun p a (k + 1) = wStep p (wRun p a k) (a + k) := rfl
    have hf := wRun_rc (p := p) ha k
    have hk := h k (by omega)
    rw [hr] at hx
    cases hp : p (a + k) with
    | true =>
      simp only [wStep, hp, if_true] at hx
      exact ih hx
    | false =>
      simp only [wStep, hp, wEnd, Bool.false_eq_true, if_false] at hx
      split at hx
      · rename_i h0
        rcases List.mem_append.1 hx with hx | hx
        · exact ih hx
        · rw [List.mem_singleton] at hx
          subst hx
          dsimp only
          rw [hf] at h0 ⊢
          split at h0
          · omega
          · rename_i h1
            rw [if_neg h1]
            omega
      · exact ih hx
/-- The windows up to the end of the first run that is long enough: this run is the last one, all before are shorter. -/
theorem wins_frs {p : Fg × List Bx} {need fr q : Int} (hn : 1 ≤ need) (h0 : 0 ≤ fr) (h : frs p need fr = some q) : ∃ M : List (Int × Int), wins (gd p.1 p.2) fr (q - fr + 1).toNat = M ++ [(q - need + 1, q)] ∧ (∀ x ∈ M, x.2 - x.1 + 1 < need) ∧ fr ≤ q - need + 1 ∧
    ∀ r, q - need + 1 ≤ r → r ≤ q → gd p.1 p.2 r = true := by
  obtain ⟨j, rfl, _, _, h4, h5⟩ := srch_spec h
  have hlt := rc_lt (p := gd p.1 p.2) (a := fr) hn (j := j) fun i hi => h5 i (Nat.zero_le _) hi
  have hle := rc_le (gd p.1 p.2) fr (j + 1)
  have hsh := wRun_short (p := gd p.1 p.2) h0 j hlt
  have hf := wRun_rc (p := gd p.1 p.2) h0 (j + 1)
  have hgood := rc_good (p := gd p.1 p.2) (a := fr) (j + 1)
  rw [show (fr + (j : Int) - fr + 1).toNat = j + 1 from by omega]
  have hr : wRun (gd p.1 p.2) fr (j + 1) = wStep (gd p.1 p.2) (wRun (gd p.1 p.2) fr j) (fr + j) := rfl
  have hp : gd p.1 p.2 (fr + j) = true := hgood j (by omega) (by omega)
  have hM : (wRun (gd p.1 p.2) fr (j + 1)).1 = (wRun (gd p.1 p.2) fr j).1 := by rw [hr]; simp [wStep, hp]
  rw [if_neg (by omega)] at hf
  refine ⟨(wRun (gd p.1 p.2) fr j).1, ?_, hsh, by omega, fun r q1 q2 => ?_⟩
  · unfold wins wEnd
    dsimp only
    rw [if_pos (by omega), hM, hf]
    congr 2
    refine Prod.ext ?_ ?_
    · dsimp only; omega
    · dsimp only; omega
  · have := hgood (r - fr).toNat (by omega) (by omega)
    rwa [show fr + ((r - fr).toNat : Int) = r from by omega] at this
/-- What is collected stays. -/
theorem chn_pre {need rst : Int} : ∀ {act : List (Fg × List Bx)} {i : Nat} {fr : Int} {acc L : List (Int × Int)}, chn need rst act i fr acc = (L, none) → acc <+: L ∧ L.length = acc.length + act.length
  | [], i, fr, acc, L, h => by
    rw [chn] at h
    cases h
    exact ⟨List.prefix_refl _, by simp⟩
  | p :: r, i, fr, acc, L, h => by
    rw [chn] at h
    cases hf : frs p need fr with
    | none => rw [hf] at h; cases h
    | some q =>
      rw [hf] at h
      obtain ⟨h1, h2⟩ := chn_pre h
      exact ⟨(List.prefix_append _ _).trans h1, by rw [h2]; simp; omega⟩
end Go.Proofs.Ytlehjapeomallaa.V
