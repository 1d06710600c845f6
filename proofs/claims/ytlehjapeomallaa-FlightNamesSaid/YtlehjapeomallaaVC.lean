/- The reference's windows; the comparison of windows: what these functions return. -/
import Derived.Test.YtlehjapeomallaaVB
namespace Go.Proofs.Ytlehjapeomallaa.V
open Go Tx Go.RowKit
set_option linter.unusedSimpArgs false
set_option linter.unusedVariables false

abbrev gss (g : Fg) : List SV := [.v (iv g.f.a.x.lo), .v (iv g.f.a.x.hi), .v (iv g.f.a.z.lo), .v (iv g.f.a.z.hi), .v (iv g.f.s.x.lo), .v (iv g.f.s.x.hi), .v (iv g.f.s.z.lo), .v (iv g.f.s.z.hi), .v (iv g.f.m), .v (.slice g.o g.n g.c), .v (iv g.re), .v (iv g.so), .v (iv g.be), .v (iv g.le), .v (iv g.mo)]

set_option maxRecDepth 100000 in
theorem Rgood_ok (g : Fg) (bs : List Bx) (r : Int) (w : World) (hg : g.ok bs = true) (hrd : Rd 4 Bx.cs (.slice g.o g.n g.c) bs w) (hr : 0 ≤ r ∧ r ≤ 100000) :
    Calls Try.prog 79 #[g.v, iv r] w fun e w' => e = .returned (.bool (gd g bs r)) ∧ Below w.heap.size w w' := by
  refine calls_val env mixed Try.func79 has79 Try.ntmps79 [g.v, iv r] (by simp) ?_
  repeat'
    conv => whnf
    first
      | refine And.intro (a := drawB _ = true) (by kernel_rfl) ?_
      | refine And.intro (a := (_ : Bool) = true) rfl ?_
      | refine And.intro (a := (_ : Bool) = true ∧ (_ : Bool) = true) ⟨rfl, rfl⟩ ?_
      | refine And.intro (a := (_ : Bool) = true ∧ (_ : List _) = []) ⟨rfl, rfl⟩ ?_
      | refine And.intro (a := IR _ _) (And.intro (by omega) (by omega)) ?_
      | refine wrapE (And.intro (by omega) (by omega)) ?_
      | refine And.intro (a := (0 : Int) ≤ _ ∧ _ < _) (And.intro (by omega) (by omega)) ?_
      | refine And.intro (a := (_ : Bool) = true) (by simp only [Nat.beq_refl]; rfl) ?_
      | refine And.intro (a := ((_ : Bool) = true → 1 ≤ _) ∧ _ ≤ 9223372036854775807 ∧ _ ≤ 140737488355328) ⟨fun h => (by first | omega | cases h), by omega, by omega⟩ ?_
      | refine splT ?_
      | refine splF ?_
      | refine splNot ?_
      | (refine splIn (fun hc => ?_) (fun hc => ?_) <;> first | (exfalso; omega) | (exfalso; dsimp only at hc; omega) | skip)
      | (refine splD (fun hc => ?_) (fun hc => ?_) <;> first | (exfalso; omega) | (exfalso; dsimp only at hc; omega) | skip)
      | (refine splE (fun hc => ?_) (fun hc => ?_) <;> first | (exfalso; omega) | (exfalso; dsimp only at hc; omega) | skip)
      | (refine splNE (fun hc => ?_) (fun hc => ?_) <;> first | (exfalso; omega) | (exfalso; dsimp only at hc; omega) | skip)
      | ((with_reducible show CallEv _ _ 28 _ _ _ _ _); refine callF [] (fun u : Option Addr × Nat => sV (catL g bs r g.k).length u) (fun u => Rd 1 iF (sV (catL g bs r g.k).length u) (catL g bs r g.k)) (fun β w' _ hbw => fam (Rcatches_ok g bs r w' hg (hrd.below hbw) hr)) ?_; intro u)
  refine ⟨fun β => congrArg Value.bool ?_, fun w' h => h.1⟩
  rw [Bool.eq_iff_iff]
  simp only [gd, decide_eq_true_eq]
  cases catL g bs r g.k <;> simp

theorem last_set (L : List (Int × Int)) (f e e' : Int) (n : Nat) (hn : n = L.length + 1) :
    ((L ++ [(f, e)]).flatMap wF).take (((n : Int) - 1).toNat * 2 + 1) ++ [iv e'] ++ ((L ++ [(f, e)]).flatMap wF).drop (((n : Int) - 1).toNat * 2 + 1 + 1) = (L ++ [(f, e')]).flatMap wF := by
  have ho : ((n : Int) - 1).toNat = L.length := by omega
  have hl : (L.flatMap wF).length = L.length * 2 := by
    clear hn ho
    induction L with
    | nil => rfl
    | cons c L ih => simp only [List.flatMap_cons, List.length_append, List.length_cons, List.length_nil, ih]; omega
  rw [ho]
  simp only [List.flatMap_append, List.flatMap_cons, List.flatMap_nil, List.append_nil]
  rw [List.take_append, List.drop_append, hl]
  rw [List.take_of_length_le (by omega), List.drop_of_length_le (by omega)]
  rw [show L.length * 2 + 1 - L.length * 2 = 1 from by omega, show L.length * 2 + 1 + 1 - L.length * 2 = 2 from by omega]
  simp
theorem last_len (L : List (Int × Int)) (x : Int × Int) (n : Nat) (hn : n = L.length + 1) : ((n : Int) - 1).toNat * 2 + 1 + 1 ≤ ((L ++ [x]).flatMap wF).length := by
  have hl : ((L ++ [x]).flatMap wF).length = (L.length + 1) * 2 := by
    clear hn
    induction L with
    | nil => rfl
    | cons c L ih => rw [List.cons_append, List.flatMap_cons, List.length_append, ih]; simp only [List.length_cons, List.length_nil]; omega
  omega

set_option maxRecDepth 100000 in
theorem Rwindows_ok (g : Fg) (bs : List Bx) (a : Int) (n : Nat) (w : World) (hg : g.ok bs = true) (h0 : 0 ≤ a) (h2 : a + n ≤ 6000) (hrd : Rd 4 Bx.cs (.slice g.o g.n g.c) bs w) :
    Calls Try.prog 56 #[g.v, iv a, iv (a + n)] w fun e w' => ∃ y : Option Addr × Nat, e = .returned (sV (wins (gd g bs) a (n + 1)).length y) ∧ Below w.heap.size w w' ∧
      St w.heap.size (Rd 2 wF (sV (wins (gd g bs) a (n + 1)).length y) (wins (gd g bs) a (n + 1))) w' := by
  refine calls_fam env mixed Try.func56 has56 Try.ntmps56 [g.v, iv a, iv (a + n)] (by simp) ?_
  have hgood := fun r w' hr hb => Rgood_ok g bs r w' hg (hrd.below hb) hr
  repeat'
    conv => whnf
    first
      | refine And.intro (a := drawB _ = true) (by kernel_rfl) ?_
      | refine And.intro (a := (_ : Bool) = true) rfl ?_
      | refine And.intro (a := (_ : Bool) = true ∧ (_ : Bool) = true) ⟨rfl, rfl⟩ ?_
      | refine And.intro (a := (_ : Bool) = true ∧ (_ : List _) = []) ⟨rfl, rfl⟩ ?_
      | refine And.intro (a := IR _ _) (And.intro (by omega) (by omega)) ?_
      | refine wrapE (And.intro (by omega) (by omega)) ?_
      | refine And.intro (a := (0 : Int) ≤ _ ∧ _ < _) (And.intro (by omega) (by omega)) ?_
      | refine And.intro (a := (_ : Bool) = true) (by simp only [Nat.beq_refl]; rfl) ?_
      | refine And.intro (a := ((_ : Bool) = true → 1 ≤ _) ∧ _ ≤ 9223372036854775807 ∧ _ ≤ 140737488355328) ⟨fun h => (by first | omega | cases h), by omega, by omega⟩ ?_
      | refine splT ?_
      | refine splF ?_
      | refine splNot ?_
      | (refine splIn (fun hc => ?_) (fun hc => ?_) <;> first | (exfalso; omega) | (exfalso; dsimp only at hc; omega) | skip)
      | (refine splD (fun hc => ?_) (fun hc => ?_) <;> first | (exfalso; omega) | (exfalso; dsimp only at hc; omega) | skip)
      | (refine splE (fun hc => ?_) (fun hc => ?_) <;> first | (exfalso; omega) | (exfalso; dsimp only at hc; omega) | skip)
      | (refine splNE (fun hc => ?_) (fun hc => ?_) <;> first | (exfalso; omega) | (exfalso; dsimp only at hc; omega) | skip)
  refine loopN 3 (fun k : Nat => [(2, .v (iv (a + n))), (3, .ptr 0 0), (7, oSV 1 2 (wins (gd g bs) a k)), (8, .v (.bool (decide (0 ≤ (wRun (gd g bs) a k).2)))), (9, .v (iv (a + k)))]) (fun k => (0, .cells (gss g) 41) :: oM 1 2 2 wF 94 (wins (gd g bs) a k))
    (fun k => k ≤ n + 1) (fun k => n + 1 - k) 0 (Nat.zero_le _) ⟨rfl, rfl, rfl, rfl, by rw [Int.ofNat_zero, Int.add_zero]; rfl, trivial⟩ ⟨rfl, trivial⟩ (fun k _ => by cases wins (gd g bs) a k <;> exact ⟨rfl, rfl⟩) ?_
  intro k hk
  have hi : a + ((k + 1 : Nat) : Int) = a + (k : Int) + 1 := by omega
  have hlen := wins_len (p := gd g bs) h0 k
  have hwf := wRun_f (p := gd g bs) h0 (k := k)
  rcases Nat.lt_or_ge k (n + 1) with hlt | hge
  · have hgk := fun w' hb => hgood (a + k) w' (by omega) hb
    cases hp : gd g bs (a + k) with
    | false =>
      rw [hp] at hwf
      have hs2 := wins_no hp
      simp only [hp] at hgk
      generalize wins (gd g bs) a k = L at *
      cases L <;> try simp only [List.length_cons] at hlen
      all_goals skip
      repeat'
        conv => whnf
        first
          | refine And.intro (a := drawB _ = true) (by kernel_rfl) ?_
          | refine And.intro (a := (_ : Bool) = true) rfl ?_
          | refine And.intro (a := (_ : Bool) = true ∧ (_ : Bool) = true) ⟨rfl, rfl⟩ ?_
          | refine And.intro (a := (_ : Bool) = true ∧ (_ : List _) = []) ⟨rfl, rfl⟩ ?_
          | refine And.intro (a := IR _ _) (And.intro (by omega) (by omega)) ?_
          | refine wrapE (And.intro (by omega) (by omega)) ?_
          | refine And.intro (a := (0 : Int) ≤ _ ∧ _ < _) (And.intro (by omega) (by omega)) ?_
          | refine And.intro (a := (_ : Bool) = true) (by simp only [Nat.beq_refl]; rfl) ?_
          | refine And.intro (a := ((_ : Bool) = true → 1 ≤ _) ∧ _ ≤ 9223372036854775807 ∧ _ ≤ 140737488355328) ⟨fun h => (by first | omega | cases h), by omega, by omega⟩ ?_
          | refine splT ?_
          | refine splF ?_
          | refine splNot ?_
          | (refine splIn (fun hc => ?_) (fun hc => ?_) <;> first | (exfalso; omega) | (exfalso; dsimp only at hc; omega) | skip)
          | (refine splD (fun hc => ?_) (fun hc => ?_) <;> first | (exfalso; omega) | (exfalso; dsimp only at hc; omega) | skip)
          | (refine splE (fun hc => ?_) (fun hc => ?_) <;> first | (exfalso; omega) | (exfalso; dsimp only at hc; omega) | skip)
          | (refine splNE (fun hc => ?_) (fun hc => ?_) <;> first | (exfalso; omega) | (exfalso; dsimp only at hc; omega) | skip)
          | ((with_reducible show CallEv _ _ 79 _ _ _ _ _); refine callE (k := 79) (fun β w' hbw => hgk _ (by first | exact hbw | exact hbw.1 | exact hbw.1.1 | exact hbw.1.1.1 | exact hbw.1.1.1.1 | exact hbw.1.1.1.1.1 | exact hbw.1.1.1.1.1.1 | exact hbw.1.1.1.1.1.1.1)) ?_)
      · exact ⟨k + 1, by omega, by omega, Ent.weak rfl ⟨rfl, rfl, by rw [hs2]; rfl, by rw [hwf]; rfl, by rw [hi]; rfl, trivial⟩ (by rw [hs2]; exact ⟨rfl, trivial⟩) fun _ h => h⟩
      · exact ⟨k + 1, by omega, by omega, Ent.weak rfl ⟨rfl, rfl, by rw [hs2]; rfl, by rw [hwf]; rfl, by rw [hi]; rfl, trivial⟩ (by rw [hs2]; exact ⟨rfl, rfl, trivial⟩) fun _ h => h⟩
    | true =>
      rw [hp] at hwf
      simp only [hp] at hgk
      by_cases hf : 0 ≤ (wRun (gd g bs) a k).2
      · obtain ⟨hs2, hs1⟩ := wins_ext hp hf
        rw [decide_eq_true hf]
        rw [hs1] at hlen ⊢
        generalize hF : (wRun (gd g bs) a k).2 = f at *
        generalize hL : (wRun (gd g bs) a k).1 = L at *
        have hone := last_len L (f, a + k - 1) (L.length + 1) rfl
        have htwo := last_set L f (a + k - 1) (a + k) (L.length + 1) rfl
        obtain ⟨c, M, hM⟩ : ∃ c M, L ++ [(f, a + (k : Int) - 1)] = c :: M := by cases L <;> exact ⟨_, _, rfl⟩
        obtain ⟨c2, M2, hM2⟩ : ∃ c M, L ++ [(f, a + (k : Int))] = c :: M := by cases L <;> exact ⟨_, _, rfl⟩
        have hl1 := congrArg List.length hM
        have hl2 := congrArg List.length hM2
        simp only [List.length_append, List.length_cons, List.length_nil] at hl1 hl2
        have hl3 : M2.length = M.length := by omega
        rw [hM, show L.length + 1 = M.length + 1 from by omega] at hone htwo
        rw [hM2] at hs2 htwo
        rw [hM] at hlen ⊢
        simp only [List.length_cons] at hlen
        repeat'
          conv => whnf
          first
            | refine And.intro (a := drawB _ = true) (by kernel_rfl) ?_
            | refine And.intro (a := (_ : Bool) = true) rfl ?_
            | refine And.intro (a := (_ : Bool) = true ∧ (_ : Bool) = true) ⟨rfl, rfl⟩ ?_
            | refine And.intro (a := (_ : Bool) = true ∧ (_ : List _) = []) ⟨rfl, rfl⟩ ?_
            | refine And.intro (a := IR _ _) (And.intro (by omega) (by omega)) ?_
            | refine wrapE (And.intro (by omega) (by omega)) ?_
            | refine And.intro (a := (0 : Int) ≤ _ ∧ _ < _) (And.intro (by omega) (by omega)) ?_
            | refine And.intro (a := (_ : Bool) = true) (by simp only [Nat.beq_refl]; rfl) ?_
            | refine And.intro (a := ((_ : Bool) = true → 1 ≤ _) ∧ _ ≤ 9223372036854775807 ∧ _ ≤ 140737488355328) ⟨fun h => (by first | omega | cases h), by omega, by omega⟩ ?_
            | refine splT ?_
            | refine splF ?_
            | refine splNot ?_
            | (refine splIn (fun hc => ?_) (fun hc => ?_) <;> first | (exfalso; omega) | (exfalso; dsimp only at hc; omega) | skip)
            | (refine splD (fun hc => ?_) (fun hc => ?_) <;> first | (exfalso; omega) | (exfalso; dsimp only at hc; omega) | skip)
            | (refine splE (fun hc => ?_) (fun hc => ?_) <;> first | (exfalso; omega) | (exfalso; dsimp only at hc; omega) | skip)
            | (refine splNE (fun hc => ?_) (fun hc => ?_) <;> first | (exfalso; omega) | (exfalso; dsimp only at hc; omega) | skip)
            | ((with_reducible show CallEv _ _ 79 _ _ _ _ _); refine callE (k := 79) (fun β w' hbw => hgk _ (by first | exact hbw | exact hbw.1 | exact hbw.1.1 | exact hbw.1.1.1 | exact hbw.1.1.1.1 | exact hbw.1.1.1.1.1 | exact hbw.1.1.1.1.1.1 | exact hbw.1.1.1.1.1.1.1)) ?_)
            | refine And.intro (a := _ + _ ≤ List.length _) hone ?_
        exact ⟨k + 1, by omega, by omega, Ent.weak rfl ⟨rfl, rfl, by rw [hs2]; simp only [oSV, hl3]; rfl, by rw [hwf]; rfl, by rw [hi]; rfl, trivial⟩ (by rw [hs2]; simp only [oM, hl3]; exact ⟨rfl, congrArg (fun xs => some (Blk.own 2 (M.length + 1) 2 xs 94)) htwo, trivial⟩) fun _ h => h⟩
      · have hs2 := wins_new h0 hp (Int.not_le.1 hf)
        rw [decide_eq_false hf]
        generalize wins (gd g bs) a k = L at *
        cases L <;> try simp only [List.length_cons] at hlen
        all_goals skip
        repeat'
          conv => whnf
          first
            | refine And.intro (a := drawB _ = true) (by kernel_rfl) ?_
            | refine And.intro (a := (_ : Bool) = true) rfl ?_
            | refine And.intro (a := (_ : Bool) = true ∧ (_ : Bool) = true) ⟨rfl, rfl⟩ ?_
            | refine And.intro (a := (_ : Bool) = true ∧ (_ : List _) = []) ⟨rfl, rfl⟩ ?_
            | refine And.intro (a := IR _ _) (And.intro (by omega) (by omega)) ?_
            | refine wrapE (And.intro (by omega) (by omega)) ?_
            | refine And.intro (a := (0 : Int) ≤ _ ∧ _ < _) (And.intro (by omega) (by omega)) ?_
            | refine And.intro (a := (_ : Bool) = true) (by simp only [Nat.beq_refl]; rfl) ?_
            | refine And.intro (a := ((_ : Bool) = true → 1 ≤ _) ∧ _ ≤ 9223372036854775807 ∧ _ ≤ 140737488355328) ⟨fun h => (by first | omega | cases h), by omega, by omega⟩ ?_
            | refine splT ?_
            | refine splF ?_
            | refine splNot ?_
            | (refine splIn (fun hc => ?_) (fun hc => ?_) <;> first | (exfalso; omega) | (exfalso; dsimp only at hc; omega) | skip)
            | (refine splD (fun hc => ?_) (fun hc => ?_) <;> first | (exfalso; omega) | (exfalso; dsimp only at hc; omega) | skip)
            | (refine splE (fun hc => ?_) (fun hc => ?_) <;> first | (exfalso; omega) | (exfalso; dsimp only at hc; omega) | skip)
            | (refine splNE (fun hc => ?_) (fun hc => ?_) <;> first | (exfalso; omega) | (exfalso; dsimp only at hc; omega) | skip)
            | ((with_reducible show CallEv _ _ 79 _ _ _ _ _); refine callE (k := 79) (fun β w' hbw => hgk _ (by first | exact hbw | exact hbw.1 | exact hbw.1.1 | exact hbw.1.1.1 | exact hbw.1.1.1.1 | exact hbw.1.1.1.1.1 | exact hbw.1.1.1.1.1.1 | exact hbw.1.1.1.1.1.1.1)) ?_)
        · exact ⟨k + 1, by omega, by omega, Ent.ren (rho [(1, 4), (2, 5)]) rfl (by rw [hs2]; rfl) ⟨rfl, rfl, by rw [hs2]; rfl, by rw [hwf]; rfl, by rw [hi]; rfl, trivial⟩ (by rw [hs2]; exact ⟨rfl, rfl, trivial⟩) fun _ h => h⟩
        · exact ⟨k + 1, by omega, by omega, Ent.ren (rho [(1, 4), (2, 5)]) rfl (by rw [hs2]; rfl) ⟨rfl, rfl, by rw [hs2]; simp [oSV]; rfl, by rw [hwf]; rfl, by rw [hi]; rfl, trivial⟩ (by rw [hs2]; exact ⟨rfl, by simp [oM]; rfl, trivial⟩) fun _ h => h⟩
  · obtain rfl : k = n + 1 := by omega
    generalize wins (gd g bs) a (n + 1) = L at *
    cases L with
    | nil =>
      repeat'
        conv => whnf
        first
          | refine And.intro (a := drawB _ = true) (by kernel_rfl) ?_
          | refine And.intro (a := (_ : Bool) = true) rfl ?_
          | refine And.intro (a := (_ : Bool) = true ∧ (_ : Bool) = true) ⟨rfl, rfl⟩ ?_
          | refine And.intro (a := (_ : Bool) = true ∧ (_ : List _) = []) ⟨rfl, rfl⟩ ?_
          | refine And.intro (a := IR _ _) (And.intro (by omega) (by omega)) ?_
          | refine wrapE (And.intro (by omega) (by omega)) ?_
          | refine And.intro (a := (0 : Int) ≤ _ ∧ _ < _) (And.intro (by omega) (by omega)) ?_
          | refine And.intro (a := (_ : Bool) = true) (by simp only [Nat.beq_refl]; rfl) ?_
          | refine And.intro (a := ((_ : Bool) = true → 1 ≤ _) ∧ _ ≤ 9223372036854775807 ∧ _ ≤ 140737488355328) ⟨fun h => (by first | omega | cases h), by omega, by omega⟩ ?_
          | refine splT ?_
          | refine splF ?_
          | refine splNot ?_
          | (refine splIn (fun hc => ?_) (fun hc => ?_) <;> first | (exfalso; omega) | (exfalso; dsimp only at hc; omega) | skip)
          | (refine splD (fun hc => ?_) (fun hc => ?_) <;> first | (exfalso; omega) | (exfalso; dsimp only at hc; omega) | skip)
          | (refine splE (fun hc => ?_) (fun hc => ?_) <;> first | (exfalso; omega) | (exfalso; dsimp only at hc; omega) | skip)
          | (refine splNE (fun hc => ?_) (fun hc => ?_) <;> first | (exfalso; omega) | (exfalso; dsimp only at hc; omega) | skip)
      exact ⟨fun w' h => h, fun β w' hB hblk => oNil (i := 1) (j := 2) (f := wF) (sz := 2)⟩
    | cons c L =>
      repeat'
        conv => whnf
        first
          | refine And.intro (a := drawB _ = true) (by kernel_rfl) ?_
          | refine And.intro (a := (_ : Bool) = true) rfl ?_
          | refine And.intro (a := (_ : Bool) = true ∧ (_ : Bool) = true) ⟨rfl, rfl⟩ ?_
          | refine And.intro (a := (_ : Bool) = true ∧ (_ : List _) = []) ⟨rfl, rfl⟩ ?_
          | refine And.intro (a := IR _ _) (And.intro (by omega) (by omega)) ?_
          | refine wrapE (And.intro (by omega) (by omega)) ?_
          | refine And.intro (a := (0 : Int) ≤ _ ∧ _ < _) (And.intro (by omega) (by omega)) ?_
          | refine And.intro (a := (_ : Bool) = true) (by simp only [Nat.beq_refl]; rfl) ?_
          | refine And.intro (a := ((_ : Bool) = true → 1 ≤ _) ∧ _ ≤ 9223372036854775807 ∧ _ ≤ 140737488355328) ⟨fun h => (by first | omega | cases h), by omega, by omega⟩ ?_
          | refine splT ?_
          | refine splF ?_
          | refine splNot ?_
          | (refine splIn (fun hc => ?_) (fun hc => ?_) <;> first | (exfalso; omega) | (exfalso; dsimp only at hc; omega) | skip)
          | (refine splD (fun hc => ?_) (fun hc => ?_) <;> first | (exfalso; omega) | (exfalso; dsimp only at hc; omega) | skip)
          | (refine splE (fun hc => ?_) (fun hc => ?_) <;> first | (exfalso; omega) | (exfalso; dsimp only at hc; omega) | skip)
          | (refine splNE (fun hc => ?_) (fun hc => ?_) <;> first | (exfalso; omega) | (exfalso; dsimp only at hc; omega) | skip)
      exact ⟨fun w' h => h, fun β w' hB hblk => oEnd (sz := 2) (f := wF) (fun _ => rfl) c L (hblk 1 _ rfl rfl)⟩
end Go.Proofs.Ytlehjapeomallaa.V
