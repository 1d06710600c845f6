/- The law of proofs of windows answers true at every flight, window and numbers handed in. -/
import Derived.Test.YtlehjapeomallaaVL
namespace Go.Proofs.Ytlehjapeomallaa.V
open Go Tx Go.RowKit
set_option linter.unusedSimpArgs false
set_option linter.unusedVariables false

theorem Rcat_ys (g : Fg) (bs : List Bx) (r : Int) (w : World) (hg : g.ok bs = true) (hrd : Rd 4 Bx.cs (.slice g.o g.n g.c) bs w) (hr0 : 0 ≤ r ∧ r ≤ 100000) :
    Calls Try.prog 28 #[g.v, iv r] w fun e w' => ∃ y : YS (catL g bs r g.k), e = .returned (sV (catL g bs r g.k).length y.1) ∧ Below w.heap.size w w' ∧ St w.heap.size (Rd 1 iF (sV (catL g bs r g.k).length y.1) (catL g bs r g.k)) w' :=
  fam ((Rcatches_ok g bs r w hg hrd hr0).mono fun _ _ ⟨y, h1, h2, h3⟩ => ⟨⟨y, rd_ys h3.now⟩, h1, h2, h3⟩)

theorem rd_atz {α : Type} {sz : Nat} {f : α → List Value} {ad : Addr} {n c : Nat} {L : List α} {w : World} (h : Rd sz f (.slice (some ad) n c) L w) {k : Nat} {b : α} (hk : L[k]? = some b) (z : Int) (hz : z = k) :
    ∀ j v, (f b)[j]? = some v → w.cell? ((ad.add (z.toNat * sz)).add j) = some v := by subst hz; rw [Int.toNat_natCast]; exact rd_at h hk

set_option maxRecDepth 100000 in
theorem own12 (g : Fg) (bs : List Bx) (a b at' by' : Int) (w : World) (hrd : Rd 4 Bx.cs (.slice g.o g.n g.c) bs w) (hl : bs.length ≤ 1000000) (hat : 0 ≤ at' ∧ at' ≤ 255) (hR : R12 g bs a b = true) (hba : b - a ≤ 100) {Φ : Exit → Sg → Prop}
    (hfin : ∀ x : Nat × List Int, (x.1 < 2 → x.2 = []) ∧ x.2.length ≤ 1000000 ∧ (∀ n ∈ x.2, -9223372036854775808 ≤ n ∧ n ≤ 9223372036854775807) →
      VC Try.prog (rest 5 body12) ⟨152, [(6, .ptr 0 0), (7, .ptr 1 0), (13, s13 x.2 x.1), (14, .v (.bool (R12 g bs a b)))], (0, .cells (gss' g) 41) :: (1, .cells [.v (iv a), .v (iv b)] 94) :: b13 x.2 x.1, 5, Below w.heap.size w, z0⟩ Φ) :
    VC Try.prog (rest 3 body12) ⟨152, [(3, .v (.bool true)), (4, .v (.int .u8 at')), (5, .v (iv by')), (6, .ptr 0 0), (7, .ptr 1 0)], [(0, .cells (gss' g) 41), (1, .cells [.v (iv a), .v (iv b)] 94)], 5, Below w.heap.size w, z0⟩ Φ := by
  have hn0 : ∀ n ∈ ([] : List Int), -9223372036854775808 ≤ n ∧ n ≤ 9223372036854775807 := fun n h => (by cases h)
  refine VC.cutE env mixed 2 5 (fun x : Nat × List Int => [(6, .ptr 0 0), (7, .ptr 1 0), (13, s13 x.2 x.1), (14, .v (.bool (R12 g bs a b)))]) (fun x => (0, .cells (gss' g) 41) :: (1, .cells [.v (iv a), .v (iv b)] 94) :: b13 x.2 x.1)
    (fun x => (x.1 < 2 → x.2 = []) ∧ x.2.length ≤ 1000000 ∧ ∀ n ∈ x.2, -9223372036854775808 ≤ n ∧ n ≤ 9223372036854775807) (fun x _ => by obtain ⟨e, L⟩ := x; rcases e with _ | _ | e <;> exact ⟨rfl, rfl⟩) ?_ hfin
  have hRt : ∀ w', Below w.heap.size w w' → Calls Try.prog 26 #[g.v] w' fun e w'' => e = .returned (.bool (g.ok bs)) ∧ Below w'.heap.size w' w'' := fun w' hb => Right_ok g bs w' (hrd.below hb) hl
  have hg : g.ok bs = true := by
    simp only [R12, Bool.and_eq_true] at hR
    exact hR.1
  have hab : (0 ≤ a ∧ a ≤ 6000) ∧ (a ≤ b ∧ b ≤ 6000) := by
    have hR := hR
    simp only [R12, Bool.and_eq_true, Sx.inB_iff] at hR
    omega
  have hg' := Fg.ok_iff.1 hg
  rw [hg] at hRt
  have hC := fun r w' hb hr => Rcat_ys g bs r w' hg (Rd.below (w' := w') hrd hb) hr
  have hRv : R12 g bs a b = Sx.inB b a 6000 := by rw [hR, Sx.inB_iff.2 hab.2]
  have hbd : ∀ r, 0 ≤ r ∧ r ≤ 6000 → ∀ x ∈ catL g bs r g.k, 0 ≤ x ∧ x ≤ 7000 := fun r hr x hx => by
    obtain ⟨k, h1, h2, _⟩ := catL_mem hx
    have hkk : (g.k : Int) = g.mo - g.le + 1 := by unfold Fg.k; omega
    omega
  repeat'
    conv => whnf
    first
      | refine And.intro (a := drawB _ = true) (by kernel_rfl) ?_
      | refine And.intro (a := (_ : Bool) = true) rfl ?_
      | refine And.intro (a := (_ : Bool) = true ∧ (_ : Bool) = true) ⟨rfl, rfl⟩ ?_
      | refine And.intro (a := (_ : Bool) = true ∧ (_ : List _) = []) ⟨rfl, rfl⟩ ?_
      | refine And.intro (a := IR _ _) (And.intro (by omega) (by omega)) ?_
      | refine wrapE (And.intro (by omega) (by omega)) ?_
      | refine And.intro (a := (0 : Int) ≤ _ ∧ _ < _) (And.intro (by omega) (by omega)) ?_
      | refine And.intro (a := (_ : Bool) = true) (by simp only [Nat.beq_refl]; rfl) ?_
      | refine And.intro (a := ((_ : Bool) = true → 1 ≤ _) ∧ _ ≤ 9223372036854775807 ∧ _ ≤ 140737488355328) ⟨fun h => (by first | omega | cases h), by omega, by omega⟩ ?_
      | refine splT ?_
      | refine splF ?_
      | refine splNot ?_
      | (refine splIn (fun hc => ?_) (fun hc => ?_) <;> first | (exfalso; omega) | (exfalso; dsimp only at hc; omega) | skip)
      | (refine splD (fun hc => ?_) (fun hc => ?_) <;> first | (exfalso; omega) | (exfalso; dsimp only at hc; omega) | skip)
      | (refine splE (fun hc => ?_) (fun hc => ?_) <;> first | (exfalso; omega) | (exfalso; dsimp only at hc; omega) | skip)
      | (refine splNE (fun hc => ?_) (fun hc => ?_) <;> first | (exfalso; omega) | (exfalso; dsimp only at hc; omega) | skip)
      | ((with_reducible show CallEv _ _ 26 _ _ _ _ _); refine callE (k := 26) (fun β w' hbw => hRt _ (by first | exact hbw | exact hbw.1 | exact hbw.1.1 | exact hbw.1.1.1 | exact hbw.1.1.1.1 | exact hbw.1.1.1.1.1 | exact hbw.1.1.1.1.1.1 | exact hbw.1.1.1.1.1.1.1)) ?_)
      | ((with_reducible show CallEv _ _ 19 _ _ _ _ _); refine callE (k := 19) (fun β w' hbw => In_ok _ _ _ _) ?_)
  refine loopN 5 (fun x : Nat × List Int => [(4, .v (.int .u8 at')), (5, .v (iv by')), (6, .ptr 0 0), (7, .ptr 1 0), (13, oSV 3 4 x.2), (14, .v (.bool (Sx.inB b a 6000))), (15, .v (iv (a + x.1)))]) (fun x => (0, .cells (gss' g) 41) :: (1, .cells [.v (iv a), .v (iv b)] 94) :: oM 3 4 1 iF 3 x.2)
    (fun x => a + x.1 ≤ b + 1 ∧ x.2.length ≤ x.1 ∧ ∀ n ∈ x.2, 0 ≤ n ∧ n ≤ 7000) (fun x => (b + 1 - a).toNat - x.1) (0, []) ⟨by show a + ((0 : Nat) : Int) ≤ _; omega, Nat.le_refl _, fun n h => (by cases h)⟩ ⟨rfl, rfl, rfl, rfl, rfl, rfl, by show _ = some (SV.v (iv (a + ((0 : Nat) : Int)))); rw [Int.ofNat_zero, Int.add_zero]; rfl, trivial⟩ ⟨rfl, rfl, trivial⟩ (fun x _ => by obtain ⟨k, L⟩ := x; cases L <;> exact ⟨rfl, rfl⟩) ?_
  rintro ⟨k, L⟩ ⟨hk, hlk, hL⟩
  dsimp only at hk hlk hL
  have hi : a + ((k + 1 : Nat) : Int) = a + (k : Int) + 1 := by omega
  have hL' : ∀ n ∈ L, -9223372036854775808 ≤ n ∧ n ≤ 9223372036854775807 := fun n hn => by have := hL n hn; omega
  by_cases hle : a + (k : Int) ≤ b
  · have hCk := fun w' hb => hC (a + k) w' hb (by omega)
    have hbk := hbd (a + k) (by omega)
    have hCl : (catL g bs (a + k) g.k).length ≤ 301 := Nat.le_trans (catL_len g bs (a + k) g.k) (by unfold Fg.k; omega)
    generalize catL g bs (a + k) g.k = C at hCk hbk hCl
    cases C with
    | nil =>
      cases L <;> try simp only [List.length_cons] at hlk
      all_goals skip
      repeat'
        conv => whnf
        first
          | refine And.intro (a := drawB _ = true) (by kernel_rfl) ?_
          | refine And.intro (a := (_ : Bool) = true) rfl ?_
          | refine And.intro (a := (_ : Bool) = true ∧ (_ : Bool) = true) ⟨rfl, rfl⟩ ?_
          | refine And.intro (a := (_ : Bool) = true ∧ (_ : List _) = []) ⟨rfl, rfl⟩ ?_
          | refine And.intro (a := IR _ _) (And.intro (by omega) (by omega)) ?_
          | refine wrapE (And.intro (by omega) (by omega)) ?_
          | refine And.intro (a := (0 : Int) ≤ _ ∧ _ < _) (And.intro (by omega) (by omega)) ?_
          | refine And.intro (a := (_ : Bool) = true) (by simp only [Nat.beq_refl]; rfl) ?_
          | refine And.intro (a := ((_ : Bool) = true → 1 ≤ _) ∧ _ ≤ 9223372036854775807 ∧ _ ≤ 140737488355328) ⟨fun h => (by first | omega | cases h), by omega, by omega⟩ ?_
          | refine splT ?_
          | refine splF ?_
          | refine splNot ?_
          | (refine splIn (fun hc => ?_) (fun hc => ?_) <;> first | (exfalso; omega) | (exfalso; dsimp only at hc; omega) | skip)
          | (refine splD (fun hc => ?_) (fun hc => ?_) <;> first | (exfalso; omega) | (exfalso; dsimp only at hc; omega) | skip)
          | (refine splE (fun hc => ?_) (fun hc => ?_) <;> first | (exfalso; omega) | (exfalso; dsimp only at hc; omega) | skip)
          | (refine splNE (fun hc => ?_) (fun hc => ?_) <;> first | (exfalso; omega) | (exfalso; dsimp only at hc; omega) | skip)
          | ((with_reducible show CallEv _ _ 28 _ _ _ _ _); refine callF [] (fun y : YS ([] : List Int) => sV 0 y.1) (fun y => Rd 1 iF (sV 0 y.1) ([] : List Int)) (fun β w' _ hbw => (hCk w' (by first | exact hbw | exact hbw.1 | exact hbw.1.1 | exact hbw.1.1.1 | exact hbw.1.1.1.1 | exact hbw.1.1.1.1.1 | exact hbw.1.1.1.1.1.1 | exact hbw.1.1.1.1.1.1.1)).mono fun _ _ ⟨y, h1, h2, h3⟩ => ⟨y, h1, h2, h3.mono (by omega)⟩) ?_; intro y)
      all_goals exact ⟨(k + 1, _), ⟨by show a + ((k + 1 : Nat) : Int) ≤ _; omega, by show _ ≤ k + 1; simp; try omega, hL⟩, by show _ - (k + 1) < _ - k; omega, Ent.weak rfl ⟨rfl, rfl, rfl, rfl, rfl, rfl, by show _ = some (SV.v (iv (a + ((k + 1 : Nat) : Int)))); rw [hi]; rfl, trivial⟩ (by first | exact ⟨rfl, rfl, trivial⟩ | exact ⟨rfl, rfl, rfl, trivial⟩) fun _ h => h.1⟩
    | cons c0 C =>
      obtain ⟨cl, hcl⟩ : ∃ n, (c0 :: C)[C.length]? = some n := ⟨_, List.getElem?_eq_getElem (by simp)⟩
      have hcb := hbk cl (List.mem_of_getElem? hcl)
      have hpos : 0 < (c0 :: C).length := by simp
      have hLn : ∀ n ∈ L ++ [cl], 0 ≤ n ∧ n ≤ 7000 := fun n hn => by
        rcases List.mem_append.1 hn with h | h
        · exact hL n h
        · obtain rfl := List.mem_singleton.1 h
          exact hcb
      cases L <;> try simp only [List.length_cons] at hlk
      all_goals skip
      repeat'
        conv => whnf
        first
          | refine And.intro (a := drawB _ = true) (by kernel_rfl) ?_
          | refine And.intro (a := (_ : Bool) = true) rfl ?_
          | refine And.intro (a := (_ : Bool) = true ∧ (_ : Bool) = true) ⟨rfl, rfl⟩ ?_
          | refine And.intro (a := (_ : Bool) = true ∧ (_ : List _) = []) ⟨rfl, rfl⟩ ?_
          | refine And.intro (a := IR _ _) (And.intro (by omega) (by omega)) ?_
          | refine wrapE (And.intro (by omega) (by omega)) ?_
          | refine And.intro (a := (0 : Int) ≤ _ ∧ _ < _) (And.intro (by omega) (by omega)) ?_
          | refine And.intro (a := (_ : Bool) = true) (by simp only [Nat.beq_refl]; rfl) ?_
          | refine And.intro (a := ((_ : Bool) = true → 1 ≤ _) ∧ _ ≤ 9223372036854775807 ∧ _ ≤ 140737488355328) ⟨fun h => (by first | omega | cases h), by omega, by omega⟩ ?_
          | refine splT ?_
          | refine splF ?_
          | refine splNot ?_
          | (refine splIn (fun hc => ?_) (fun hc => ?_) <;> first | (exfalso; omega) | (exfalso; dsimp only at hc; omega) | skip)
          | (refine splD (fun hc => ?_) (fun hc => ?_) <;> first | (exfalso; omega) | (exfalso; dsimp only at hc; omega) | skip)
          | (refine splE (fun hc => ?_) (fun hc => ?_) <;> first | (exfalso; omega) | (exfalso; dsimp only at hc; omega) | skip)
          | (refine splNE (fun hc => ?_) (fun hc => ?_) <;> first | (exfalso; omega) | (exfalso; dsimp only at hc; omega) | skip)
          | ((with_reducible show CallEv _ _ 28 _ _ _ _ _); refine callF [] (fun y : YS (c0 :: C) => sV (c0 :: C).length y.1) (fun y => Rd 1 iF (sV (c0 :: C).length y.1) (c0 :: C)) (fun β w' _ hbw => (hCk w' (by first | exact hbw | exact hbw.1 | exact hbw.1.1 | exact hbw.1.1.1 | exact hbw.1.1.1.1 | exact hbw.1.1.1.1.1 | exact hbw.1.1.1.1.1.1 | exact hbw.1.1.1.1.1.1.1)).mono fun _ _ ⟨y, h1, h2, h3⟩ => ⟨y, h1, h2, h3.mono (by omega)⟩) ?_; intro y; obtain ⟨⟨vo, vc⟩, hv⟩ := y; obtain ⟨ad1, hvo⟩ := hv.resolve_left (by simp); dsimp only at hvo; subst hvo)
          | refine Exists.intro (α := List Value) [iv cl] ⟨⟨rfl, fun w' hw' => rd_atz hw'.2 hcl _ (by simp)⟩, ?_⟩
      all_goals skip
      · exact ⟨(k + 1, [cl]), ⟨by show a + ((k + 1 : Nat) : Int) ≤ _; omega, by show _ ≤ k + 1; simp, hLn⟩, by show _ - (k + 1) < _ - k; omega, Ent.ren (rho [(3, 6), (4, 7)]) rfl rfl ⟨rfl, rfl, rfl, rfl, rfl, rfl, by show _ = some (SV.v (iv (a + ((k + 1 : Nat) : Int)))); rw [hi]; rfl, trivial⟩ ⟨rfl, rfl, rfl, trivial⟩ fun _ h => h.1⟩
      · exact ⟨(k + 1, _ ++ [cl]), ⟨by show a + ((k + 1 : Nat) : Int) ≤ _; omega, by show _ ≤ k + 1; simp; omega, hLn⟩, by show _ - (k + 1) < _ - k; omega, Ent.ren (rho [(3, 6), (4, 7)]) rfl rfl ⟨rfl, rfl, rfl, rfl, by simp [oSV]; rfl, rfl, by show _ = some (SV.v (iv (a + ((k + 1 : Nat) : Int)))); rw [hi]; rfl, trivial⟩ ⟨rfl, rfl, by simp [oM]; rfl, trivial⟩ fun _ h => h.1⟩
  · clear hC hbd
    cases L with
    | nil =>
      repeat'
        conv => whnf
        first
          | refine And.intro (a := drawB _ = true) (by kernel_rfl) ?_
          | refine And.intro (a := (_ : Bool) = true) rfl ?_
          | refine And.intro (a := (_ : Bool) = true ∧ (_ : Bool) = true) ⟨rfl, rfl⟩ ?_
          | refine And.intro (a := (_ : Bool) = true ∧ (_ : List _) = []) ⟨rfl, rfl⟩ ?_
          | refine And.intro (a := IR _ _) (And.intro (by omega) (by omega)) ?_
          | refine wrapE (And.intro (by omega) (by omega)) ?_
          | refine And.intro (a := (0 : Int) ≤ _ ∧ _ < _) (And.intro (by omega) (by omega)) ?_
          | refine And.intro (a := (_ : Bool) = true) (by simp only [Nat.beq_refl]; rfl) ?_
          | refine And.intro (a := ((_ : Bool) = true → 1 ≤ _) ∧ _ ≤ 9223372036854775807 ∧ _ ≤ 140737488355328) ⟨fun h => (by first | omega | cases h), by omega, by omega⟩ ?_
          | refine splT ?_
          | refine splF ?_
          | refine splNot ?_
          | (refine splIn (fun hc => ?_) (fun hc => ?_) <;> first | (exfalso; omega) | (exfalso; dsimp only at hc; omega) | skip)
          | (refine splD (fun hc => ?_) (fun hc => ?_) <;> first | (exfalso; omega) | (exfalso; dsimp only at hc; omega) | skip)
          | (refine splE (fun hc => ?_) (fun hc => ?_) <;> first | (exfalso; omega) | (exfalso; dsimp only at hc; omega) | skip)
          | (refine splNE (fun hc => ?_) (fun hc => ?_) <;> first | (exfalso; omega) | (exfalso; dsimp only at hc; omega) | skip)
      all_goals exact ⟨rfl, (0, []), ⟨fun _ => rfl, by simp, hn0⟩, Ent.weak rfl ⟨rfl, rfl, rfl, by rw [hRv]; rfl, trivial⟩ ⟨rfl, rfl, trivial⟩ fun _ h => h⟩
    | cons a1 L1 =>
      simp only [List.length_cons] at hlk
      have hm0 : 0 ≤ at' % ((L1.length + 1 : Nat) : Int) := Int.emod_nonneg _ (by omega)
      have hm1 : at' % ((L1.length + 1 : Nat) : Int) < ((L1.length + 1 : Nat) : Int) := Int.emod_lt_of_pos _ (by omega)
      obtain ⟨i, hi2⟩ : ∃ i : Nat, at' % ((L1.length + 1 : Nat) : Int) = i := ⟨(at' % ((L1.length + 1 : Nat) : Int)).toNat, by omega⟩
      have hil : i < (a1 :: L1).length := by simp only [List.length_cons]; omega
      obtain ⟨n, hnn⟩ : ∃ n, (a1 :: L1)[i]? = some n := ⟨_, List.getElem?_eq_getElem hil⟩
      have hnb := hL n (List.mem_of_getElem? hnn)
      have hatt : ∀ j v, [iv n][j]? = some v → ((a1 :: L1).flatMap iF)[(i : Int).toNat * 1 + j]? = some v := fun j v h => by
        match j, h with
        | 0, h => cases h; rw [Int.toNat_natCast, Nat.mul_one, Nat.add_zero]; exact atF hnn
      have hsm : (i : Int).toNat * 1 + [iv (n + by')].length ≤ ((a1 :: L1).flatMap iF).length := by
        rw [lenF, Int.toNat_natCast, Nat.mul_one]; exact hil
      by_cases hby : -500 ≤ by' ∧ by' ≤ 500
      · skip
        repeat'
          conv => whnf
          first
            | refine And.intro (a := drawB _ = true) (by kernel_rfl) ?_
            | refine And.intro (a := (_ : Bool) = true) rfl ?_
            | refine And.intro (a := (_ : Bool) = true ∧ (_ : Bool) = true) ⟨rfl, rfl⟩ ?_
            | refine And.intro (a := (_ : Bool) = true ∧ (_ : List _) = []) ⟨rfl, rfl⟩ ?_
            | refine And.intro (a := IR _ _) (And.intro (by omega) (by omega)) ?_
            | refine wrapE (And.intro (by omega) (by omega)) ?_
            | refine And.intro (a := (0 : Int) ≤ _ ∧ _ < _) (And.intro (by omega) (by omega)) ?_
            | refine And.intro (a := (_ : Bool) = true) (by simp only [Nat.beq_refl]; rfl) ?_
            | refine And.intro (a := ((_ : Bool) = true → 1 ≤ _) ∧ _ ≤ 9223372036854775807 ∧ _ ≤ 140737488355328) ⟨fun h => (by first | omega | cases h), by omega, by omega⟩ ?_
            | refine splT ?_
            | refine splF ?_
            | refine splNot ?_
            | (refine splIn (fun hc => ?_) (fun hc => ?_) <;> first | (exfalso; omega) | (exfalso; dsimp only at hc; omega) | skip)
            | (refine splD (fun hc => ?_) (fun hc => ?_) <;> first | (exfalso; omega) | (exfalso; dsimp only at hc; omega) | skip)
            | (refine splE (fun hc => ?_) (fun hc => ?_) <;> first | (exfalso; omega) | (exfalso; dsimp only at hc; omega) | skip)
            | (refine splNE (fun hc => ?_) (fun hc => ?_) <;> first | (exfalso; omega) | (exfalso; dsimp only at hc; omega) | skip)
            | ((with_reducible show CallEv _ _ 19 _ _ _ _ _); refine callE (k := 19) (fun β w' hbw => In_ok _ _ _ _) ?_)
            | refine Exists.intro (α := Value) (iv at') ⟨cv8 at' hat, ?_⟩
            | (refine remE (by omega) (by omega) ?_; rw [hi2])
            | refine Exists.intro (α := List Value) [iv n] ⟨⟨rfl, hatt⟩, ?_⟩
            | refine And.intro (a := _ + _ ≤ List.length _) hsm ?_
        all_goals exact ⟨rfl, (2, (a1 :: L1).set i (n + by')), ⟨fun h => absurd h (by show ¬ 2 < 2; omega), by show ((a1 :: L1).set i (n + by')).length ≤ _; rw [List.length_set, List.length_cons]; omega, fun x hx => by
          rcases List.mem_or_eq_of_mem_set hx with h | h
          · exact hL' x h
          · omega⟩, Ent.weak rfl ⟨rfl, rfl, by rw [show s13 ((a1 :: L1).set i (n + by')) 2 = .os 3 4 (L1.length + 1) from by simp [s13]]; rfl, by rw [hRv]; rfl, trivial⟩ ⟨rfl, rfl, congrArg some (show Blk.own 4 (L1.length + 1) 1 (((a1 :: L1).flatMap iF).take ((i : Int).toNat * 1) ++ [iv (n + by')] ++ ((a1 :: L1).flatMap iF).drop ((i : Int).toNat * 1 + 1)) 3 = Blk.own 4 ((a1 :: L1).set i (n + by')).length 1 (((a1 :: L1).set i (n + by')).flatMap iF) 3 from by rw [← setF hil, Int.toNat_natCast, Nat.mul_one, List.length_set, List.length_cons, List.append_assoc]), trivial⟩ fun _ h => h⟩
      · skip
        repeat'
          conv => whnf
          first
            | refine And.intro (a := drawB _ = true) (by kernel_rfl) ?_
            | refine And.intro (a := (_ : Bool) = true) rfl ?_
            | refine And.intro (a := (_ : Bool) = true ∧ (_ : Bool) = true) ⟨rfl, rfl⟩ ?_
            | refine And.intro (a := (_ : Bool) = true ∧ (_ : List _) = []) ⟨rfl, rfl⟩ ?_
            | refine And.intro (a := IR _ _) (And.intro (by omega) (by omega)) ?_
            | refine wrapE (And.intro (by omega) (by omega)) ?_
            | refine And.intro (a := (0 : Int) ≤ _ ∧ _ < _) (And.intro (by omega) (by omega)) ?_
            | refine And.intro (a := (_ : Bool) = true) (by simp only [Nat.beq_refl]; rfl) ?_
            | refine And.intro (a := ((_ : Bool) = true → 1 ≤ _) ∧ _ ≤ 9223372036854775807 ∧ _ ≤ 140737488355328) ⟨fun h => (by first | omega | cases h), by omega, by omega⟩ ?_
            | refine splT ?_
            | refine splF ?_
            | refine splNot ?_
            | (refine splIn (fun hc => ?_) (fun hc => ?_) <;> first | (exfalso; omega) | (exfalso; dsimp only at hc; omega) | skip)
            | (refine splD (fun hc => ?_) (fun hc => ?_) <;> first | (exfalso; omega) | (exfalso; dsimp only at hc; omega) | skip)
            | (refine splE (fun hc => ?_) (fun hc => ?_) <;> first | (exfalso; omega) | (exfalso; dsimp only at hc; omega) | skip)
            | (refine splNE (fun hc => ?_) (fun hc => ?_) <;> first | (exfalso; omega) | (exfalso; dsimp only at hc; omega) | skip)
            | ((with_reducible show CallEv _ _ 19 _ _ _ _ _); refine callE (k := 19) (fun β w' hbw => In_ok _ _ _ _) ?_)
        all_goals exact ⟨rfl, (2, a1 :: L1), ⟨fun h => absurd h (by show ¬ 2 < 2; omega), by show (a1 :: L1).length ≤ _; rw [List.length_cons]; omega, hL'⟩, Ent.weak rfl ⟨rfl, rfl, rfl, by rw [hRv]; rfl, trivial⟩ ⟨rfl, rfl, rfl, trivial⟩ fun _ h => h⟩

set_option maxRecDepth 100000 in
theorem FlightProves_ok (g : Fg) (bs : List Bx) (a b : Int) (yo : Option Addr) (yc : Nat) (L0 : List Int) (ow : Bool) (at' by' : Int) (w : World) (hrd : Rd 4 Bx.cs (.slice g.o g.n g.c) bs w) (hL0 : Rd 1 iF (.slice yo L0.length yc) L0 w)
    (hr0 : ∀ n ∈ L0, -9223372036854775808 ≤ n ∧ n ≤ 9223372036854775807) (hat : 0 ≤ at' ∧ at' ≤ 255) :
    Calls Try.prog 12 #[g.v, .agg #[iv a, iv b], .slice yo L0.length yc, .bool ow, .int .u8 at', iv by'] w fun e w' => e = .returned (.bool true) ∧ Below w.heap.size w w' := by
  have hn : g.n = bs.length := hrd.len
  refine calls_valV env mixed Try.func12 has12 Try.ntmps12 [g.v, .agg #[iv a, iv b], .slice yo L0.length yc, .bool ow, .int .u8 at', iv by'] (by simp) ?_
  by_cases hfew : (g.n : Int) ≤ 700
  case neg =>
    refine VC.of env mixed ?_
    repeat'
      conv => whnf
      first
        | refine And.intro (a := drawB _ = true) (by kernel_rfl) ?_
        | refine And.intro (a := (_ : Bool) = true) rfl ?_
        | refine And.intro (a := (_ : Bool) = true ∧ (_ : Bool) = true) ⟨rfl, rfl⟩ ?_
        | refine And.intro (a := (_ : Bool) = true ∧ (_ : List _) = []) ⟨rfl, rfl⟩ ?_
        | refine And.intro (a := IR _ _) (And.intro (by omega) (by omega)) ?_
        | refine wrapE (And.intro (by omega) (by omega)) ?_
        | refine And.intro (a := (0 : Int) ≤ _ ∧ _ < _) (And.intro (by omega) (by omega)) ?_
        | refine And.intro (a := (_ : Bool) = true) (by simp only [Nat.beq_refl]; rfl) ?_
        | refine And.intro (a := ((_ : Bool) = true → 1 ≤ _) ∧ _ ≤ 9223372036854775807 ∧ _ ≤ 140737488355328) ⟨fun h => (by first | omega | cases h), by omega, by omega⟩ ?_
        | refine splT ?_
        | refine splF ?_
        | refine splNot ?_
        | (refine splIn (fun hc => ?_) (fun hc => ?_) <;> first | (exfalso; omega) | (exfalso; dsimp only at hc; omega) | skip)
        | (refine splD (fun hc => ?_) (fun hc => ?_) <;> first | (exfalso; omega) | (exfalso; dsimp only at hc; omega) | skip)
        | (refine splE (fun hc => ?_) (fun hc => ?_) <;> first | (exfalso; omega) | (exfalso; dsimp only at hc; omega) | skip)
        | (refine splNE (fun hc => ?_) (fun hc => ?_) <;> first | (exfalso; omega) | (exfalso; dsimp only at hc; omega) | skip)
        | ((with_reducible show CallEv _ _ 23 _ _ _ _ _); refine callE (k := 23) (fun β w' hbw => few_ok g _) ?_)
        | ((with_reducible show CallEv _ _ 20 _ _ _ _ _); refine callE (k := 20) (fun β w' hbw => wakes_ok _) ?_)
    exact ⟨fun β => rfl, fun w' h => h⟩
  have hl : bs.length ≤ 1000000 := by omega
  by_cases hlen : (L0.length : Int) ≤ 400
  case neg =>
    refine VC.of env mixed ?_
    repeat'
      conv => whnf
      first
        | refine And.intro (a := drawB _ = true) (by kernel_rfl) ?_
        | refine And.intro (a := (_ : Bool) = true) rfl ?_
        | refine And.intro (a := (_ : Bool) = true ∧ (_ : Bool) = true) ⟨rfl, rfl⟩ ?_
        | refine And.intro (a := (_ : Bool) = true ∧ (_ : List _) = []) ⟨rfl, rfl⟩ ?_
        | refine And.intro (a := IR _ _) (And.intro (by omega) (by omega)) ?_
        | refine wrapE (And.intro (by omega) (by omega)) ?_
        | refine And.intro (a := (0 : Int) ≤ _ ∧ _ < _) (And.intro (by omega) (by omega)) ?_
        | refine And.intro (a := (_ : Bool) = true) (by simp only [Nat.beq_refl]; rfl) ?_
        | refine And.intro (a := ((_ : Bool) = true → 1 ≤ _) ∧ _ ≤ 9223372036854775807 ∧ _ ≤ 140737488355328) ⟨fun h => (by first | omega | cases h), by omega, by omega⟩ ?_
        | refine splT ?_
        | refine splF ?_
        | refine splNot ?_
        | (refine splIn (fun hc => ?_) (fun hc => ?_) <;> first | (exfalso; omega) | (exfalso; dsimp only at hc; omega) | skip)
        | (refine splD (fun hc => ?_) (fun hc => ?_) <;> first | (exfalso; omega) | (exfalso; dsimp only at hc; omega) | skip)
        | (refine splE (fun hc => ?_) (fun hc => ?_) <;> first | (exfalso; omega) | (exfalso; dsimp only at hc; omega) | skip)
        | (refine splNE (fun hc => ?_) (fun hc => ?_) <;> first | (exfalso; omega) | (exfalso; dsimp only at hc; omega) | skip)
        | ((with_reducible show CallEv _ _ 23 _ _ _ _ _); refine callE (k := 23) (fun β w' hbw => few_ok g _) ?_)
        | ((with_reducible show CallEv _ _ 20 _ _ _ _ _); refine callE (k := 20) (fun β w' hbw => wakes_ok _) ?_)
    exact ⟨fun β => rfl, fun w' h => h⟩
  have hRt : ∀ w', Below w.heap.size w w' → Calls Try.prog 26 #[g.v] w' fun e w'' => e = .returned (.bool (g.ok bs)) ∧ Below w'.heap.size w' w'' := fun w' hb => Right_ok g bs w' (hrd.below hb) hl
  have hfin : ∀ x : Nat × List Int, (x.1 < 2 → x.2 = []) ∧ x.2.length ≤ 1000000 ∧ (∀ n ∈ x.2, -9223372036854775808 ≤ n ∧ n ≤ 9223372036854775807) → VC Try.prog (rest 5 body12) ⟨152, [(6, .ptr 0 0), (7, .ptr 1 0), (13, s13 x.2 x.1), (14, .v (.bool (R12 g bs a b)))], (0, .cells (gss' g) 41) :: (1, .cells [.v (iv a), .v (iv b)] 94) :: b13 x.2 x.1, 5, Below w.heap.size w, z0⟩ (endΦ env Try.f12 fun s σ => (∀ β, s.c β = .bool true) ∧ ∀ w', σ.h w' → Below w.heap.size w w') := by
    rintro ⟨e, L⟩ ⟨h0, h1, h2⟩
    rcases e with _ | _ | e
    · obtain rfl : L = [] := h0 (by show _ < 2; omega)
      exact finN g bs a b w hrd hl [] rfl h1 (finNB g bs a b w hrd hl h1 h2)
    · obtain rfl : L = [] := h0 (by show _ < 2; omega)
      exact finE g bs a b w hrd hl [] rfl h1 (finEB g bs a b w hrd hl h1 h2)
    · exact finO g bs a b w hrd hl L h1 (finOB g bs a b L w hrd hl h1 h2)
  have hn0 : ∀ n ∈ ([] : List Int), -9223372036854775808 ≤ n ∧ n ≤ 9223372036854775807 := fun n h => (by cases h)
  have one : ∀ (L : List Int) (v : Value), v ∈ L.flatMap iF → v.oneCell' = true := one1
  -- the first part
  by_cases hR : R12 g bs a b = true ∧ ow = true ∧ b - a ≤ 100
  case neg =>
    refine VC.cutE env mixed 5 5 (fun x : Nat × List Int => [(6, .ptr 0 0), (7, .ptr 1 0), (13, s13 x.2 x.1), (14, .v (.bool (R12 g bs a b)))]) (fun x => (0, .cells (gss' g) 41) :: (1, .cells [.v (iv a), .v (iv b)] 94) :: b13 x.2 x.1)
      (fun x => (x.1 < 2 → x.2 = []) ∧ x.2.length ≤ 1000000 ∧ ∀ n ∈ x.2, -9223372036854775808 ≤ n ∧ n ≤ 9223372036854775807) (fun x _ => by obtain ⟨e, L⟩ := x; rcases e with _ | _ | e <;> exact ⟨rfl, rfl⟩) ?_ hfin
    have key : ∀ R1 : Bool, R12 g bs a b = R1 → (g.ok bs = false ∧ R1 = false) ∨ (g.ok bs = true ∧ ¬ (0 ≤ a ∧ a ≤ 6000) ∧ R1 = false) ∨ (g.ok bs = true ∧ (0 ≤ a ∧ a ≤ 6000) ∧ R1 = Sx.inB b a 6000) := fun R1 h => by
      unfold R12 at h
      cases hg : g.ok bs
      · rw [hg] at h
        exact .inl ⟨rfl, by rw [← h]; rfl⟩
      · rw [hg, Bool.true_and] at h
        by_cases ha : 0 ≤ a ∧ a ≤ 6000
        · rw [Sx.inB_iff.2 ha, Bool.true_and] at h
          exact .inr (.inr ⟨rfl, ha, h.symm⟩)
        · refine .inr (.inl ⟨rfl, ha, ?_⟩)
          rw [← h]
          cases h2 : Sx.inB a 0 6000
          · rfl
          · exact absurd (Sx.inB_iff.1 h2) ha
    rcases key _ rfl with ⟨hg, hRv⟩ | ⟨hg, ha, hRv⟩ | ⟨hg, ha, hRv⟩
    · rw [hg] at hRt
      rcases hL0 with ⟨h0, hnil⟩ | ⟨ad, c, h0, hc⟩
      · subst hnil
        simp only [Value.slice.injEq] at h0
        obtain ⟨rfl, _, rfl⟩ := h0
        cases ow
        all_goals skip
        repeat'
          conv => whnf
          first
            | refine And.intro (a := drawB _ = true) (by kernel_rfl) ?_
            | refine And.intro (a := (_ : Bool) = true) rfl ?_
            | refine And.intro (a := (_ : Bool) = true ∧ (_ : Bool) = true) ⟨rfl, rfl⟩ ?_
            | refine And.intro (a := (_ : Bool) = true ∧ (_ : List _) = []) ⟨rfl, rfl⟩ ?_
            | refine And.intro (a := IR _ _) (And.intro (by omega) (by omega)) ?_
            | refine wrapE (And.intro (by omega) (by omega)) ?_
            | refine And.intro (a := (0 : Int) ≤ _ ∧ _ < _) (And.intro (by omega) (by omega)) ?_
            | refine And.intro (a := (_ : Bool) = true) (by simp only [Nat.beq_refl]; rfl) ?_
            | refine And.intro (a := ((_ : Bool) = true → 1 ≤ _) ∧ _ ≤ 9223372036854775807 ∧ _ ≤ 140737488355328) ⟨fun h => (by first | omega | cases h), by omega, by omega⟩ ?_
            | refine splT ?_
            | refine splF ?_
            | refine splNot ?_
            | (refine splIn (fun hc => ?_) (fun hc => ?_) <;> first | (exfalso; omega) | (exfalso; dsimp only at hc; omega) | skip)
            | (refine splD (fun hc => ?_) (fun hc => ?_) <;> first | (exfalso; omega) | (exfalso; dsimp only at hc; omega) | skip)
            | (refine splE (fun hc => ?_) (fun hc => ?_) <;> first | (exfalso; omega) | (exfalso; dsimp only at hc; omega) | skip)
            | (refine splNE (fun hc => ?_) (fun hc => ?_) <;> first | (exfalso; omega) | (exfalso; dsimp only at hc; omega) | skip)
            | ((with_reducible show CallEv _ _ 23 _ _ _ _ _); refine callE (k := 23) (fun β w' hbw => few_ok g _) ?_)
            | ((with_reducible show CallEv _ _ 20 _ _ _ _ _); refine callE (k := 20) (fun β w' hbw => wakes_ok _) ?_)
            | ((with_reducible show CallEv _ _ 26 _ _ _ _ _); refine callE (k := 26) (fun β w' hbw => hRt _ (by first | exact hbw | exact hbw.1 | exact hbw.1.1 | exact hbw.1.1.1 | exact hbw.1.1.1.1 | exact hbw.1.1.1.1.1 | exact hbw.1.1.1.1.1.1 | exact hbw.1.1.1.1.1.1.1)) ?_)
            | ((with_reducible show CallEv _ _ 19 _ _ _ _ _); refine callE (k := 19) (fun β w' hbw => In_ok _ _ _ _) ?_)
        all_goals first | exact ⟨rfl, (1, []), ⟨fun _ => rfl, by simp, hn0⟩, Ent.weak rfl ⟨rfl, rfl, rfl, by rw [hRv]; rfl, trivial⟩ ⟨rfl, rfl, rfl, trivial⟩ fun _ h => h⟩ | (exfalso; simp_all; omega) | skip
      · have hx := fun w' hb => Rd.ext (f := iF) (sz := 1) (fun _ => rfl) (Rd.below (w' := w') (show Rd 1 iF (.slice (some ad) L0.length c) L0 w from .inr ⟨ad, c, rfl, hc⟩) hb)
        simp only [Value.slice.injEq] at h0
        obtain ⟨rfl, _, rfl⟩ := h0
        cases ow
        all_goals skip
        repeat'
          conv => whnf
          first
            | refine And.intro (a := drawB _ = true) (by kernel_rfl) ?_
            | refine And.intro (a := (_ : Bool) = true) rfl ?_
            | refine And.intro (a := (_ : Bool) = true ∧ (_ : Bool) = true) ⟨rfl, rfl⟩ ?_
            | refine And.intro (a := (_ : Bool) = true ∧ (_ : List _) = []) ⟨rfl, rfl⟩ ?_
            | refine And.intro (a := IR _ _) (And.intro (by omega) (by omega)) ?_
            | refine wrapE (And.intro (by omega) (by omega)) ?_
            | refine And.intro (a := (0 : Int) ≤ _ ∧ _ < _) (And.intro (by omega) (by omega)) ?_
            | refine And.intro (a := (_ : Bool) = true) (by simp only [Nat.beq_refl]; rfl) ?_
            | refine And.intro (a := ((_ : Bool) = true → 1 ≤ _) ∧ _ ≤ 9223372036854775807 ∧ _ ≤ 140737488355328) ⟨fun h => (by first | omega | cases h), by omega, by omega⟩ ?_
            | refine splT ?_
            | refine splF ?_
            | refine splNot ?_
            | (refine splIn (fun hc => ?_) (fun hc => ?_) <;> first | (exfalso; omega) | (exfalso; dsimp only at hc; omega) | skip)
            | (refine splD (fun hc => ?_) (fun hc => ?_) <;> first | (exfalso; omega) | (exfalso; dsimp only at hc; omega) | skip)
            | (refine splE (fun hc => ?_) (fun hc => ?_) <;> first | (exfalso; omega) | (exfalso; dsimp only at hc; omega) | skip)
            | (refine splNE (fun hc => ?_) (fun hc => ?_) <;> first | (exfalso; omega) | (exfalso; dsimp only at hc; omega) | skip)
            | ((with_reducible show CallEv _ _ 23 _ _ _ _ _); refine callE (k := 23) (fun β w' hbw => few_ok g _) ?_)
            | ((with_reducible show CallEv _ _ 20 _ _ _ _ _); refine callE (k := 20) (fun β w' hbw => wakes_ok _) ?_)
            | ((with_reducible show CallEv _ _ 26 _ _ _ _ _); refine callE (k := 26) (fun β w' hbw => hRt _ (by first | exact hbw | exact hbw.1 | exact hbw.1.1 | exact hbw.1.1.1 | exact hbw.1.1.1.1 | exact hbw.1.1.1.1.1 | exact hbw.1.1.1.1.1.1 | exact hbw.1.1.1.1.1.1.1)) ?_)
            | ((with_reducible show CallEv _ _ 19 _ _ _ _ _); refine callE (k := 19) (fun β w' hbw => In_ok _ _ _ _) ?_)
            | refine Exists.intro (α := List Value) (L0.flatMap iF) ⟨⟨by rw [lenF]; simp, fun w' hb j v hv => hx w' hb j v hv, one L0⟩, ?_⟩
        all_goals first | exact ⟨rfl, (2, L0), ⟨fun h => absurd h (by show ¬ 2 < 2; omega), by show L0.length ≤ _; omega, hr0⟩, Ent.weak rfl ⟨rfl, rfl, by rw [show s13 L0 2 = .os 3 4 (0 + L0.length) from by simp [s13]]; rfl, by rw [hRv]; rfl, trivial⟩ ⟨rfl, rfl, congrArg some (show Blk.own 4 (0 + L0.length) 1 ([] ++ L0.flatMap iF) 3 = Blk.own 4 L0.length 1 (L0.flatMap iF) 3 from by simp), trivial⟩ fun _ h => h⟩ | (exfalso; simp_all; omega) | skip
    · rw [hg] at hRt
      rcases hL0 with ⟨h0, hnil⟩ | ⟨ad, c, h0, hc⟩
      · subst hnil
        simp only [Value.slice.injEq] at h0
        obtain ⟨rfl, _, rfl⟩ := h0
        cases ow
        all_goals skip
        repeat'
          conv => whnf
          first
            | refine And.intro (a := drawB _ = true) (by kernel_rfl) ?_
            | refine And.intro (a := (_ : Bool) = true) rfl ?_
            | refine And.intro (a := (_ : Bool) = true ∧ (_ : Bool) = true) ⟨rfl, rfl⟩ ?_
            | refine And.intro (a := (_ : Bool) = true ∧ (_ : List _) = []) ⟨rfl, rfl⟩ ?_
            | refine And.intro (a := IR _ _) (And.intro (by omega) (by omega)) ?_
            | refine wrapE (And.intro (by omega) (by omega)) ?_
            | refine And.intro (a := (0 : Int) ≤ _ ∧ _ < _) (And.intro (by omega) (by omega)) ?_
            | refine And.intro (a := (_ : Bool) = true) (by simp only [Nat.beq_refl]; rfl) ?_
            | refine And.intro (a := ((_ : Bool) = true → 1 ≤ _) ∧ _ ≤ 9223372036854775807 ∧ _ ≤ 140737488355328) ⟨fun h => (by first | omega | cases h), by omega, by omega⟩ ?_
            | refine splT ?_
            | refine splF ?_
            | refine splNot ?_
            | (refine splIn (fun hc => ?_) (fun hc => ?_) <;> first | (exfalso; omega) | (exfalso; dsimp only at hc; omega) | skip)
            | (refine splD (fun hc => ?_) (fun hc => ?_) <;> first | (exfalso; omega) | (exfalso; dsimp only at hc; omega) | skip)
            | (refine splE (fun hc => ?_) (fun hc => ?_) <;> first | (exfalso; omega) | (exfalso; dsimp only at hc; omega) | skip)
            | (refine splNE (fun hc => ?_) (fun hc => ?_) <;> first | (exfalso; omega) | (exfalso; dsimp only at hc; omega) | skip)
            | ((with_reducible show CallEv _ _ 23 _ _ _ _ _); refine callE (k := 23) (fun β w' hbw => few_ok g _) ?_)
            | ((with_reducible show CallEv _ _ 20 _ _ _ _ _); refine callE (k := 20) (fun β w' hbw => wakes_ok _) ?_)
            | ((with_reducible show CallEv _ _ 26 _ _ _ _ _); refine callE (k := 26) (fun β w' hbw => hRt _ (by first | exact hbw | exact hbw.1 | exact hbw.1.1 | exact hbw.1.1.1 | exact hbw.1.1.1.1 | exact hbw.1.1.1.1.1 | exact hbw.1.1.1.1.1.1 | exact hbw.1.1.1.1.1.1.1)) ?_)
            | ((with_reducible show CallEv _ _ 19 _ _ _ _ _); refine callE (k := 19) (fun β w' hbw => In_ok _ _ _ _) ?_)
        all_goals first | exact ⟨rfl, (1, []), ⟨fun _ => rfl, by simp, hn0⟩, Ent.weak rfl ⟨rfl, rfl, rfl, by rw [hRv]; rfl, trivial⟩ ⟨rfl, rfl, rfl, trivial⟩ fun _ h => h⟩ | (exfalso; simp_all; omega) | skip
      · have hx := fun w' hb => Rd.ext (f := iF) (sz := 1) (fun _ => rfl) (Rd.below (w' := w') (show Rd 1 iF (.slice (some ad) L0.length c) L0 w from .inr ⟨ad, c, rfl, hc⟩) hb)
        simp only [Value.slice.injEq] at h0
        obtain ⟨rfl, _, rfl⟩ := h0
        cases ow
        all_goals skip
        repeat'
          conv => whnf
          first
            | refine And.intro (a := drawB _ = true) (by kernel_rfl) ?_
            | refine And.intro (a := (_ : Bool) = true) rfl ?_
            | refine And.intro (a := (_ : Bool) = true ∧ (_ : Bool) = true) ⟨rfl, rfl⟩ ?_
            | refine And.intro (a := (_ : Bool) = true ∧ (_ : List _) = []) ⟨rfl, rfl⟩ ?_
            | refine And.intro (a := IR _ _) (And.intro (by omega) (by omega)) ?_
            | refine wrapE (And.intro (by omega) (by omega)) ?_
            | refine And.intro (a := (0 : Int) ≤ _ ∧ _ < _) (And.intro (by omega) (by omega)) ?_
            | refine And.intro (a := (_ : Bool) = true) (by simp only [Nat.beq_refl]; rfl) ?_
            | refine And.intro (a := ((_ : Bool) = true → 1 ≤ _) ∧ _ ≤ 9223372036854775807 ∧ _ ≤ 140737488355328) ⟨fun h => (by first | omega | cases h), by omega, by omega⟩ ?_
            | refine splT ?_
            | refine splF ?_
            | refine splNot ?_
            | (refine splIn (fun hc => ?_) (fun hc => ?_) <;> first | (exfalso; omega) | (exfalso; dsimp only at hc; omega) | skip)
            | (refine splD (fun hc => ?_) (fun hc => ?_) <;> first | (exfalso; omega) | (exfalso; dsimp only at hc; omega) | skip)
            | (refine splE (fun hc => ?_) (fun hc => ?_) <;> first | (exfalso; omega) | (exfalso; dsimp only at hc; omega) | skip)
            | (refine splNE (fun hc => ?_) (fun hc => ?_) <;> first | (exfalso; omega) | (exfalso; dsimp only at hc; omega) | skip)
            | ((with_reducible show CallEv _ _ 23 _ _ _ _ _); refine callE (k := 23) (fun β w' hbw => few_ok g _) ?_)
            | ((with_reducible show CallEv _ _ 20 _ _ _ _ _); refine callE (k := 20) (fun β w' hbw => wakes_ok _) ?_)
            | ((with_reducible show CallEv _ _ 26 _ _ _ _ _); refine callE (k := 26) (fun β w' hbw => hRt _ (by first | exact hbw | exact hbw.1 | exact hbw.1.1 | exact hbw.1.1.1 | exact hbw.1.1.1.1 | exact hbw.1.1.1.1.1 | exact hbw.1.1.1.1.1.1 | exact hbw.1.1.1.1.1.1.1)) ?_)
            | ((with_reducible show CallEv _ _ 19 _ _ _ _ _); refine callE (k := 19) (fun β w' hbw => In_ok _ _ _ _) ?_)
            | refine Exists.intro (α := List Value) (L0.flatMap iF) ⟨⟨by rw [lenF]; simp, fun w' hb j v hv => hx w' hb j v hv, one L0⟩, ?_⟩
        all_goals first | exact ⟨rfl, (2, L0), ⟨fun h => absurd h (by show ¬ 2 < 2; omega), by show L0.length ≤ _; omega, hr0⟩, Ent.weak rfl ⟨rfl, rfl, by rw [show s13 L0 2 = .os 3 4 (0 + L0.length) from by simp [s13]]; rfl, by rw [hRv]; rfl, trivial⟩ ⟨rfl, rfl, congrArg some (show Blk.own 4 (0 + L0.length) 1 ([] ++ L0.flatMap iF) 3 = Blk.own 4 L0.length 1 (L0.flatMap iF) 3 from by simp), trivial⟩ fun _ h => h⟩ | (exfalso; simp_all; omega) | skip
    · have h3 : ow = true → ¬ ((a ≤ b ∧ b ≤ 6000) ∧ b - a ≤ 100) := fun h hh => hR ⟨by rw [hRv]; exact Sx.inB_iff.2 hh.1, h, hh.2⟩
      rw [hg] at hRt
      rcases hL0 with ⟨h0, hnil⟩ | ⟨ad, c, h0, hc⟩
      · subst hnil
        simp only [Value.slice.injEq] at h0
        obtain ⟨rfl, _, rfl⟩ := h0
        cases ow
        all_goals try have h3 := h3 rfl
        repeat'
          conv => whnf
          first
            | refine And.intro (a := drawB _ = true) (by kernel_rfl) ?_
            | refine And.intro (a := (_ : Bool) = true) rfl ?_
            | refine And.intro (a := (_ : Bool) = true ∧ (_ : Bool) = true) ⟨rfl, rfl⟩ ?_
            | refine And.intro (a := (_ : Bool) = true ∧ (_ : List _) = []) ⟨rfl, rfl⟩ ?_
            | refine And.intro (a := IR _ _) (And.intro (by omega) (by omega)) ?_
            | refine wrapE (And.intro (by omega) (by omega)) ?_
            | refine And.intro (a := (0 : Int) ≤ _ ∧ _ < _) (And.intro (by omega) (by omega)) ?_
            | refine And.intro (a := (_ : Bool) = true) (by simp only [Nat.beq_refl]; rfl) ?_
            | refine And.intro (a := ((_ : Bool) = true → 1 ≤ _) ∧ _ ≤ 9223372036854775807 ∧ _ ≤ 140737488355328) ⟨fun h => (by first | omega | cases h), by omega, by omega⟩ ?_
            | refine splT ?_
            | refine splF ?_
            | refine splNot ?_
            | (refine splIn (fun hc => ?_) (fun hc => ?_) <;> first | (exfalso; omega) | (exfalso; dsimp only at hc; omega) | skip)
            | (refine splD (fun hc => ?_) (fun hc => ?_) <;> first | (exfalso; omega) | (exfalso; dsimp only at hc; omega) | skip)
            | (refine splE (fun hc => ?_) (fun hc => ?_) <;> first | (exfalso; omega) | (exfalso; dsimp only at hc; omega) | skip)
            | (refine splNE (fun hc => ?_) (fun hc => ?_) <;> first | (exfalso; omega) | (exfalso; dsimp only at hc; omega) | skip)
            | ((with_reducible show CallEv _ _ 23 _ _ _ _ _); refine callE (k := 23) (fun β w' hbw => few_ok g _) ?_)
            | ((with_reducible show CallEv _ _ 20 _ _ _ _ _); refine callE (k := 20) (fun β w' hbw => wakes_ok _) ?_)
            | ((with_reducible show CallEv _ _ 26 _ _ _ _ _); refine callE (k := 26) (fun β w' hbw => hRt _ (by first | exact hbw | exact hbw.1 | exact hbw.1.1 | exact hbw.1.1.1 | exact hbw.1.1.1.1 | exact hbw.1.1.1.1.1 | exact hbw.1.1.1.1.1.1 | exact hbw.1.1.1.1.1.1.1)) ?_)
            | ((with_reducible show CallEv _ _ 19 _ _ _ _ _); refine callE (k := 19) (fun β w' hbw => In_ok _ _ _ _) ?_)
        all_goals first | exact ⟨rfl, (1, []), ⟨fun _ => rfl, by simp, hn0⟩, Ent.weak rfl ⟨rfl, rfl, rfl, by rw [hRv]; rfl, trivial⟩ ⟨rfl, rfl, rfl, trivial⟩ fun _ h => h⟩ | (exfalso; simp_all; omega) | skip
      · have hx := fun w' hb => Rd.ext (f := iF) (sz := 1) (fun _ => rfl) (Rd.below (w' := w') (show Rd 1 iF (.slice (some ad) L0.length c) L0 w from .inr ⟨ad, c, rfl, hc⟩) hb)
        simp only [Value.slice.injEq] at h0
        obtain ⟨rfl, _, rfl⟩ := h0
        cases ow
        all_goals try have h3 := h3 rfl
        repeat'
          conv => whnf
          first
            | refine And.intro (a := drawB _ = true) (by kernel_rfl) ?_
            | refine And.intro (a := (_ : Bool) = true) rfl ?_
            | refine And.intro (a := (_ : Bool) = true ∧ (_ : Bool) = true) ⟨rfl, rfl⟩ ?_
            | refine And.intro (a := (_ : Bool) = true ∧ (_ : List _) = []) ⟨rfl, rfl⟩ ?_
            | refine And.intro (a := IR _ _) (And.intro (by omega) (by omega)) ?_
            | refine wrapE (And.intro (by omega) (by omega)) ?_
            | refine And.intro (a := (0 : Int) ≤ _ ∧ _ < _) (And.intro (by omega) (by omega)) ?_
            | refine And.intro (a := (_ : Bool) = true) (by simp only [Nat.beq_refl]; rfl) ?_
            | refine And.intro (a := ((_ : Bool) = true → 1 ≤ _) ∧ _ ≤ 9223372036854775807 ∧ _ ≤ 140737488355328) ⟨fun h => (by first | omega | cases h), by omega, by omega⟩ ?_
            | refine splT ?_
            | refine splF ?_
            | refine splNot ?_
            | (refine splIn (fun hc => ?_) (fun hc => ?_) <;> first | (exfalso; omega) | (exfalso; dsimp only at hc; omega) | skip)
            | (refine splD (fun hc => ?_) (fun hc => ?_) <;> first | (exfalso; omega) | (exfalso; dsimp only at hc; omega) | skip)
            | (refine splE (fun hc => ?_) (fun hc => ?_) <;> first | (exfalso; omega) | (exfalso; dsimp only at hc; omega) | skip)
            | (refine splNE (fun hc => ?_) (fun hc => ?_) <;> first | (exfalso; omega) | (exfalso; dsimp only at hc; omega) | skip)
            | ((with_reducible show CallEv _ _ 23 _ _ _ _ _); refine callE (k := 23) (fun β w' hbw => few_ok g _) ?_)
            | ((with_reducible show CallEv _ _ 20 _ _ _ _ _); refine callE (k := 20) (fun β w' hbw => wakes_ok _) ?_)
            | ((with_reducible show CallEv _ _ 26 _ _ _ _ _); refine callE (k := 26) (fun β w' hbw => hRt _ (by first | exact hbw | exact hbw.1 | exact hbw.1.1 | exact hbw.1.1.1 | exact hbw.1.1.1.1 | exact hbw.1.1.1.1.1 | exact hbw.1.1.1.1.1.1 | exact hbw.1.1.1.1.1.1.1)) ?_)
            | ((with_reducible show CallEv _ _ 19 _ _ _ _ _); refine callE (k := 19) (fun β w' hbw => In_ok _ _ _ _) ?_)
            | refine Exists.intro (α := List Value) (L0.flatMap iF) ⟨⟨by rw [lenF]; simp, fun w' hb j v hv => hx w' hb j v hv, one L0⟩, ?_⟩
        all_goals first | exact ⟨rfl, (2, L0), ⟨fun h => absurd h (by show ¬ 2 < 2; omega), by show L0.length ≤ _; omega, hr0⟩, Ent.weak rfl ⟨rfl, rfl, by rw [show s13 L0 2 = .os 3 4 (0 + L0.length) from by simp [s13]]; rfl, by rw [hRv]; rfl, trivial⟩ ⟨rfl, rfl, congrArg some (show Blk.own 4 (0 + L0.length) 1 ([] ++ L0.flatMap iF) 3 = Blk.own 4 L0.length 1 (L0.flatMap iF) 3 from by simp), trivial⟩ fun _ h => h⟩ | (exfalso; simp_all; omega) | skip
  obtain ⟨hR, rfl, hba⟩ := hR
  refine VC.cutE env mixed 3 5 (fun _ : Unit => [(3, .v (.bool true)), (4, .v (.int .u8 at')), (5, .v (iv by')), (6, .ptr 0 0), (7, .ptr 1 0)]) (fun _ => [(0, .cells (gss' g) 41), (1, .cells [.v (iv a), .v (iv b)] 94)]) (fun _ => True) (fun _ _ => ⟨rfl, rfl⟩) ?_ (fun _ _ => own12 g bs a b at' by' w hrd hl hat hR hba hfin)
  rcases hL0 with ⟨h0, hnil⟩ | ⟨ad, c, h0, hc⟩
  · subst hnil
    simp only [Value.slice.injEq] at h0
    obtain ⟨rfl, _, rfl⟩ := h0
    repeat'
      conv => whnf
      first
        | refine And.intro (a := drawB _ = true) (by kernel_rfl) ?_
        | refine And.intro (a := (_ : Bool) = true) rfl ?_
        | refine And.intro (a := (_ : Bool) = true ∧ (_ : Bool) = true) ⟨rfl, rfl⟩ ?_
        | refine And.intro (a := (_ : Bool) = true ∧ (_ : List _) = []) ⟨rfl, rfl⟩ ?_
        | refine And.intro (a := IR _ _) (And.intro (by omega) (by omega)) ?_
        | refine wrapE (And.intro (by omega) (by omega)) ?_
        | refine And.intro (a := (0 : Int) ≤ _ ∧ _ < _) (And.intro (by omega) (by omega)) ?_
        | refine And.intro (a := (_ : Bool) = true) (by simp only [Nat.beq_refl]; rfl) ?_
        | refine And.intro (a := ((_ : Bool) = true → 1 ≤ _) ∧ _ ≤ 9223372036854775807 ∧ _ ≤ 140737488355328) ⟨fun h => (by first | omega | cases h), by omega, by omega⟩ ?_
        | refine splT ?_
        | refine splF ?_
        | refine splNot ?_
        | (refine splIn (fun hc => ?_) (fun hc => ?_) <;> first | (exfalso; omega) | (exfalso; dsimp only at hc; omega) | skip)
        | (refine splD (fun hc => ?_) (fun hc => ?_) <;> first | (exfalso; omega) | (exfalso; dsimp only at hc; omega) | skip)
        | (refine splE (fun hc => ?_) (fun hc => ?_) <;> first | (exfalso; omega) | (exfalso; dsimp only at hc; omega) | skip)
        | (refine splNE (fun hc => ?_) (fun hc => ?_) <;> first | (exfalso; omega) | (exfalso; dsimp only at hc; omega) | skip)
        | ((with_reducible show CallEv _ _ 23 _ _ _ _ _); refine callE (k := 23) (fun β w' hbw => few_ok g _) ?_)
    all_goals first | exact ⟨rfl, (), trivial, Ent.weak rfl ⟨rfl, rfl, rfl, rfl, rfl, trivial⟩ ⟨rfl, rfl, trivial⟩ fun _ h => h⟩ | (exfalso; simp_all; done)
  · have hx := fun w' hb => Rd.ext (f := iF) (sz := 1) (fun _ => rfl) (Rd.below (w' := w') (show Rd 1 iF (.slice (some ad) L0.length c) L0 w from .inr ⟨ad, c, rfl, hc⟩) hb)
    simp only [Value.slice.injEq] at h0
    obtain ⟨rfl, _, rfl⟩ := h0
    repeat'
      conv => whnf
      first
        | refine And.intro (a := drawB _ = true) (by kernel_rfl) ?_
        | refine And.intro (a := (_ : Bool) = true) rfl ?_
        | refine And.intro (a := (_ : Bool) = true ∧ (_ : Bool) = true) ⟨rfl, rfl⟩ ?_
        | refine And.intro (a := (_ : Bool) = true ∧ (_ : List _) = []) ⟨rfl, rfl⟩ ?_
        | refine And.intro (a := IR _ _) (And.intro (by omega) (by omega)) ?_
        | refine wrapE (And.intro (by omega) (by omega)) ?_
        | refine And.intro (a := (0 : Int) ≤ _ ∧ _ < _) (And.intro (by omega) (by omega)) ?_
        | refine And.intro (a := (_ : Bool) = true) (by simp only [Nat.beq_refl]; rfl) ?_
        | refine And.intro (a := ((_ : Bool) = true → 1 ≤ _) ∧ _ ≤ 9223372036854775807 ∧ _ ≤ 140737488355328) ⟨fun h => (by first | omega | cases h), by omega, by omega⟩ ?_
        | refine splT ?_
        | refine splF ?_
        | refine splNot ?_
        | (refine splIn (fun hc => ?_) (fun hc => ?_) <;> first | (exfalso; omega) | (exfalso; dsimp only at hc; omega) | skip)
        | (refine splD (fun hc => ?_) (fun hc => ?_) <;> first | (exfalso; omega) | (exfalso; dsimp only at hc; omega) | skip)
        | (refine splE (fun hc => ?_) (fun hc => ?_) <;> first | (exfalso; omega) | (exfalso; dsimp only at hc; omega) | skip)
        | (refine splNE (fun hc => ?_) (fun hc => ?_) <;> first | (exfalso; omega) | (exfalso; dsimp only at hc; omega) | skip)
        | ((with_reducible show CallEv _ _ 23 _ _ _ _ _); refine callE (k := 23) (fun β w' hbw => few_ok g _) ?_)
        | refine Exists.intro (α := List Value) (L0.flatMap iF) ⟨⟨by rw [lenF]; simp, fun w' hb j v hv => hx w' hb j v hv, one L0⟩, ?_⟩
    all_goals first | exact ⟨rfl, (), trivial, Ent.weak rfl ⟨rfl, rfl, rfl, rfl, rfl, trivial⟩ ⟨rfl, rfl, trivial⟩ fun _ h => h⟩ | (exfalso; simp_all; done)
end Go.Proofs.Ytlehjapeomallaa.V
