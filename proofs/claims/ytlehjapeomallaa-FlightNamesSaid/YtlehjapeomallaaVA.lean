/- The windows of a flight, by the second engine: what (seen).windows returns. -/
import Derived.Test.YtlehjapeomallaaEw
import Derived.Test.YtlehjapeomallaaFS
import Derived.Test.YtlehjapeomallaaFX
namespace Go.Proofs.Ytlehjapeomallaa.V
open Go Tx Go.RowKit
set_option linter.unusedSimpArgs false
set_option linter.unusedVariables false

theorem tst {n : Nat} {p : World → Prop} {w : World} (h : Sx.St n p w) : St n p w := fun w' k => h w' ⟨k.size, k.same⟩
theorem sst {n : Nat} {p : World → Prop} {w : World} (h : St n p w) : Sx.St n p w := fun w' k => h w' ⟨k.size, k.same⟩
/-- A contract of the first engine. -/
theorem fam {α : Type} {P : Program} {k : Nat} {args : Array Value} {w : World} {V : α → Value} {hx : α → World → Prop}
    (h : Calls P k args w fun e w' => ∃ x, e = .returned (V x) ∧ Below w.heap.size w w' ∧ Sx.St w.heap.size (hx x) w') :
    Calls P k args w fun e w' => ∃ x, e = .returned (V x) ∧ Below w.heap.size w w' ∧ St w.heap.size (hx x) w' := h.mono fun _ _ ⟨x, h1, h2, h3⟩ => ⟨x, h1, h2, tst h3⟩

theorem stst {n m : Nat} {p : World → Prop} {w : World} (h : St m p w) (hn : n ≤ m) : St m (St n p) w := fun _ k2 w3 k3 => h w3 (k2.trans (k3.mono hn))
/-- Of what is said of a result it is said that it abides, from the caller's beginning on. -/
theorem famS {α : Type} {P : Program} {k : Nat} {args : Array Value} {w w0 : World} {V : α → Value} {hx : α → World → Prop} (hb : Below w0.heap.size w0 w)
    (h : Calls P k args w fun e w' => ∃ x, e = .returned (V x) ∧ Below w.heap.size w w' ∧ St w.heap.size (hx x) w') :
    Calls P k args w fun e w' => ∃ x, e = .returned (V x) ∧ Below w.heap.size w w' ∧ St w.heap.size (St w0.heap.size (hx x)) w' := h.mono fun _ _ ⟨x, h1, h2, h3⟩ => ⟨x, h1, h2, stst h3 hb.size⟩

/-- A slice that grows by append from nil on: its value, and its block. -/
def oSV {α : Type} (i j : Nat) : List α → SV
  | [] => .v (.slice none 0 0)
  | _ :: r => .os i j (r.length + 1)
def oM {α : Type} (i j sz : Nat) (f : α → List Value) (ty : TypeId) : List α → List (Nat × Blk)
  | [] => []
  | a :: r => [(i, .own j (r.length + 1) sz ((a :: r).flatMap f) ty)]
theorem oEnd {α : Type} {f : α → List Value} {sz i j ty : Nat} {n : Nat} {β : Nat → Nat} {w' : World} (hf : ∀ a, (f a).length = sz) (a : α) (L : List α)
    (h : St n (fun w2 => (Blk.own j (L.length + 1) sz ((a :: L).flatMap f) ty).ok β w2 (β i)) w') :
    ∃ y : Option Addr × Nat, (oSV i j (a :: L)).c β = sV (L.length + 1) y ∧ St n (Rd sz f (sV (L.length + 1) y) (a :: L)) w' :=
  ⟨(some ⟨β i, 0, none⟩, β j), rfl, h.imp fun _ q => Rd.of_owns (sz := sz) (f := f) hf rfl rfl q⟩
theorem oNil {α : Type} {f : α → List Value} {sz i j : Nat} {n : Nat} {β : Nat → Nat} {w' : World} : ∃ y : Option Addr × Nat, (oSV i j ([] : List α)).c β = sV 0 y ∧ St n (Rd sz f (sV 0 y) ([] : List α)) w' :=
  ⟨(none, 0), rfl, fun _ _ => .inl ⟨rfl, rfl⟩⟩

theorem oEnd2 {α : Type} {f : α → List Value} {sz i j ty : Nat} {n : Nat} {β : Nat → Nat} {w' : World} (hf : ∀ a, (f a).length = sz) (a : α) (L : List α) (x : α)
    (h : St n (fun w2 => (Blk.own j (L.length + 1 + 1) sz ((a :: L).flatMap f ++ f x) ty).ok β w2 (β i)) w') :
    ∃ y : Option Addr × Nat, SV.c β (.os i j (L.length + 1 + 1)) = sV (a :: L ++ [x]).length y ∧ St n (Rd sz f (sV (a :: L ++ [x]).length y) (a :: L ++ [x])) w' := by
  have e1 : (L ++ [x]).length + 1 = L.length + 1 + 1 := by simp
  have e2 : (a :: (L ++ [x])).flatMap f = (a :: L).flatMap f ++ f x := by simp
  have := oEnd (f := f) (sz := sz) (i := i) (j := j) (ty := ty) (n := n) (β := β) (w' := w') hf a (L ++ [x]) (by rw [e1, e2]; exact h)
  rw [show oSV i j (a :: (L ++ [x])) = .os i j ((L ++ [x]).length + 1) from rfl, e1] at this
  rw [show (a :: L ++ [x]).length = L.length + 1 + 1 from by simp]
  exact this

abbrev wF (x : Int × Int) : List Value := [iv x.1, iv x.2]
/-- Whether a release is good. -/
def gd (g : Fg) (bs : List Bx) (r : Int) : Bool := decide (catL g bs r g.k ≠ [])
/-- One step of the search of windows: the windows so far, and where the one under way began. -/
def wEnd (s : List (Int × Int) × Int) (last : Int) : List (Int × Int) × Int := (if 0 ≤ s.2 then s.1 ++ [(s.2, last)] else s.1, -1)
def wStep (p : Int → Bool) (s : List (Int × Int) × Int) (r : Int) : List (Int × Int) × Int :=
  if p r then (s.1, if s.2 < 0 then r else s.2) else wEnd s (r - 1)
def wRun (p : Int → Bool) (a : Int) : Nat → List (Int × Int) × Int
  | 0 => ([], -1)
  | k + 1 => wStep p (wRun p a k) (a + k)
/-- The windows from a on, of so many ticks. -/
def wins (p : Int → Bool) (a : Int) (n : Nat) : List (Int × Int) := (wEnd (wRun p a n) (a + n - 1)).1

theorem wRun_bd {p : Int → Bool} {a : Int} (ha : 0 ≤ a) : ∀ k : Nat, (wRun p a k).1.length ≤ k ∧ (-1 ≤ (wRun p a k).2 ∧ (wRun p a k).2 < a + k)
  | 0 => ⟨Nat.le_refl _, by simp [wRun], by simp [wRun]; omega⟩
  | k + 1 => by
    obtain ⟨h1, h2, h3⟩ := wRun_bd (p := p) ha k
    simp only [wRun, wStep, wEnd]
    split
    · refine ⟨by simp only; omega, ?_, ?_⟩ <;> (dsimp only; split <;> omega)
    · refine ⟨?_, by dsimp only; omega, by dsimp only; omega⟩
      split
      · simp only [List.length_append, List.length_cons, List.length_nil]; omega
      · simp only; omega

def winM (g : Fg) (x : SeeX) (L : List (Int × Int)) (f : Int) : List (Nat × Blk) :=
  (0, .cells [.v (iv g.f.a.x.lo), .v (iv g.f.a.x.hi), .v (iv g.f.a.z.lo), .v (iv g.f.a.z.hi), .v (iv g.f.s.x.lo), .v (iv g.f.s.x.hi), .v (iv g.f.s.z.lo), .v (iv g.f.s.z.hi), .v (iv g.f.m), .v (.slice g.o g.n g.c), .v (iv g.re), .v (iv g.so), .v (iv g.be), .v (iv g.le), .v (iv g.mo), .v (x.bv g.k), .v (x.lv g.k)] 123) ::
  (1, .cells [oSV 3 4 L] 101) :: (2, .cells [.v (iv f)] 3) :: oM 3 4 2 wF 97 L

set_option maxRecDepth 100000 in
theorem windows_ok (g : Fg) (bs : List Bx) (x : SeeX) (a b : Int) (hg : g.ok bs = true) (h0 : 0 ≤ a) (h1 : a ≤ b) (h2 : b ≤ 6000) (w : World) (hx : x.hx g w) (hrd : Rd 4 Bx.cs (.slice g.o g.n g.c) bs w) :
    Calls Try.prog 78 #[g.sv (x.bv g.k) (x.lv g.k), iv a, iv b] w fun e w' => ∃ y : Option Addr × Nat, e = .returned (sV (wins (gd g bs) a (b - a + 1).toNat).length y) ∧ Below w.heap.size w w' ∧
      St w.heap.size (Rd 2 wF (sV (wins (gd g bs) a (b - a + 1).toNat).length y) (wins (gd g bs) a (b - a + 1).toNat)) w' := by
  obtain ⟨n, hn⟩ : ∃ n : Nat, b = a + n := ⟨(b - a).toNat, by omega⟩
  rw [show (b - a + 1).toNat = n + 1 from by omega]
  have hgood : ∀ r w', 0 ≤ r ∧ r ≤ 6000 → Below w.heap.size w w' → Calls Try.prog 76 #[g.sv (x.bv g.k) (x.lv g.k), iv r] w' fun e W' => e = .returned (.bool (gd g bs r)) ∧ Below w'.heap.size w' W' :=
    fun r w' hr hb => good_ok g bs x r hg hr w' ⟨hx.1.below hb, hx.2.below hb⟩ (hrd.below hb)
  refine calls_fam env mixed Try.func78 has78 Try.ntmps78 [g.sv (x.bv g.k) (x.lv g.k), iv a, iv b] (by simp) ?_
  repeat'
    conv => whnf
    first
      | refine And.intro (a := drawB _ = true) (by kernel_rfl) ?_
      | refine And.intro (a := (_ : Bool) = true) rfl ?_
      | refine And.intro (a := (_ : Bool) = true ∧ (_ : Bool) = true) ⟨rfl, rfl⟩ ?_
      | refine And.intro (a := (_ : Bool) = true ∧ (_ : List _) = []) ⟨rfl, rfl⟩ ?_
      | refine And.intro (a := IR _ _) (And.intro (by omega) (by omega)) ?_
      | refine wrapE (And.intro (by omega) (by omega)) ?_
      | refine And.intro (a := (0 : Int) ≤ _ ∧ _ < _) (And.intro (by omega) (by omega)) ?_
      | refine And.intro (a := (_ : Bool) = true) (by simp only [Nat.beq_refl]; rfl) ?_
      | refine And.intro (a := ((_ : Bool) = true → 1 ≤ _) ∧ _ ≤ 9223372036854775807 ∧ _ ≤ 140737488355328) ⟨fun h => (by first | omega | cases h), by omega, by omega⟩ ?_
      | refine splT ?_
      | refine splF ?_
      | refine splNot ?_
      | (refine splIn (fun hc => ?_) (fun hc => ?_) <;> first | (exfalso; omega) | (exfalso; dsimp only at hc; omega) | skip)
      | (refine splD (fun hc => ?_) (fun hc => ?_) <;> first | (exfalso; omega) | (exfalso; dsimp only at hc; omega) | skip)
      | (refine splE (fun hc => ?_) (fun hc => ?_) <;> first | (exfalso; omega) | (exfalso; dsimp only at hc; omega) | skip)
      | (refine splNE (fun hc => ?_) (fun hc => ?_) <;> first | (exfalso; omega) | (exfalso; dsimp only at hc; omega) | skip)
  refine loopN 5 (fun k : Nat => [(2, .v (iv b)), (3, .ptr 0 0), (6, .ptr 1 0), (7, .ptr 2 0), (8, .fn (.func 95) [.ptr 2 0, .ptr 1 0]), (9, .v (iv (a + k)))]) (fun k => winM g x (wRun (gd g bs) a k).1 (wRun (gd g bs) a k).2)
    (fun k => k ≤ n + 1) (fun k => n + 1 - k) 0 (Nat.zero_le _) ⟨rfl, rfl, rfl, rfl, rfl, by rw [Int.ofNat_zero, Int.add_zero]; rfl, trivial⟩ ⟨rfl, rfl, rfl, trivial⟩ (fun k _ => by unfold winM; cases (wRun (gd g bs) a k).1 <;> exact ⟨rfl, rfl⟩) ?_
  intro k hk
  obtain ⟨hb1, hb2, hb3⟩ := wRun_bd (p := gd g bs) h0 k
  have hstep : wRun (gd g bs) a (k + 1) = wStep (gd g bs) (wRun (gd g bs) a k) (a + k) := rfl
  have hi : a + ((k + 1 : Nat) : Int) = a + (k : Int) + 1 := by omega
  rcases Nat.lt_or_ge k (n + 1) with hlt | hge
  · generalize wRun (gd g bs) a k = s at *
    obtain ⟨L, f⟩ := s
    dsimp only at hb1 hb2 hb3 ⊢
    have hm0 : ¬ ((-1 : Int) ≥ 0) := by omega
    rcases Bool.eq_false_or_eq_true (gd g bs (a + k)) with hp | hp
    · have hs2 : wRun (gd g bs) a (k + 1) = (L, if f < 0 then a + k else f) := by rw [hstep]; simp [wStep, hp]
      have hgk := fun w' hb => hgood (a + k) w' (by omega) hb
      simp only [hp] at hgk
      by_cases hf : f < 0
      · rw [if_pos hf] at hs2
        cases L <;> try simp only [List.length_cons] at hb1
        all_goals skip
        repeat'
          conv => whnf
          first
            | refine And.intro (a := drawB _ = true) (by kernel_rfl) ?_
            | refine And.intro (a := (_ : Bool) = true) rfl ?_
            | refine And.intro (a := (_ : Bool) = true ∧ (_ : Bool) = true) ⟨rfl, rfl⟩ ?_
            | refine And.intro (a := (_ : Bool) = true ∧ (_ : List _) = []) ⟨rfl, rfl⟩ ?_
            | refine And.intro (a := IR _ _) (And.intro (by omega) (by omega)) ?_
            | refine wrapE (And.intro (by omega) (by omega)) ?_
            | refine And.intro (a := (0 : Int) ≤ _ ∧ _ < _) (And.intro (by omega) (by omega)) ?_
            | refine And.intro (a := (_ : Bool) = true) (by simp only [Nat.beq_refl]; rfl) ?_
            | refine And.intro (a := ((_ : Bool) = true → 1 ≤ _) ∧ _ ≤ 9223372036854775807 ∧ _ ≤ 140737488355328) ⟨fun h => (by first | omega | cases h), by omega, by omega⟩ ?_
            | refine splT ?_
            | refine splF ?_
            | refine splNot ?_
            | (refine splIn (fun hc => ?_) (fun hc => ?_) <;> first | (exfalso; omega) | (exfalso; dsimp only at hc; omega) | skip)
            | (refine splD (fun hc => ?_) (fun hc => ?_) <;> first | (exfalso; omega) | (exfalso; dsimp only at hc; omega) | skip)
            | (refine splE (fun hc => ?_) (fun hc => ?_) <;> first | (exfalso; omega) | (exfalso; dsimp only at hc; omega) | skip)
            | (refine splNE (fun hc => ?_) (fun hc => ?_) <;> first | (exfalso; omega) | (exfalso; dsimp only at hc; omega) | skip)
            | ((with_reducible show CallEv _ _ 76 _ _ _ _ _); refine callE (k := 76) (fun β w' hbw => hgk _ (by first | exact hbw | exact hbw.1 | exact hbw.1.1 | exact hbw.1.1.1 | exact hbw.1.1.1.1 | exact hbw.1.1.1.1.1 | exact hbw.1.1.1.1.1.1 | exact hbw.1.1.1.1.1.1.1)) ?_)
        · exact ⟨k + 1, by omega, by omega, Ent.weak rfl ⟨rfl, rfl, rfl, rfl, rfl, by rw [hi]; rfl, trivial⟩ (by rw [hs2]; exact ⟨rfl, rfl, rfl, trivial⟩) fun _ h => h⟩
        · exact ⟨k + 1, by omega, by omega, Ent.weak rfl ⟨rfl, rfl, rfl, rfl, rfl, by rw [hi]; rfl, trivial⟩ (by rw [hs2]; exact ⟨rfl, rfl, rfl, rfl, trivial⟩) fun _ h => h⟩
      · rw [if_neg hf] at hs2
        cases L <;> try simp only [List.length_cons] at hb1
        all_goals skip
        repeat'
          conv => whnf
          first
            | refine And.intro (a := drawB _ = true) (by kernel_rfl) ?_
            | refine And.intro (a := (_ : Bool) = true) rfl ?_
            | refine And.intro (a := (_ : Bool) = true ∧ (_ : Bool) = true) ⟨rfl, rfl⟩ ?_
            | refine And.intro (a := (_ : Bool) = true ∧ (_ : List _) = []) ⟨rfl, rfl⟩ ?_
            | refine And.intro (a := IR _ _) (And.intro (by omega) (by omega)) ?_
            | refine wrapE (And.intro (by omega) (by omega)) ?_
            | refine And.intro (a := (0 : Int) ≤ _ ∧ _ < _) (And.intro (by omega) (by omega)) ?_
            | refine And.intro (a := (_ : Bool) = true) (by simp only [Nat.beq_refl]; rfl) ?_
            | refine And.intro (a := ((_ : Bool) = true → 1 ≤ _) ∧ _ ≤ 9223372036854775807 ∧ _ ≤ 140737488355328) ⟨fun h => (by first | omega | cases h), by omega, by omega⟩ ?_
            | refine splT ?_
            | refine splF ?_
            | refine splNot ?_
            | (refine splIn (fun hc => ?_) (fun hc => ?_) <;> first | (exfalso; omega) | (exfalso; dsimp only at hc; omega) | skip)
            | (refine splD (fun hc => ?_) (fun hc => ?_) <;> first | (exfalso; omega) | (exfalso; dsimp only at hc; omega) | skip)
            | (refine splE (fun hc => ?_) (fun hc => ?_) <;> first | (exfalso; omega) | (exfalso; dsimp only at hc; omega) | skip)
            | (refine splNE (fun hc => ?_) (fun hc => ?_) <;> first | (exfalso; omega) | (exfalso; dsimp only at hc; omega) | skip)
            | ((with_reducible show CallEv _ _ 76 _ _ _ _ _); refine callE (k := 76) (fun β w' hbw => hgk _ (by first | exact hbw | exact hbw.1 | exact hbw.1.1 | exact hbw.1.1.1 | exact hbw.1.1.1.1 | exact hbw.1.1.1.1.1 | exact hbw.1.1.1.1.1.1 | exact hbw.1.1.1.1.1.1.1)) ?_)
        · exact ⟨k + 1, by omega, by omega, Ent.weak rfl ⟨rfl, rfl, rfl, rfl, rfl, by rw [hi]; rfl, trivial⟩ (by rw [hs2]; exact ⟨rfl, rfl, rfl, trivial⟩) fun _ h => h⟩
        · exact ⟨k + 1, by omega, by omega, Ent.weak rfl ⟨rfl, rfl, rfl, rfl, rfl, by rw [hi]; rfl, trivial⟩ (by rw [hs2]; exact ⟨rfl, rfl, rfl, rfl, trivial⟩) fun _ h => h⟩
    · have hgk := fun w' hb => hgood (a + k) w' (by omega) hb
      simp only [hp] at hgk
      by_cases hf : 0 ≤ f
      · have hs2 : wRun (gd g bs) a (k + 1) = (L ++ [(f, a + k - 1)], -1) := by rw [hstep]; simp [wStep, hp, wEnd, hf]
        cases L <;> try simp only [List.length_cons] at hb1
        all_goals skip
        repeat'
          conv => whnf
          first
            | refine And.intro (a := drawB _ = true) (by kernel_rfl) ?_
            | refine And.intro (a := (_ : Bool) = true) rfl ?_
            | refine And.intro (a := (_ : Bool) = true ∧ (_ : Bool) = true) ⟨rfl, rfl⟩ ?_
            | refine And.intro (a := (_ : Bool) = true ∧ (_ : List _) = []) ⟨rfl, rfl⟩ ?_
            | refine And.intro (a := IR _ _) (And.intro (by omega) (by omega)) ?_
            | refine wrapE (And.intro (by omega) (by omega)) ?_
            | refine And.intro (a := (0 : Int) ≤ _ ∧ _ < _) (And.intro (by omega) (by omega)) ?_
            | refine And.intro (a := (_ : Bool) = true) (by simp only [Nat.beq_refl]; rfl) ?_
            | refine And.intro (a := ((_ : Bool) = true → 1 ≤ _) ∧ _ ≤ 9223372036854775807 ∧ _ ≤ 140737488355328) ⟨fun h => (by first | omega | cases h), by omega, by omega⟩ ?_
            | refine splT ?_
            | refine splF ?_
            | refine splNot ?_
            | (refine splIn (fun hc => ?_) (fun hc => ?_) <;> first | (exfalso; omega) | (exfalso; dsimp only at hc; omega) | skip)
            | (refine splD (fun hc => ?_) (fun hc => ?_) <;> first | (exfalso; omega) | (exfalso; dsimp only at hc; omega) | skip)
            | (refine splE (fun hc => ?_) (fun hc => ?_) <;> first | (exfalso; omega) | (exfalso; dsimp only at hc; omega) | skip)
            | (refine splNE (fun hc => ?_) (fun hc => ?_) <;> first | (exfalso; omega) | (exfalso; dsimp only at hc; omega) | skip)
            | ((with_reducible show CallEv _ _ 76 _ _ _ _ _); refine callE (k := 76) (fun β w' hbw => hgk _ (by first | exact hbw | exact hbw.1 | exact hbw.1.1 | exact hbw.1.1.1 | exact hbw.1.1.1.1 | exact hbw.1.1.1.1.1 | exact hbw.1.1.1.1.1.1 | exact hbw.1.1.1.1.1.1.1)) ?_)
            | ((with_reducible show CallEv _ _ 95 _ _ _ _ _); refine callI env mixed 1000 [2,3,6,7,8,9] Try.func95 has95 Try.ntmps95 (Nat.le_of_ble_eq_true rfl) rfl rfl rfl ?_)
        · exact ⟨k + 1, by omega, by omega, Ent.ren (rho [(3, 6), (4, 7)]) rfl (by rw [hs2]; rfl) ⟨rfl, rfl, rfl, rfl, rfl, by rw [hi]; rfl, trivial⟩ (by rw [hs2]; exact ⟨rfl, rfl, rfl, rfl, trivial⟩) fun _ h => h⟩
        · exact ⟨k + 1, by omega, by omega, Ent.ren (rho [(3, 6), (4, 7)]) rfl (by rw [hs2]; rfl) ⟨rfl, rfl, rfl, rfl, rfl, by rw [hi]; rfl, trivial⟩ (by rw [hs2]; exact ⟨rfl, by simp [oSV]; rfl, rfl, by simp [oM]; rfl, trivial⟩) fun _ h => h⟩
      · have hs2 : wRun (gd g bs) a (k + 1) = (L, -1) := by rw [hstep]; simp [wStep, hp, wEnd, hf]
        cases L <;> try simp only [List.length_cons] at hb1
        all_goals skip
        repeat'
          conv => whnf
          first
            | refine And.intro (a := drawB _ = true) (by kernel_rfl) ?_
            | refine And.intro (a := (_ : Bool) = true) rfl ?_
            | refine And.intro (a := (_ : Bool) = true ∧ (_ : Bool) = true) ⟨rfl, rfl⟩ ?_
            | refine And.intro (a := (_ : Bool) = true ∧ (_ : List _) = []) ⟨rfl, rfl⟩ ?_
            | refine And.intro (a := IR _ _) (And.intro (by omega) (by omega)) ?_
            | refine wrapE (And.intro (by omega) (by omega)) ?_
            | refine And.intro (a := (0 : Int) ≤ _ ∧ _ < _) (And.intro (by omega) (by omega)) ?_
            | refine And.intro (a := (_ : Bool) = true) (by simp only [Nat.beq_refl]; rfl) ?_
            | refine And.intro (a := ((_ : Bool) = true → 1 ≤ _) ∧ _ ≤ 9223372036854775807 ∧ _ ≤ 140737488355328) ⟨fun h => (by first | omega | cases h), by omega, by omega⟩ ?_
            | refine splT ?_
            | refine splF ?_
            | refine splNot ?_
            | (refine splIn (fun hc => ?_) (fun hc => ?_) <;> first | (exfalso; omega) | (exfalso; dsimp only at hc; omega) | skip)
            | (refine splD (fun hc => ?_) (fun hc => ?_) <;> first | (exfalso; omega) | (exfalso; dsimp only at hc; omega) | skip)
            | (refine splE (fun hc => ?_) (fun hc => ?_) <;> first | (exfalso; omega) | (exfalso; dsimp only at hc; omega) | skip)
            | (refine splNE (fun hc => ?_) (fun hc => ?_) <;> first | (exfalso; omega) | (exfalso; dsimp only at hc; omega) | skip)
            | ((with_reducible show CallEv _ _ 76 _ _ _ _ _); refine callE (k := 76) (fun β w' hbw => hgk _ (by first | exact hbw | exact hbw.1 | exact hbw.1.1 | exact hbw.1.1.1 | exact hbw.1.1.1.1 | exact hbw.1.1.1.1.1 | exact hbw.1.1.1.1.1.1 | exact hbw.1.1.1.1.1.1.1)) ?_)
            | ((with_reducible show CallEv _ _ 95 _ _ _ _ _); refine callI env mixed 1000 [2,3,6,7,8,9] Try.func95 has95 Try.ntmps95 (Nat.le_of_ble_eq_true rfl) rfl rfl rfl ?_)
        · exact ⟨k + 1, by omega, by omega, Ent.weak rfl ⟨rfl, rfl, rfl, rfl, rfl, by rw [hi]; rfl, trivial⟩ (by rw [hs2]; exact ⟨rfl, rfl, rfl, trivial⟩) fun _ h => h⟩
        · exact ⟨k + 1, by omega, by omega, Ent.weak rfl ⟨rfl, rfl, rfl, rfl, rfl, by rw [hi]; rfl, trivial⟩ (by rw [hs2]; exact ⟨rfl, rfl, rfl, rfl, trivial⟩) fun _ h => h⟩
  · obtain rfl : k = n + 1 := by omega
    have hw : wins (gd g bs) a (n + 1) = (wEnd (wRun (gd g bs) a (n + 1)) b).1 := by unfold wins; rw [show a + ((n + 1 : Nat) : Int) - 1 = b from by omega]
    rw [hw]
    clear hw hstep
    generalize wRun (gd g bs) a (n + 1) = s at *
    obtain ⟨L, f⟩ := s
    dsimp only at hb1 hb2 hb3 ⊢
    by_cases hf : 0 ≤ f
    · rw [show (wEnd (L, f) b).1 = L ++ [(f, b)] from by simp [wEnd, hf]]
      cases L <;> try simp only [List.length_cons] at hb1
      all_goals skip
      repeat'
        conv => whnf
        first
          | refine And.intro (a := drawB _ = true) (by kernel_rfl) ?_
          | refine And.intro (a := (_ : Bool) = true) rfl ?_
          | refine And.intro (a := (_ : Bool) = true ∧ (_ : Bool) = true) ⟨rfl, rfl⟩ ?_
          | refine And.intro (a := (_ : Bool) = true ∧ (_ : List _) = []) ⟨rfl, rfl⟩ ?_
          | refine And.intro (a := IR _ _) (And.intro (by omega) (by omega)) ?_
          | refine wrapE (And.intro (by omega) (by omega)) ?_
          | refine And.intro (a := (0 : Int) ≤ _ ∧ _ < _) (And.intro (by omega) (by omega)) ?_
          | refine And.intro (a := (_ : Bool) = true) (by simp only [Nat.beq_refl]; rfl) ?_
          | refine And.intro (a := ((_ : Bool) = true → 1 ≤ _) ∧ _ ≤ 9223372036854775807 ∧ _ ≤ 140737488355328) ⟨fun h => (by first | omega | cases h), by omega, by omega⟩ ?_
          | refine splT ?_
          | refine splF ?_
          | refine splNot ?_
          | (refine splIn (fun hc => ?_) (fun hc => ?_) <;> first | (exfalso; omega) | (exfalso; dsimp only at hc; omega) | skip)
          | (refine splD (fun hc => ?_) (fun hc => ?_) <;> first | (exfalso; omega) | (exfalso; dsimp only at hc; omega) | skip)
          | (refine splE (fun hc => ?_) (fun hc => ?_) <;> first | (exfalso; omega) | (exfalso; dsimp only at hc; omega) | skip)
          | (refine splNE (fun hc => ?_) (fun hc => ?_) <;> first | (exfalso; omega) | (exfalso; dsimp only at hc; omega) | skip)
          | ((with_reducible show CallEv _ _ 95 _ _ _ _ _); refine callI env mixed 1000 [2,3,6,7,8,9] Try.func95 has95 Try.ntmps95 (Nat.le_of_ble_eq_true rfl) rfl rfl rfl ?_)
      · exact ⟨fun w' h => h, fun β w' hB hblk => oEnd (i := 6) (j := 7) (ty := 97) (sz := 2) (f := wF) (fun _ => rfl) (f, b) [] (hblk 6 _ rfl rfl)⟩
      · exact ⟨fun w' h => h, fun β w' hB hblk => oEnd2 (i := 6) (j := 7) (ty := 97) (sz := 2) (f := wF) (fun _ => rfl) _ _ (f, b) (hblk 6 _ rfl rfl)⟩
    · rw [show (wEnd (L, f) b).1 = L from by simp [wEnd, hf]]
      cases L with
      | nil =>
        repeat'
          conv => whnf
          first
            | refine And.intro (a := drawB _ = true) (by kernel_rfl) ?_
            | refine And.intro (a := (_ : Bool) = true) rfl ?_
            | refine And.intro (a := (_ : Bool) = true ∧ (_ : Bool) = true) ⟨rfl, rfl⟩ ?_
            | refine And.intro (a := (_ : Bool) = true ∧ (_ : List _) = []) ⟨rfl, rfl⟩ ?_
            | refine And.intro (a := IR _ _) (And.intro (by omega) (by omega)) ?_
            | refine wrapE (And.intro (by omega) (by omega)) ?_
            | refine And.intro (a := (0 : Int) ≤ _ ∧ _ < _) (And.intro (by omega) (by omega)) ?_
            | refine And.intro (a := (_ : Bool) = true) (by simp only [Nat.beq_refl]; rfl) ?_
            | refine And.intro (a := ((_ : Bool) = true → 1 ≤ _) ∧ _ ≤ 9223372036854775807 ∧ _ ≤ 140737488355328) ⟨fun h => (by first | omega | cases h), by omega, by omega⟩ ?_
            | refine splT ?_
            | refine splF ?_
            | refine splNot ?_
            | (refine splIn (fun hc => ?_) (fun hc => ?_) <;> first | (exfalso; omega) | (exfalso; dsimp only at hc; omega) | skip)
            | (refine splD (fun hc => ?_) (fun hc => ?_) <;> first | (exfalso; omega) | (exfalso; dsimp only at hc; omega) | skip)
            | (refine splE (fun hc => ?_) (fun hc => ?_) <;> first | (exfalso; omega) | (exfalso; dsimp only at hc; omega) | skip)
            | (refine splNE (fun hc => ?_) (fun hc => ?_) <;> first | (exfalso; omega) | (exfalso; dsimp only at hc; omega) | skip)
            | ((with_reducible show CallEv _ _ 95 _ _ _ _ _); refine callI env mixed 1000 [2,3,6,7,8,9] Try.func95 has95 Try.ntmps95 (Nat.le_of_ble_eq_true rfl) rfl rfl rfl ?_)
        exact ⟨fun w' h => h, fun β w' hB hblk => oNil (i := 3) (j := 4) (f := wF) (sz := 2)⟩
      | cons c L =>
        repeat'
          conv => whnf
          first
            | refine And.intro (a := drawB _ = true) (by kernel_rfl) ?_
            | refine And.intro (a := (_ : Bool) = true) rfl ?_
            | refine And.intro (a := (_ : Bool) = true ∧ (_ : Bool) = true) ⟨rfl, rfl⟩ ?_
            | refine And.intro (a := (_ : Bool) = true ∧ (_ : List _) = []) ⟨rfl, rfl⟩ ?_
            | refine And.intro (a := IR _ _) (And.intro (by omega) (by omega)) ?_
            | refine wrapE (And.intro (by omega) (by omega)) ?_
            | refine And.intro (a := (0 : Int) ≤ _ ∧ _ < _) (And.intro (by omega) (by omega)) ?_
            | refine And.intro (a := (_ : Bool) = true) (by simp only [Nat.beq_refl]; rfl) ?_
            | refine And.intro (a := ((_ : Bool) = true → 1 ≤ _) ∧ _ ≤ 9223372036854775807 ∧ _ ≤ 140737488355328) ⟨fun h => (by first | omega | cases h), by omega, by omega⟩ ?_
            | refine splT ?_
            | refine splF ?_
            | refine splNot ?_
            | (refine splIn (fun hc => ?_) (fun hc => ?_) <;> first | (exfalso; omega) | (exfalso; dsimp only at hc; omega) | skip)
            | (refine splD (fun hc => ?_) (fun hc => ?_) <;> first | (exfalso; omega) | (exfalso; dsimp only at hc; omega) | skip)
            | (refine splE (fun hc => ?_) (fun hc => ?_) <;> first | (exfalso; omega) | (exfalso; dsimp only at hc; omega) | skip)
            | (refine splNE (fun hc => ?_) (fun hc => ?_) <;> first | (exfalso; omega) | (exfalso; dsimp only at hc; omega) | skip)
            | ((with_reducible show CallEv _ _ 95 _ _ _ _ _); refine callI env mixed 1000 [2,3,6,7,8,9] Try.func95 has95 Try.ntmps95 (Nat.le_of_ble_eq_true rfl) rfl rfl rfl ?_)
        exact ⟨fun w' h => h, fun β w' hB hblk => oEnd (sz := 2) (f := wF) (fun _ => rfl) c L (hblk 3 _ rfl rfl)⟩
end Go.Proofs.Ytlehjapeomallaa.V
