/- The law of cycles answers true at every flight and release; what pick, size, narrow and within return. -/
import Derived.Test.YtlehjapeomallaaFR
namespace Go.Proofs.Ytlehjapeomallaa
open Go Sx Go.RowKit
set_option linter.unusedSimpArgs false

/-- Where a slice that has come as a result lies: somewhere, if it has elements. -/
abbrev YS {α : Type} (L : List α) := { y : Option Addr × Nat // L = [] ∨ ∃ ad, y.1 = some ad }
theorem rd_ys {α : Type} {sz : Nat} {f : α → List Value} {y : Option Addr × Nat} {L : List α} {w : World} (h : Rd sz f (sV L.length y) L w) : L = [] ∨ ∃ ad, y.1 = some ad := by
  rcases h with ⟨_, h⟩ | ⟨ad, c, h, _⟩
  · exact .inl h
  · simp only [Value.slice.injEq] at h
    exact .inr ⟨ad, h.1⟩
theorem fam_ys {α : Type} {P : Program} {k : Nat} {args : Array Value} {w : World} {sz : Nat} {f : α → List Value} {L : List α} {F : Option Addr × Nat → Value}
    (h : Calls P k args w fun e w' => ∃ y : Option Addr × Nat, e = .returned (F y) ∧ Below w.heap.size w w' ∧ St w.heap.size (Rd sz f (sV L.length y) L) w') :
    Calls P k args w fun e w' => ∃ y : YS L, e = .returned (F y.1) ∧ Below w.heap.size w w' ∧ St w.heap.size (Rd sz f (sV L.length y.1) L) w' :=
  h.mono fun _ _ ⟨y, h1, h2, h3⟩ => ⟨⟨y, rd_ys h3.now⟩, h1, h2, h3⟩
theorem rd_at {α : Type} {sz : Nat} {f : α → List Value} {ad : Addr} {n c : Nat} {L : List α} {w : World} (h : Rd sz f (.slice (some ad) n c) L w) {k : Nat} {b : α} (hk : L[k]? = some b) :
    ∀ j v, (f b)[j]? = some v → w.cell? ((ad.add (k * sz)).add j) = some v := by
  rcases h with ⟨h, _⟩ | ⟨ad', c', h, h2⟩
  · simp at h
  · simp only [Value.slice.injEq, Option.some.injEq] at h
    obtain ⟨rfl, _⟩ := h
    exact h2 k b hk
theorem rd_ati {α : Type} {sz : Nat} {f : α → List Value} {ad : Addr} {n c : Nat} {L : List α} {w : World} (h : Rd sz f (.slice (some ad) n c) L w) {k : Nat} {b : α} (hk : L[k]? = some b) :
    ∀ j v, (f b)[j]? = some v → w.cell? ((ad.add ((k : Int).toNat * sz)).add j) = some v := by rw [Int.toNat_natCast]; exact rd_at h hk

theorem pick_bd {lo hi w : Int} (h : lo ≤ hi) : lo ≤ lo + w % (hi - lo + 1) ∧ lo + w % (hi - lo + 1) ≤ hi := by
  have h2 := Int.emod_nonneg w (b := hi - lo + 1) (by omega)
  have h3 := Int.emod_lt_of_pos w (b := hi - lo + 1) (by omega)
  omega

theorem cv16 (n : Int) (h : 0 ≤ n ∧ n ≤ 65535) : RunIs Try.prog (convert 59 3 (.int .u16 n)) (iv n) := fun w => by
  have h1 : Try.prog.underlying 59 = some (.int .u16) := by kernel_rfl
  have h2 : Try.prog.underlying 3 = some (.int .i64) := by kernel_rfl
  have h3 : IntKind.i64.wrap n = n := IR.wrap (k := .i64) ⟨by omega, by omega⟩
  simp [convert, Conv.intToInt, Go.run_underlying h1 w, Go.run_underlying h2 w, h3]
theorem cv8 (n : Int) (h : 0 ≤ n ∧ n ≤ 255) : RunIs Try.prog (convert 5 3 (.int .u8 n)) (iv n) := fun w => by
  have h1 : Try.prog.underlying 5 = some (.int .u8) := by kernel_rfl
  have h2 : Try.prog.underlying 3 = some (.int .i64) := by kernel_rfl
  have h3 : IntKind.i64.wrap n = n := IR.wrap (k := .i64) ⟨by omega, by omega⟩
  simp [convert, Conv.intToInt, Go.run_underlying h1 w, Go.run_underlying h2 w, h3]

set_option maxRecDepth 100000 in
theorem pick_ok (lo hi n : Int) (w : World) (h : lo ≤ hi) (h0 : -10000000 ≤ lo) (h1 : hi ≤ 10000000) (hn : 0 ≤ n ∧ n ≤ 65535) :
    Calls Try.prog 29 #[.agg #[iv lo, iv hi], .int .u16 n] w fun e w' => e = .returned (iv (lo + n % (hi - lo + 1))) ∧ Below w.heap.size w w' := by
  have hb := pick_bd (w := n) h
  refine calls_val env mixed Try.func29 has29 Try.ntmps29 [.agg #[iv lo, iv hi], .int .u16 n] (by simp) ?_
  repeat'
    conv => whnf
    first
      | refine And.intro (a := drawB _ = true) (by kernel_rfl) ?_
      | refine And.intro (a := (_ : Bool) = true) rfl ?_
      | refine And.intro (a := (_ : Bool) = true ∧ (_ : Bool) = true) ⟨rfl, rfl⟩ ?_
      | refine And.intro (a := (_ : Bool) = true ∧ (_ : List _) = []) ⟨rfl, rfl⟩ ?_
      | refine And.intro (a := IR _ _) (And.intro (by omega) (by omega)) ?_
      | refine And.intro (a := (0 : Int) ≤ _ ∧ _ < _) (And.intro (by omega) (by omega)) ?_
      | refine And.intro (a := (_ : Bool) = true) (by simp only [Nat.beq_refl]; rfl) ?_
      | refine And.intro (a := ((_ : Bool) = true → 1 ≤ _) ∧ _ ≤ 9223372036854775807 ∧ _ ≤ 140737488355328) ⟨fun h => (by first | omega | cases h), by omega, by omega⟩ ?_
      | refine splT ?_
      | refine splF ?_
      | refine splNot ?_
      | (refine splIn (fun hc => ?_) (fun hc => ?_) <;> first | (exfalso; omega) | (exfalso; dsimp only at hc; omega) | skip)
      | (refine splD (fun hc => ?_) (fun hc => ?_) <;> first | (exfalso; omega) | (exfalso; dsimp only at hc; omega) | skip)
      | (refine splE (fun hc => ?_) (fun hc => ?_) <;> first | (exfalso; omega) | (exfalso; dsimp only at hc; omega) | skip)
      | (refine splNE (fun hc => ?_) (fun hc => ?_) <;> first | (exfalso; omega) | (exfalso; dsimp only at hc; omega) | skip)
      | refine Exists.intro (α := Value) (iv n) ⟨cv16 n hn, ?_⟩
      | refine remE (by omega) (by omega) ?_
  exact ⟨fun β => rfl, fun w' h => h⟩
theorem size_ok (n : Int) (w : World) (h : -4000000000000 ≤ n ∧ n ≤ 4000000000000) :
    Calls Try.prog 30 #[iv n] w fun e w' => e = .returned (iv (imax n (-n))) ∧ Below w.heap.size w w' := by
  refine calls_val env mixed Try.func30 has30 Try.ntmps30 [iv n] (by simp) ?_
  repeat'
    conv => whnf
    first
      | refine And.intro (a := drawB _ = true) (by kernel_rfl) ?_
      | refine And.intro (a := (_ : Bool) = true) rfl ?_
      | refine And.intro (a := (_ : Bool) = true ∧ (_ : Bool) = true) ⟨rfl, rfl⟩ ?_
      | refine And.intro (a := (_ : Bool) = true ∧ (_ : List _) = []) ⟨rfl, rfl⟩ ?_
      | refine And.intro (a := IR _ _) (And.intro (by omega) (by omega)) ?_
      | refine And.intro (a := (0 : Int) ≤ _ ∧ _ < _) (And.intro (by omega) (by omega)) ?_
      | refine And.intro (a := (_ : Bool) = true) (by simp only [Nat.beq_refl]; rfl) ?_
      | refine And.intro (a := ((_ : Bool) = true → 1 ≤ _) ∧ _ ≤ 9223372036854775807 ∧ _ ≤ 140737488355328) ⟨fun h => (by first | omega | cases h), by omega, by omega⟩ ?_
      | refine splT ?_
      | refine splF ?_
      | refine splNot ?_
      | (refine splIn (fun hc => ?_) (fun hc => ?_) <;> first | (exfalso; omega) | (exfalso; dsimp only at hc; omega) | skip)
      | (refine splD (fun hc => ?_) (fun hc => ?_) <;> first | (exfalso; omega) | (exfalso; dsimp only at hc; omega) | skip)
      | (refine splE (fun hc => ?_) (fun hc => ?_) <;> first | (exfalso; omega) | (exfalso; dsimp only at hc; omega) | skip)
      | (refine splNE (fun hc => ?_) (fun hc => ?_) <;> first | (exfalso; omega) | (exfalso; dsimp only at hc; omega) | skip)
  exact ⟨fun β => rfl, fun w' h => h⟩
/-- A range within another one, by words. -/
def nar (r : Rg) (a b : Int) : Rg := ⟨r.lo + a % (r.hi - r.lo + 1), (r.lo + a % (r.hi - r.lo + 1)) + b % (r.hi - (r.lo + a % (r.hi - r.lo + 1)) + 1)⟩
set_option maxRecDepth 100000 in
theorem narrow_ok (r : Rg) (a b : Int) (w : World) (h : r.lo ≤ r.hi) (h0 : -10000000 ≤ r.lo) (h1 : r.hi ≤ 10000000) (ha : 0 ≤ a ∧ a ≤ 255) (hb : 0 ≤ b ∧ b ≤ 255) :
    Calls Try.prog 31 #[.agg #[iv r.lo, iv r.hi], .int .u8 a, .int .u8 b] w fun e w' => e = .returned (.agg #[iv (nar r a b).lo, iv (nar r a b).hi]) ∧ Below w.heap.size w w' := by
  have hc := pick_bd (w := a) h
  have hd := pick_bd (lo := r.lo + a % (r.hi - r.lo + 1)) (hi := r.hi) (w := b) (by omega)
  refine calls_val env mixed Try.func31 has31 Try.ntmps31 [.agg #[iv r.lo, iv r.hi], .int .u8 a, .int .u8 b] (by simp) ?_
  repeat'
    conv => whnf
    first
      | refine And.intro (a := drawB _ = true) (by kernel_rfl) ?_
      | refine And.intro (a := (_ : Bool) = true) rfl ?_
      | refine And.intro (a := (_ : Bool) = true ∧ (_ : Bool) = true) ⟨rfl, rfl⟩ ?_
      | refine And.intro (a := (_ : Bool) = true ∧ (_ : List _) = []) ⟨rfl, rfl⟩ ?_
      | refine And.intro (a := IR _ _) (And.intro (by omega) (by omega)) ?_
      | refine And.intro (a := (0 : Int) ≤ _ ∧ _ < _) (And.intro (by omega) (by omega)) ?_
      | refine And.intro (a := (_ : Bool) = true) (by simp only [Nat.beq_refl]; rfl) ?_
      | refine And.intro (a := ((_ : Bool) = true → 1 ≤ _) ∧ _ ≤ 9223372036854775807 ∧ _ ≤ 140737488355328) ⟨fun h => (by first | omega | cases h), by omega, by omega⟩ ?_
      | refine splT ?_
      | refine splF ?_
      | refine splNot ?_
      | (refine splIn (fun hc => ?_) (fun hc => ?_) <;> first | (exfalso; omega) | (exfalso; dsimp only at hc; omega) | skip)
      | (refine splD (fun hc => ?_) (fun hc => ?_) <;> first | (exfalso; omega) | (exfalso; dsimp only at hc; omega) | skip)
      | (refine splE (fun hc => ?_) (fun hc => ?_) <;> first | (exfalso; omega) | (exfalso; dsimp only at hc; omega) | skip)
      | (refine splNE (fun hc => ?_) (fun hc => ?_) <;> first | (exfalso; omega) | (exfalso; dsimp only at hc; omega) | skip)
      | refine Exists.intro (α := Value) (iv a) ⟨cv8 a ha, ?_⟩
      | refine Exists.intro (α := Value) (iv b) ⟨cv8 b hb, ?_⟩
      | refine remE (by omega) (by omega) ?_
  exact ⟨fun β => rfl, fun w' h => h⟩

theorem catL_mem {g : Fg} {bs : List Bx} {r x : Int} : ∀ {m : Nat}, x ∈ catL g bs r m → ∃ k : Nat, k < m ∧ x = r + g.le + k ∧ sureB g bs r k = true
  | 0, h => by simp [catL] at h
  | m + 1, h => by
    rw [catL, List.mem_append] at h
    rcases h with h | h
    · obtain ⟨k, h1, h2⟩ := catL_mem h
      exact ⟨k, by omega, h2⟩
    · split at h
      · rw [List.mem_singleton] at h
        exact ⟨m, by omega, h, ‹_›⟩
      · simp at h
theorem hnd_cyc (g : Fg) (bs : List Bx) (t : Int) : hnd g bs (t + g.n) = hnd g bs t := by
  unfold hnd
  rw [Int.add_emod_right]
theorem catL_cyc (g : Fg) (bs : List Bx) (r : Int) : ∀ k, catL g bs (r + g.n) k = (catL g bs r k).map (· + (g.n : Int))
  | 0 => rfl
  | k + 1 => by
    have hs : sureB g bs (r + g.n) k = sureB g bs r k := by
      unfold sureB
      rw [show r + (g.n : Int) + g.le + k = r + g.le + k + g.n from by omega, hnd_cyc]
    rw [catL, catL, catL_cyc g bs r k, List.map_append, hs]
    congr 1
    split
    · simp; omega
    · rfl

set_option maxRecDepth 100000 in
theorem FlightCycles_ok (g : Fg) (bs : List Bx) (rel : Int) (w : World) (hrd : Rd 4 Bx.cs (.slice g.o g.n g.c) bs w) (hrel : 0 ≤ rel ∧ rel ≤ 65535) :
    Calls Try.prog 6 #[g.v, .int .u16 rel] w fun e w' => e = .returned (.bool true) ∧ Below w.heap.size w w' := by
  have hn : g.n = bs.length := hrd.len
  refine calls_val env mixed Try.func6 has6 Try.ntmps6 [g.v, .int .u16 rel] (by simp) ?_
  by_cases hfew : (g.n : Int) ≤ 700
  case neg =>
    repeat'
      conv => whnf
      first
        | refine And.intro (a := drawB _ = true) (by kernel_rfl) ?_
        | refine And.intro (a := (_ : Bool) = true) rfl ?_
        | refine And.intro (a := (_ : Bool) = true ∧ (_ : Bool) = true) ⟨rfl, rfl⟩ ?_
        | refine And.intro (a := (_ : Bool) = true ∧ (_ : List _) = []) ⟨rfl, rfl⟩ ?_
        | refine And.intro (a := IR _ _) (And.intro (by omega) (by omega)) ?_
        | refine And.intro (a := (0 : Int) ≤ _ ∧ _ < _) (And.intro (by omega) (by omega)) ?_
        | refine And.intro (a := (_ : Bool) = true) (by simp only [Nat.beq_refl]; rfl) ?_
        | refine And.intro (a := ((_ : Bool) = true → 1 ≤ _) ∧ _ ≤ 9223372036854775807 ∧ _ ≤ 140737488355328) ⟨fun h => (by first | omega | cases h), by omega, by omega⟩ ?_
        | refine splT ?_
        | refine splF ?_
        | refine splNot ?_
        | (refine splIn (fun hc => ?_) (fun hc => ?_) <;> first | (exfalso; omega) | (exfalso; dsimp only at hc; omega) | skip)
        | (refine splD (fun hc => ?_) (fun hc => ?_) <;> first | (exfalso; omega) | (exfalso; dsimp only at hc; omega) | skip)
        | (refine splE (fun hc => ?_) (fun hc => ?_) <;> first | (exfalso; omega) | (exfalso; dsimp only at hc; omega) | skip)
        | (refine splNE (fun hc => ?_) (fun hc => ?_) <;> first | (exfalso; omega) | (exfalso; dsimp only at hc; omega) | skip)
        | ((with_reducible show CallEv _ _ 23 _ _ _ _ _); refine callE (k := 23) (fun β w' hbw => few_ok g _) ?_)
        | ((with_reducible show CallEv _ _ 20 _ _ _ _ _); refine callE (k := 20) (fun β w' hbw => wakes_ok _) ?_)
    exact ⟨fun β => rfl, fun w' h => h⟩
  have hl : bs.length ≤ 1000000 := by omega
  by_cases hg : g.ok bs = true
  case neg =>
    have hR : ∀ w', Below w.heap.size w w' → Calls Try.prog 26 #[g.v] w' fun e w'' => e = .returned (.bool false) ∧ Below w'.heap.size w' w'' := fun w' hb => by
      have := Right_ok g bs w' (hrd.below hb) hl
      rwa [Bool.eq_false_iff.2 hg] at this
    repeat'
      conv => whnf
      first
        | refine And.intro (a := drawB _ = true) (by kernel_rfl) ?_
        | refine And.intro (a := (_ : Bool) = true) rfl ?_
        | refine And.intro (a := (_ : Bool) = true ∧ (_ : Bool) = true) ⟨rfl, rfl⟩ ?_
        | refine And.intro (a := (_ : Bool) = true ∧ (_ : List _) = []) ⟨rfl, rfl⟩ ?_
        | refine And.intro (a := IR _ _) (And.intro (by omega) (by omega)) ?_
        | refine And.intro (a := (0 : Int) ≤ _ ∧ _ < _) (And.intro (by omega) (by omega)) ?_
        | refine And.intro (a := (_ : Bool) = true) (by simp only [Nat.beq_refl]; rfl) ?_
        | refine And.intro (a := ((_ : Bool) = true → 1 ≤ _) ∧ _ ≤ 9223372036854775807 ∧ _ ≤ 140737488355328) ⟨fun h => (by first | omega | cases h), by omega, by omega⟩ ?_
        | refine splT ?_
        | refine splF ?_
        | refine splNot ?_
        | (refine splIn (fun hc => ?_) (fun hc => ?_) <;> first | (exfalso; omega) | (exfalso; dsimp only at hc; omega) | skip)
        | (refine splD (fun hc => ?_) (fun hc => ?_) <;> first | (exfalso; omega) | (exfalso; dsimp only at hc; omega) | skip)
        | (refine splE (fun hc => ?_) (fun hc => ?_) <;> first | (exfalso; omega) | (exfalso; dsimp only at hc; omega) | skip)
        | (refine splNE (fun hc => ?_) (fun hc => ?_) <;> first | (exfalso; omega) | (exfalso; dsimp only at hc; omega) | skip)
        | ((with_reducible show CallEv _ _ 23 _ _ _ _ _); refine callE (k := 23) (fun β w' hbw => few_ok g _) ?_)
        | ((with_reducible show CallEv _ _ 26 _ _ _ _ _); refine callE (k := 26) (fun β w' hbw => hR _ hbw) ?_)
        | ((with_reducible show CallEv _ _ 20 _ _ _ _ _); refine callE (k := 20) (fun β w' hbw => wakes_ok _) ?_)
    exact ⟨fun β => rfl, fun w' h => h⟩
  have hR : ∀ w', Below w.heap.size w w' → Calls Try.prog 26 #[g.v] w' fun e w'' => e = .returned (.bool true) ∧ Below w'.heap.size w' w'' := fun w' hb => by
    have := Right_ok g bs w' (hrd.below hb) hl
    rwa [hg] at this
  have hg' := Fg.ok_iff.1 hg
  have m0 := Int.emod_nonneg rel (b := 6001 - (g.n : Int)) (by omega)
  have m1 := Int.emod_lt_of_pos rel (b := 6001 - (g.n : Int)) (by omega)
  have hrr : ∃ r, rel % (6001 - (g.n : Int)) = r := ⟨_, rfl⟩
  obtain ⟨r, hr⟩ := hrr
  rw [hr] at m0 m1
  have hlen := catL_len g bs r g.k
  have hkk : (g.k : Int) ≤ 301 := by unfold Fg.k; omega
  have hcyc := catL_cyc g bs r g.k
  have c1 := fun (y : Option Addr × Nat) w' h => fam_ys (F := fun z => .tuple #[sV (catL g bs r g.k).length z, iv 0]) (Cat_yes g bs y r w' h hl hg (by omega))
  have c2 := fun (y : Option Addr × Nat) w' h => fam_ys (F := fun z => .tuple #[sV (catL g bs (r + g.n) g.k).length z, iv 0]) (Cat_yes g bs y (r + g.n) w' h hl hg (by omega))
  rw [hcyc] at c2
  have hbd : ∀ x ∈ catL g bs r g.k, 0 ≤ x ∧ x ≤ 100000 := fun x hx => by
    obtain ⟨k, h1, h2, _⟩ := catL_mem hx
    omega
  have hL2 : ∀ (k : Nat) (a : Int), (catL g bs r g.k)[k]? = some a → ((catL g bs r g.k).map (· + (g.n : Int)))[k]? = some (a + g.n) := fun k a h => by
    rw [List.getElem?_map, h]; rfl
  have hL1 : ((catL g bs r g.k).map (· + (g.n : Int))).length = (catL g bs r g.k).length := List.length_map _
  generalize (catL g bs r g.k).map (· + (g.n : Int)) = L2 at *
  generalize catL g bs r g.k = L at *
  repeat'
    conv => whnf
    first
      | refine And.intro (a := drawB _ = true) (by kernel_rfl) ?_
      | refine And.intro (a := (_ : Bool) = true) rfl ?_
      | refine And.intro (a := (_ : Bool) = true ∧ (_ : Bool) = true) ⟨rfl, rfl⟩ ?_
      | refine And.intro (a := (_ : Bool) = true ∧ (_ : List _) = []) ⟨rfl, rfl⟩ ?_
      | refine And.intro (a := IR _ _) (And.intro (by omega) (by omega)) ?_
      | refine And.intro (a := (0 : Int) ≤ _ ∧ _ < _) (And.intro (by omega) (by omega)) ?_
      | refine And.intro (a := (_ : Bool) = true) (by simp only [Nat.beq_refl]; rfl) ?_
      | refine And.intro (a := ((_ : Bool) = true → 1 ≤ _) ∧ _ ≤ 9223372036854775807 ∧ _ ≤ 140737488355328) ⟨fun h => (by first | omega | cases h), by omega, by omega⟩ ?_
      | refine splT ?_
      | refine splF ?_
      | refine splNot ?_
      | (refine splIn (fun hc => ?_) (fun hc => ?_) <;> first | (exfalso; omega) | (exfalso; dsimp only at hc; omega) | skip)
      | (refine splD (fun hc => ?_) (fun hc => ?_) <;> first | (exfalso; omega) | (exfalso; dsimp only at hc; omega) | skip)
      | (refine splE (fun hc => ?_) (fun hc => ?_) <;> first | (exfalso; omega) | (exfalso; dsimp only at hc; omega) | skip)
      | (refine splNE (fun hc => ?_) (fun hc => ?_) <;> first | (exfalso; omega) | (exfalso; dsimp only at hc; omega) | skip)
      | ((with_reducible show CallEv _ _ 23 _ _ _ _ _); refine callE (k := 23) (fun β w' hbw => few_ok g _) ?_)
      | ((with_reducible show CallEv _ _ 26 _ _ _ _ _); refine callE (k := 26) (fun β w' hbw => hR _ hbw) ?_)
      | refine Exists.intro (α := Value) (iv rel) ⟨cv16 rel hrel, ?_⟩
      | refine remE (by omega) (by omega) ?_; rw [hr]
      | ((with_reducible show CallEv _ _ 25 _ _ _ _ _); refine callF [] (fun y => (g.at y).v) (fun y => Rd 4 Bx.cs (.slice y.1 g.n y.2) bs) (fun β w' _ hbw => Flight_ok g bs w' (hrd.below (by first | exact hbw | exact hbw.1 | exact hbw.1.1 | exact hbw.1.1.1 | exact hbw.1.1.1.1 | exact hbw.1.1.1.1.1 | exact hbw.1.1.1.1.1.1 | exact hbw.1.1.1.1.1.1.1)) hl) ?_; intro y)
      | ((with_reducible show CallEv _ _ 24 [_, .v (iv r)] _ _ _ _); refine callF [] (fun z : YS L => .tuple #[sV L.length z.1, iv 0]) (fun z => Rd 1 iF (sV L.length z.1) L) (fun β w' _ hbw => c1 _ w' hbw.2) ?_; rintro ⟨z, hz⟩)
      | ((with_reducible show CallEv _ _ 24 [_, .v (iv (r + (g.n : Int)))] _ _ _ _); refine callF [] (fun z : YS L2 => .tuple #[sV L2.length z.1, iv 0]) (fun z => Rd 1 iF (sV L2.length z.1) L2) (fun β w' _ hbw => c2 _ w' hbw.2) ?_; rintro ⟨u, hu⟩)
  refine loopE (fun k : Nat => [(5, .v (iv g.n)), (7, .v (sV L.length z)), (9, .v (sV L2.length u)), (11, .v (iv k))]) (fun _ => []) (fun k => k ≤ L.length) (fun k => L.length - k) 0 (Nat.zero_le _) ⟨rfl, rfl, rfl, rfl, trivial⟩ trivial (fun _ => ⟨rfl, rfl⟩) ?_
  intro k hk
  rcases Nat.lt_or_ge k L.length with hkl | hkl
  · obtain ⟨x, hx⟩ : ∃ x, L[k]? = some x := ⟨_, List.getElem?_eq_getElem hkl⟩
    have hxb := hbd x (List.mem_of_getElem? hx)
    have hx2 := hL2 k x hx
    obtain ⟨z1, z2⟩ := z
    obtain ⟨u1, u2⟩ := u
    obtain ⟨az, rfl⟩ : ∃ ad, z1 = some ad := hz.resolve_left (fun h => by rw [h] at hx; simp at hx)
    obtain ⟨au, rfl⟩ : ∃ ad, u1 = some ad := hu.resolve_left (fun h => by rw [h] at hx2; simp at hx2)
    repeat'
      conv => whnf
      first
        | refine And.intro (a := drawB _ = true) (by kernel_rfl) ?_
        | refine And.intro (a := (_ : Bool) = true) rfl ?_
        | refine And.intro (a := (_ : Bool) = true ∧ (_ : Bool) = true) ⟨rfl, rfl⟩ ?_
        | refine And.intro (a := (_ : Bool) = true ∧ (_ : List _) = []) ⟨rfl, rfl⟩ ?_
        | refine And.intro (a := IR _ _) (And.intro (by omega) (by omega)) ?_
        | refine And.intro (a := (0 : Int) ≤ _ ∧ _ < _) (And.intro (by omega) (by omega)) ?_
        | refine And.intro (a := (_ : Bool) = true) (by simp only [Nat.beq_refl]; rfl) ?_
        | refine And.intro (a := ((_ : Bool) = true → 1 ≤ _) ∧ _ ≤ 9223372036854775807 ∧ _ ≤ 140737488355328) ⟨fun h => (by first | omega | cases h), by omega, by omega⟩ ?_
        | refine splT ?_
        | refine splF ?_
        | refine splNot ?_
        | (refine splIn (fun hc => ?_) (fun hc => ?_) <;> first | (exfalso; omega) | (exfalso; dsimp only at hc; omega) | skip)
        | (refine splD (fun hc => ?_) (fun hc => ?_) <;> first | (exfalso; omega) | (exfalso; dsimp only at hc; omega) | skip)
        | (refine splE (fun hc => ?_) (fun hc => ?_) <;> first | (exfalso; omega) | (exfalso; dsimp only at hc; omega) | skip)
        | (refine splNE (fun hc => ?_) (fun hc => ?_) <;> first | (exfalso; omega) | (exfalso; dsimp only at hc; omega) | skip)
        | refine Exists.intro (α := List Value) [iv x] ⟨⟨rfl, fun w' hw' => rd_ati hw'.1.1.2 hx⟩, ?_⟩
        | refine Exists.intro (α := List Value) [iv (x + g.n)] ⟨⟨rfl, fun w' hw' => rd_ati hw'.2 hx2⟩, ?_⟩
    exact ⟨k + 1, by omega, by omega, Ent.weak rfl ⟨rfl, rfl, rfl, rfl, trivial⟩ trivial fun _ h => h⟩
  · skip
    repeat'
      conv => whnf
      first
        | refine And.intro (a := drawB _ = true) (by kernel_rfl) ?_
        | refine And.intro (a := (_ : Bool) = true) rfl ?_
        | refine And.intro (a := (_ : Bool) = true ∧ (_ : Bool) = true) ⟨rfl, rfl⟩ ?_
        | refine And.intro (a := (_ : Bool) = true ∧ (_ : List _) = []) ⟨rfl, rfl⟩ ?_
        | refine And.intro (a := IR _ _) (And.intro (by omega) (by omega)) ?_
        | refine And.intro (a := (0 : Int) ≤ _ ∧ _ < _) (And.intro (by omega) (by omega)) ?_
        | refine And.intro (a := (_ : Bool) = true) (by simp only [Nat.beq_refl]; rfl) ?_
        | refine And.intro (a := ((_ : Bool) = true → 1 ≤ _) ∧ _ ≤ 9223372036854775807 ∧ _ ≤ 140737488355328) ⟨fun h => (by first | omega | cases h), by omega, by omega⟩ ?_
        | refine splT ?_
        | refine splF ?_
        | refine splNot ?_
        | (refine splIn (fun hc => ?_) (fun hc => ?_) <;> first | (exfalso; omega) | (exfalso; dsimp only at hc; omega) | skip)
        | (refine splD (fun hc => ?_) (fun hc => ?_) <;> first | (exfalso; omega) | (exfalso; dsimp only at hc; omega) | skip)
        | (refine splE (fun hc => ?_) (fun hc => ?_) <;> first | (exfalso; omega) | (exfalso; dsimp only at hc; omega) | skip)
        | (refine splNE (fun hc => ?_) (fun hc => ?_) <;> first | (exfalso; omega) | (exfalso; dsimp only at hc; omega) | skip)
        | ((with_reducible show CallEv _ _ 20 _ _ _ _ _); refine callE (k := 20) (fun β w' hbw => wakes_ok _) ?_)
    exact ⟨fun β => rfl, fun w' h => (by first | exact h | exact h.1 | exact h.1.1 | exact h.1.1.1 | exact h.1.1.1.1 | exact h.1.1.1.1.1 | exact h.1.1.1.1.1.1 | exact h.1.1.1.1.1.1.1)⟩
end Go.Proofs.Ytlehjapeomallaa
