/- The law of proofs of windows answers true at every flight, window and numbers handed in. -/
import Derived.Test.YtlehjapeomallaaVG
import Derived.Test.YtlehjapeomallaaTn
namespace Go.Proofs.Ytlehjapeomallaa.V
open Go Tx Go.RowKit
set_option linter.unusedSimpArgs false
set_option linter.unusedVariables false

theorem Rd.ext {α : Type} {sz : Nat} {f : α → List Value} (hf : ∀ x, (f x).length = sz) {ad : Addr} {n c : Nat} {L : List α} {w : World} (h : Rd sz f (.slice (some ad) n c) L w) : ∀ j v, (L.flatMap f)[j]? = some v → w.cell? (ad.add j) = some v := by
  have key : ∀ (L : List α) (ad : Addr), (∀ k b, L[k]? = some b → ∀ j v, (f b)[j]? = some v → w.cell? ((ad.add (k * sz)).add j) = some v) → ∀ j v, (L.flatMap f)[j]? = some v → w.cell? (ad.add j) = some v := by
    intro L
    induction L with
    | nil => intro ad _ j v h; simp at h
    | cons a L ih =>
      intro ad hL j v h
      rw [List.flatMap_cons, List.getElem?_append, hf] at h
      split at h
      · have := hL 0 a rfl j v h
        rwa [Addr.add_add, Nat.zero_mul, Nat.zero_add] at this
      · rename_i hj
        have := ih (ad.add sz) (fun k b hk j v hv => by
          have := hL (k + 1) b hk j v hv
          rwa [Nat.succ_mul, Nat.add_comm (k * sz) sz, ← Addr.add_add] at this) (j - sz) v h
        rwa [Addr.add_add, show sz + (j - sz) = j from by omega] at this
  exact key L ad fun k b hk => rd_at h hk

theorem prv_at (g : Fg) (bs : List Bx) (y : Option Addr × Nat) (a b : Int) (L : List Int) : prv (g.at y) bs a b L = prv g bs a b L := by
  have : ∀ (L : List Int) (i : Nat), prB (g.at y) bs a L i = prB g bs a L i := by
    intro L
    induction L with
    | nil => intro i; rfl
    | cons n L ih => intro i; rw [prB, prB, ih]; rfl
  unfold prv
  rw [this]
  rfl
theorem one1 (L : List Int) : ∀ v ∈ L.flatMap iF, v.oneCell' = true := by
  intro v hv
  obtain ⟨n, _, h⟩ := List.mem_flatMap.1 hv
  have : v = iv n := by simpa using h
  subst this; rfl
theorem lenF (L : List Int) : (L.flatMap iF).length = L.length := by
  induction L with
  | nil => rfl
  | cons a L ih => simp [List.flatMap_cons, ih]
theorem setF {L : List Int} {k : Nat} (hk : k < L.length) (n : Int) : (L.flatMap iF).take k ++ ([iv n] ++ (L.flatMap iF).drop (k + 1)) = (L.set k n).flatMap iF := by
  induction L generalizing k with
  | nil => simp at hk
  | cons a L ih =>
    cases k with
    | zero => simp [List.flatMap_cons]
    | succ k =>
      simp only [List.length_cons, Nat.add_lt_add_iff_right] at hk
      have := ih hk
      simp only [List.flatMap_cons, List.set_cons_succ, List.cons_append, List.nil_append, List.take_succ_cons, List.drop_succ_cons]
      rw [← this]
      simp
theorem atF {L : List Int} {k : Nat} {n : Int} (h : L[k]? = some n) : (L.flatMap iF)[k]? = some (iv n) := by
  induction L generalizing k with
  | nil => simp at h
  | cons a L ih =>
    cases k with
    | zero => simp at h; subst h; rfl
    | succ k => simpa [List.flatMap_cons] using ih (by simpa using h)

abbrev gss' (g : Fg) : List SV := [.v (iv g.f.a.x.lo), .v (iv g.f.a.x.hi), .v (iv g.f.a.z.lo), .v (iv g.f.a.z.hi), .v (iv g.f.s.x.lo), .v (iv g.f.s.x.hi), .v (iv g.f.s.z.lo), .v (iv g.f.s.z.hi), .v (iv g.f.m), .v (.slice g.o g.n g.c), .v (iv g.re), .v (iv g.so), .v (iv g.be), .v (iv g.le), .v (iv g.mo)]
/-- The list of the law: nil, empty, or an own row. -/
def s13 (L : List Int) : Nat → SV
  | 0 => .v (.slice none 0 0)
  | 1 => .sl 2 0 0 0
  | _ => .os 3 4 L.length
def b13 (L : List Int) : Nat → List (Nat × Blk)
  | 0 => []
  | 1 => [(2, .cells [] 3)]
  | _ => [(3, .own 4 L.length 1 (L.flatMap iF) 3)]
def R12 (g : Fg) (bs : List Bx) (a b : Int) : Bool := g.ok bs && (Sx.inB a 0 6000 && Sx.inB b a 6000)
theorem R12_ask {g : Fg} {bs : List Bx} {a b : Int} : R12 g bs a b = decide (askE g bs a b = 0) := by
  unfold R12 askE
  by_cases hg : g.ok bs = true
  · by_cases h : (0 ≤ a ∧ a ≤ b) ∧ b ≤ 6000
    · simp only [hg, if_true, if_pos h, Bool.true_and]
      rw [Sx.inB_iff.2 ⟨h.1.1, by omega⟩, Sx.inB_iff.2 ⟨h.1.2, h.2⟩]; rfl
    · simp only [hg, if_true, if_neg h, Bool.true_and]
      cases h1 : Sx.inB a 0 6000
      · rfl
      · cases h2 : Sx.inB b a 6000
        · rfl
        · rw [Sx.inB_iff] at h1 h2; omega
  · simp [hg]
/-- A number of the list is good just if it is a tick at which a catch is sure. -/
theorem sure_n (g : Fg) (bs : List Bx) (a n : Int) (k : Nat) (h0 : 0 ≤ g.le) (h1 : g.le ≤ g.mo) (h3 : g.mo ≤ 300) (ha : 0 ≤ a + k ∧ a + k ≤ 6000) :
    (decide (0 ≤ n - a - k - g.le ∧ n - a - k - g.le < g.k) && sureB g bs (a + k) (n - a - k - g.le)) = (Sx.inB n 0 10000 && sureAt g bs (a + k) n) := by
  have hkk : (g.k : Int) = g.mo - g.le + 1 := by unfold Fg.k; omega
  unfold sureAt
  rw [show n - (a + k) - g.le = n - a - k - g.le from by omega]
  by_cases h : 0 ≤ n - a - k - g.le ∧ n - a - k - g.le < g.k
  · rw [decide_eq_true h, Sx.inB_iff.2 (show 0 ≤ n ∧ n ≤ 10000 by omega), Sx.inB_iff.2 (show g.le ≤ n - (a + k) ∧ n - (a + k) ≤ g.mo by omega)]
    simp
  · rw [decide_eq_false h]
    cases h2 : Sx.inB (n - (a + k)) g.le g.mo
    · simp
    · rw [Sx.inB_iff] at h2; omega


set_option maxRecDepth 100000 in
theorem finN (g : Fg) (bs : List Bx) (a b : Int)  (w : World) (hrd : Rd 4 Bx.cs (.slice g.o g.n g.c) bs w) (hl : bs.length ≤ 1000000) (LL : List Int) (hLL : LL = []) (hL : LL.length ≤ 1000000) {Φ : Exit → Sg → Prop}
    (hB : VC Try.prog (rest 7 body12) ⟨152, [(6, .ptr 0 0), (7, .ptr 1 0), (13, .v (.slice none 0 0)), (17, .v (.bool (prv g bs a b LL)))], [(0, .cells (gss' g) 41), (1, .cells [.v (iv a), .v (iv b)] 94)], 5, Below w.heap.size w, z0⟩ Φ) :
    VC Try.prog (rest 5 body12) ⟨152, [(6, .ptr 0 0), (7, .ptr 1 0), (13, .v (.slice none 0 0)), (14, .v (.bool (R12 g bs a b)))], [(0, .cells (gss' g) 41), (1, .cells [.v (iv a), .v (iv b)] 94)], 5, Below w.heap.size w, z0⟩ Φ := by
  have hprv : prv g bs a b LL = ((R12 g bs a b && decide ((LL.length : Int) = b - a + 1)) && prB g bs a LL 0) := by rw [prv, R12_ask]
  have hlen : LL.length = 0 := by subst hLL; rfl
  refine VC.cutE env mixed 2 5 (fun _ : Unit => [(6, .ptr 0 0), (7, .ptr 1 0), (13, .v (.slice none 0 0)), (17, .v (.bool (prv g bs a b LL)))]) (fun _ => [(0, .cells (gss' g) 41), (1, .cells [.v (iv a), .v (iv b)] 94)]) (fun _ => True) (fun _ _ => ⟨rfl, rfl⟩) ?_ (fun _ _ => hB)
  have hab : R12 g bs a b = true → (0 ≤ a ∧ a ≤ 6000) ∧ (a ≤ b ∧ b ≤ 6000) := fun h => by
    simp only [R12, Bool.and_eq_true, Sx.inB_iff] at h
    omega
  have hgo : R12 g bs a b = true → g.ok bs = true := fun h => by
    simp only [R12, Bool.and_eq_true] at h
    exact h.1
  have hround : ∀ (k : Nat) (wt : Bool), k ≤ LL.length → (wt = true → R12 g bs a b = true ∧ (LL.length : Int) = b - a + 1 ∧ prB g bs a (LL.drop k) k = prB g bs a LL 0) → (wt = false → prv g bs a b LL = false) → (wt = true → k = LL.length → prv g bs a b LL = true) := fun k wt hk h1 h2 hw hk' => by
    obtain ⟨q1, q2, q3⟩ := h1 hw
    rw [hprv, q1, decide_eq_true q2, ← q3, hk', List.drop_of_length_le (Nat.le_refl _)]
    rfl
  by_cases hR : R12 g bs a b = true
  case pos =>
    have hab := hab hR
    have hg := hgo hR
    have hg' := Fg.ok_iff.1 hg
    rw [hR]
    repeat'
      conv => whnf
      first
        | refine And.intro (a := drawB _ = true) (by kernel_rfl) ?_
        | refine And.intro (a := (_ : Bool) = true) rfl ?_
        | refine And.intro (a := (_ : Bool) = true ∧ (_ : Bool) = true) ⟨rfl, rfl⟩ ?_
        | refine And.intro (a := (_ : Bool) = true ∧ (_ : List _) = []) ⟨rfl, rfl⟩ ?_
        | refine And.intro (a := IR _ _) (And.intro (by omega) (by omega)) ?_
        | refine wrapE (And.intro (by omega) (by omega)) ?_
        | refine And.intro (a := (0 : Int) ≤ _ ∧ _ < _) (And.intro (by omega) (by omega)) ?_
        | refine And.intro (a := (_ : Bool) = true) (by simp only [Nat.beq_refl]; rfl) ?_
        | refine And.intro (a := ((_ : Bool) = true → 1 ≤ _) ∧ _ ≤ 9223372036854775807 ∧ _ ≤ 140737488355328) ⟨fun h => (by first | omega | cases h), by omega, by omega⟩ ?_
        | refine splT ?_
        | refine splF ?_
        | refine splNot ?_
        | (refine splIn (fun hc => ?_) (fun hc => ?_) <;> first | (exfalso; omega) | (exfalso; dsimp only at hc; omega) | skip)
        | (refine splD (fun hc => ?_) (fun hc => ?_) <;> first | (exfalso; omega) | (exfalso; dsimp only at hc; omega) | skip)
        | (refine splE (fun hc => ?_) (fun hc => ?_) <;> first | (exfalso; omega) | (exfalso; dsimp only at hc; omega) | skip)
        | (refine splNE (fun hc => ?_) (fun hc => ?_) <;> first | (exfalso; omega) | (exfalso; dsimp only at hc; omega) | skip)
    refine loopE (fun x : Nat × Bool => [(6, .ptr 0 0), (7, .ptr 1 0), (13, .v (.slice none 0 0)), (17, .v (.bool x.2)), (18, .v (iv x.1))]) (fun _ => [(0, .cells (gss' g) 41), (1, .cells [.v (iv a), .v (iv b)] 94)]) (fun x => x.1 ≤ LL.length ∧ (x.2 = true → R12 g bs a b = true ∧ (LL.length : Int) = b - a + 1 ∧ prB g bs a (LL.drop x.1) x.1 = prB g bs a LL 0) ∧ (x.2 = false → prv g bs a b LL = false)) (fun x => LL.length - x.1) (0, (((0 : Nat) : Int) == b - a + 1)) ⟨Nat.zero_le _, ?_, ?_⟩ ⟨rfl, rfl, rfl, rfl, rfl, trivial⟩ ⟨rfl, rfl, trivial⟩ (fun _ => ⟨rfl, rfl⟩) ?_
    · intro h
      have h : (((0 : Nat) : Int) == b - a + 1) = true := h
      exact ⟨hR, by rw [hlen]; simpa using h, rfl⟩
    · intro h
      have h : (((0 : Nat) : Int) == b - a + 1) = false := h
      rw [hprv, decide_eq_false (by rw [hlen]; simpa using h)]
      simp
    rintro ⟨k, wt⟩ ⟨hk, h1, h2⟩
    dsimp only at hk h1 h2
    have hr := hround k wt hk h1 h2
    cases wt with
    | false =>
      have hv := h2 rfl
      repeat'
        conv => whnf
        first
          | refine And.intro (a := drawB _ = true) (by kernel_rfl) ?_
          | refine And.intro (a := (_ : Bool) = true) rfl ?_
          | refine And.intro (a := (_ : Bool) = true ∧ (_ : Bool) = true) ⟨rfl, rfl⟩ ?_
          | refine And.intro (a := (_ : Bool) = true ∧ (_ : List _) = []) ⟨rfl, rfl⟩ ?_
          | refine And.intro (a := IR _ _) (And.intro (by omega) (by omega)) ?_
          | refine wrapE (And.intro (by omega) (by omega)) ?_
          | refine And.intro (a := (0 : Int) ≤ _ ∧ _ < _) (And.intro (by omega) (by omega)) ?_
          | refine And.intro (a := (_ : Bool) = true) (by simp only [Nat.beq_refl]; rfl) ?_
          | refine And.intro (a := ((_ : Bool) = true → 1 ≤ _) ∧ _ ≤ 9223372036854775807 ∧ _ ≤ 140737488355328) ⟨fun h => (by first | omega | cases h), by omega, by omega⟩ ?_
          | refine splT ?_
          | refine splF ?_
          | refine splNot ?_
          | (refine splIn (fun hc => ?_) (fun hc => ?_) <;> first | (exfalso; omega) | (exfalso; dsimp only at hc; omega) | skip)
          | (refine splD (fun hc => ?_) (fun hc => ?_) <;> first | (exfalso; omega) | (exfalso; dsimp only at hc; omega) | skip)
          | (refine splE (fun hc => ?_) (fun hc => ?_) <;> first | (exfalso; omega) | (exfalso; dsimp only at hc; omega) | skip)
          | (refine splNE (fun hc => ?_) (fun hc => ?_) <;> first | (exfalso; omega) | (exfalso; dsimp only at hc; omega) | skip)
      all_goals exact ⟨rfl, (), trivial, Ent.weak rfl ⟨rfl, rfl, rfl, by rw [hv]; rfl, trivial⟩ ⟨rfl, rfl, trivial⟩ fun _ h => h⟩
    | true =>
      obtain ⟨q1, q2, q3⟩ := h1 rfl
      exfalso
      rw [hlen] at q2
      have : (0 : Int) = b - a + 1 := q2
      omega
  case neg =>
    have hR' : R12 g bs a b = false := by simpa using hR
    have hv : prv g bs a b LL = false := by rw [hprv, hR']; simp
    rw [hR']
    repeat'
      conv => whnf
      first
        | refine And.intro (a := drawB _ = true) (by kernel_rfl) ?_
        | refine And.intro (a := (_ : Bool) = true) rfl ?_
        | refine And.intro (a := (_ : Bool) = true ∧ (_ : Bool) = true) ⟨rfl, rfl⟩ ?_
        | refine And.intro (a := (_ : Bool) = true ∧ (_ : List _) = []) ⟨rfl, rfl⟩ ?_
        | refine And.intro (a := IR _ _) (And.intro (by omega) (by omega)) ?_
        | refine wrapE (And.intro (by omega) (by omega)) ?_
        | refine And.intro (a := (0 : Int) ≤ _ ∧ _ < _) (And.intro (by omega) (by omega)) ?_
        | refine And.intro (a := (_ : Bool) = true) (by simp only [Nat.beq_refl]; rfl) ?_
        | refine And.intro (a := ((_ : Bool) = true → 1 ≤ _) ∧ _ ≤ 9223372036854775807 ∧ _ ≤ 140737488355328) ⟨fun h => (by first | omega | cases h), by omega, by omega⟩ ?_
        | refine splT ?_
        | refine splF ?_
        | refine splNot ?_
        | (refine splIn (fun hc => ?_) (fun hc => ?_) <;> first | (exfalso; omega) | (exfalso; dsimp only at hc; omega) | skip)
        | (refine splD (fun hc => ?_) (fun hc => ?_) <;> first | (exfalso; omega) | (exfalso; dsimp only at hc; omega) | skip)
        | (refine splE (fun hc => ?_) (fun hc => ?_) <;> first | (exfalso; omega) | (exfalso; dsimp only at hc; omega) | skip)
        | (refine splNE (fun hc => ?_) (fun hc => ?_) <;> first | (exfalso; omega) | (exfalso; dsimp only at hc; omega) | skip)
    refine loopE (fun x : Nat × Bool => [(6, .ptr 0 0), (7, .ptr 1 0), (13, .v (.slice none 0 0)), (17, .v (.bool x.2)), (18, .v (iv x.1))]) (fun _ => [(0, .cells (gss' g) 41), (1, .cells [.v (iv a), .v (iv b)] 94)]) (fun x => x.1 ≤ LL.length ∧ (x.2 = true → R12 g bs a b = true ∧ (LL.length : Int) = b - a + 1 ∧ prB g bs a (LL.drop x.1) x.1 = prB g bs a LL 0) ∧ (x.2 = false → prv g bs a b LL = false)) (fun x => LL.length - x.1) (0, false) ⟨Nat.zero_le _, ?_, ?_⟩ ⟨rfl, rfl, rfl, rfl, rfl, trivial⟩ ⟨rfl, rfl, trivial⟩ (fun _ => ⟨rfl, rfl⟩) ?_
    · intro h
      cases h
    · exact fun _ => hv
    rintro ⟨k, wt⟩ ⟨hk, h1, h2⟩
    cases wt with
    | true => exact absurd (h1 rfl).1 hR
    | false =>
      repeat'
        conv => whnf
        first
          | refine And.intro (a := drawB _ = true) (by kernel_rfl) ?_
          | refine And.intro (a := (_ : Bool) = true) rfl ?_
          | refine And.intro (a := (_ : Bool) = true ∧ (_ : Bool) = true) ⟨rfl, rfl⟩ ?_
          | refine And.intro (a := (_ : Bool) = true ∧ (_ : List _) = []) ⟨rfl, rfl⟩ ?_
          | refine And.intro (a := IR _ _) (And.intro (by omega) (by omega)) ?_
          | refine wrapE (And.intro (by omega) (by omega)) ?_
          | refine And.intro (a := (0 : Int) ≤ _ ∧ _ < _) (And.intro (by omega) (by omega)) ?_
          | refine And.intro (a := (_ : Bool) = true) (by simp only [Nat.beq_refl]; rfl) ?_
          | refine And.intro (a := ((_ : Bool) = true → 1 ≤ _) ∧ _ ≤ 9223372036854775807 ∧ _ ≤ 140737488355328) ⟨fun h => (by first | omega | cases h), by omega, by omega⟩ ?_
          | refine splT ?_
          | refine splF ?_
          | refine splNot ?_
          | (refine splIn (fun hc => ?_) (fun hc => ?_) <;> first | (exfalso; omega) | (exfalso; dsimp only at hc; omega) | skip)
          | (refine splD (fun hc => ?_) (fun hc => ?_) <;> first | (exfalso; omega) | (exfalso; dsimp only at hc; omega) | skip)
          | (refine splE (fun hc => ?_) (fun hc => ?_) <;> first | (exfalso; omega) | (exfalso; dsimp only at hc; omega) | skip)
          | (refine splNE (fun hc => ?_) (fun hc => ?_) <;> first | (exfalso; omega) | (exfalso; dsimp only at hc; omega) | skip)
      all_goals exact ⟨rfl, (), trivial, Ent.weak rfl ⟨rfl, rfl, rfl, by rw [hv]; rfl, trivial⟩ ⟨rfl, rfl, trivial⟩ fun _ h => h⟩

set_option maxRecDepth 100000 in
theorem finE (g : Fg) (bs : List Bx) (a b : Int)  (w : World) (hrd : Rd 4 Bx.cs (.slice g.o g.n g.c) bs w) (hl : bs.length ≤ 1000000) (LL : List Int) (hLL : LL = []) (hL : LL.length ≤ 1000000) {Φ : Exit → Sg → Prop}
    (hB : VC Try.prog (rest 7 body12) ⟨152, [(6, .ptr 0 0), (7, .ptr 1 0), (13, .sl 2 0 0 0), (17, .v (.bool (prv g bs a b LL)))], [(0, .cells (gss' g) 41), (1, .cells [.v (iv a), .v (iv b)] 94), (2, .cells [] 3)], 5, Below w.heap.size w, z0⟩ Φ) :
    VC Try.prog (rest 5 body12) ⟨152, [(6, .ptr 0 0), (7, .ptr 1 0), (13, .sl 2 0 0 0), (14, .v (.bool (R12 g bs a b)))], [(0, .cells (gss' g) 41), (1, .cells [.v (iv a), .v (iv b)] 94), (2, .cells [] 3)], 5, Below w.heap.size w, z0⟩ Φ := by
  have hprv : prv g bs a b LL = ((R12 g bs a b && decide ((LL.length : Int) = b - a + 1)) && prB g bs a LL 0) := by rw [prv, R12_ask]
  have hlen : LL.length = 0 := by subst hLL; rfl
  refine VC.cutE env mixed 2 5 (fun _ : Unit => [(6, .ptr 0 0), (7, .ptr 1 0), (13, .sl 2 0 0 0), (17, .v (.bool (prv g bs a b LL)))]) (fun _ => [(0, .cells (gss' g) 41), (1, .cells [.v (iv a), .v (iv b)] 94), (2, .cells [] 3)]) (fun _ => True) (fun _ _ => ⟨rfl, rfl⟩) ?_ (fun _ _ => hB)
  have hab : R12 g bs a b = true → (0 ≤ a ∧ a ≤ 6000) ∧ (a ≤ b ∧ b ≤ 6000) := fun h => by
    simp only [R12, Bool.and_eq_true, Sx.inB_iff] at h
    omega
  have hgo : R12 g bs a b = true → g.ok bs = true := fun h => by
    simp only [R12, Bool.and_eq_true] at h
    exact h.1
  have hround : ∀ (k : Nat) (wt : Bool), k ≤ LL.length → (wt = true → R12 g bs a b = true ∧ (LL.length : Int) = b - a + 1 ∧ prB g bs a (LL.drop k) k = prB g bs a LL 0) → (wt = false → prv g bs a b LL = false) → (wt = true → k = LL.length → prv g bs a b LL = true) := fun k wt hk h1 h2 hw hk' => by
    obtain ⟨q1, q2, q3⟩ := h1 hw
    rw [hprv, q1, decide_eq_true q2, ← q3, hk', List.drop_of_length_le (Nat.le_refl _)]
    rfl
  by_cases hR : R12 g bs a b = true
  case pos =>
    have hab := hab hR
    have hg := hgo hR
    have hg' := Fg.ok_iff.1 hg
    rw [hR]
    repeat'
      conv => whnf
      first
        | refine And.intro (a := drawB _ = true) (by kernel_rfl) ?_
        | refine And.intro (a := (_ : Bool) = true) rfl ?_
        | refine And.intro (a := (_ : Bool) = true ∧ (_ : Bool) = true) ⟨rfl, rfl⟩ ?_
        | refine And.intro (a := (_ : Bool) = true ∧ (_ : List _) = []) ⟨rfl, rfl⟩ ?_
        | refine And.intro (a := IR _ _) (And.intro (by omega) (by omega)) ?_
        | refine wrapE (And.intro (by omega) (by omega)) ?_
        | refine And.intro (a := (0 : Int) ≤ _ ∧ _ < _) (And.intro (by omega) (by omega)) ?_
        | refine And.intro (a := (_ : Bool) = true) (by simp only [Nat.beq_refl]; rfl) ?_
        | refine And.intro (a := ((_ : Bool) = true → 1 ≤ _) ∧ _ ≤ 9223372036854775807 ∧ _ ≤ 140737488355328) ⟨fun h => (by first | omega | cases h), by omega, by omega⟩ ?_
        | refine splT ?_
        | refine splF ?_
        | refine splNot ?_
        | (refine splIn (fun hc => ?_) (fun hc => ?_) <;> first | (exfalso; omega) | (exfalso; dsimp only at hc; omega) | skip)
        | (refine splD (fun hc => ?_) (fun hc => ?_) <;> first | (exfalso; omega) | (exfalso; dsimp only at hc; omega) | skip)
        | (refine splE (fun hc => ?_) (fun hc => ?_) <;> first | (exfalso; omega) | (exfalso; dsimp only at hc; omega) | skip)
        | (refine splNE (fun hc => ?_) (fun hc => ?_) <;> first | (exfalso; omega) | (exfalso; dsimp only at hc; omega) | skip)
    refine loopE (fun x : Nat × Bool => [(6, .ptr 0 0), (7, .ptr 1 0), (13, .sl 2 0 0 0), (17, .v (.bool x.2)), (18, .v (iv x.1))]) (fun _ => [(0, .cells (gss' g) 41), (1, .cells [.v (iv a), .v (iv b)] 94), (2, .cells [] 3)]) (fun x => x.1 ≤ LL.length ∧ (x.2 = true → R12 g bs a b = true ∧ (LL.length : Int) = b - a + 1 ∧ prB g bs a (LL.drop x.1) x.1 = prB g bs a LL 0) ∧ (x.2 = false → prv g bs a b LL = false)) (fun x => LL.length - x.1) (0, (((0 : Nat) : Int) == b - a + 1)) ⟨Nat.zero_le _, ?_, ?_⟩ ⟨rfl, rfl, rfl, rfl, rfl, trivial⟩ ⟨rfl, rfl, rfl, trivial⟩ (fun _ => ⟨rfl, rfl⟩) ?_
    · intro h
      have h : (((0 : Nat) : Int) == b - a + 1) = true := h
      exact ⟨hR, by rw [hlen]; simpa using h, rfl⟩
    · intro h
      have h : (((0 : Nat) : Int) == b - a + 1) = false := h
      rw [hprv, decide_eq_false (by rw [hlen]; simpa using h)]
      simp
    rintro ⟨k, wt⟩ ⟨hk, h1, h2⟩
    dsimp only at hk h1 h2
    have hr := hround k wt hk h1 h2
    cases wt with
    | false =>
      have hv := h2 rfl
      repeat'
        conv => whnf
        first
          | refine And.intro (a := drawB _ = true) (by kernel_rfl) ?_
          | refine And.intro (a := (_ : Bool) = true) rfl ?_
          | refine And.intro (a := (_ : Bool) = true ∧ (_ : Bool) = true) ⟨rfl, rfl⟩ ?_
          | refine And.intro (a := (_ : Bool) = true ∧ (_ : List _) = []) ⟨rfl, rfl⟩ ?_
          | refine And.intro (a := IR _ _) (And.intro (by omega) (by omega)) ?_
          | refine wrapE (And.intro (by omega) (by omega)) ?_
          | refine And.intro (a := (0 : Int) ≤ _ ∧ _ < _) (And.intro (by omega) (by omega)) ?_
          | refine And.intro (a := (_ : Bool) = true) (by simp only [Nat.beq_refl]; rfl) ?_
          | refine And.intro (a := ((_ : Bool) = true → 1 ≤ _) ∧ _ ≤ 9223372036854775807 ∧ _ ≤ 140737488355328) ⟨fun h => (by first | omega | cases h), by omega, by omega⟩ ?_
          | refine splT ?_
          | refine splF ?_
          | refine splNot ?_
          | (refine splIn (fun hc => ?_) (fun hc => ?_) <;> first | (exfalso; omega) | (exfalso; dsimp only at hc; omega) | skip)
          | (refine splD (fun hc => ?_) (fun hc => ?_) <;> first | (exfalso; omega) | (exfalso; dsimp only at hc; omega) | skip)
          | (refine splE (fun hc => ?_) (fun hc => ?_) <;> first | (exfalso; omega) | (exfalso; dsimp only at hc; omega) | skip)
          | (refine splNE (fun hc => ?_) (fun hc => ?_) <;> first | (exfalso; omega) | (exfalso; dsimp only at hc; omega) | skip)
      all_goals exact ⟨rfl, (), trivial, Ent.weak rfl ⟨rfl, rfl, rfl, by rw [hv]; rfl, trivial⟩ ⟨rfl, rfl, rfl, trivial⟩ fun _ h => h⟩
    | true =>
      obtain ⟨q1, q2, q3⟩ := h1 rfl
      exfalso
      rw [hlen] at q2
      have : (0 : Int) = b - a + 1 := q2
      omega
  case neg =>
    have hR' : R12 g bs a b = false := by simpa using hR
    have hv : prv g bs a b LL = false := by rw [hprv, hR']; simp
    rw [hR']
    repeat'
      conv => whnf
      first
        | refine And.intro (a := drawB _ = true) (by kernel_rfl) ?_
        | refine And.intro (a := (_ : Bool) = true) rfl ?_
        | refine And.intro (a := (_ : Bool) = true ∧ (_ : Bool) = true) ⟨rfl, rfl⟩ ?_
        | refine And.intro (a := (_ : Bool) = true ∧ (_ : List _) = []) ⟨rfl, rfl⟩ ?_
        | refine And.intro (a := IR _ _) (And.intro (by omega) (by omega)) ?_
        | refine wrapE (And.intro (by omega) (by omega)) ?_
        | refine And.intro (a := (0 : Int) ≤ _ ∧ _ < _) (And.intro (by omega) (by omega)) ?_
        | refine And.intro (a := (_ : Bool) = true) (by simp only [Nat.beq_refl]; rfl) ?_
        | refine And.intro (a := ((_ : Bool) = true → 1 ≤ _) ∧ _ ≤ 9223372036854775807 ∧ _ ≤ 140737488355328) ⟨fun h => (by first | omega | cases h), by omega, by omega⟩ ?_
        | refine splT ?_
        | refine splF ?_
        | refine splNot ?_
        | (refine splIn (fun hc => ?_) (fun hc => ?_) <;> first | (exfalso; omega) | (exfalso; dsimp only at hc; omega) | skip)
        | (refine splD (fun hc => ?_) (fun hc => ?_) <;> first | (exfalso; omega) | (exfalso; dsimp only at hc; omega) | skip)
        | (refine splE (fun hc => ?_) (fun hc => ?_) <;> first | (exfalso; omega) | (exfalso; dsimp only at hc; omega) | skip)
        | (refine splNE (fun hc => ?_) (fun hc => ?_) <;> first | (exfalso; omega) | (exfalso; dsimp only at hc; omega) | skip)
    refine loopE (fun x : Nat × Bool => [(6, .ptr 0 0), (7, .ptr 1 0), (13, .sl 2 0 0 0), (17, .v (.bool x.2)), (18, .v (iv x.1))]) (fun _ => [(0, .cells (gss' g) 41), (1, .cells [.v (iv a), .v (iv b)] 94), (2, .cells [] 3)]) (fun x => x.1 ≤ LL.length ∧ (x.2 = true → R12 g bs a b = true ∧ (LL.length : Int) = b - a + 1 ∧ prB g bs a (LL.drop x.1) x.1 = prB g bs a LL 0) ∧ (x.2 = false → prv g bs a b LL = false)) (fun x => LL.length - x.1) (0, false) ⟨Nat.zero_le _, ?_, ?_⟩ ⟨rfl, rfl, rfl, rfl, rfl, trivial⟩ ⟨rfl, rfl, rfl, trivial⟩ (fun _ => ⟨rfl, rfl⟩) ?_
    · intro h
      cases h
    · exact fun _ => hv
    rintro ⟨k, wt⟩ ⟨hk, h1, h2⟩
    cases wt with
    | true => exact absurd (h1 rfl).1 hR
    | false =>
      repeat'
        conv => whnf
        first
          | refine And.intro (a := drawB _ = true) (by kernel_rfl) ?_
          | refine And.intro (a := (_ : Bool) = true) rfl ?_
          | refine And.intro (a := (_ : Bool) = true ∧ (_ : Bool) = true) ⟨rfl, rfl⟩ ?_
          | refine And.intro (a := (_ : Bool) = true ∧ (_ : List _) = []) ⟨rfl, rfl⟩ ?_
          | refine And.intro (a := IR _ _) (And.intro (by omega) (by omega)) ?_
          | refine wrapE (And.intro (by omega) (by omega)) ?_
          | refine And.intro (a := (0 : Int) ≤ _ ∧ _ < _) (And.intro (by omega) (by omega)) ?_
          | refine And.intro (a := (_ : Bool) = true) (by simp only [Nat.beq_refl]; rfl) ?_
          | refine And.intro (a := ((_ : Bool) = true → 1 ≤ _) ∧ _ ≤ 9223372036854775807 ∧ _ ≤ 140737488355328) ⟨fun h => (by first | omega | cases h), by omega, by omega⟩ ?_
          | refine splT ?_
          | refine splF ?_
          | refine splNot ?_
          | (refine splIn (fun hc => ?_) (fun hc => ?_) <;> first | (exfalso; omega) | (exfalso; dsimp only at hc; omega) | skip)
          | (refine splD (fun hc => ?_) (fun hc => ?_) <;> first | (exfalso; omega) | (exfalso; dsimp only at hc; omega) | skip)
          | (refine splE (fun hc => ?_) (fun hc => ?_) <;> first | (exfalso; omega) | (exfalso; dsimp only at hc; omega) | skip)
          | (refine splNE (fun hc => ?_) (fun hc => ?_) <;> first | (exfalso; omega) | (exfalso; dsimp only at hc; omega) | skip)
      all_goals exact ⟨rfl, (), trivial, Ent.weak rfl ⟨rfl, rfl, rfl, by rw [hv]; rfl, trivial⟩ ⟨rfl, rfl, rfl, trivial⟩ fun _ h => h⟩

set_option maxRecDepth 100000 in
theorem finO (g : Fg) (bs : List Bx) (a b : Int)  (w : World) (hrd : Rd 4 Bx.cs (.slice g.o g.n g.c) bs w) (hl : bs.length ≤ 1000000) (LL : List Int)  (hL : LL.length ≤ 1000000) {Φ : Exit → Sg → Prop}
    (hB : VC Try.prog (rest 7 body12) ⟨152, [(6, .ptr 0 0), (7, .ptr 1 0), (13, .os 3 4 LL.length), (17, .v (.bool (prv g bs a b LL)))], [(0, .cells (gss' g) 41), (1, .cells [.v (iv a), .v (iv b)] 94), (3, .own 4 LL.length 1 (LL.flatMap iF) 3)], 5, Below w.heap.size w, z0⟩ Φ) :
    VC Try.prog (rest 5 body12) ⟨152, [(6, .ptr 0 0), (7, .ptr 1 0), (13, .os 3 4 LL.length), (14, .v (.bool (R12 g bs a b)))], [(0, .cells (gss' g) 41), (1, .cells [.v (iv a), .v (iv b)] 94), (3, .own 4 LL.length 1 (LL.flatMap iF) 3)], 5, Below w.heap.size w, z0⟩ Φ := by
  have hprv : prv g bs a b LL = ((R12 g bs a b && decide ((LL.length : Int) = b - a + 1)) && prB g bs a LL 0) := by rw [prv, R12_ask]
  have hlen : LL.length = LL.length := by rfl
  refine VC.cutE env mixed 2 5 (fun _ : Unit => [(6, .ptr 0 0), (7, .ptr 1 0), (13, .os 3 4 LL.length), (17, .v (.bool (prv g bs a b LL)))]) (fun _ => [(0, .cells (gss' g) 41), (1, .cells [.v (iv a), .v (iv b)] 94), (3, .own 4 LL.length 1 (LL.flatMap iF) 3)]) (fun _ => True) (fun _ _ => ⟨rfl, rfl⟩) ?_ (fun _ _ => hB)
  have hab : R12 g bs a b = true → (0 ≤ a ∧ a ≤ 6000) ∧ (a ≤ b ∧ b ≤ 6000) := fun h => by
    simp only [R12, Bool.and_eq_true, Sx.inB_iff] at h
    omega
  have hgo : R12 g bs a b = true → g.ok bs = true := fun h => by
    simp only [R12, Bool.and_eq_true] at h
    exact h.1
  have hround : ∀ (k : Nat) (wt : Bool), k ≤ LL.length → (wt = true → R12 g bs a b = true ∧ (LL.length : Int) = b - a + 1 ∧ prB g bs a (LL.drop k) k = prB g bs a LL 0) → (wt = false → prv g bs a b LL = false) → (wt = true → k = LL.length → prv g bs a b LL = true) := fun k wt hk h1 h2 hw hk' => by
    obtain ⟨q1, q2, q3⟩ := h1 hw
    rw [hprv, q1, decide_eq_true q2, ← q3, hk', List.drop_of_length_le (Nat.le_refl _)]
    rfl
  by_cases hR : R12 g bs a b = true
  case pos =>
    have hab := hab hR
    have hg := hgo hR
    have hg' := Fg.ok_iff.1 hg
    rw [hR]
    repeat'
      conv => whnf
      first
        | refine And.intro (a := drawB _ = true) (by kernel_rfl) ?_
        | refine And.intro (a := (_ : Bool) = true) rfl ?_
        | refine And.intro (a := (_ : Bool) = true ∧ (_ : Bool) = true) ⟨rfl, rfl⟩ ?_
        | refine And.intro (a := (_ : Bool) = true ∧ (_ : List _) = []) ⟨rfl, rfl⟩ ?_
        | refine And.intro (a := IR _ _) (And.intro (by omega) (by omega)) ?_
        | refine wrapE (And.intro (by omega) (by omega)) ?_
        | refine And.intro (a := (0 : Int) ≤ _ ∧ _ < _) (And.intro (by omega) (by omega)) ?_
        | refine And.intro (a := (_ : Bool) = true) (by simp only [Nat.beq_refl]; rfl) ?_
        | refine And.intro (a := ((_ : Bool) = true → 1 ≤ _) ∧ _ ≤ 9223372036854775807 ∧ _ ≤ 140737488355328) ⟨fun h => (by first | omega | cases h), by omega, by omega⟩ ?_
        | refine splT ?_
        | refine splF ?_
        | refine splNot ?_
        | (refine splIn (fun hc => ?_) (fun hc => ?_) <;> first | (exfalso; omega) | (exfalso; dsimp only at hc; omega) | skip)
        | (refine splD (fun hc => ?_) (fun hc => ?_) <;> first | (exfalso; omega) | (exfalso; dsimp only at hc; omega) | skip)
        | (refine splE (fun hc => ?_) (fun hc => ?_) <;> first | (exfalso; omega) | (exfalso; dsimp only at hc; omega) | skip)
        | (refine splNE (fun hc => ?_) (fun hc => ?_) <;> first | (exfalso; omega) | (exfalso; dsimp only at hc; omega) | skip)
    refine loopE (fun x : Nat × Bool => [(6, .ptr 0 0), (7, .ptr 1 0), (13, .os 3 4 LL.length), (17, .v (.bool x.2)), (18, .v (iv x.1))]) (fun _ => [(0, .cells (gss' g) 41), (1, .cells [.v (iv a), .v (iv b)] 94), (3, .own 4 LL.length 1 (LL.flatMap iF) 3)]) (fun x => x.1 ≤ LL.length ∧ (x.2 = true → R12 g bs a b = true ∧ (LL.length : Int) = b - a + 1 ∧ prB g bs a (LL.drop x.1) x.1 = prB g bs a LL 0) ∧ (x.2 = false → prv g bs a b LL = false)) (fun x => LL.length - x.1) (0, (((LL.length : Nat) : Int) == b - a + 1)) ⟨Nat.zero_le _, ?_, ?_⟩ ⟨rfl, rfl, rfl, rfl, rfl, trivial⟩ ⟨rfl, rfl, rfl, trivial⟩ (fun _ => ⟨rfl, rfl⟩) ?_
    · intro h
      have h : (((LL.length : Nat) : Int) == b - a + 1) = true := h
      exact ⟨hR, by rw [hlen]; simpa using h, rfl⟩
    · intro h
      have h : (((LL.length : Nat) : Int) == b - a + 1) = false := h
      rw [hprv, decide_eq_false (by rw [hlen]; simpa using h)]
      simp
    rintro ⟨k, wt⟩ ⟨hk, h1, h2⟩
    dsimp only at hk h1 h2
    have hr := hround k wt hk h1 h2
    cases wt with
    | false =>
      have hv := h2 rfl
      repeat'
        conv => whnf
        first
          | refine And.intro (a := drawB _ = true) (by kernel_rfl) ?_
          | refine And.intro (a := (_ : Bool) = true) rfl ?_
          | refine And.intro (a := (_ : Bool) = true ∧ (_ : Bool) = true) ⟨rfl, rfl⟩ ?_
          | refine And.intro (a := (_ : Bool) = true ∧ (_ : List _) = []) ⟨rfl, rfl⟩ ?_
          | refine And.intro (a := IR _ _) (And.intro (by omega) (by omega)) ?_
          | refine wrapE (And.intro (by omega) (by omega)) ?_
          | refine And.intro (a := (0 : Int) ≤ _ ∧ _ < _) (And.intro (by omega) (by omega)) ?_
          | refine And.intro (a := (_ : Bool) = true) (by simp only [Nat.beq_refl]; rfl) ?_
          | refine And.intro (a := ((_ : Bool) = true → 1 ≤ _) ∧ _ ≤ 9223372036854775807 ∧ _ ≤ 140737488355328) ⟨fun h => (by first | omega | cases h), by omega, by omega⟩ ?_
          | refine splT ?_
          | refine splF ?_
          | refine splNot ?_
          | (refine splIn (fun hc => ?_) (fun hc => ?_) <;> first | (exfalso; omega) | (exfalso; dsimp only at hc; omega) | skip)
          | (refine splD (fun hc => ?_) (fun hc => ?_) <;> first | (exfalso; omega) | (exfalso; dsimp only at hc; omega) | skip)
          | (refine splE (fun hc => ?_) (fun hc => ?_) <;> first | (exfalso; omega) | (exfalso; dsimp only at hc; omega) | skip)
          | (refine splNE (fun hc => ?_) (fun hc => ?_) <;> first | (exfalso; omega) | (exfalso; dsimp only at hc; omega) | skip)
      all_goals exact ⟨rfl, (), trivial, Ent.weak rfl ⟨rfl, rfl, rfl, by rw [hv]; rfl, trivial⟩ ⟨rfl, rfl, rfl, trivial⟩ fun _ h => h⟩
    | true =>
      obtain ⟨q1, q2, q3⟩ := h1 rfl
      rcases Nat.lt_or_ge k LL.length with hkl | hkl
      · obtain ⟨n, hb⟩ : ∃ n, LL[k]? = some n := ⟨_, List.getElem?_eq_getElem hkl⟩
        have hs := sure_n g bs a n k (by omega) (by omega) (by omega) (by omega)
        have hv := fun w' (hb : Below w.heap.size w w') (h0 : 0 ≤ n ∧ n ≤ 10000) => Rsure_ok g bs (a + k) n w' hg (hrd.below hb) (by omega) (by omega)
        rw [prB_drop hb, hs] at q3
        have hat : ∀ j v, [iv n][j]? = some v → (LL.flatMap iF)[(k : Int).toNat * 1 + j]? = some v := fun j v h => by
          match j, h with
          | 0, h => cases h; rw [Int.toNat_natCast, Nat.mul_one, Nat.add_zero]; exact atF hb
        have hno : (Sx.inB n 0 10000 && sureAt g bs (a + k) n) = false → prv g bs a b LL = false := fun h => by
          rw [h, Bool.false_and] at q3
          rw [hprv, ← q3]; simp
        by_cases hin : 0 ≤ n ∧ n ≤ 10000
        · rw [Sx.inB_iff.2 hin, Bool.true_and] at q3 hno
          have hv := fun w' hb => hv w' hb hin
          cases hsa : sureAt g bs (a + k) n with
          | true =>
            rw [hsa] at hv q3 hno
            repeat'
              conv => whnf
              first
                | refine And.intro (a := drawB _ = true) (by kernel_rfl) ?_
                | refine And.intro (a := (_ : Bool) = true) rfl ?_
                | refine And.intro (a := (_ : Bool) = true ∧ (_ : Bool) = true) ⟨rfl, rfl⟩ ?_
                | refine And.intro (a := (_ : Bool) = true ∧ (_ : List _) = []) ⟨rfl, rfl⟩ ?_
                | refine And.intro (a := IR _ _) (And.intro (by omega) (by omega)) ?_
                | refine wrapE (And.intro (by omega) (by omega)) ?_
                | refine And.intro (a := (0 : Int) ≤ _ ∧ _ < _) (And.intro (by omega) (by omega)) ?_
                | refine And.intro (a := (_ : Bool) = true) (by simp only [Nat.beq_refl]; rfl) ?_
                | refine And.intro (a := ((_ : Bool) = true → 1 ≤ _) ∧ _ ≤ 9223372036854775807 ∧ _ ≤ 140737488355328) ⟨fun h => (by first | omega | cases h), by omega, by omega⟩ ?_
                | refine splT ?_
                | refine splF ?_
                | refine splNot ?_
                | (refine splIn (fun hc => ?_) (fun hc => ?_) <;> first | (exfalso; omega) | (exfalso; dsimp only at hc; omega) | skip)
                | (refine splD (fun hc => ?_) (fun hc => ?_) <;> first | (exfalso; omega) | (exfalso; dsimp only at hc; omega) | skip)
                | (refine splE (fun hc => ?_) (fun hc => ?_) <;> first | (exfalso; omega) | (exfalso; dsimp only at hc; omega) | skip)
                | (refine splNE (fun hc => ?_) (fun hc => ?_) <;> first | (exfalso; omega) | (exfalso; dsimp only at hc; omega) | skip)
                | refine Exists.intro (α := List Value) [iv n] ⟨⟨rfl, hat⟩, ?_⟩
                | ((with_reducible show CallEv _ _ 19 _ _ _ _ _); refine callE (k := 19) (fun β w' hbw => In_ok _ _ _ _) ?_)
                | ((with_reducible show CallEv _ _ 47 _ _ _ _ _); refine callE (k := 47) (fun β w' hbw => hv _ hbw) ?_)
            all_goals first | exact ⟨(k + 1, true), ⟨by show k + 1 ≤ _; omega, fun _ => ⟨q1, q2, by simpa using q3⟩, fun h => (by cases h)⟩, by show _ - (k + 1) < _ - k; omega, Ent.weak rfl ⟨rfl, rfl, rfl, rfl, rfl, trivial⟩ ⟨rfl, rfl, rfl, trivial⟩ fun _ h => h⟩ | skip
          | false =>
            rw [hsa] at hv q3 hno
            repeat'
              conv => whnf
              first
                | refine And.intro (a := drawB _ = true) (by kernel_rfl) ?_
                | refine And.intro (a := (_ : Bool) = true) rfl ?_
                | refine And.intro (a := (_ : Bool) = true ∧ (_ : Bool) = true) ⟨rfl, rfl⟩ ?_
                | refine And.intro (a := (_ : Bool) = true ∧ (_ : List _) = []) ⟨rfl, rfl⟩ ?_
                | refine And.intro (a := IR _ _) (And.intro (by omega) (by omega)) ?_
                | refine wrapE (And.intro (by omega) (by omega)) ?_
                | refine And.intro (a := (0 : Int) ≤ _ ∧ _ < _) (And.intro (by omega) (by omega)) ?_
                | refine And.intro (a := (_ : Bool) = true) (by simp only [Nat.beq_refl]; rfl) ?_
                | refine And.intro (a := ((_ : Bool) = true → 1 ≤ _) ∧ _ ≤ 9223372036854775807 ∧ _ ≤ 140737488355328) ⟨fun h => (by first | omega | cases h), by omega, by omega⟩ ?_
                | refine splT ?_
                | refine splF ?_
                | refine splNot ?_
                | (refine splIn (fun hc => ?_) (fun hc => ?_) <;> first | (exfalso; omega) | (exfalso; dsimp only at hc; omega) | skip)
                | (refine splD (fun hc => ?_) (fun hc => ?_) <;> first | (exfalso; omega) | (exfalso; dsimp only at hc; omega) | skip)
                | (refine splE (fun hc => ?_) (fun hc => ?_) <;> first | (exfalso; omega) | (exfalso; dsimp only at hc; omega) | skip)
                | (refine splNE (fun hc => ?_) (fun hc => ?_) <;> first | (exfalso; omega) | (exfalso; dsimp only at hc; omega) | skip)
                | refine Exists.intro (α := List Value) [iv n] ⟨⟨rfl, hat⟩, ?_⟩
                | ((with_reducible show CallEv _ _ 19 _ _ _ _ _); refine callE (k := 19) (fun β w' hbw => In_ok _ _ _ _) ?_)
                | ((with_reducible show CallEv _ _ 47 _ _ _ _ _); refine callE (k := 47) (fun β w' hbw => hv _ hbw) ?_)
            all_goals first | exact ⟨(k + 1, false), ⟨by show k + 1 ≤ _; omega, fun h => (by cases h), fun _ => hno rfl⟩, by show _ - (k + 1) < _ - k; omega, Ent.weak rfl ⟨rfl, rfl, rfl, rfl, rfl, trivial⟩ ⟨rfl, rfl, rfl, trivial⟩ fun _ h => h⟩ | skip
        · have hf : Sx.inB n 0 10000 = false := by
            cases h : Sx.inB n 0 10000
            · rfl
            · exact absurd (Sx.inB_iff.1 h) hin
          rw [hf, Bool.false_and] at hno
          repeat'
            conv => whnf
            first
              | refine And.intro (a := drawB _ = true) (by kernel_rfl) ?_
              | refine And.intro (a := (_ : Bool) = true) rfl ?_
              | refine And.intro (a := (_ : Bool) = true ∧ (_ : Bool) = true) ⟨rfl, rfl⟩ ?_
              | refine And.intro (a := (_ : Bool) = true ∧ (_ : List _) = []) ⟨rfl, rfl⟩ ?_
              | refine And.intro (a := IR _ _) (And.intro (by omega) (by omega)) ?_
              | refine wrapE (And.intro (by omega) (by omega)) ?_
              | refine And.intro (a := (0 : Int) ≤ _ ∧ _ < _) (And.intro (by omega) (by omega)) ?_
              | refine And.intro (a := (_ : Bool) = true) (by simp only [Nat.beq_refl]; rfl) ?_
              | refine And.intro (a := ((_ : Bool) = true → 1 ≤ _) ∧ _ ≤ 9223372036854775807 ∧ _ ≤ 140737488355328) ⟨fun h => (by first | omega | cases h), by omega, by omega⟩ ?_
              | refine splT ?_
              | refine splF ?_
              | refine splNot ?_
              | (refine splIn (fun hc => ?_) (fun hc => ?_) <;> first | (exfalso; omega) | (exfalso; dsimp only at hc; omega) | skip)
              | (refine splD (fun hc => ?_) (fun hc => ?_) <;> first | (exfalso; omega) | (exfalso; dsimp only at hc; omega) | skip)
              | (refine splE (fun hc => ?_) (fun hc => ?_) <;> first | (exfalso; omega) | (exfalso; dsimp only at hc; omega) | skip)
              | (refine splNE (fun hc => ?_) (fun hc => ?_) <;> first | (exfalso; omega) | (exfalso; dsimp only at hc; omega) | skip)
              | refine Exists.intro (α := List Value) [iv n] ⟨⟨rfl, hat⟩, ?_⟩
              | ((with_reducible show CallEv _ _ 19 _ _ _ _ _); refine callE (k := 19) (fun β w' hbw => In_ok _ _ _ _) ?_)
          all_goals first | exact ⟨(k + 1, false), ⟨by show k + 1 ≤ _; omega, fun h => (by cases h), fun _ => hno rfl⟩, by show _ - (k + 1) < _ - k; omega, Ent.weak rfl ⟨rfl, rfl, rfl, rfl, rfl, trivial⟩ ⟨rfl, rfl, rfl, trivial⟩ fun _ h => h⟩ | skip
      · have hv := hr rfl (by omega)
        repeat'
          conv => whnf
          first
            | refine And.intro (a := drawB _ = true) (by kernel_rfl) ?_
            | refine And.intro (a := (_ : Bool) = true) rfl ?_
            | refine And.intro (a := (_ : Bool) = true ∧ (_ : Bool) = true) ⟨rfl, rfl⟩ ?_
            | refine And.intro (a := (_ : Bool) = true ∧ (_ : List _) = []) ⟨rfl, rfl⟩ ?_
            | refine And.intro (a := IR _ _) (And.intro (by omega) (by omega)) ?_
            | refine wrapE (And.intro (by omega) (by omega)) ?_
            | refine And.intro (a := (0 : Int) ≤ _ ∧ _ < _) (And.intro (by omega) (by omega)) ?_
            | refine And.intro (a := (_ : Bool) = true) (by simp only [Nat.beq_refl]; rfl) ?_
            | refine And.intro (a := ((_ : Bool) = true → 1 ≤ _) ∧ _ ≤ 9223372036854775807 ∧ _ ≤ 140737488355328) ⟨fun h => (by first | omega | cases h), by omega, by omega⟩ ?_
            | refine splT ?_
            | refine splF ?_
            | refine splNot ?_
            | (refine splIn (fun hc => ?_) (fun hc => ?_) <;> first | (exfalso; omega) | (exfalso; dsimp only at hc; omega) | skip)
            | (refine splD (fun hc => ?_) (fun hc => ?_) <;> first | (exfalso; omega) | (exfalso; dsimp only at hc; omega) | skip)
            | (refine splE (fun hc => ?_) (fun hc => ?_) <;> first | (exfalso; omega) | (exfalso; dsimp only at hc; omega) | skip)
            | (refine splNE (fun hc => ?_) (fun hc => ?_) <;> first | (exfalso; omega) | (exfalso; dsimp only at hc; omega) | skip)
        all_goals exact ⟨rfl, (), trivial, Ent.weak rfl ⟨rfl, rfl, rfl, by rw [hv]; rfl, trivial⟩ ⟨rfl, rfl, rfl, trivial⟩ fun _ h => h⟩
  case neg =>
    have hR' : R12 g bs a b = false := by simpa using hR
    have hv : prv g bs a b LL = false := by rw [hprv, hR']; simp
    rw [hR']
    repeat'
      conv => whnf
      first
        | refine And.intro (a := drawB _ = true) (by kernel_rfl) ?_
        | refine And.intro (a := (_ : Bool) = true) rfl ?_
        | refine And.intro (a := (_ : Bool) = true ∧ (_ : Bool) = true) ⟨rfl, rfl⟩ ?_
        | refine And.intro (a := (_ : Bool) = true ∧ (_ : List _) = []) ⟨rfl, rfl⟩ ?_
        | refine And.intro (a := IR _ _) (And.intro (by omega) (by omega)) ?_
        | refine wrapE (And.intro (by omega) (by omega)) ?_
        | refine And.intro (a := (0 : Int) ≤ _ ∧ _ < _) (And.intro (by omega) (by omega)) ?_
        | refine And.intro (a := (_ : Bool) = true) (by simp only [Nat.beq_refl]; rfl) ?_
        | refine And.intro (a := ((_ : Bool) = true → 1 ≤ _) ∧ _ ≤ 9223372036854775807 ∧ _ ≤ 140737488355328) ⟨fun h => (by first | omega | cases h), by omega, by omega⟩ ?_
        | refine splT ?_
        | refine splF ?_
        | refine splNot ?_
        | (refine splIn (fun hc => ?_) (fun hc => ?_) <;> first | (exfalso; omega) | (exfalso; dsimp only at hc; omega) | skip)
        | (refine splD (fun hc => ?_) (fun hc => ?_) <;> first | (exfalso; omega) | (exfalso; dsimp only at hc; omega) | skip)
        | (refine splE (fun hc => ?_) (fun hc => ?_) <;> first | (exfalso; omega) | (exfalso; dsimp only at hc; omega) | skip)
        | (refine splNE (fun hc => ?_) (fun hc => ?_) <;> first | (exfalso; omega) | (exfalso; dsimp only at hc; omega) | skip)
    refine loopE (fun x : Nat × Bool => [(6, .ptr 0 0), (7, .ptr 1 0), (13, .os 3 4 LL.length), (17, .v (.bool x.2)), (18, .v (iv x.1))]) (fun _ => [(0, .cells (gss' g) 41), (1, .cells [.v (iv a), .v (iv b)] 94), (3, .own 4 LL.length 1 (LL.flatMap iF) 3)]) (fun x => x.1 ≤ LL.length ∧ (x.2 = true → R12 g bs a b = true ∧ (LL.length : Int) = b - a + 1 ∧ prB g bs a (LL.drop x.1) x.1 = prB g bs a LL 0) ∧ (x.2 = false → prv g bs a b LL = false)) (fun x => LL.length - x.1) (0, false) ⟨Nat.zero_le _, ?_, ?_⟩ ⟨rfl, rfl, rfl, rfl, rfl, trivial⟩ ⟨rfl, rfl, rfl, trivial⟩ (fun _ => ⟨rfl, rfl⟩) ?_
    · intro h
      cases h
    · exact fun _ => hv
    rintro ⟨k, wt⟩ ⟨hk, h1, h2⟩
    cases wt with
    | true => exact absurd (h1 rfl).1 hR
    | false =>
      repeat'
        conv => whnf
        first
          | refine And.intro (a := drawB _ = true) (by kernel_rfl) ?_
          | refine And.intro (a := (_ : Bool) = true) rfl ?_
          | refine And.intro (a := (_ : Bool) = true ∧ (_ : Bool) = true) ⟨rfl, rfl⟩ ?_
          | refine And.intro (a := (_ : Bool) = true ∧ (_ : List _) = []) ⟨rfl, rfl⟩ ?_
          | refine And.intro (a := IR _ _) (And.intro (by omega) (by omega)) ?_
          | refine wrapE (And.intro (by omega) (by omega)) ?_
          | refine And.intro (a := (0 : Int) ≤ _ ∧ _ < _) (And.intro (by omega) (by omega)) ?_
          | refine And.intro (a := (_ : Bool) = true) (by simp only [Nat.beq_refl]; rfl) ?_
          | refine And.intro (a := ((_ : Bool) = true → 1 ≤ _) ∧ _ ≤ 9223372036854775807 ∧ _ ≤ 140737488355328) ⟨fun h => (by first | omega | cases h), by omega, by omega⟩ ?_
          | refine splT ?_
          | refine splF ?_
          | refine splNot ?_
          | (refine splIn (fun hc => ?_) (fun hc => ?_) <;> first | (exfalso; omega) | (exfalso; dsimp only at hc; omega) | skip)
          | (refine splD (fun hc => ?_) (fun hc => ?_) <;> first | (exfalso; omega) | (exfalso; dsimp only at hc; omega) | skip)
          | (refine splE (fun hc => ?_) (fun hc => ?_) <;> first | (exfalso; omega) | (exfalso; dsimp only at hc; omega) | skip)
          | (refine splNE (fun hc => ?_) (fun hc => ?_) <;> first | (exfalso; omega) | (exfalso; dsimp only at hc; omega) | skip)
      all_goals exact ⟨rfl, (), trivial, Ent.weak rfl ⟨rfl, rfl, rfl, by rw [hv]; rfl, trivial⟩ ⟨rfl, rfl, rfl, trivial⟩ fun _ h => h⟩

end Go.Proofs.Ytlehjapeomallaa.V
