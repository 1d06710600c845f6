/- The law of sure catches answers true at every flight, release and choice. -/
import Derived.Test.YtlehjapeomallaaFS
namespace Go.Proofs.Ytlehjapeomallaa
open Go Sx Go.RowKit
set_option linter.unusedSimpArgs false
set_option linter.unusedVariables false

theorem mul_mid {t a u b : Int} (ht : 0 ≤ t) (h1 : a ≤ u) (h2 : u ≤ b) : t * a ≤ t * u ∧ t * u ≤ t * b :=
  ⟨Int.mul_le_mul_of_nonneg_left h1 ht, Int.mul_le_mul_of_nonneg_left h2 ht⟩
theorem mul_small {t u m : Int} (ht : 0 ≤ t ∧ t ≤ 300) (hu : -m ≤ u ∧ u ≤ m) (hm : 0 ≤ m) : -(300 * m) ≤ t * u ∧ t * u ≤ 300 * m := by
  obtain ⟨a, b⟩ := mul_mid ht.1 hu.1 hu.2
  have c : t * m ≤ 300 * m := Int.mul_le_mul_of_nonneg_right ht.2 hm
  have d : t * -m = -(t * m) := Int.mul_neg t m
  omega
theorem sq49 {t : Int} (ht : 0 ≤ t ∧ t ≤ 300) : 0 ≤ 49 * t ∧ 49 * t ≤ 14700 ∧ 0 ≤ 49 * t * t ∧ 49 * t * t ≤ 4410000 := by
  have a : 0 ≤ 49 * t * t := Int.mul_nonneg (by omega) ht.1
  have b : 49 * t * t ≤ 14700 * 300 := Int.mul_le_mul (by omega) ht.2 ht.1 (by omega)
  omega
theorem mul_bd0 {a b m n : Int} (h0 : 0 ≤ a) (h1 : a ≤ m) (h2 : 0 ≤ b) (h3 : b ≤ n) : 0 ≤ a * b ∧ a * b ≤ m * n :=
  ⟨Int.mul_nonneg h0 h2, Int.mul_le_mul h1 h3 h2 (by omega)⟩

/-- The load of one choice is at most what is borne. -/
theorem ld_choice {f : Fl} {so be t u v : Int} (hf : f.ok = true) (hso : 1 ≤ so ∧ so ≤ 100) (hbe : 0 ≤ be ∧ be ≤ 100000000) (ht : 0 ≤ t ∧ t ≤ 300) (hu : f.s.x.lo ≤ u ∧ u ≤ f.s.x.hi) (hv : f.s.z.lo ≤ v ∧ v ≤ f.s.z.hi) (h : ldF f so t ≤ be) :
    (0 ≤ imax (imax u (-u)) (imax (v - 98 * t) (-(v - 98 * t))) ∧ imax (imax u (-u)) (imax (v - 98 * t) (-(v - 98 * t))) ≤ 40000) ∧ (0 ≤ f.m * 98 * so ∧ f.m * 98 * so ≤ 1960000) ∧ (0 ≤ f.m * imax (imax u (-u)) (imax (v - 98 * t) (-(v - 98 * t))) ∧ f.m * imax (imax u (-u)) (imax (v - 98 * t) (-(v - 98 * t))) ≤ 8000000) ∧ (0 ≤ be * so ∧ be * so ≤ 10000000000) ∧
    f.m * 98 * so + f.m * imax (imax u (-u)) (imax (v - 98 * t) (-(v - 98 * t))) ≤ be * so := by
  have hf' := Fl.ok_iff.1 hf
  have hb := ld_bd hf hso ht.1 ht.2
  unfold ldF at h hb
  have hF : imax (imax u (-u)) (imax (v - 98 * t) (-(v - 98 * t))) ≤ gr [f.s.x.lo, f.s.x.hi, f.s.z.lo - 98 * t, f.s.z.hi - 98 * t] := by
    rw [gr4]; simp only [imax_eq]; omega
  have hF0 : 0 ≤ imax (imax u (-u)) (imax (v - 98 * t) (-(v - 98 * t))) := by simp only [imax_eq]; omega
  generalize gr [f.s.x.lo, f.s.x.hi, f.s.z.lo - 98 * t, f.s.z.hi - 98 * t] = G at *
  generalize imax (imax u (-u)) (imax (v - 98 * t) (-(v - 98 * t))) = F at *
  have hC1 := Int.mul_ediv_add_emod (G + so - 1) so
  have hC2 := Int.emod_lt_of_pos (G + so - 1) (b := so) (by omega)
  generalize (G + so - 1) / so = C at *
  have a1 := mul_bd0 (a := f.m * 98) (b := so) (m := 19600) (n := 100) (by omega) (by omega) (by omega) hso.2
  have a2 := mul_bd0 (a := f.m) (b := F) (m := 200) (n := 40000) (by omega) (by omega) hF0 (by omega)
  have a3 := mul_bd0 (a := be) (b := so) (m := 100000000) (n := 100) (by omega) (by omega) (by omega) hso.2
  have b1 : f.m * (98 + C) * so ≤ be * so := Int.mul_le_mul_of_nonneg_right h (by omega)
  have b2 : f.m * F ≤ f.m * (so * C) := Int.mul_le_mul_of_nonneg_left (by omega) (by omega)
  have b3 : f.m * (98 + C) * so = f.m * 98 * so + f.m * (so * C) := by
    rw [Int.mul_add, Int.add_mul, Int.mul_assoc f.m C so, Int.mul_comm C so]
  omega

/-- What a sure catch says of one choice. -/
theorem sure_choice {g : Fg} {bs : List Bx} {r xk : Int} (hg : g.ok bs = true) (k : Nat) (hk : xk = r + g.le + k) (hkl : k < g.k) (hs : sureB g bs r k = true) {x z u v p q : Int}
    (hx : g.f.a.x.lo ≤ x ∧ x ≤ g.f.a.x.hi) (hz : g.f.a.z.lo ≤ z ∧ z ≤ g.f.a.z.hi) (hu : g.f.s.x.lo ≤ u ∧ u ≤ g.f.s.x.hi) (hv : g.f.s.z.lo ≤ v ∧ v ≤ g.f.s.z.hi)
    (hp : (hnd g bs xk).x.lo ≤ p ∧ p ≤ (hnd g bs xk).x.hi) (hq : (hnd g bs xk).z.lo ≤ q ∧ q ≤ (hnd g bs xk).z.hi) :
    imax (x + (xk - r) * u - p) (-(x + (xk - r) * u - p)) ≤ g.re ∧ imax (z + (xk - r) * v - 49 * (xk - r) * (xk - r) - q) (-(z + (xk - r) * v - 49 * (xk - r) * (xk - r) - q)) ≤ g.re ∧ ldF g.f g.so (xk - r) ≤ g.be := by
  have hg' := Fg.ok_iff.1 hg
  have hkk : (g.k : Int) = g.mo - g.le + 1 := by unfold Fg.k; omega
  have ht : g.le + (k : Int) = xk - r := by omega
  have hh : r + g.le + (k : Int) = xk := by omega
  unfold sureB nearB at hs
  rw [ht, hh] at hs
  simp only [Bool.and_eq_true, decide_eq_true_eq] at hs
  obtain ⟨h1, ⟨h2, h3⟩, h4, h5⟩ := hs
  have m1 := mul_mid (t := xk - r) (by omega) hu.1 hu.2
  have m2 := mul_mid (t := xk - r) (by omega) hv.1 hv.2
  simp only [Fl.af] at h2 h3 h4 h5
  refine ⟨?_, ?_, h1⟩
  · rw [imax_eq]; omega
  · rw [imax_eq]; omega

abbrev uw (n : Int) : Value := .int .u16 n
set_option maxRecDepth 100000 in
theorem FlightSure_ok (g : Fg) (bs : List Bx) (rel w0 w1 w2 w3 w4 w5 : Int) (w : World) (hrd : Rd 4 Bx.cs (.slice g.o g.n g.c) bs w) (hrel : 0 ≤ rel ∧ rel ≤ 65535)
    (h0 : 0 ≤ w0 ∧ w0 ≤ 65535) (h1 : 0 ≤ w1 ∧ w1 ≤ 65535) (h2 : 0 ≤ w2 ∧ w2 ≤ 65535) (h3 : 0 ≤ w3 ∧ w3 ≤ 65535) (h4 : 0 ≤ w4 ∧ w4 ≤ 65535) (h5 : 0 ≤ w5 ∧ w5 ≤ 65535) :
    Calls Try.prog 5 #[g.v, .int .u16 rel, .agg #[uw w0, uw w1, uw w2, uw w3, uw w4, uw w5]] w fun e w' => e = .returned (.bool true) ∧ Below w.heap.size w w' := by
  have hn : g.n = bs.length := hrd.len
  by_cases hfew : (g.n : Int) ≤ 700
  case neg =>
    refine calls_val env mixed Try.func5 has5 Try.ntmps5 [g.v, .int .u16 rel, .agg #[uw w0, uw w1, uw w2, uw w3, uw w4, uw w5]] (by simp) ?_
    repeat'
      conv => whnf
      first
        | refine And.intro (a := drawB _ = true) (by kernel_rfl) ?_
        | refine And.intro (a := (_ : Bool) = true) rfl ?_
        | refine And.intro (a := (_ : Bool) = true ∧ (_ : Bool) = true) ⟨rfl, rfl⟩ ?_
        | refine And.intro (a := (_ : Bool) = true ∧ (_ : List _) = []) ⟨rfl, rfl⟩ ?_
        | refine And.intro (a := IR _ _) (And.intro (by omega) (by omega)) ?_
        | refine And.intro (a := (0 : Int) ≤ _ ∧ _ < _) (And.intro (by omega) (by omega)) ?_
        | refine And.intro (a := (_ : Bool) = true) (by simp only [Nat.beq_refl]; rfl) ?_
        | refine And.intro (a := ((_ : Bool) = true → 1 ≤ _) ∧ _ ≤ 9223372036854775807 ∧ _ ≤ 140737488355328) ⟨fun h => (by first | omega | cases h), by omega, by omega⟩ ?_
        | refine splT ?_
        | refine splF ?_
        | refine splNot ?_
        | (refine splIn (fun hc => ?_) (fun hc => ?_) <;> first | (exfalso; omega) | (exfalso; dsimp only at hc; omega) | skip)
        | (refine splD (fun hc => ?_) (fun hc => ?_) <;> first | (exfalso; omega) | (exfalso; dsimp only at hc; omega) | skip)
        | (refine splE (fun hc => ?_) (fun hc => ?_) <;> first | (exfalso; omega) | (exfalso; dsimp only at hc; omega) | skip)
        | (refine splNE (fun hc => ?_) (fun hc => ?_) <;> first | (exfalso; omega) | (exfalso; dsimp only at hc; omega) | skip)
        | ((with_reducible show CallEv _ _ 23 _ _ _ _ _); refine callE (k := 23) (fun β w' hbw => few_ok g _) ?_)
        | ((with_reducible show CallEv _ _ 20 _ _ _ _ _); refine callE (k := 20) (fun β w' hbw => wakes_ok _) ?_)
    exact ⟨fun β => rfl, fun w' h => h⟩
  have hl : bs.length ≤ 1000000 := by omega
  by_cases hg : g.ok bs = true
  case neg =>
    have hR : ∀ w', Below w.heap.size w w' → Calls Try.prog 26 #[g.v] w' fun e w'' => e = .returned (.bool false) ∧ Below w'.heap.size w' w'' := fun w' hb => by
      have := Right_ok g bs w' (hrd.below hb) hl
      rwa [Bool.eq_false_iff.2 hg] at this
    refine calls_val env mixed Try.func5 has5 Try.ntmps5 [g.v, .int .u16 rel, .agg #[uw w0, uw w1, uw w2, uw w3, uw w4, uw w5]] (by simp) ?_
    repeat'
      conv => whnf
      first
        | refine And.intro (a := drawB _ = true) (by kernel_rfl) ?_
        | refine And.intro (a := (_ : Bool) = true) rfl ?_
        | refine And.intro (a := (_ : Bool) = true ∧ (_ : Bool) = true) ⟨rfl, rfl⟩ ?_
        | refine And.intro (a := (_ : Bool) = true ∧ (_ : List _) = []) ⟨rfl, rfl⟩ ?_
        | refine And.intro (a := IR _ _) (And.intro (by omega) (by omega)) ?_
        | refine And.intro (a := (0 : Int) ≤ _ ∧ _ < _) (And.intro (by omega) (by omega)) ?_
        | refine And.intro (a := (_ : Bool) = true) (by simp only [Nat.beq_refl]; rfl) ?_
        | refine And.intro (a := ((_ : Bool) = true → 1 ≤ _) ∧ _ ≤ 9223372036854775807 ∧ _ ≤ 140737488355328) ⟨fun h => (by first | omega | cases h), by omega, by omega⟩ ?_
        | refine splT ?_
        | refine splF ?_
        | refine splNot ?_
        | (refine splIn (fun hc => ?_) (fun hc => ?_) <;> first | (exfalso; omega) | (exfalso; dsimp only at hc; omega) | skip)
        | (refine splD (fun hc => ?_) (fun hc => ?_) <;> first | (exfalso; omega) | (exfalso; dsimp only at hc; omega) | skip)
        | (refine splE (fun hc => ?_) (fun hc => ?_) <;> first | (exfalso; omega) | (exfalso; dsimp only at hc; omega) | skip)
        | (refine splNE (fun hc => ?_) (fun hc => ?_) <;> first | (exfalso; omega) | (exfalso; dsimp only at hc; omega) | skip)
        | ((with_reducible show CallEv _ _ 23 _ _ _ _ _); refine callE (k := 23) (fun β w' hbw => few_ok g _) ?_)
        | ((with_reducible show CallEv _ _ 26 _ _ _ _ _); refine callE (k := 26) (fun β w' hbw => hR _ hbw) ?_)
        | ((with_reducible show CallEv _ _ 20 _ _ _ _ _); refine callE (k := 20) (fun β w' hbw => wakes_ok _) ?_)
    exact ⟨fun β => rfl, fun w' h => h⟩
  have hR : ∀ w', Below w.heap.size w w' → Calls Try.prog 26 #[g.vo g.o] w' fun e w'' => e = .returned (.bool true) ∧ Below w'.heap.size w' w'' := fun w' hb => by
    have := Right_ok g bs w' (hrd.below hb) hl
    rwa [hg] at this
  have hg' := Fg.ok_iff.1 hg
  have hf' := Fl.ok_iff.1 hg'.1
  have m0 := Int.emod_nonneg rel (b := 6001) (by omega)
  have m1 := Int.emod_lt_of_pos rel (b := 6001) (by omega)
  have hrr : ∃ r, rel % 6001 = r := ⟨_, rfl⟩
  obtain ⟨r, hr⟩ := hrr
  rw [hr] at m0 m1
  have hlen := catL_len g bs r g.k
  have hkk : (g.k : Int) = g.mo - g.le + 1 := by unfold Fg.k; omega
  obtain ⟨_, ad, ho, _⟩ := hrd.some (by omega)
  have c1 := fun (y : Option Addr × Nat) w' h => fam_ys (F := fun z => .tuple #[sV (catL g bs r g.k).length z, iv 0]) (Cat_yes g bs y r w' h hl hg (by omega))
  have hmem := fun x (hx : x ∈ catL g bs r g.k) => catL_mem hx
  generalize catL g bs r g.k = L at *
  have px := pick_bd (lo := g.f.a.x.lo) (hi := g.f.a.x.hi) (w := w0) (by omega)
  have pz := pick_bd (lo := g.f.a.z.lo) (hi := g.f.a.z.hi) (w := w1) (by omega)
  have pu := pick_bd (lo := g.f.s.x.lo) (hi := g.f.s.x.hi) (w := w2) (by omega)
  have pv := pick_bd (lo := g.f.s.z.lo) (hi := g.f.s.z.hi) (w := w3) (by omega)
  have kx := fun w' => pick_ok g.f.a.x.lo g.f.a.x.hi w0 w' (by omega) (by omega) (by omega) h0
  have kz := fun w' => pick_ok g.f.a.z.lo g.f.a.z.hi w1 w' (by omega) (by omega) (by omega) h1
  have ku := fun w' => pick_ok g.f.s.x.lo g.f.s.x.hi w2 w' (by omega) (by omega) (by omega) h2
  have kv := fun w' => pick_ok g.f.s.z.lo g.f.s.z.hi w3 w' (by omega) (by omega) (by omega) h3
  generalize g.f.a.x.lo + w0 % (g.f.a.x.hi - g.f.a.x.lo + 1) = x at *
  generalize g.f.a.z.lo + w1 % (g.f.a.z.hi - g.f.a.z.lo + 1) = z at *
  generalize g.f.s.x.lo + w2 % (g.f.s.x.hi - g.f.s.x.lo + 1) = u at *
  generalize g.f.s.z.lo + w3 % (g.f.s.z.hi - g.f.s.z.lo + 1) = v at *
  have hFl : ∀ w', Below w.heap.size w w' → Calls Try.prog 25 #[g.vo (some ad)] w' fun e w'' => ∃ y : Option Addr × Nat, e = .returned (g.at y).v ∧ Below w'.heap.size w' w'' ∧ St w'.heap.size (Rd 4 Bx.cs (.slice y.1 g.n y.2) bs) w'' := fun w' hb => by
    have := Flight_ok g bs w' (hrd.below hb) hl
    rwa [show g.v = g.vo (some ad) from by rw [← ho]] at this
  have hfw : ∀ w', Calls Try.prog 23 #[g.vo (some ad)] w' fun e w'' => e = .returned (.bool (decide ((g.n : Int) ≤ 700))) ∧ Below w'.heap.size w' w'' := fun w' => by
    have := few_ok g w'
    rwa [show g.v = g.vo (some ad) from by rw [← ho]] at this
  show Calls Try.prog 5 #[g.vo g.o, .int .u16 rel, .agg #[uw w0, uw w1, uw w2, uw w3, uw w4, uw w5]] w _
  rw [ho] at hR hrd ⊢
  refine calls_val env mixed Try.func5 has5 Try.ntmps5 [g.vo (some ad), .int .u16 rel, .agg #[uw w0, uw w1, uw w2, uw w3, uw w4, uw w5]] (by simp) ?_
  repeat'
    conv => whnf
    first
      | refine And.intro (a := drawB _ = true) (by kernel_rfl) ?_
      | refine And.intro (a := (_ : Bool) = true) rfl ?_
      | refine And.intro (a := (_ : Bool) = true ∧ (_ : Bool) = true) ⟨rfl, rfl⟩ ?_
      | refine And.intro (a := (_ : Bool) = true ∧ (_ : List _) = []) ⟨rfl, rfl⟩ ?_
      | refine And.intro (a := IR _ _) (And.intro (by omega) (by omega)) ?_
      | refine And.intro (a := (0 : Int) ≤ _ ∧ _ < _) (And.intro (by omega) (by omega)) ?_
      | refine And.intro (a := (_ : Bool) = true) (by simp only [Nat.beq_refl]; rfl) ?_
      | refine And.intro (a := ((_ : Bool) = true → 1 ≤ _) ∧ _ ≤ 9223372036854775807 ∧ _ ≤ 140737488355328) ⟨fun h => (by first | omega | cases h), by omega, by omega⟩ ?_
      | refine splT ?_
      | refine splF ?_
      | refine splNot ?_
      | (refine splIn (fun hc => ?_) (fun hc => ?_) <;> first | (exfalso; omega) | (exfalso; dsimp only at hc; omega) | skip)
      | (refine splD (fun hc => ?_) (fun hc => ?_) <;> first | (exfalso; omega) | (exfalso; dsimp only at hc; omega) | skip)
      | (refine splE (fun hc => ?_) (fun hc => ?_) <;> first | (exfalso; omega) | (exfalso; dsimp only at hc; omega) | skip)
      | (refine splNE (fun hc => ?_) (fun hc => ?_) <;> first | (exfalso; omega) | (exfalso; dsimp only at hc; omega) | skip)
      | ((with_reducible show CallEv _ _ 23 _ _ _ _ _); refine callE (k := 23) (fun β w' hbw => hfw _) ?_)
      | ((with_reducible show CallEv _ _ 26 _ _ _ _ _); refine callE (k := 26) (fun β w' hbw => hR _ hbw) ?_)
      | refine Exists.intro (α := Value) (iv rel) ⟨cv16 rel hrel, ?_⟩
      | refine remE (by omega) (by omega) ?_; rw [hr]
      | ((with_reducible show CallEv _ _ 25 _ _ _ _ _); refine callF [] (fun y => (g.at y).v) (fun y => Rd 4 Bx.cs (.slice y.1 g.n y.2) bs) (fun β w' _ hbw => hFl w' hbw) ?_; intro y)
      | ((with_reducible show CallEv _ _ 24 _ _ _ _ _); refine callF [] (fun z : YS L => .tuple #[sV L.length z.1, iv 0]) (fun z => Rd 1 iF (sV L.length z.1) L) (fun β w' _ hbw => c1 _ w' hbw.2) ?_; rintro ⟨l, hl⟩)
      | ((with_reducible show CallEv _ _ 29 [.agg [.v (iv g.f.a.x.lo), _], _] _ _ _ _); refine callE (fun β w' hbw => kx _) ?_)
      | ((with_reducible show CallEv _ _ 29 [.agg [.v (iv g.f.a.z.lo), _], _] _ _ _ _); refine callE (fun β w' hbw => kz _) ?_)
      | ((with_reducible show CallEv _ _ 29 [.agg [.v (iv g.f.s.x.lo), _], _] _ _ _ _); refine callE (fun β w' hbw => ku _) ?_)
      | ((with_reducible show CallEv _ _ 29 [.agg [.v (iv g.f.s.z.lo), _], _] _ _ _ _); refine callE (fun β w' hbw => kv _) ?_)
  refine loopE (fun k : Nat => [(3, .ptr 0 0), (5, .ptr 1 0), (7, .v (iv r)), (8, .v (sV L.length l)), (10, .v (iv x)), (11, .v (iv z)), (12, .v (iv u)), (13, .v (iv v)), (14, .v (iv k))]) (fun _ => [(0, .cells [.v (iv g.f.a.x.lo), .v (iv g.f.a.x.hi), .v (iv g.f.a.z.lo), .v (iv g.f.a.z.hi), .v (iv g.f.s.x.lo), .v (iv g.f.s.x.hi), .v (iv g.f.s.z.lo), .v (iv g.f.s.z.hi), .v (iv g.f.m), .v (.slice (some ad) g.n g.c), .v (iv g.re), .v (iv g.so), .v (iv g.be), .v (iv g.le), .v (iv g.mo)] 41), (1, .cells [.v (uw w0), .v (uw w1), .v (uw w2), .v (uw w3), .v (uw w4), .v (uw w5)] 60)])
    (fun k => k ≤ L.length) (fun k => L.length - k) 0 (Nat.zero_le _) ⟨rfl, rfl, rfl, rfl, rfl, rfl, rfl, rfl, rfl, trivial⟩ ⟨rfl, rfl, trivial⟩ (fun _ => ⟨rfl, rfl⟩) ?_
  intro k hk
  rcases Nat.lt_or_ge k L.length with hkl | hkl
  · obtain ⟨xk, hx⟩ : ∃ x, L[k]? = some x := ⟨_, List.getElem?_eq_getElem hkl⟩
    obtain ⟨j, hj1, hj2, hj3⟩ := hmem xk (List.mem_of_getElem? hx)
    obtain ⟨l1, l2⟩ := l
    obtain ⟨al, rfl⟩ : ∃ ad, l1 = some ad := hl.resolve_left (fun h => by rw [h] at hx; simp at hx)
    have e0 := Int.emod_nonneg xk (b := (g.n : Int)) (by omega)
    have e1 := Int.emod_lt_of_pos xk (b := (g.n : Int)) (by omega)
    obtain ⟨hb, hbe⟩ : ∃ b, bs[(xk % (g.n : Int)).toNat]? = some b := ⟨_, List.getElem?_eq_getElem (by omega)⟩
    have hh : hnd g bs xk = hb := by unfold hnd; rw [hbe]; rfl
    have hbb := Bx.ok_iff.1 (hg'.2.2.1 _ (List.mem_of_getElem? hbe))
    have pp := pick_bd (lo := hb.x.lo) (hi := hb.x.hi) (w := w4) (by omega)
    have pq := pick_bd (lo := hb.z.lo) (hi := hb.z.hi) (w := w5) (by omega)
    have kp := fun w' => pick_ok hb.x.lo hb.x.hi w4 w' (by omega) (by omega) (by omega) h4
    have kq := fun w' => pick_ok hb.z.lo hb.z.hi w5 w' (by omega) (by omega) (by omega) h5
    generalize hb.x.lo + w4 % (hb.x.hi - hb.x.lo + 1) = p at *
    generalize hb.z.lo + w5 % (hb.z.hi - hb.z.lo + 1) = q at *
    obtain ⟨s1, s2, s3⟩ := sure_choice hg j hj2 hj1 hj3 px pz pu pv (p := p) (q := q) (by rw [hh]; exact pp) (by rw [hh]; exact pq)
    obtain ⟨d1, d2, d3, d4, d5⟩ := ld_choice hg'.1 hg'.2.2.2.2.1 hg'.2.2.2.2.2.1 (t := xk - r) (by omega) pu pv s3
    have b1 := mul_small (t := xk - r) (u := u) (m := 10000) (by omega) (by omega) (by omega)
    have b2 := mul_small (t := xk - r) (u := v) (m := 10000) (by omega) (by omega) (by omega)
    have b3 := sq49 (t := xk - r) (by omega)
    have eh : ∀ w', Rd 4 Bx.cs (.slice (some ad) g.n g.c) bs w' → ∀ j v, [iv hb.x.lo, iv hb.x.hi, iv hb.z.lo, iv hb.z.hi][j]? = some v → w'.cell? ((ad.add ((xk % (g.n : Int)).toNat * 4)).add j) = some v := fun w' hw' => rd_at (f := Bx.cs) hw' hbe
    obtain ⟨⟨y0, y1⟩, ⟨y2, y3⟩⟩ := hb
    dsimp only at *
    repeat'
      conv => whnf
      first
        | refine And.intro (a := drawB _ = true) (by kernel_rfl) ?_
        | refine And.intro (a := (_ : Bool) = true) rfl ?_
        | refine And.intro (a := (_ : Bool) = true ∧ (_ : Bool) = true) ⟨rfl, rfl⟩ ?_
        | refine And.intro (a := (_ : Bool) = true ∧ (_ : List _) = []) ⟨rfl, rfl⟩ ?_
        | refine And.intro (a := IR _ _) (And.intro (by omega) (by omega)) ?_
        | refine And.intro (a := (0 : Int) ≤ _ ∧ _ < _) (And.intro (by omega) (by omega)) ?_
        | refine And.intro (a := (_ : Bool) = true) (by simp only [Nat.beq_refl]; rfl) ?_
        | refine And.intro (a := ((_ : Bool) = true → 1 ≤ _) ∧ _ ≤ 9223372036854775807 ∧ _ ≤ 140737488355328) ⟨fun h => (by first | omega | cases h), by omega, by omega⟩ ?_
        | refine splT ?_
        | refine splF ?_
        | refine splNot ?_
        | (refine splIn (fun hc => ?_) (fun hc => ?_) <;> first | (exfalso; omega) | (exfalso; dsimp only at hc; omega) | skip)
        | (refine splD (fun hc => ?_) (fun hc => ?_) <;> first | (exfalso; omega) | (exfalso; dsimp only at hc; omega) | skip)
        | (refine splE (fun hc => ?_) (fun hc => ?_) <;> first | (exfalso; omega) | (exfalso; dsimp only at hc; omega) | skip)
        | (refine splNE (fun hc => ?_) (fun hc => ?_) <;> first | (exfalso; omega) | (exfalso; dsimp only at hc; omega) | skip)
        | refine Exists.intro (α := List Value) [iv xk] ⟨⟨rfl, fun w' hw' => rd_ati hw'.2 hx⟩, ?_⟩
        | refine Exists.intro (α := List Value) [iv y0, iv y1, iv y2, iv y3] ⟨⟨rfl, fun w' hw' => eh w' (hrd.below hw'.1.1)⟩, ?_⟩
        | refine remE (by omega) (by omega) ?_
        | ((with_reducible show CallEv _ _ 29 [.agg [.v (iv y0), _], _] _ _ _ _); refine callE (fun β w' hbw => kp _) ?_)
        | ((with_reducible show CallEv _ _ 29 [.agg [.v (iv y2), _], _] _ _ _ _); refine callE (fun β w' hbw => kq _) ?_)
        | ((with_reducible show CallEv _ _ 30 _ _ _ _ _); refine callE (k := 30) (fun β w' hbw => size_ok _ _ (by omega)) ?_)
    all_goals first | exact ⟨k + 1, by omega, by omega, Ent.weak rfl ⟨rfl, rfl, rfl, rfl, rfl, rfl, rfl, rfl, rfl, trivial⟩ ⟨rfl, rfl, trivial⟩ fun _ h => h⟩ | skip
  · skip
    repeat'
      conv => whnf
      first
        | refine And.intro (a := drawB _ = true) (by kernel_rfl) ?_
        | refine And.intro (a := (_ : Bool) = true) rfl ?_
        | refine And.intro (a := (_ : Bool) = true ∧ (_ : Bool) = true) ⟨rfl, rfl⟩ ?_
        | refine And.intro (a := (_ : Bool) = true ∧ (_ : List _) = []) ⟨rfl, rfl⟩ ?_
        | refine And.intro (a := IR _ _) (And.intro (by omega) (by omega)) ?_
        | refine And.intro (a := (0 : Int) ≤ _ ∧ _ < _) (And.intro (by omega) (by omega)) ?_
        | refine And.intro (a := (_ : Bool) = true) (by simp only [Nat.beq_refl]; rfl) ?_
        | refine And.intro (a := ((_ : Bool) = true → 1 ≤ _) ∧ _ ≤ 9223372036854775807 ∧ _ ≤ 140737488355328) ⟨fun h => (by first | omega | cases h), by omega, by omega⟩ ?_
        | refine splT ?_
        | refine splF ?_
        | refine splNot ?_
        | (refine splIn (fun hc => ?_) (fun hc => ?_) <;> first | (exfalso; omega) | (exfalso; dsimp only at hc; omega) | skip)
        | (refine splD (fun hc => ?_) (fun hc => ?_) <;> first | (exfalso; omega) | (exfalso; dsimp only at hc; omega) | skip)
        | (refine splE (fun hc => ?_) (fun hc => ?_) <;> first | (exfalso; omega) | (exfalso; dsimp only at hc; omega) | skip)
        | (refine splNE (fun hc => ?_) (fun hc => ?_) <;> first | (exfalso; omega) | (exfalso; dsimp only at hc; omega) | skip)
        | ((with_reducible show CallEv _ _ 20 _ _ _ _ _); refine callE (k := 20) (fun β w' hbw => wakes_ok _) ?_)
    exact ⟨fun β => rfl, fun w' h => (by first | exact h | exact h.1 | exact h.1.1 | exact h.1.1.1 | exact h.1.1.1.1 | exact h.1.1.1.1.1 | exact h.1.1.1.1.1.1 | exact h.1.1.1.1.1.1.1)⟩
end Go.Proofs.Ytlehjapeomallaa
