/- The law of windows that hold just the good releases: its first loop. -/
import Derived.Test.YtlehjapeomallaaVS
namespace Go.Proofs.Ytlehjapeomallaa.V
open Go Tx Go.RowKit
set_option linter.unusedSimpArgs false
set_option linter.unusedVariables false

abbrev gsy (g : Fg) (yo : Option Addr) (yc : Nat) : List SV := [.v (iv g.f.a.x.lo), .v (iv g.f.a.x.hi), .v (iv g.f.a.z.lo), .v (iv g.f.a.z.hi), .v (iv g.f.s.x.lo), .v (iv g.f.s.x.hi), .v (iv g.f.s.z.lo), .v (iv g.f.s.z.hi), .v (iv g.f.m), .v (.slice yo g.n yc), .v (iv g.re), .v (iv g.so), .v (iv g.be), .v (iv g.le), .v (iv g.mo)]
theorem neqEBv {a b va vb : Bool} {x y : Operand} {K : Value → Prop} (ha : a = va) (hb : b = vb) (h : K (.bool (!(va == vb)))) : ∃ v, (∀ _ : Nat → Nat, RunIs Try.prog (do eqGuard .neq 4 x y (.bool a) (.bool b); binOp .neq 4 (.bool a) (.bool b)) v) ∧ K v := by
  subst ha hb; exact neqEB h
theorem Cat_v (g : Fg) (bs : List Bx) (yo : Option Addr) (yc : Nat) (r : Int) (w : World) (hrd : Rd 4 Bx.cs (.slice yo g.n yc) bs w) (hl : bs.length ≤ 1000000) (hg : g.ok bs = true) (hr : 0 ≤ r ∧ r ≤ 6000) :
    Calls Try.prog 24 #[.agg #[iv g.f.a.x.lo, iv g.f.a.x.hi, iv g.f.a.z.lo, iv g.f.a.z.hi, iv g.f.s.x.lo, iv g.f.s.x.hi, iv g.f.s.z.lo, iv g.f.s.z.hi, iv g.f.m, .slice yo g.n yc, iv g.re, iv g.so, iv g.be, iv g.le, iv g.mo], iv r] w fun e w' => ∃ u : YS (catL g bs r g.k), e = .returned (.tuple #[sV (catL g bs r g.k).length u.1, iv 0]) ∧ Below w.heap.size w w' ∧ St w.heap.size (Rd 1 iF (sV (catL g bs r g.k).length u.1) (catL g bs r g.k)) w' :=
  fam ((Cat_yes g bs (yo, yc) r w hrd hl hg hr).mono fun _ _ ⟨z, h1, h2, h3⟩ => ⟨⟨z, rd_ys h3.now⟩, h1, h2, h3⟩)
theorem PW_v (g : Fg) (bs : List Bx) (yo : Option Addr) (yc : Nat) (a b : Int) (zo : Option Addr) (zc m : Nat) (L : List Int) (w : World) (hrd : Rd 4 Bx.cs (.slice yo g.n yc) bs w) (hl : bs.length ≤ 1000000) (hm : m = L.length) (hL : Rd 1 iF (.slice zo m zc) L w)
    (hr : ∀ n ∈ L, -9223372036854775808 ≤ n ∧ n ≤ 9223372036854775807) :
    Calls Try.prog 48 #[.agg #[iv g.f.a.x.lo, iv g.f.a.x.hi, iv g.f.a.z.lo, iv g.f.a.z.hi, iv g.f.s.x.lo, iv g.f.s.x.hi, iv g.f.s.z.lo, iv g.f.s.z.hi, iv g.f.m, .slice yo g.n yc, iv g.re, iv g.so, iv g.be, iv g.le, iv g.mo], .agg #[iv a, iv b], .slice zo m zc] w fun e w' => e = .returned (.bool (prv g bs a b L)) ∧ Below w.heap.size w w' := by
  subst hm
  rw [← prv_at g bs (yo, yc)]
  exact ProveWindow_ok (g.at (yo, yc)) bs a b (zo, zc) L w hrd hl hL hr

/-- The body of a loop that is the first statement left. -/
def loopOf : Code → Code
  | .seq (.seq _ (.block _ (.loop c))) _ => c
  | c => c

set_option maxRecDepth 100000 in
theorem hB1 (g : Fg) (bs : List Bx) (yo zo : Option Addr) (yc zc : Nat) (W : List (Int × Int)) (a : Int) (n : Nat) (s4 : Value) (wa wb : Int) (w : World) (hg : g.ok bs = true) (hl : bs.length ≤ 1000000) (h0 : 0 ≤ a) (hn : a + n ≤ 6000) (hw : WI (gd g bs) W a (a + n)) (hwl : W.length ≤ 1000000)
    (hz : W = [] ∨ ∃ ad, zo = some ad) (j k : Nat) (hj : a + (j : Int) ≤ a + n + 1) (hI : HI W (hdc g bs) (a + j) k ([] : List Int)) (hle : a + (j : Int) ≤ a + n) (hp : gd g bs (a + j) = false) {Φ : Exit → Sg → Prop} :
    vc env (loopOf (rest 9 body14)) ⟨163, [(4, .v s4), (8, .ptr 1 0), (11, .ptr 2 0), (13, .v (iv (a + n))), (14, .v (.slice zo W.length zc)), (16, .v (iv k)), (17, oSV 3 4 ([] : List Int)), (18, .v (iv (a + j)))], (1, .cells [.v (iv wa), .v (iv wb)] 94) :: (2, .cells (gsy g yo yc) 54) :: oM 3 4 1 iF 3 ([] : List Int), 5, (fun w' => (Below w.heap.size w w' ∧ Rd 4 Bx.cs (.slice yo g.n yc) bs w') ∧ Rd 2 wF (.slice zo W.length zc) W w'), z0⟩
      (seqΦ (fun σ' => ∃ x', (fun x : Nat × Nat × List Int => a + x.1 ≤ a + n + 1 ∧ HI W (hdc g bs) (a + x.1) x.2.1 x.2.2) x' ∧ (fun x : Nat × Nat × List Int => n + 1 - x.1) x' < n + 1 - j ∧ Ent σ' ⟨163, (fun x : Nat × Nat × List Int => [(4, .v s4), (8, .ptr 1 0), (11, .ptr 2 0), (13, .v (iv (a + n))), (14, .v (.slice zo W.length zc)), (16, .v (iv x.2.1)), (17, oSV 3 4 x.2.2), (18, .v (iv (a + x.1)))]) x', (fun x : Nat × Nat × List Int => (1, .cells [.v (iv wa), .v (iv wb)] 94) :: (2, .cells (gsy g yo yc) 54) :: oM 3 4 1 iF 3 x.2.2) x', 5, (fun w' => (Below w.heap.size w w' ∧ Rd 4 Bx.cs (.slice yo g.n yc) bs w') ∧ Rd 2 wF (.slice zo W.length zc) W w'), z0⟩) Φ) := by
  have hg' := Fg.ok_iff.1 hg
  have hij : a + ((j + 1 : Nat) : Int) = a + (j : Int) + 1 := by omega
  have hkl := hI.le
  have hC : ∀ (r : Int) w', (0 ≤ r ∧ r ≤ 6000) → ((Below w.heap.size w w' ∧ Rd 4 Bx.cs (.slice yo g.n yc) bs w') ∧ Rd 2 wF (.slice zo W.length zc) W w') → _ := fun r w' hr hh => Cat_v g bs yo yc r w' hh.1.2 hl hg hr
  have hCk := fun w' => hC (a + j) w' (by omega)
  have hFl := hI.len hw (by omega) (by omega)
  skip
  have hno := hI.no hw hp
  have hsk := hI.skip hw hp
  have hce : catL g bs (a + j) g.k = [] := by
    have h1 : ¬ gd g bs (a + j) = true := by simp [hp]
    rw [gd_iff] at h1
    exact Classical.not_not.1 h1
  rw [hce] at hCk
  rcases Nat.lt_or_ge k W.length with hkw | hkw
  · obtain ⟨x, hx⟩ : ∃ x, W[k]? = some x := ⟨_, List.getElem?_eq_getElem hkw⟩
    have hno := hno x hx
    obtain ⟨ad, rfl⟩ := hz.resolve_left (by intro h; rw [h] at hkw; simp at hkw)
    repeat'
      conv => whnf
      first
        | refine And.intro (a := drawB _ = true) (by kernel_rfl) ?_
        | refine And.intro (a := (_ : Bool) = true) rfl ?_
        | refine And.intro (a := (_ : Bool) = true ∧ (_ : Bool) = true) ⟨rfl, rfl⟩ ?_
        | refine And.intro (a := (_ : Bool) = true ∧ (_ : List _) = []) ⟨rfl, rfl⟩ ?_
        | refine And.intro (a := IR _ _) (And.intro (by omega) (by omega)) ?_
        | refine wrapE (And.intro (by omega) (by omega)) ?_
        | refine And.intro (a := (0 : Int) ≤ _ ∧ _ < _) (And.intro (by omega) (by omega)) ?_
        | refine And.intro (a := (_ : Bool) = true) (by simp only [Nat.beq_refl]; rfl) ?_
        | refine And.intro (a := ((_ : Bool) = true → 1 ≤ _) ∧ _ ≤ 9223372036854775807 ∧ _ ≤ 140737488355328) ⟨fun h => (by first | omega | cases h), by omega, by omega⟩ ?_
        | refine splT ?_
        | refine splF ?_
        | refine splNot ?_
        | (refine splIn (fun hc => ?_) (fun hc => ?_) <;> first | (exfalso; omega) | (exfalso; dsimp only at hc; omega) | skip)
        | (refine splD (fun hc => ?_) (fun hc => ?_) <;> first | (exfalso; omega) | (exfalso; dsimp only at hc; omega) | skip)
        | (refine splE (fun hc => ?_) (fun hc => ?_) <;> first | (exfalso; omega) | (exfalso; dsimp only at hc; omega) | skip)
        | (refine splNE (fun hc => ?_) (fun hc => ?_) <;> first | (exfalso; omega) | (exfalso; dsimp only at hc; omega) | skip)
        | ((with_reducible show CallEv _ _ 24 _ _ _ _ _); refine callF [] (fun u : YS ([] : List Int) => .tuple #[sV 0 u.1, iv 0]) (fun u => Rd 1 iF (sV 0 u.1) ([] : List Int)) (fun β w' _ hbw => hCk w' hbw) ?_; intro u)
        | refine Exists.intro (α := List Value) [iv x.1] ⟨⟨rfl, fun w' hw' => rd_fld hw'.1.2 hx 0 _ rfl⟩, ?_⟩
        | refine neqEBv (va := false) (vb := false) rfl (decide_eq_false (by omega)) ?_
    all_goals first | (exfalso; omega) | skip
    exact ⟨(j + 1, k, ([] : List Int)), ⟨by show a + ((j + 1 : Nat) : Int) ≤ _; omega, by show HI W (hdc g bs) (a + ((j + 1 : Nat) : Int)) _ _; rw [hij]; exact hsk⟩, by show _ - (j + 1) < _ - j; omega, Ent.weak rfl ⟨rfl, rfl, rfl, rfl, rfl, rfl, rfl, by show _ = some (SV.v (iv (a + ((j + 1 : Nat) : Int)))); rw [hij]; rfl, trivial⟩ ⟨rfl, rfl, trivial⟩ fun _ h => h.1⟩
  · skip
    repeat'
      conv => whnf
      first
        | refine And.intro (a := drawB _ = true) (by kernel_rfl) ?_
        | refine And.intro (a := (_ : Bool) = true) rfl ?_
        | refine And.intro (a := (_ : Bool) = true ∧ (_ : Bool) = true) ⟨rfl, rfl⟩ ?_
        | refine And.intro (a := (_ : Bool) = true ∧ (_ : List _) = []) ⟨rfl, rfl⟩ ?_
        | refine And.intro (a := IR _ _) (And.intro (by omega) (by omega)) ?_
        | refine wrapE (And.intro (by omega) (by omega)) ?_
        | refine And.intro (a := (0 : Int) ≤ _ ∧ _ < _) (And.intro (by omega) (by omega)) ?_
        | refine And.intro (a := (_ : Bool) = true) (by simp only [Nat.beq_refl]; rfl) ?_
        | refine And.intro (a := ((_ : Bool) = true → 1 ≤ _) ∧ _ ≤ 9223372036854775807 ∧ _ ≤ 140737488355328) ⟨fun h => (by first | omega | cases h), by omega, by omega⟩ ?_
        | refine splT ?_
        | refine splF ?_
        | refine splNot ?_
        | (refine splIn (fun hc => ?_) (fun hc => ?_) <;> first | (exfalso; omega) | (exfalso; dsimp only at hc; omega) | skip)
        | (refine splD (fun hc => ?_) (fun hc => ?_) <;> first | (exfalso; omega) | (exfalso; dsimp only at hc; omega) | skip)
        | (refine splE (fun hc => ?_) (fun hc => ?_) <;> first | (exfalso; omega) | (exfalso; dsimp only at hc; omega) | skip)
        | (refine splNE (fun hc => ?_) (fun hc => ?_) <;> first | (exfalso; omega) | (exfalso; dsimp only at hc; omega) | skip)
        | ((with_reducible show CallEv _ _ 24 _ _ _ _ _); refine callF [] (fun u : YS ([] : List Int) => .tuple #[sV 0 u.1, iv 0]) (fun u => Rd 1 iF (sV 0 u.1) ([] : List Int)) (fun β w' _ hbw => hCk w' hbw) ?_; intro u)
        | refine neqEBv (va := false) (vb := false) rfl (decide_eq_false (by omega)) ?_
    all_goals first | (exfalso; omega) | skip
    exact ⟨(j + 1, k, ([] : List Int)), ⟨by show a + ((j + 1 : Nat) : Int) ≤ _; omega, by show HI W (hdc g bs) (a + ((j + 1 : Nat) : Int)) _ _; rw [hij]; exact hsk⟩, by show _ - (j + 1) < _ - j; omega, Ent.weak rfl ⟨rfl, rfl, rfl, rfl, rfl, rfl, rfl, by show _ = some (SV.v (iv (a + ((j + 1 : Nat) : Int)))); rw [hij]; rfl, trivial⟩ ⟨rfl, rfl, trivial⟩ fun _ h => h.1⟩

set_option maxRecDepth 100000 in
theorem hB2 (g : Fg) (bs : List Bx) (yo zo : Option Addr) (yc zc : Nat) (W : List (Int × Int)) (a : Int) (n : Nat) (s4 : Value) (wa wb : Int) (w : World) (hg : g.ok bs = true) (hl : bs.length ≤ 1000000) (h0 : 0 ≤ a) (hn : a + n ≤ 6000) (hw : WI (gd g bs) W a (a + n)) (hwl : W.length ≤ 1000000)
    (hz : W = [] ∨ ∃ ad, zo = some ad) (j k : Nat) (hj : a + (j : Int) ≤ a + n + 1) (hI : HI W (hdc g bs) (a + j) k ([] : List Int)) (hle : a + (j : Int) ≤ a + n) (hp : gd g bs (a + j) = true) {Φ : Exit → Sg → Prop} :
    vc env (loopOf (rest 9 body14)) ⟨163, [(4, .v s4), (8, .ptr 1 0), (11, .ptr 2 0), (13, .v (iv (a + n))), (14, .v (.slice zo W.length zc)), (16, .v (iv k)), (17, oSV 3 4 ([] : List Int)), (18, .v (iv (a + j)))], (1, .cells [.v (iv wa), .v (iv wb)] 94) :: (2, .cells (gsy g yo yc) 54) :: oM 3 4 1 iF 3 ([] : List Int), 5, (fun w' => (Below w.heap.size w w' ∧ Rd 4 Bx.cs (.slice yo g.n yc) bs w') ∧ Rd 2 wF (.slice zo W.length zc) W w'), z0⟩
      (seqΦ (fun σ' => ∃ x', (fun x : Nat × Nat × List Int => a + x.1 ≤ a + n + 1 ∧ HI W (hdc g bs) (a + x.1) x.2.1 x.2.2) x' ∧ (fun x : Nat × Nat × List Int => n + 1 - x.1) x' < n + 1 - j ∧ Ent σ' ⟨163, (fun x : Nat × Nat × List Int => [(4, .v s4), (8, .ptr 1 0), (11, .ptr 2 0), (13, .v (iv (a + n))), (14, .v (.slice zo W.length zc)), (16, .v (iv x.2.1)), (17, oSV 3 4 x.2.2), (18, .v (iv (a + x.1)))]) x', (fun x : Nat × Nat × List Int => (1, .cells [.v (iv wa), .v (iv wb)] 94) :: (2, .cells (gsy g yo yc) 54) :: oM 3 4 1 iF 3 x.2.2) x', 5, (fun w' => (Below w.heap.size w w' ∧ Rd 4 Bx.cs (.slice yo g.n yc) bs w') ∧ Rd 2 wF (.slice zo W.length zc) W w'), z0⟩) Φ) := by
  have hg' := Fg.ok_iff.1 hg
  have hij : a + ((j + 1 : Nat) : Int) = a + (j : Int) + 1 := by omega
  have hkl := hI.le
  have hC : ∀ (r : Int) w', (0 ≤ r ∧ r ≤ 6000) → ((Below w.heap.size w w' ∧ Rd 4 Bx.cs (.slice yo g.n yc) bs w') ∧ Rd 2 wF (.slice zo W.length zc) W w') → _ := fun r w' hr hh => Cat_v g bs yo yc r w' hh.1.2 hl hg hr
  have hCk := fun w' => hC (a + j) w' (by omega)
  have hFl := hI.len hw (by omega) (by omega)
  skip
  obtain ⟨x, hx, hx1, hx2⟩ := hI.yes hw (by omega) (by omega) hp
  have hkw := (List.getElem?_eq_some_iff.1 hx).1
  have hmore := hI.more hw hx hx1 hx2
  have hxm := hw.mem x (List.mem_of_getElem? hx)
  obtain ⟨ad, rfl⟩ := hz.resolve_left (by intro h; rw [h] at hkw; simp at hkw)
  have hmem := hdc_mem hp
  have hhd : hdc g bs (a + j) = ((catL g bs (a + j) g.k).head?).getD 0 := rfl
  have hbd := fun y (hy : y ∈ catL g bs (a + j) g.k) => catL_mem hy
  have hne := gd_iff.1 hp
  generalize catL g bs (a + j) g.k = C at hCk hne hmem hhd hbd
  obtain ⟨c0, C, rfl⟩ : ∃ c0 C', C = c0 :: C' := by cases C with | nil => exact absurd rfl hne | cons c0 C => exact ⟨c0, C, rfl⟩
  have hhd : hdc g bs (a + j) = c0 := hhd
  have hc0 : (c0 :: C)[0]? = some c0 := rfl
  rw [hhd] at hmore
  have hpos : 0 < (c0 :: C).length := by simp
  have hall : ∀ m ∈ (([] : List Int) ++ [c0] : List Int), -9223372036854775808 ≤ m ∧ m ≤ 9223372036854775807 := by
    rw [hmore]
    intro m hm
    unfold heads at hm
    obtain ⟨i, hi, rfl⟩ := List.mem_map.1 hm
    rw [List.mem_range] at hi
    have hgi : gd g bs (x.1 + i) = true := hxm.2.2.2 _ (by omega) (by omega)
    obtain ⟨q, q1, q2, _⟩ := catL_mem (hdc_mem hgi)
    have hkk : (g.k : Int) = g.mo - g.le + 1 := by unfold Fg.k; omega
    omega
  by_cases hlast : a + (j : Int) = x.2
  · have hlst := hI.last hw hx hlast
    have hprv : prv g bs x.1 x.2 (([] : List Int) ++ [c0]) = true := by
      rw [hmore, show a + (j : Int) + 1 - x.1 = x.2 + 1 - x.1 from by omega]
      exact prv_heads hg (by omega) (by omega) fun r q1 q2 => hxm.2.2.2 r q1 q2
    have hP := fun m zo' zc' w' h1 h2 h3 => PW_v g bs yo yc x.1 x.2 zo' zc' m (([] : List Int) ++ [c0]) w' h1 hl h2 h3 hall
    rw [hprv] at hP
    repeat'
      conv => whnf
      first
        | refine And.intro (a := drawB _ = true) (by kernel_rfl) ?_
        | refine And.intro (a := (_ : Bool) = true) rfl ?_
        | refine And.intro (a := (_ : Bool) = true ∧ (_ : Bool) = true) ⟨rfl, rfl⟩ ?_
        | refine And.intro (a := (_ : Bool) = true ∧ (_ : List _) = []) ⟨rfl, rfl⟩ ?_
        | refine And.intro (a := IR _ _) (And.intro (by omega) (by omega)) ?_
        | refine wrapE (And.intro (by omega) (by omega)) ?_
        | refine And.intro (a := (0 : Int) ≤ _ ∧ _ < _) (And.intro (by omega) (by omega)) ?_
        | refine And.intro (a := (_ : Bool) = true) (by simp only [Nat.beq_refl]; rfl) ?_
        | refine And.intro (a := ((_ : Bool) = true → 1 ≤ _) ∧ _ ≤ 9223372036854775807 ∧ _ ≤ 140737488355328) ⟨fun h => (by first | omega | cases h), by omega, by omega⟩ ?_
        | refine splT ?_
        | refine splF ?_
        | refine splNot ?_
        | (refine splIn (fun hc => ?_) (fun hc => ?_) <;> first | (exfalso; omega) | (exfalso; dsimp only at hc; omega) | skip)
        | (refine splD (fun hc => ?_) (fun hc => ?_) <;> first | (exfalso; omega) | (exfalso; dsimp only at hc; omega) | skip)
        | (refine splE (fun hc => ?_) (fun hc => ?_) <;> first | (exfalso; omega) | (exfalso; dsimp only at hc; omega) | skip)
        | (refine splNE (fun hc => ?_) (fun hc => ?_) <;> first | (exfalso; omega) | (exfalso; dsimp only at hc; omega) | skip)
        | ((with_reducible show CallEv _ _ 24 _ _ _ _ _); refine callF [] (fun u : YS (c0 :: C) => .tuple #[sV (c0 :: C).length u.1, iv 0]) (fun u => Rd 1 iF (sV (c0 :: C).length u.1) (c0 :: C)) (fun β w' _ hbw => hCk w' hbw) ?_; intro u; obtain ⟨⟨uo, uc⟩, hu⟩ := u; obtain ⟨ad1, huo⟩ := hu.resolve_left (by simp); dsimp only at huo; subst huo)
        | refine Exists.intro (α := List Value) [iv x.1] ⟨⟨rfl, fun w' hw' => rd_fld hw'.1.2 hx 0 _ rfl⟩, ?_⟩
        | refine Exists.intro (α := List Value) [iv x.2] ⟨⟨rfl, fun w' hw' => rd_fld hw'.1.2 hx 1 _ rfl⟩, ?_⟩
        | refine Exists.intro (α := List Value) [iv c0] ⟨⟨rfl, fun w' hw' => rd_atz hw'.2 hc0 _ (by simp)⟩, ?_⟩
        | refine Exists.intro (α := List Value) (wF x) ⟨⟨rfl, fun w' hw' => rd_ati hw'.1.2 hx⟩, ?_⟩
        | refine neqEBv (va := true) (vb := true) (decide_eq_true (by omega)) (decide_eq_true (by omega)) ?_
        | refine And.intro (a := (_ : Bool) = true ∧ (_ ∧ _)) ⟨by simp only [Nat.beq_refl], by first | (simp; done) | (rw [List.length_append, lenF]; simp), by have := one1 (([] : List Int) ++ [c0]); simpa [List.flatMap_append] using this⟩ ?_
        | ((with_reducible show CallEv _ _ 48 _ _ _ _ _); refine callM (k := 48) [9] (fun β w' hbk hbw => hP _ (some ⟨β 9, 0, none⟩) (β 10) w' hbw.1.1.2 (by simp) (Rd.of_owns (sz := 1) (f := iF) (fun _ => rfl) (by simp) (by simp) (hbk 9 (by simp) _ rfl))) ?_)
    all_goals first | (exfalso; omega) | skip
    exact ⟨(j + 1, k + 1, []), ⟨by show a + ((j + 1 : Nat) : Int) ≤ _; omega, by show HI W (hdc g bs) (a + ((j + 1 : Nat) : Int)) _ _; rw [hij]; exact hlst⟩, by show _ - (j + 1) < _ - j; omega, Ent.weak rfl ⟨rfl, rfl, rfl, rfl, rfl, rfl, rfl, by show _ = some (SV.v (iv (a + ((j + 1 : Nat) : Int)))); rw [hij]; rfl, trivial⟩ ⟨rfl, rfl, trivial⟩ fun _ h => h.1⟩
  · have hgr := hI.grow hw hx hx1 (by omega)
    rw [hhd] at hgr
    repeat'
      conv => whnf
      first
        | refine And.intro (a := drawB _ = true) (by kernel_rfl) ?_
        | refine And.intro (a := (_ : Bool) = true) rfl ?_
        | refine And.intro (a := (_ : Bool) = true ∧ (_ : Bool) = true) ⟨rfl, rfl⟩ ?_
        | refine And.intro (a := (_ : Bool) = true ∧ (_ : List _) = []) ⟨rfl, rfl⟩ ?_
        | refine And.intro (a := IR _ _) (And.intro (by omega) (by omega)) ?_
        | refine wrapE (And.intro (by omega) (by omega)) ?_
        | refine And.intro (a := (0 : Int) ≤ _ ∧ _ < _) (And.intro (by omega) (by omega)) ?_
        | refine And.intro (a := (_ : Bool) = true) (by simp only [Nat.beq_refl]; rfl) ?_
        | refine And.intro (a := ((_ : Bool) = true → 1 ≤ _) ∧ _ ≤ 9223372036854775807 ∧ _ ≤ 140737488355328) ⟨fun h => (by first | omega | cases h), by omega, by omega⟩ ?_
        | refine splT ?_
        | refine splF ?_
        | refine splNot ?_
        | (refine splIn (fun hc => ?_) (fun hc => ?_) <;> first | (exfalso; omega) | (exfalso; dsimp only at hc; omega) | skip)
        | (refine splD (fun hc => ?_) (fun hc => ?_) <;> first | (exfalso; omega) | (exfalso; dsimp only at hc; omega) | skip)
        | (refine splE (fun hc => ?_) (fun hc => ?_) <;> first | (exfalso; omega) | (exfalso; dsimp only at hc; omega) | skip)
        | (refine splNE (fun hc => ?_) (fun hc => ?_) <;> first | (exfalso; omega) | (exfalso; dsimp only at hc; omega) | skip)
        | ((with_reducible show CallEv _ _ 24 _ _ _ _ _); refine callF [] (fun u : YS (c0 :: C) => .tuple #[sV (c0 :: C).length u.1, iv 0]) (fun u => Rd 1 iF (sV (c0 :: C).length u.1) (c0 :: C)) (fun β w' _ hbw => hCk w' hbw) ?_; intro u; obtain ⟨⟨uo, uc⟩, hu⟩ := u; obtain ⟨ad1, huo⟩ := hu.resolve_left (by simp); dsimp only at huo; subst huo)
        | refine Exists.intro (α := List Value) [iv x.1] ⟨⟨rfl, fun w' hw' => rd_fld hw'.1.2 hx 0 _ rfl⟩, ?_⟩
        | refine Exists.intro (α := List Value) [iv x.2] ⟨⟨rfl, fun w' hw' => rd_fld hw'.1.2 hx 1 _ rfl⟩, ?_⟩
        | refine Exists.intro (α := List Value) [iv c0] ⟨⟨rfl, fun w' hw' => rd_atz hw'.2 hc0 _ (by simp)⟩, ?_⟩
        | refine neqEBv (va := true) (vb := true) (decide_eq_true (by omega)) (decide_eq_true (by omega)) ?_
    all_goals first | (exfalso; omega) | skip
    exact ⟨(j + 1, k, ([] : List Int) ++ [c0]), ⟨by show a + ((j + 1 : Nat) : Int) ≤ _; omega, by show HI W (hdc g bs) (a + ((j + 1 : Nat) : Int)) _ _; rw [hij]; exact hgr⟩, by show _ - (j + 1) < _ - j; omega, Ent.ren (rho [(3, 6), (4, 7)]) rfl rfl ⟨rfl, rfl, rfl, rfl, rfl, rfl, rfl, by show _ = some (SV.v (iv (a + ((j + 1 : Nat) : Int)))); rw [hij]; rfl, trivial⟩ ⟨rfl, rfl, rfl, trivial⟩ fun _ h => h.1⟩

set_option maxRecDepth 100000 in
theorem hB3 (g : Fg) (bs : List Bx) (yo zo : Option Addr) (yc zc : Nat) (W : List (Int × Int)) (a : Int) (n : Nat) (s4 : Value) (wa wb : Int) (w : World) (hg : g.ok bs = true) (hl : bs.length ≤ 1000000) (h0 : 0 ≤ a) (hn : a + n ≤ 6000) (hw : WI (gd g bs) W a (a + n)) (hwl : W.length ≤ 1000000)
    (hz : W = [] ∨ ∃ ad, zo = some ad) (j k : Nat) (f0 : Int) (F : List Int) (hj : a + (j : Int) ≤ a + n + 1) (hI : HI W (hdc g bs) (a + j) k (f0 :: F)) (hle : a + (j : Int) ≤ a + n) (hp : gd g bs (a + j) = false) {Φ : Exit → Sg → Prop} :
    vc env (loopOf (rest 9 body14)) ⟨163, [(4, .v s4), (8, .ptr 1 0), (11, .ptr 2 0), (13, .v (iv (a + n))), (14, .v (.slice zo W.length zc)), (16, .v (iv k)), (17, oSV 3 4 (f0 :: F)), (18, .v (iv (a + j)))], (1, .cells [.v (iv wa), .v (iv wb)] 94) :: (2, .cells (gsy g yo yc) 54) :: oM 3 4 1 iF 3 (f0 :: F), 5, (fun w' => (Below w.heap.size w w' ∧ Rd 4 Bx.cs (.slice yo g.n yc) bs w') ∧ Rd 2 wF (.slice zo W.length zc) W w'), z0⟩
      (seqΦ (fun σ' => ∃ x', (fun x : Nat × Nat × List Int => a + x.1 ≤ a + n + 1 ∧ HI W (hdc g bs) (a + x.1) x.2.1 x.2.2) x' ∧ (fun x : Nat × Nat × List Int => n + 1 - x.1) x' < n + 1 - j ∧ Ent σ' ⟨163, (fun x : Nat × Nat × List Int => [(4, .v s4), (8, .ptr 1 0), (11, .ptr 2 0), (13, .v (iv (a + n))), (14, .v (.slice zo W.length zc)), (16, .v (iv x.2.1)), (17, oSV 3 4 x.2.2), (18, .v (iv (a + x.1)))]) x', (fun x : Nat × Nat × List Int => (1, .cells [.v (iv wa), .v (iv wb)] 94) :: (2, .cells (gsy g yo yc) 54) :: oM 3 4 1 iF 3 x.2.2) x', 5, (fun w' => (Below w.heap.size w w' ∧ Rd 4 Bx.cs (.slice yo g.n yc) bs w') ∧ Rd 2 wF (.slice zo W.length zc) W w'), z0⟩) Φ) := by
  have hg' := Fg.ok_iff.1 hg
  have hij : a + ((j + 1 : Nat) : Int) = a + (j : Int) + 1 := by omega
  have hkl := hI.le
  have hC : ∀ (r : Int) w', (0 ≤ r ∧ r ≤ 6000) → ((Below w.heap.size w w' ∧ Rd 4 Bx.cs (.slice yo g.n yc) bs w') ∧ Rd 2 wF (.slice zo W.length zc) W w') → _ := fun r w' hr hh => Cat_v g bs yo yc r w' hh.1.2 hl hg hr
  have hCk := fun w' => hC (a + j) w' (by omega)
  have hFl := hI.len hw (by omega) (by omega)
  simp only [List.length_cons] at hFl
  have hno := hI.no hw hp
  have hsk := hI.skip hw hp
  have hce : catL g bs (a + j) g.k = [] := by
    have h1 : ¬ gd g bs (a + j) = true := by simp [hp]
    rw [gd_iff] at h1
    exact Classical.not_not.1 h1
  rw [hce] at hCk
  rcases Nat.lt_or_ge k W.length with hkw | hkw
  · obtain ⟨x, hx⟩ : ∃ x, W[k]? = some x := ⟨_, List.getElem?_eq_getElem hkw⟩
    have hno := hno x hx
    obtain ⟨ad, rfl⟩ := hz.resolve_left (by intro h; rw [h] at hkw; simp at hkw)
    repeat'
      conv => whnf
      first
        | refine And.intro (a := drawB _ = true) (by kernel_rfl) ?_
        | refine And.intro (a := (_ : Bool) = true) rfl ?_
        | refine And.intro (a := (_ : Bool) = true ∧ (_ : Bool) = true) ⟨rfl, rfl⟩ ?_
        | refine And.intro (a := (_ : Bool) = true ∧ (_ : List _) = []) ⟨rfl, rfl⟩ ?_
        | refine And.intro (a := IR _ _) (And.intro (by omega) (by omega)) ?_
        | refine wrapE (And.intro (by omega) (by omega)) ?_
        | refine And.intro (a := (0 : Int) ≤ _ ∧ _ < _) (And.intro (by omega) (by omega)) ?_
        | refine And.intro (a := (_ : Bool) = true) (by simp only [Nat.beq_refl]; rfl) ?_
        | refine And.intro (a := ((_ : Bool) = true → 1 ≤ _) ∧ _ ≤ 9223372036854775807 ∧ _ ≤ 140737488355328) ⟨fun h => (by first | omega | cases h), by omega, by omega⟩ ?_
        | refine splT ?_
        | refine splF ?_
        | refine splNot ?_
        | (refine splIn (fun hc => ?_) (fun hc => ?_) <;> first | (exfalso; omega) | (exfalso; dsimp only at hc; omega) | skip)
        | (refine splD (fun hc => ?_) (fun hc => ?_) <;> first | (exfalso; omega) | (exfalso; dsimp only at hc; omega) | skip)
        | (refine splE (fun hc => ?_) (fun hc => ?_) <;> first | (exfalso; omega) | (exfalso; dsimp only at hc; omega) | skip)
        | (refine splNE (fun hc => ?_) (fun hc => ?_) <;> first | (exfalso; omega) | (exfalso; dsimp only at hc; omega) | skip)
        | ((with_reducible show CallEv _ _ 24 _ _ _ _ _); refine callF [] (fun u : YS ([] : List Int) => .tuple #[sV 0 u.1, iv 0]) (fun u => Rd 1 iF (sV 0 u.1) ([] : List Int)) (fun β w' _ hbw => hCk w' hbw) ?_; intro u)
        | refine Exists.intro (α := List Value) [iv x.1] ⟨⟨rfl, fun w' hw' => rd_fld hw'.1.2 hx 0 _ rfl⟩, ?_⟩
        | refine neqEBv (va := false) (vb := false) rfl (decide_eq_false (by omega)) ?_
    all_goals first | (exfalso; omega) | skip
    exact ⟨(j + 1, k, (f0 :: F)), ⟨by show a + ((j + 1 : Nat) : Int) ≤ _; omega, by show HI W (hdc g bs) (a + ((j + 1 : Nat) : Int)) _ _; rw [hij]; exact hsk⟩, by show _ - (j + 1) < _ - j; omega, Ent.weak rfl ⟨rfl, rfl, rfl, rfl, rfl, rfl, rfl, by show _ = some (SV.v (iv (a + ((j + 1 : Nat) : Int)))); rw [hij]; rfl, trivial⟩ ⟨rfl, rfl, rfl, trivial⟩ fun _ h => h.1⟩
  · skip
    repeat'
      conv => whnf
      first
        | refine And.intro (a := drawB _ = true) (by kernel_rfl) ?_
        | refine And.intro (a := (_ : Bool) = true) rfl ?_
        | refine And.intro (a := (_ : Bool) = true ∧ (_ : Bool) = true) ⟨rfl, rfl⟩ ?_
        | refine And.intro (a := (_ : Bool) = true ∧ (_ : List _) = []) ⟨rfl, rfl⟩ ?_
        | refine And.intro (a := IR _ _) (And.intro (by omega) (by omega)) ?_
        | refine wrapE (And.intro (by omega) (by omega)) ?_
        | refine And.intro (a := (0 : Int) ≤ _ ∧ _ < _) (And.intro (by omega) (by omega)) ?_
        | refine And.intro (a := (_ : Bool) = true) (by simp only [Nat.beq_refl]; rfl) ?_
        | refine And.intro (a := ((_ : Bool) = true → 1 ≤ _) ∧ _ ≤ 9223372036854775807 ∧ _ ≤ 140737488355328) ⟨fun h => (by first | omega | cases h), by omega, by omega⟩ ?_
        | refine splT ?_
        | refine splF ?_
        | refine splNot ?_
        | (refine splIn (fun hc => ?_) (fun hc => ?_) <;> first | (exfalso; omega) | (exfalso; dsimp only at hc; omega) | skip)
        | (refine splD (fun hc => ?_) (fun hc => ?_) <;> first | (exfalso; omega) | (exfalso; dsimp only at hc; omega) | skip)
        | (refine splE (fun hc => ?_) (fun hc => ?_) <;> first | (exfalso; omega) | (exfalso; dsimp only at hc; omega) | skip)
        | (refine splNE (fun hc => ?_) (fun hc => ?_) <;> first | (exfalso; omega) | (exfalso; dsimp only at hc; omega) | skip)
        | ((with_reducible show CallEv _ _ 24 _ _ _ _ _); refine callF [] (fun u : YS ([] : List Int) => .tuple #[sV 0 u.1, iv 0]) (fun u => Rd 1 iF (sV 0 u.1) ([] : List Int)) (fun β w' _ hbw => hCk w' hbw) ?_; intro u)
        | refine neqEBv (va := false) (vb := false) rfl (decide_eq_false (by omega)) ?_
    all_goals first | (exfalso; omega) | skip
    exact ⟨(j + 1, k, (f0 :: F)), ⟨by show a + ((j + 1 : Nat) : Int) ≤ _; omega, by show HI W (hdc g bs) (a + ((j + 1 : Nat) : Int)) _ _; rw [hij]; exact hsk⟩, by show _ - (j + 1) < _ - j; omega, Ent.weak rfl ⟨rfl, rfl, rfl, rfl, rfl, rfl, rfl, by show _ = some (SV.v (iv (a + ((j + 1 : Nat) : Int)))); rw [hij]; rfl, trivial⟩ ⟨rfl, rfl, rfl, trivial⟩ fun _ h => h.1⟩

set_option maxRecDepth 100000 in
theorem hB4 (g : Fg) (bs : List Bx) (yo zo : Option Addr) (yc zc : Nat) (W : List (Int × Int)) (a : Int) (n : Nat) (s4 : Value) (wa wb : Int) (w : World) (hg : g.ok bs = true) (hl : bs.length ≤ 1000000) (h0 : 0 ≤ a) (hn : a + n ≤ 6000) (hw : WI (gd g bs) W a (a + n)) (hwl : W.length ≤ 1000000)
    (hz : W = [] ∨ ∃ ad, zo = some ad) (j k : Nat) (f0 : Int) (F : List Int) (hj : a + (j : Int) ≤ a + n + 1) (hI : HI W (hdc g bs) (a + j) k (f0 :: F)) (hle : a + (j : Int) ≤ a + n) (hp : gd g bs (a + j) = true) {Φ : Exit → Sg → Prop} :
    vc env (loopOf (rest 9 body14)) ⟨163, [(4, .v s4), (8, .ptr 1 0), (11, .ptr 2 0), (13, .v (iv (a + n))), (14, .v (.slice zo W.length zc)), (16, .v (iv k)), (17, oSV 3 4 (f0 :: F)), (18, .v (iv (a + j)))], (1, .cells [.v (iv wa), .v (iv wb)] 94) :: (2, .cells (gsy g yo yc) 54) :: oM 3 4 1 iF 3 (f0 :: F), 5, (fun w' => (Below w.heap.size w w' ∧ Rd 4 Bx.cs (.slice yo g.n yc) bs w') ∧ Rd 2 wF (.slice zo W.length zc) W w'), z0⟩
      (seqΦ (fun σ' => ∃ x', (fun x : Nat × Nat × List Int => a + x.1 ≤ a + n + 1 ∧ HI W (hdc g bs) (a + x.1) x.2.1 x.2.2) x' ∧ (fun x : Nat × Nat × List Int => n + 1 - x.1) x' < n + 1 - j ∧ Ent σ' ⟨163, (fun x : Nat × Nat × List Int => [(4, .v s4), (8, .ptr 1 0), (11, .ptr 2 0), (13, .v (iv (a + n))), (14, .v (.slice zo W.length zc)), (16, .v (iv x.2.1)), (17, oSV 3 4 x.2.2), (18, .v (iv (a + x.1)))]) x', (fun x : Nat × Nat × List Int => (1, .cells [.v (iv wa), .v (iv wb)] 94) :: (2, .cells (gsy g yo yc) 54) :: oM 3 4 1 iF 3 x.2.2) x', 5, (fun w' => (Below w.heap.size w w' ∧ Rd 4 Bx.cs (.slice yo g.n yc) bs w') ∧ Rd 2 wF (.slice zo W.length zc) W w'), z0⟩) Φ) := by
  have hg' := Fg.ok_iff.1 hg
  have hij : a + ((j + 1 : Nat) : Int) = a + (j : Int) + 1 := by omega
  have hkl := hI.le
  have hC : ∀ (r : Int) w', (0 ≤ r ∧ r ≤ 6000) → ((Below w.heap.size w w' ∧ Rd 4 Bx.cs (.slice yo g.n yc) bs w') ∧ Rd 2 wF (.slice zo W.length zc) W w') → _ := fun r w' hr hh => Cat_v g bs yo yc r w' hh.1.2 hl hg hr
  have hCk := fun w' => hC (a + j) w' (by omega)
  have hFl := hI.len hw (by omega) (by omega)
  simp only [List.length_cons] at hFl
  obtain ⟨x, hx, hx1, hx2⟩ := hI.yes hw (by omega) (by omega) hp
  have hkw := (List.getElem?_eq_some_iff.1 hx).1
  have hmore := hI.more hw hx hx1 hx2
  have hxm := hw.mem x (List.mem_of_getElem? hx)
  obtain ⟨ad, rfl⟩ := hz.resolve_left (by intro h; rw [h] at hkw; simp at hkw)
  have hmem := hdc_mem hp
  have hhd : hdc g bs (a + j) = ((catL g bs (a + j) g.k).head?).getD 0 := rfl
  have hbd := fun y (hy : y ∈ catL g bs (a + j) g.k) => catL_mem hy
  have hne := gd_iff.1 hp
  generalize catL g bs (a + j) g.k = C at hCk hne hmem hhd hbd
  obtain ⟨c0, C, rfl⟩ : ∃ c0 C', C = c0 :: C' := by cases C with | nil => exact absurd rfl hne | cons c0 C => exact ⟨c0, C, rfl⟩
  have hhd : hdc g bs (a + j) = c0 := hhd
  have hc0 : (c0 :: C)[0]? = some c0 := rfl
  rw [hhd] at hmore
  have hpos : 0 < (c0 :: C).length := by simp
  have hall : ∀ m ∈ ((f0 :: F) ++ [c0] : List Int), -9223372036854775808 ≤ m ∧ m ≤ 9223372036854775807 := by
    rw [hmore]
    intro m hm
    unfold heads at hm
    obtain ⟨i, hi, rfl⟩ := List.mem_map.1 hm
    rw [List.mem_range] at hi
    have hgi : gd g bs (x.1 + i) = true := hxm.2.2.2 _ (by omega) (by omega)
    obtain ⟨q, q1, q2, _⟩ := catL_mem (hdc_mem hgi)
    have hkk : (g.k : Int) = g.mo - g.le + 1 := by unfold Fg.k; omega
    omega
  by_cases hlast : a + (j : Int) = x.2
  · have hlst := hI.last hw hx hlast
    have hprv : prv g bs x.1 x.2 ((f0 :: F) ++ [c0]) = true := by
      rw [hmore, show a + (j : Int) + 1 - x.1 = x.2 + 1 - x.1 from by omega]
      exact prv_heads hg (by omega) (by omega) fun r q1 q2 => hxm.2.2.2 r q1 q2
    have hP := fun m zo' zc' w' h1 h2 h3 => PW_v g bs yo yc x.1 x.2 zo' zc' m ((f0 :: F) ++ [c0]) w' h1 hl h2 h3 hall
    rw [hprv] at hP
    repeat'
      conv => whnf
      first
        | refine And.intro (a := drawB _ = true) (by kernel_rfl) ?_
        | refine And.intro (a := (_ : Bool) = true) rfl ?_
        | refine And.intro (a := (_ : Bool) = true ∧ (_ : Bool) = true) ⟨rfl, rfl⟩ ?_
        | refine And.intro (a := (_ : Bool) = true ∧ (_ : List _) = []) ⟨rfl, rfl⟩ ?_
        | refine And.intro (a := IR _ _) (And.intro (by omega) (by omega)) ?_
        | refine wrapE (And.intro (by omega) (by omega)) ?_
        | refine And.intro (a := (0 : Int) ≤ _ ∧ _ < _) (And.intro (by omega) (by omega)) ?_
        | refine And.intro (a := (_ : Bool) = true) (by simp only [Nat.beq_refl]; rfl) ?_
        | refine And.intro (a := ((_ : Bool) = true → 1 ≤ _) ∧ _ ≤ 9223372036854775807 ∧ _ ≤ 140737488355328) ⟨fun h => (by first | omega | cases h), by omega, by omega⟩ ?_
        | refine splT ?_
        | refine splF ?_
        | refine splNot ?_
        | (refine splIn (fun hc => ?_) (fun hc => ?_) <;> first | (exfalso; omega) | (exfalso; dsimp only at hc; omega) | skip)
        | (refine splD (fun hc => ?_) (fun hc => ?_) <;> first | (exfalso; omega) | (exfalso; dsimp only at hc; omega) | skip)
        | (refine splE (fun hc => ?_) (fun hc => ?_) <;> first | (exfalso; omega) | (exfalso; dsimp only at hc; omega) | skip)
        | (refine splNE (fun hc => ?_) (fun hc => ?_) <;> first | (exfalso; omega) | (exfalso; dsimp only at hc; omega) | skip)
        | ((with_reducible show CallEv _ _ 24 _ _ _ _ _); refine callF [] (fun u : YS (c0 :: C) => .tuple #[sV (c0 :: C).length u.1, iv 0]) (fun u => Rd 1 iF (sV (c0 :: C).length u.1) (c0 :: C)) (fun β w' _ hbw => hCk w' hbw) ?_; intro u; obtain ⟨⟨uo, uc⟩, hu⟩ := u; obtain ⟨ad1, huo⟩ := hu.resolve_left (by simp); dsimp only at huo; subst huo)
        | refine Exists.intro (α := List Value) [iv x.1] ⟨⟨rfl, fun w' hw' => rd_fld hw'.1.2 hx 0 _ rfl⟩, ?_⟩
        | refine Exists.intro (α := List Value) [iv x.2] ⟨⟨rfl, fun w' hw' => rd_fld hw'.1.2 hx 1 _ rfl⟩, ?_⟩
        | refine Exists.intro (α := List Value) [iv c0] ⟨⟨rfl, fun w' hw' => rd_atz hw'.2 hc0 _ (by simp)⟩, ?_⟩
        | refine Exists.intro (α := List Value) (wF x) ⟨⟨rfl, fun w' hw' => rd_ati hw'.1.2 hx⟩, ?_⟩
        | refine neqEBv (va := true) (vb := true) (decide_eq_true (by omega)) (decide_eq_true (by omega)) ?_
        | refine And.intro (a := (_ : Bool) = true ∧ (_ ∧ _)) ⟨by simp only [Nat.beq_refl], by first | (simp; done) | (rw [List.length_append, lenF]; simp), by have := one1 ((f0 :: F) ++ [c0]); simpa [List.flatMap_append] using this⟩ ?_
        | ((with_reducible show CallEv _ _ 48 _ _ _ _ _); refine callM (k := 48) [9] (fun β w' hbk hbw => hP _ (some ⟨β 9, 0, none⟩) (β 10) w' hbw.1.1.2 (by simp) (Rd.of_owns (sz := 1) (f := iF) (fun _ => rfl) (by simp) (by simp) (hbk 9 (by simp) _ rfl))) ?_)
    all_goals first | (exfalso; omega) | skip
    exact ⟨(j + 1, k + 1, []), ⟨by show a + ((j + 1 : Nat) : Int) ≤ _; omega, by show HI W (hdc g bs) (a + ((j + 1 : Nat) : Int)) _ _; rw [hij]; exact hlst⟩, by show _ - (j + 1) < _ - j; omega, Ent.weak rfl ⟨rfl, rfl, rfl, rfl, rfl, rfl, rfl, by show _ = some (SV.v (iv (a + ((j + 1 : Nat) : Int)))); rw [hij]; rfl, trivial⟩ ⟨rfl, rfl, trivial⟩ fun _ h => h.1⟩
  · have hgr := hI.grow hw hx hx1 (by omega)
    rw [hhd] at hgr
    repeat'
      conv => whnf
      first
        | refine And.intro (a := drawB _ = true) (by kernel_rfl) ?_
        | refine And.intro (a := (_ : Bool) = true) rfl ?_
        | refine And.intro (a := (_ : Bool) = true ∧ (_ : Bool) = true) ⟨rfl, rfl⟩ ?_
        | refine And.intro (a := (_ : Bool) = true ∧ (_ : List _) = []) ⟨rfl, rfl⟩ ?_
        | refine And.intro (a := IR _ _) (And.intro (by omega) (by omega)) ?_
        | refine wrapE (And.intro (by omega) (by omega)) ?_
        | refine And.intro (a := (0 : Int) ≤ _ ∧ _ < _) (And.intro (by omega) (by omega)) ?_
        | refine And.intro (a := (_ : Bool) = true) (by simp only [Nat.beq_refl]; rfl) ?_
        | refine And.intro (a := ((_ : Bool) = true → 1 ≤ _) ∧ _ ≤ 9223372036854775807 ∧ _ ≤ 140737488355328) ⟨fun h => (by first | omega | cases h), by omega, by omega⟩ ?_
        | refine splT ?_
        | refine splF ?_
        | refine splNot ?_
        | (refine splIn (fun hc => ?_) (fun hc => ?_) <;> first | (exfalso; omega) | (exfalso; dsimp only at hc; omega) | skip)
        | (refine splD (fun hc => ?_) (fun hc => ?_) <;> first | (exfalso; omega) | (exfalso; dsimp only at hc; omega) | skip)
        | (refine splE (fun hc => ?_) (fun hc => ?_) <;> first | (exfalso; omega) | (exfalso; dsimp only at hc; omega) | skip)
        | (refine splNE (fun hc => ?_) (fun hc => ?_) <;> first | (exfalso; omega) | (exfalso; dsimp only at hc; omega) | skip)
        | ((with_reducible show CallEv _ _ 24 _ _ _ _ _); refine callF [] (fun u : YS (c0 :: C) => .tuple #[sV (c0 :: C).length u.1, iv 0]) (fun u => Rd 1 iF (sV (c0 :: C).length u.1) (c0 :: C)) (fun β w' _ hbw => hCk w' hbw) ?_; intro u; obtain ⟨⟨uo, uc⟩, hu⟩ := u; obtain ⟨ad1, huo⟩ := hu.resolve_left (by simp); dsimp only at huo; subst huo)
        | refine Exists.intro (α := List Value) [iv x.1] ⟨⟨rfl, fun w' hw' => rd_fld hw'.1.2 hx 0 _ rfl⟩, ?_⟩
        | refine Exists.intro (α := List Value) [iv x.2] ⟨⟨rfl, fun w' hw' => rd_fld hw'.1.2 hx 1 _ rfl⟩, ?_⟩
        | refine Exists.intro (α := List Value) [iv c0] ⟨⟨rfl, fun w' hw' => rd_atz hw'.2 hc0 _ (by simp)⟩, ?_⟩
        | refine neqEBv (va := true) (vb := true) (decide_eq_true (by omega)) (decide_eq_true (by omega)) ?_
    all_goals first | (exfalso; omega) | skip
    exact ⟨(j + 1, k, (f0 :: F) ++ [c0]), ⟨by show a + ((j + 1 : Nat) : Int) ≤ _; omega, by show HI W (hdc g bs) (a + ((j + 1 : Nat) : Int)) _ _; rw [hij]; exact hgr⟩, by show _ - (j + 1) < _ - j; omega, Ent.ren (rho [(3, 6), (4, 7)]) rfl rfl ⟨rfl, rfl, rfl, rfl, rfl, rfl, by simp [oSV]; rfl, by show _ = some (SV.v (iv (a + ((j + 1 : Nat) : Int)))); rw [hij]; rfl, trivial⟩ ⟨rfl, rfl, by simp [oM]; rfl, trivial⟩ fun _ h => h.1⟩

set_option maxRecDepth 100000 in
theorem holdsB (g : Fg) (bs : List Bx) (yo zo : Option Addr) (yc zc : Nat) (W : List (Int × Int)) (a : Int) (n : Nat) (s4 : Value) (wa wb : Int) (w : World) (hg : g.ok bs = true) (hl : bs.length ≤ 1000000) (h0 : 0 ≤ a) (hn : a + n ≤ 6000) (hw : WI (gd g bs) W a (a + n)) (hwl : W.length ≤ 1000000)
    (hz : W = [] ∨ ∃ ad, zo = some ad) {Φ : Exit → Sg → Prop}
    (hfin : VC Try.prog (rest 10 body14) ⟨163, [(4, .v s4), (8, .ptr 1 0), (11, .ptr 2 0), (14, .v (.slice zo W.length zc)), (16, .v (iv W.length))], [(1, .cells [.v (iv wa), .v (iv wb)] 94), (2, .cells (gsy g yo yc) 54)], 5, (fun w' => (Below w.heap.size w w' ∧ Rd 4 Bx.cs (.slice yo g.n yc) bs w') ∧ Rd 2 wF (.slice zo W.length zc) W w'), z0⟩ Φ) :
    VC Try.prog (rest 7 body14) ⟨163, [(4, .v s4), (8, .ptr 1 0), (11, .ptr 2 0), (12, .v (iv a)), (13, .v (iv (a + n))), (14, .v (.slice zo W.length zc))], [(1, .cells [.v (iv wa), .v (iv wb)] 94), (2, .cells (gsy g yo yc) 54)], 3, (fun w' => (Below w.heap.size w w' ∧ Rd 4 Bx.cs (.slice yo g.n yc) bs w') ∧ Rd 2 wF (.slice zo W.length zc) W w'), z0⟩ Φ := by
  refine VC.cutE env mixed 3 5 (fun _ : Unit => [(4, .v s4), (8, .ptr 1 0), (11, .ptr 2 0), (14, .v (.slice zo W.length zc)), (16, .v (iv W.length))]) (fun _ => [(1, .cells [.v (iv wa), .v (iv wb)] 94), (2, .cells (gsy g yo yc) 54)]) (fun _ => True) (fun _ _ => ⟨rfl, rfl⟩) ?_ (fun _ _ => hfin)
  conv => whnf
  refine loopN 5 (fun x : Nat × Nat × List Int => [(4, .v s4), (8, .ptr 1 0), (11, .ptr 2 0), (13, .v (iv (a + n))), (14, .v (.slice zo W.length zc)), (16, .v (iv x.2.1)), (17, oSV 3 4 x.2.2), (18, .v (iv (a + x.1)))]) (fun x => (1, .cells [.v (iv wa), .v (iv wb)] 94) :: (2, .cells (gsy g yo yc) 54) :: oM 3 4 1 iF 3 x.2.2)
    (fun x : Nat × Nat × List Int => a + x.1 ≤ a + n + 1 ∧ HI W (hdc g bs) (a + x.1) x.2.1 x.2.2) (fun x => n + 1 - x.1) (0, 0, []) ⟨by show a + ((0 : Nat) : Int) ≤ _; omega, by show HI W _ (a + ((0 : Nat) : Int)) 0 []; rw [Int.natCast_zero, Int.add_zero]; exact HI.start hw⟩ ⟨rfl, rfl, rfl, rfl, rfl, rfl, rfl, by show _ = some (SV.v (iv (a + ((0 : Nat) : Int)))); rw [Int.natCast_zero, Int.add_zero]; rfl, trivial⟩ ⟨rfl, rfl, trivial⟩ (fun x _ => by obtain ⟨j, k, F⟩ := x; cases F <;> exact ⟨rfl, rfl⟩) ?_
  rintro ⟨j, k, F⟩ ⟨hj, hI⟩
  dsimp only at hj hI
  by_cases hle : a + (j : Int) ≤ a + n
  · rcases F with _ | ⟨f0, F⟩ <;> cases hp : gd g bs (a + j)
    · exact hB1 g bs yo zo yc zc W a n s4 wa wb w hg hl h0 hn hw hwl hz j k hj hI hle hp
    · exact hB2 g bs yo zo yc zc W a n s4 wa wb w hg hl h0 hn hw hwl hz j k hj hI hle hp
    · exact hB3 g bs yo zo yc zc W a n s4 wa wb w hg hl h0 hn hw hwl hz j k f0 F hj hI hle hp
    · exact hB4 g bs yo zo yc zc W a n s4 wa wb w hg hl h0 hn hw hwl hz j k f0 F hj hI hle hp
  · obtain rfl : j = n + 1 := by omega
    have hk := HI.done hw (by rw [show a + (n : Int) + 1 = a + ((n + 1 : Nat) : Int) from by omega]; exact hI)
    subst hk
    rcases F with _ | ⟨f0, F⟩
    all_goals skip
    repeat'
      conv => whnf
      first
        | refine And.intro (a := drawB _ = true) (by kernel_rfl) ?_
        | refine And.intro (a := (_ : Bool) = true) rfl ?_
        | refine And.intro (a := (_ : Bool) = true ∧ (_ : Bool) = true) ⟨rfl, rfl⟩ ?_
        | refine And.intro (a := (_ : Bool) = true ∧ (_ : List _) = []) ⟨rfl, rfl⟩ ?_
        | refine And.intro (a := IR _ _) (And.intro (by omega) (by omega)) ?_
        | refine wrapE (And.intro (by omega) (by omega)) ?_
        | refine And.intro (a := (0 : Int) ≤ _ ∧ _ < _) (And.intro (by omega) (by omega)) ?_
        | refine And.intro (a := (_ : Bool) = true) (by simp only [Nat.beq_refl]; rfl) ?_
        | refine And.intro (a := ((_ : Bool) = true → 1 ≤ _) ∧ _ ≤ 9223372036854775807 ∧ _ ≤ 140737488355328) ⟨fun h => (by first | omega | cases h), by omega, by omega⟩ ?_
        | refine splT ?_
        | refine splF ?_
        | refine splNot ?_
        | (refine splIn (fun hc => ?_) (fun hc => ?_) <;> first | (exfalso; omega) | (exfalso; dsimp only at hc; omega) | skip)
        | (refine splD (fun hc => ?_) (fun hc => ?_) <;> first | (exfalso; omega) | (exfalso; dsimp only at hc; omega) | skip)
        | (refine splE (fun hc => ?_) (fun hc => ?_) <;> first | (exfalso; omega) | (exfalso; dsimp only at hc; omega) | skip)
        | (refine splNE (fun hc => ?_) (fun hc => ?_) <;> first | (exfalso; omega) | (exfalso; dsimp only at hc; omega) | skip)
    all_goals exact ⟨rfl, (), trivial, Ent.weak rfl ⟨rfl, rfl, rfl, rfl, rfl, trivial⟩ ⟨rfl, rfl, trivial⟩ fun _ h => h⟩
end Go.Proofs.Ytlehjapeomallaa.V
