/- The document's examples of flights, and the errors: the law answers true. -/
import Derived.Test.YtlehjapeomallaaVZ
namespace Go.Proofs.Ytlehjapeomallaa.V
open Go Tx Go.RowKit
set_option linter.unusedSimpArgs false
set_option linter.unusedVariables false

set_option maxRecDepth 100000 in
theorem neqE23c {a b c d : Int} {x y : Operand} {K : Value → Prop} (v : Bool) (hv : (a == c && b == d) = v) (h : K (.bool (!v))) : ∃ v, (∀ _ : Nat → Nat, RunIs Try.prog (do eqGuard .neq 23 x y (.agg #[iv a, iv b]) (.agg #[iv c, iv d]); binOp .neq 23 (.agg #[iv a, iv b]) (.agg #[iv c, iv d])) v) ∧ K v :=
  ⟨_, fun _ => runIs_neq guard23 fun w => equalIn_two tok23 rfl (by decide) names23 (part3 _ 0 _ w rfl) (part3 _ 1 _ w rfl) (part3 _ 0 _ w rfl) (part3 _ 1 _ w rfl) (eqIn3 9998 _ _ w) (eqIn3 9998 _ _ w), by rw [hv]; exact h⟩
set_option maxRecDepth 100000 in
theorem neqE97c {a b c d : Int} {x y : Operand} {K : Value → Prop} (v : Bool) (hv : (a == c && b == d) = v) (h : K (.bool (!v))) : ∃ v, (∀ _ : Nat → Nat, RunIs Try.prog (do eqGuard .neq 97 x y (.agg #[iv a, iv b]) (.agg #[iv c, iv d]); binOp .neq 97 (.agg #[iv a, iv b]) (.agg #[iv c, iv d])) v) ∧ K v :=
  ⟨_, fun _ => runIs_neq guard97 fun w => equalIn_two tok97 rfl (by decide) names97 (part3 _ 0 _ w rfl) (part3 _ 1 _ w rfl) (part3 _ 0 _ w rfl) (part3 _ 1 _ w rfl) (eqIn3 9998 _ _ w) (eqIn3 9998 _ _ w), by rw [hv]; exact h⟩
theorem rd_atp {α : Type} {sz : Nat} {f : α → List Value} {ad : Addr} {n c : Nat} {L : List α} {w : World} (h : Rd sz f (.slice (some ad) n c) L w) {k : Nat} {b : α} (hk : L[k]? = some b) (z : Int) (hz : z = k) :
    ∀ j v, (f b)[j]? = some v → w.cell? ((ad.add (z.toNat * sz)).add j) = some v := by subst hz; rw [Int.toNat_natCast]; exact rd_at h hk

theorem pw_n (b : Nat) (zo : Option Addr) (zc n : Nat) (L : List Int) (r : Bool) (w : World) (hrd : Rd 4 Bx.cs (.slice (some ⟨b, 0, none⟩) 1 1) lpB w) (hn : n = L.length) (hL : Rd 1 iF (.slice zo n zc) L w) (hr : prv (lpG b) lpB 7 8 L = r) (hb : ∀ m ∈ L, -9223372036854775808 ≤ m ∧ m ≤ 9223372036854775807) :
    Calls Try.prog 48 #[(lpG b).v, .agg #[iv 7, iv 8], .slice zo n zc] w fun e w' => e = .returned (.bool r) ∧ Below w.heap.size w w' := by
  subst hn hr
  exact ProveWindow_ok (lpG b) lpB 7 8 (zo, zc) L w hrd (by decide) hL hb
theorem chain_two (b b' c : Nat) (o : Option Addr) (w : World) (hrd : Rd 15 csP (.slice o 2 c) [(lpG b, lpB), (lpG b', lpB)] w) (r1 : Rd 4 Bx.cs (.slice (some ⟨b, 0, none⟩) 1 1) lpB w) (r2 : Rd 4 Bx.cs (.slice (some ⟨b', 0, none⟩) 1 1) lpB w) :
    Calls Try.prog 50 #[.slice o 2 c, iv 5, iv 100] w fun e w' => ∃ y : Addr × Nat, e = .returned (.tuple #[.slice (some y.1) 2 y.2, iv 0, iv 0]) ∧ Below w.heap.size w w' ∧ St w.heap.size (Rd 2 wF (.slice (some y.1) 2 y.2) [(0, 4), (154, 158)]) w' := by
  have := Chain_yes [(lpG b, lpB), (lpG b', lpB)] o c 5 100 w hrd ⟨by simp, by simp⟩ (by omega) (by omega) (fun p hp => by
    rcases List.mem_cons.1 hp with rfl | hp
    · exact ⟨r1, lp_ok b, by show 1 ≤ 1000000; omega⟩
    · obtain rfl := List.mem_singleton.1 hp
      exact ⟨r2, lp_ok b', by show 1 ≤ 1000000; omega⟩)
  rw [chn_two] at this
  exact this.mono fun _ _ ⟨⟨y, z⟩, h1, h2, h3⟩ => by
    obtain ⟨ad, had⟩ := (rd_ys h3.now).resolve_left (by simp)
    dsimp only at had
    subst had
    exact ⟨(ad, z), h1, h2, h3⟩
theorem chain_far (b b' c : Nat) (o : Option Addr) (w : World) (hrd : Rd 15 csP (.slice o 2 c) [(lpG b, lpB), (farG b', lpB)] w) (r1 : Rd 4 Bx.cs (.slice (some ⟨b, 0, none⟩) 1 1) lpB w) (r2 : Rd 4 Bx.cs (.slice (some ⟨b', 0, none⟩) 1 1) lpB w) :
    Calls Try.prog 50 #[.slice o 2 c, iv 5, iv 100] w fun e w' => e = .returned (.tuple #[.slice none 0 0, iv 1, iv 7]) ∧ Below w.heap.size w w' :=
  Chain_none [(lpG b, lpB), (farG b', lpB)] o c 5 100 w hrd ⟨by simp, by simp⟩ (by omega) (by omega) (fun p hp => by
    rcases List.mem_cons.1 hp with rfl | hp
    · exact ⟨r1, lp_ok b, by show 1 ≤ 1000000; omega⟩
    · obtain rfl := List.mem_singleton.1 hp
      exact ⟨r2, far_ok b', by show 1 ≤ 1000000; omega⟩) 1 (chn_far b b')

set_option maxHeartbeats 1000000 in
set_option maxRecDepth 100000 in
theorem names1 (w : World) {Φ : Exit → Sg → Prop} (h : VC Try.prog (rest 7 body17) ⟨193, [], [], 0, Below w.heap.size w, z0⟩ Φ) : VC Try.prog body17 ⟨193, [], [], 0, Below w.heap.size w, z0⟩ Φ := by
  refine VC.cutE env mixed 7 0 (fun _ : Unit => []) (fun _ => []) (fun _ => True) (fun _ _ => ⟨rfl, rfl⟩) ?_ (fun _ _ => h)
  skip
  repeat'
    conv => whnf
    first
      | refine And.intro (a := drawB _ = true) (by kernel_rfl) ?_
      | refine And.intro (a := (_ : Bool) = true) rfl ?_
      | refine And.intro (a := (_ : Bool) = true ∧ (_ : Bool) = true) ⟨rfl, rfl⟩ ?_
      | refine And.intro (a := (_ : Bool) = true ∧ (_ : List _) = []) ⟨rfl, rfl⟩ ?_
      | refine And.intro (a := IR _ _) (And.intro (by omega) (by omega)) ?_
      | refine wrapE (And.intro (by omega) (by omega)) ?_
      | refine And.intro (a := (0 : Int) ≤ _ ∧ _ < _) (And.intro (by omega) (by omega)) ?_
      | refine And.intro (a := (_ : Bool) = true) (by simp only [Nat.beq_refl]; rfl) ?_
      | refine And.intro (a := ((_ : Bool) = true → 1 ≤ _) ∧ _ ≤ 9223372036854775807 ∧ _ ≤ 140737488355328) ⟨fun h => (by first | omega | cases h), by omega, by omega⟩ ?_
      | refine splT ?_
      | refine splF ?_
      | refine splNot ?_
      | (refine splIn (fun hc => ?_) (fun hc => ?_) <;> first | (exfalso; omega) | (exfalso; dsimp only at hc; omega) | skip)
      | (refine splD (fun hc => ?_) (fun hc => ?_) <;> first | (exfalso; omega) | (exfalso; dsimp only at hc; omega) | skip)
      | (refine splE (fun hc => ?_) (fun hc => ?_) <;> first | (exfalso; omega) | (exfalso; dsimp only at hc; omega) | skip)
      | (refine splNE (fun hc => ?_) (fun hc => ?_) <;> first | (exfalso; omega) | (exfalso; dsimp only at hc; omega) | skip)
      | ((with_reducible show CallEv _ _ 18 _ _ _ _ _); refine callE (k := 18) (fun β w' hbw => swing_n0 _) ?_)
      | ((with_reducible show CallEv _ _ 57 _ _ _ _ _); refine callF [] (fun b => (lpG b).v) (fun b => Rd 4 Bx.cs (.slice (some ⟨b, 0, none⟩) 1 1) lpB) (fun β w' _ _ => leap_fam w') ?_; intro b)
      | ((with_reducible show CallEv _ _ 42 _ _ _ _ _); refine callE (k := 42) (fun β w' hbw => load_n b _ hbw.2) ?_)
      | ((with_reducible show CallEv _ _ 55 _ _ _ _ _); refine callE (k := 55) (fun β w' hbw => widest_n b _ hbw.2) ?_)
      | ((with_reducible show CallEv _ _ 33 _ _ _ _ _); refine callE (k := 33) (fun β w' hbw => landing_n _) ?_)
      | refine neqE23c true rfl ?_
      | refine neqE97c true rfl ?_
      | ((with_reducible show CallEv _ _ 48 [_, _, .sl 3 _ _ _] _ _ _ _); refine callM (k := 48) [3] (fun β w' hbk hbw => pw_n b (some ⟨β 3, 0, none⟩) 2 2 [45, 48] true w' hbw.2 rfl (Rd.of_cells (sz := 1) (f := iF) (bs := [45, 48]) (fun _ => rfl) rfl (hbk 3 (by simp) _ rfl)) (lp_prv1 b) (by decide)) ?_)
      | ((with_reducible show CallEv _ _ 48 [_, _, .sl 4 _ _ _] _ _ _ _); refine callM (k := 48) [4] (fun β w' hbk hbw => pw_n b (some ⟨β 4, 0, none⟩) 2 2 [45, 49] false w' hbw.2 rfl (Rd.of_cells (sz := 1) (f := iF) (bs := [45, 49]) (fun _ => rfl) rfl (hbk 4 (by simp) _ rfl)) (lp_prv2 b) (by decide)) ?_)
      | ((with_reducible show CallEv _ _ 48 [_, _, .sl 5 _ _ _] _ _ _ _); refine callM (k := 48) [5] (fun β w' hbk hbw => pw_n b (some ⟨β 5, 0, none⟩) 1 1 [45] false w' hbw.2 rfl (Rd.of_cells (sz := 1) (f := iF) (bs := [45]) (fun _ => rfl) rfl (hbk 5 (by simp) _ rfl)) (lp_prv3 b) (by decide)) ?_)
  all_goals exact ⟨rfl, (), trivial, Ent.weak rfl trivial trivial fun _ h => h.1.1.1.1.1.1⟩

set_option maxHeartbeats 1000000 in
set_option maxRecDepth 100000 in
theorem names2 (w : World) {Φ : Exit → Sg → Prop} (h : VC Try.prog (rest 9 body17) ⟨193, [], [], 0, Below w.heap.size w, z0⟩ Φ) : VC Try.prog (rest 7 body17) ⟨193, [], [], 0, Below w.heap.size w, z0⟩ Φ := by
  refine VC.cutE env mixed 2 0 (fun _ : Unit => []) (fun _ => []) (fun _ => True) (fun _ _ => ⟨rfl, rfl⟩) ?_ (fun _ _ => h)
  skip
  repeat'
    conv => whnf
    first
      | refine And.intro (a := drawB _ = true) (by kernel_rfl) ?_
      | refine And.intro (a := (_ : Bool) = true) rfl ?_
      | refine And.intro (a := (_ : Bool) = true ∧ (_ : Bool) = true) ⟨rfl, rfl⟩ ?_
      | refine And.intro (a := (_ : Bool) = true ∧ (_ : List _) = []) ⟨rfl, rfl⟩ ?_
      | refine And.intro (a := IR _ _) (And.intro (by omega) (by omega)) ?_
      | refine wrapE (And.intro (by omega) (by omega)) ?_
      | refine And.intro (a := (0 : Int) ≤ _ ∧ _ < _) (And.intro (by omega) (by omega)) ?_
      | refine And.intro (a := (_ : Bool) = true) (by simp only [Nat.beq_refl]; rfl) ?_
      | refine And.intro (a := ((_ : Bool) = true → 1 ≤ _) ∧ _ ≤ 9223372036854775807 ∧ _ ≤ 140737488355328) ⟨fun h => (by first | omega | cases h), by omega, by omega⟩ ?_
      | refine splT ?_
      | refine splF ?_
      | refine splNot ?_
      | (refine splIn (fun hc => ?_) (fun hc => ?_) <;> first | (exfalso; omega) | (exfalso; dsimp only at hc; omega) | skip)
      | (refine splD (fun hc => ?_) (fun hc => ?_) <;> first | (exfalso; omega) | (exfalso; dsimp only at hc; omega) | skip)
      | (refine splE (fun hc => ?_) (fun hc => ?_) <;> first | (exfalso; omega) | (exfalso; dsimp only at hc; omega) | skip)
      | (refine splNE (fun hc => ?_) (fun hc => ?_) <;> first | (exfalso; omega) | (exfalso; dsimp only at hc; omega) | skip)
  conv => whnf
  (with_reducible show CallEv _ _ 57 _ _ _ _ _)
  refine callF [] (fun b => (lpG b).v) (fun b => Rd 4 Bx.cs (.slice (some ⟨b, 0, none⟩) 1 1) lpB) (fun β w' _ _ => leap_fam w') ?_
  intro b1
  repeat'
    conv => whnf
    first
      | refine And.intro (a := drawB _ = true) (by kernel_rfl) ?_
      | refine And.intro (a := (_ : Bool) = true) rfl ?_
      | refine And.intro (a := (_ : Bool) = true ∧ (_ : Bool) = true) ⟨rfl, rfl⟩ ?_
      | refine And.intro (a := (_ : Bool) = true ∧ (_ : List _) = []) ⟨rfl, rfl⟩ ?_
      | refine And.intro (a := IR _ _) (And.intro (by omega) (by omega)) ?_
      | refine wrapE (And.intro (by omega) (by omega)) ?_
      | refine And.intro (a := (0 : Int) ≤ _ ∧ _ < _) (And.intro (by omega) (by omega)) ?_
      | refine And.intro (a := (_ : Bool) = true) (by simp only [Nat.beq_refl]; rfl) ?_
      | refine And.intro (a := ((_ : Bool) = true → 1 ≤ _) ∧ _ ≤ 9223372036854775807 ∧ _ ≤ 140737488355328) ⟨fun h => (by first | omega | cases h), by omega, by omega⟩ ?_
      | refine splT ?_
      | refine splF ?_
      | refine splNot ?_
      | (refine splIn (fun hc => ?_) (fun hc => ?_) <;> first | (exfalso; omega) | (exfalso; dsimp only at hc; omega) | skip)
      | (refine splD (fun hc => ?_) (fun hc => ?_) <;> first | (exfalso; omega) | (exfalso; dsimp only at hc; omega) | skip)
      | (refine splE (fun hc => ?_) (fun hc => ?_) <;> first | (exfalso; omega) | (exfalso; dsimp only at hc; omega) | skip)
      | (refine splNE (fun hc => ?_) (fun hc => ?_) <;> first | (exfalso; omega) | (exfalso; dsimp only at hc; omega) | skip)
  conv => whnf
  (with_reducible show CallEv _ _ 57 _ _ _ _ _)
  refine callF [] (fun b => (lpG b).v) (fun b => Rd 4 Bx.cs (.slice (some ⟨b, 0, none⟩) 1 1) lpB) (fun β w' _ _ => leap_fam w') ?_
  intro b2
  repeat'
    conv => whnf
    first
      | refine And.intro (a := drawB _ = true) (by kernel_rfl) ?_
      | refine And.intro (a := (_ : Bool) = true) rfl ?_
      | refine And.intro (a := (_ : Bool) = true ∧ (_ : Bool) = true) ⟨rfl, rfl⟩ ?_
      | refine And.intro (a := (_ : Bool) = true ∧ (_ : List _) = []) ⟨rfl, rfl⟩ ?_
      | refine And.intro (a := IR _ _) (And.intro (by omega) (by omega)) ?_
      | refine wrapE (And.intro (by omega) (by omega)) ?_
      | refine And.intro (a := (0 : Int) ≤ _ ∧ _ < _) (And.intro (by omega) (by omega)) ?_
      | refine And.intro (a := (_ : Bool) = true) (by simp only [Nat.beq_refl]; rfl) ?_
      | refine And.intro (a := ((_ : Bool) = true → 1 ≤ _) ∧ _ ≤ 9223372036854775807 ∧ _ ≤ 140737488355328) ⟨fun h => (by first | omega | cases h), by omega, by omega⟩ ?_
      | refine splT ?_
      | refine splF ?_
      | refine splNot ?_
      | (refine splIn (fun hc => ?_) (fun hc => ?_) <;> first | (exfalso; omega) | (exfalso; dsimp only at hc; omega) | skip)
      | (refine splD (fun hc => ?_) (fun hc => ?_) <;> first | (exfalso; omega) | (exfalso; dsimp only at hc; omega) | skip)
      | (refine splE (fun hc => ?_) (fun hc => ?_) <;> first | (exfalso; omega) | (exfalso; dsimp only at hc; omega) | skip)
      | (refine splNE (fun hc => ?_) (fun hc => ?_) <;> first | (exfalso; omega) | (exfalso; dsimp only at hc; omega) | skip)
      | ((with_reducible show CallEv _ _ 50 _ _ _ _ _); refine callF [0] (fun y : Addr × Nat => .tuple #[.slice (some y.1) 2 y.2, iv 0, iv 0]) (fun y => Rd 2 wF (.slice (some y.1) 2 y.2) [(0, 4), (154, 158)]) (fun β w' hbk hbw => chain_two b1 b2 2 (some ⟨β 0, 0, none⟩) w' (Rd.of_cells (sz := 15) (f := csP) (bs := [(lpG b1, lpB), (lpG b2, lpB)]) (fun _ => rfl) rfl (hbk 0 (by simp) _ rfl)) hbw.1.2 hbw.2) ?_; intro y)
      | refine Exists.intro (α := List Value) [iv 0, iv 4] ⟨⟨rfl, fun w' hw' => rd_atp hw'.2 (k := 0) (b := (0, 4)) rfl 0 rfl⟩, ?_⟩
      | refine Exists.intro (α := List Value) [iv 154, iv 158] ⟨⟨rfl, fun w' hw' => rd_atp hw'.2 (k := 1) (b := (154, 158)) rfl 1 rfl⟩, ?_⟩
      | refine neqE97c true rfl ?_
  all_goals exact ⟨rfl, (), trivial, Ent.weak rfl trivial trivial fun _ h => h.1.1.1⟩

set_option maxHeartbeats 400000 in
set_option maxRecDepth 100000 in
theorem names3 (w : World) : VC Try.prog (rest 9 body17) ⟨193, [], [], 0, Below w.heap.size w, z0⟩ (endΦ env Try.f17 fun s σ => (∀ β, s.c β = .bool true) ∧ ∀ w', σ.h w' → Below w.heap.size w w') := by
  refine VC.of env mixed ?_
  repeat'
    conv => whnf
    first
      | refine And.intro (a := drawB _ = true) (by kernel_rfl) ?_
      | refine And.intro (a := (_ : Bool) = true) rfl ?_
      | refine And.intro (a := (_ : Bool) = true ∧ (_ : Bool) = true) ⟨rfl, rfl⟩ ?_
      | refine And.intro (a := (_ : Bool) = true ∧ (_ : List _) = []) ⟨rfl, rfl⟩ ?_
      | refine And.intro (a := IR _ _) (And.intro (by omega) (by omega)) ?_
      | refine wrapE (And.intro (by omega) (by omega)) ?_
      | refine And.intro (a := (0 : Int) ≤ _ ∧ _ < _) (And.intro (by omega) (by omega)) ?_
      | refine And.intro (a := (_ : Bool) = true) (by simp only [Nat.beq_refl]; rfl) ?_
      | refine And.intro (a := ((_ : Bool) = true → 1 ≤ _) ∧ _ ≤ 9223372036854775807 ∧ _ ≤ 140737488355328) ⟨fun h => (by first | omega | cases h), by omega, by omega⟩ ?_
      | refine splT ?_
      | refine splF ?_
      | refine splNot ?_
      | (refine splIn (fun hc => ?_) (fun hc => ?_) <;> first | (exfalso; omega) | (exfalso; dsimp only at hc; omega) | skip)
      | (refine splD (fun hc => ?_) (fun hc => ?_) <;> first | (exfalso; omega) | (exfalso; dsimp only at hc; omega) | skip)
      | (refine splE (fun hc => ?_) (fun hc => ?_) <;> first | (exfalso; omega) | (exfalso; dsimp only at hc; omega) | skip)
      | (refine splNE (fun hc => ?_) (fun hc => ?_) <;> first | (exfalso; omega) | (exfalso; dsimp only at hc; omega) | skip)
  conv => whnf
  (with_reducible show CallEv _ _ 57 _ _ _ _ _)
  refine callF [] (fun b => (lpG b).v) (fun b => Rd 4 Bx.cs (.slice (some ⟨b, 0, none⟩) 1 1) lpB) (fun β w' _ _ => leap_fam w') ?_
  intro bf
  repeat'
    conv => whnf
    first
      | refine And.intro (a := drawB _ = true) (by kernel_rfl) ?_
      | refine And.intro (a := (_ : Bool) = true) rfl ?_
      | refine And.intro (a := (_ : Bool) = true ∧ (_ : Bool) = true) ⟨rfl, rfl⟩ ?_
      | refine And.intro (a := (_ : Bool) = true ∧ (_ : List _) = []) ⟨rfl, rfl⟩ ?_
      | refine And.intro (a := IR _ _) (And.intro (by omega) (by omega)) ?_
      | refine wrapE (And.intro (by omega) (by omega)) ?_
      | refine And.intro (a := (0 : Int) ≤ _ ∧ _ < _) (And.intro (by omega) (by omega)) ?_
      | refine And.intro (a := (_ : Bool) = true) (by simp only [Nat.beq_refl]; rfl) ?_
      | refine And.intro (a := ((_ : Bool) = true → 1 ≤ _) ∧ _ ≤ 9223372036854775807 ∧ _ ≤ 140737488355328) ⟨fun h => (by first | omega | cases h), by omega, by omega⟩ ?_
      | refine splT ?_
      | refine splF ?_
      | refine splNot ?_
      | (refine splIn (fun hc => ?_) (fun hc => ?_) <;> first | (exfalso; omega) | (exfalso; dsimp only at hc; omega) | skip)
      | (refine splD (fun hc => ?_) (fun hc => ?_) <;> first | (exfalso; omega) | (exfalso; dsimp only at hc; omega) | skip)
      | (refine splE (fun hc => ?_) (fun hc => ?_) <;> first | (exfalso; omega) | (exfalso; dsimp only at hc; omega) | skip)
      | (refine splNE (fun hc => ?_) (fun hc => ?_) <;> first | (exfalso; omega) | (exfalso; dsimp only at hc; omega) | skip)
  conv => whnf
  (with_reducible show CallEv _ _ 57 _ _ _ _ _)
  refine callC 1 [] (.agg [.v (iv 0), .v (iv 1000), .v (iv 500000), .v (iv 500000), .v (iv 3000), .v (iv 3000), .v (iv 2000), .v (iv 2010), .v (iv 60), .sl 1 0 1 1, .v (iv 6000), .v (iv 10), .v (iv 30000), .v (iv 30), .v (iv 50)]) [.v (iv 115000), .v (iv 116000), .v (iv 501000), .v (iv 503000)] 47 rfl (fun β w' _ _ => leap_own w') ?_
  repeat'
    conv => whnf
    first
      | refine And.intro (a := drawB _ = true) (by kernel_rfl) ?_
      | refine And.intro (a := (_ : Bool) = true) rfl ?_
      | refine And.intro (a := (_ : Bool) = true ∧ (_ : Bool) = true) ⟨rfl, rfl⟩ ?_
      | refine And.intro (a := (_ : Bool) = true ∧ (_ : List _) = []) ⟨rfl, rfl⟩ ?_
      | refine And.intro (a := IR _ _) (And.intro (by omega) (by omega)) ?_
      | refine wrapE (And.intro (by omega) (by omega)) ?_
      | refine And.intro (a := (0 : Int) ≤ _ ∧ _ < _) (And.intro (by omega) (by omega)) ?_
      | refine And.intro (a := (_ : Bool) = true) (by simp only [Nat.beq_refl]; rfl) ?_
      | refine And.intro (a := ((_ : Bool) = true → 1 ≤ _) ∧ _ ≤ 9223372036854775807 ∧ _ ≤ 140737488355328) ⟨fun h => (by first | omega | cases h), by omega, by omega⟩ ?_
      | refine splT ?_
      | refine splF ?_
      | refine splNot ?_
      | (refine splIn (fun hc => ?_) (fun hc => ?_) <;> first | (exfalso; omega) | (exfalso; dsimp only at hc; omega) | skip)
      | (refine splD (fun hc => ?_) (fun hc => ?_) <;> first | (exfalso; omega) | (exfalso; dsimp only at hc; omega) | skip)
      | (refine splE (fun hc => ?_) (fun hc => ?_) <;> first | (exfalso; omega) | (exfalso; dsimp only at hc; omega) | skip)
      | (refine splNE (fun hc => ?_) (fun hc => ?_) <;> first | (exfalso; omega) | (exfalso; dsimp only at hc; omega) | skip)
      | ((with_reducible show CallEv _ _ 50 [.sl 2 _ _ _, _, _] _ _ _ _); refine callM (k := 50) [1, 2] (fun β w' hbk hbw => chain_far (β 1) bf 2 (some ⟨β 2, 0, none⟩) w' (Rd.of_cells (sz := 15) (f := csP) (bs := [(lpG (β 1), lpB), (farG bf, lpB)]) (fun _ => rfl) rfl (hbk 2 (by simp) _ rfl)) (Rd.of_cells (sz := 4) (f := Bx.cs) (bs := lpB) (fun _ => rfl) rfl (hbk 1 (by simp) _ rfl)) hbw.2) ?_)
      | ((with_reducible show CallEv _ _ 57 _ _ _ _ _); refine callF [] (fun b => (lpG b).v) (fun b => Rd 4 Bx.cs (.slice (some ⟨b, 0, none⟩) 1 1) lpB) (fun β w' _ _ => leap_fam w') ?_; intro b)
      | ((with_reducible show CallEv _ _ 55 _ _ _ _ _); refine callE (k := 55) (fun β w' hbw => widest_f bf _ hbw.2) ?_)
      | ((with_reducible show CallEv _ _ 18 _ _ _ _ _); refine callE (k := 18) (fun β w' hbw => swing_n1 _) ?_)
      | ((with_reducible show CallEv _ _ 33 _ _ _ _ _); refine callE (k := 33) (fun β w' hbw => landing_f _) ?_)
      | ((with_reducible show CallEv _ _ 24 _ _ _ _ _); refine callF [] (fun y : Option Addr × Nat => .tuple #[sV 0 y, iv 2]) (fun _ _ => True) (fun β w' _ hbw => catches_n b w' hbw.2) ?_; intro y)
      | ((with_reducible show CallEv _ _ 50 _ _ _ _ _); refine callE (k := 50) (fun β w' hbw => chain_n _) ?_)
      | ((with_reducible show CallEv _ _ 43 _ _ _ _ _); refine callE (k := 43) (fun β w' hbw => check_n _) ?_)
      | ((with_reducible show CallEv _ _ 20 _ _ _ _ _); refine callE (k := 20) (fun β w' hbw => wakes_ok _) ?_)
  all_goals exact ⟨fun β => rfl, fun w' h => (by first | exact h | exact h.1 | exact h.1.1 | exact h.1.1.1 | exact h.1.1.1.1 | exact h.1.1.1.1.1 | exact h.1.1.1.1.1.1 | exact h.1.1.1.1.1.1.1)⟩

theorem FlightNames_ok (w : World) : Calls Try.prog 17 #[] w fun e w' => e = .returned (.bool true) ∧ Below w.heap.size w w' :=
  calls_valV env mixed Try.func17 has17 Try.ntmps17 [] (by simp) (names1 w (names2 w (names3 w)))
end Go.Proofs.Ytlehjapeomallaa.V
