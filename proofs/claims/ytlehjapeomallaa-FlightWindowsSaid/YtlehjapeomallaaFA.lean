/- A flight that is examined: the slices of its boxes and of what is borne are as said. -/
import Derived.Test.YtlehjapeomallaaF9
namespace Go.Proofs.Ytlehjapeomallaa
open Go Sx Go.RowKit

abbrev Fg.ss (g : Fg) : List SV := [.v (iv g.f.a.x.lo), .v (iv g.f.a.x.hi), .v (iv g.f.a.z.lo), .v (iv g.f.a.z.hi), .v (iv g.f.s.x.lo), .v (iv g.f.s.x.hi), .v (iv g.f.s.z.lo), .v (iv g.f.s.z.hi), .v (iv g.f.m), .v (.slice g.o g.n g.c), .v (iv g.re), .v (iv g.so), .v (iv g.be), .v (iv g.le), .v (iv g.mo)]
abbrev Fg.s2 (g : Fg) (a b : SV) : List SV := [.v (iv g.f.a.x.lo), .v (iv g.f.a.x.hi), .v (iv g.f.a.z.lo), .v (iv g.f.a.z.hi), .v (iv g.f.s.x.lo), .v (iv g.f.s.x.hi), .v (iv g.f.s.z.lo), .v (iv g.f.s.z.hi), .v (iv g.f.m), .v (.slice g.o g.n g.c), .v (iv g.re), .v (iv g.so), .v (iv g.be), .v (iv g.le), .v (iv g.mo), a, b]
abbrev Fg.sv (g : Fg) (a b : Value) : Value := .agg #[iv g.f.a.x.lo, iv g.f.a.x.hi, iv g.f.a.z.lo, iv g.f.a.z.hi, iv g.f.s.x.lo, iv g.f.s.x.hi, iv g.f.s.z.lo, iv g.f.s.z.hi, iv g.f.m, .slice g.o g.n g.c, iv g.re, iv g.so, iv g.be, iv g.le, iv g.mo, a, b]
def Fg.k (g : Fg) : Nat := (g.mo - g.le + 1).toNat

structure SeeX where
  b : Nat
  bc : Nat
  l : Nat
  lc : Nat
abbrev SeeX.bv (x : SeeX) (n : Nat) : Value := .slice (some ⟨x.b, 0, none⟩) n x.bc
abbrev SeeX.lv (x : SeeX) (n : Nat) : Value := .slice (some ⟨x.l, 0, none⟩) n x.lc
def SeeX.hx (g : Fg) (x : SeeX) (w : World) : Prop := Rd 4 Bx.cs (x.bv g.k) (seenB g g.k) w ∧ Rd 1 bF (x.lv g.k) (seenL g g.k) w

def seeM (g : Fg) : Nat → List (Nat × Blk)
  | 0 => [(0, .cells g.ss 54), (1, .cells (ti123.zero.map .v) 123), (2, .cells (g.s2 (.v (.slice none 0 0)) (.v (.slice none 0 0))) 123)]
  | k + 1 => [(0, .cells g.ss 54), (1, .cells (ti123.zero.map .v) 123), (2, .cells (g.s2 (.os 3 4 (k + 1)) (.os 5 6 (k + 1))) 123), (3, .own 4 (k + 1) 4 ((seenB g (k + 1)).flatMap Bx.cs) 47), (5, .own 6 (k + 1) 1 ((seenL g (k + 1)).flatMap bF) 4)]

set_option maxRecDepth 100000 in
theorem see_ok (g : Fg) (w : World) (hf : g.f.ok = true) (hs : 1 ≤ g.so ∧ g.so ≤ 100) (h0 : 0 ≤ g.le) (h1 : g.le ≤ g.mo) (h2 : g.mo ≤ 300) :
    Calls Try.prog 62 #[g.v] w fun e w' => ∃ x : SeeX, e = .returned (g.sv (x.bv g.k) (x.lv g.k)) ∧ Below w.heap.size w w' ∧ St w.heap.size (x.hx g) w' := by
  refine calls_fam env mixed Try.func62 has62 Try.ntmps62 [g.v] (by simp) ?_
  have hk : (g.k : Int) = g.mo - g.le + 1 := by unfold Fg.k; omega
  repeat'
    conv => whnf
    first
      | refine And.intro (a := drawB _ = true) (by kernel_rfl) ?_
      | refine And.intro (a := (_ : Bool) = true) rfl ?_
      | refine And.intro (a := (_ : Bool) = true ∧ (_ : Bool) = true) ⟨rfl, rfl⟩ ?_
      | refine And.intro (a := (_ : Bool) = true ∧ (_ : List _) = []) ⟨rfl, rfl⟩ ?_
      | refine And.intro (a := IR _ _) (And.intro (by omega) (by omega)) ?_
      | refine And.intro (a := (0 : Int) ≤ _ ∧ _ < _) (And.intro (by omega) (by omega)) ?_
      | refine splT ?_
      | refine splF ?_
      | refine splNot ?_
      | (refine splIn (fun hc => ?_) (fun hc => ?_) <;> first | (exfalso; omega) | skip)
      | (refine splD (fun hc => ?_) (fun hc => ?_) <;> first | (exfalso; omega) | skip)
      | (refine splE (fun hc => ?_) (fun hc => ?_) <;> first | (exfalso; omega) | skip)
      | (refine splNE (fun hc => ?_) (fun hc => ?_) <;> first | (exfalso; omega) | skip)
  refine loopN 7 (fun k : Nat => [(1, .ptr 0 0), (2, .ptr 1 0), (3, .ptr 2 0), (4, .v (iv (g.le + k)))]) (seeM g)
    (fun k => k ≤ g.k) (fun k => g.k - k) 0 (Nat.zero_le _) ⟨rfl, rfl, rfl, by rw [Int.ofNat_zero, Int.add_zero]; rfl, trivial⟩ ⟨rfl, rfl, rfl, trivial⟩ (fun k _ => by cases k <;> exact ⟨rfl, rfl⟩) ?_
  intro k hkk
  have hB : List.flatMap Bx.cs (seenB g (k + 1)) = List.flatMap Bx.cs (seenB g k) ++ (g.f.af (g.le + (k : Nat))).cs := by simp [seenB, List.flatMap_append]
  have hL : List.flatMap bF (seenL g (k + 1)) = List.flatMap bF (seenL g k) ++ [Value.bool (decide (ldF g.f g.so (g.le + (k : Nat)) ≤ g.be))] := by simp [seenL, List.flatMap_append]
  have hi : g.le + ((k + 1 : Nat) : Int) = g.le + (k : Nat) + 1 := by omega
  cases k with
  | zero =>
    repeat'
      conv => whnf
      first
        | refine And.intro (a := drawB _ = true) (by kernel_rfl) ?_
        | refine And.intro (a := (_ : Bool) = true) rfl ?_
        | refine And.intro (a := (_ : Bool) = true ∧ (_ : Bool) = true) ⟨rfl, rfl⟩ ?_
        | refine And.intro (a := (_ : Bool) = true ∧ (_ : List _) = []) ⟨rfl, rfl⟩ ?_
        | refine And.intro (a := IR _ _) (And.intro (by omega) (by omega)) ?_
        | refine And.intro (a := (0 : Int) ≤ _ ∧ _ < _) (And.intro (by omega) (by omega)) ?_
        | refine splT ?_
        | refine splF ?_
        | refine splNot ?_
        | (refine splIn (fun hc => ?_) (fun hc => ?_) <;> first | (exfalso; omega) | skip)
        | (refine splD (fun hc => ?_) (fun hc => ?_) <;> first | (exfalso; omega) | skip)
        | (refine splE (fun hc => ?_) (fun hc => ?_) <;> first | (exfalso; omega) | skip)
        | (refine splNE (fun hc => ?_) (fun hc => ?_) <;> first | (exfalso; omega) | skip)
        | ((with_reducible show CallEv _ _ 67 _ _ _ _ _); refine callE (k := 67) (fun β w' hbw => after_val g.f (g.le + (0 : Nat)) _ hf (by omega) (by omega)) ?_)
        | ((with_reducible show CallEv _ _ 70 _ _ _ _ _); refine callE (k := 70) (fun β w' hbw => load_ok g (g.le + (0 : Nat)) _ hf hs (by omega) (by omega)) ?_)
        | refine And.intro (a := (_ : Bool) = true) (by simp only [Nat.beq_refl]; rfl) ?_
        | refine And.intro (a := ((_ : Bool) = true → 1 ≤ _) ∧ _ ≤ 9223372036854775807 ∧ _ ≤ 140737488355328) ⟨fun h => (by omega), by omega, by omega⟩ ?_
    · exact ⟨0 + 1, by omega, by omega, Ent.ren (rho [(3, 8), (4, 9), (5, 11), (6, 12)]) rfl rfl ⟨rfl, rfl, rfl, by rw [hi]; rfl, trivial⟩ ⟨rfl, rfl, rfl, by rw [hB]; rfl, by rw [hL]; rfl, trivial⟩ fun _ h => h⟩
  | succ k =>
    repeat'
      conv => whnf
      first
        | refine And.intro (a := drawB _ = true) (by kernel_rfl) ?_
        | refine And.intro (a := (_ : Bool) = true) rfl ?_
        | refine And.intro (a := (_ : Bool) = true ∧ (_ : Bool) = true) ⟨rfl, rfl⟩ ?_
        | refine And.intro (a := (_ : Bool) = true ∧ (_ : List _) = []) ⟨rfl, rfl⟩ ?_
        | refine And.intro (a := IR _ _) (And.intro (by omega) (by omega)) ?_
        | refine And.intro (a := (0 : Int) ≤ _ ∧ _ < _) (And.intro (by omega) (by omega)) ?_
        | refine splT ?_
        | refine splF ?_
        | refine splNot ?_
        | (refine splIn (fun hc => ?_) (fun hc => ?_) <;> first | (exfalso; omega) | skip)
        | (refine splD (fun hc => ?_) (fun hc => ?_) <;> first | (exfalso; omega) | skip)
        | (refine splE (fun hc => ?_) (fun hc => ?_) <;> first | (exfalso; omega) | skip)
        | (refine splNE (fun hc => ?_) (fun hc => ?_) <;> first | (exfalso; omega) | skip)
        | ((with_reducible show CallEv _ _ 67 _ _ _ _ _); refine callE (k := 67) (fun β w' hbw => after_val g.f (g.le + (k + 1 : Nat)) _ hf (by omega) (by omega)) ?_)
        | ((with_reducible show CallEv _ _ 70 _ _ _ _ _); refine callE (k := 70) (fun β w' hbw => load_ok g (g.le + (k + 1 : Nat)) _ hf hs (by omega) (by omega)) ?_)
        | refine And.intro (a := (_ : Bool) = true) (by simp only [Nat.beq_refl]; rfl) ?_
        | refine And.intro (a := ((_ : Bool) = true → 1 ≤ _) ∧ _ ≤ 9223372036854775807 ∧ _ ≤ 140737488355328) ⟨fun h => (by omega), by omega, by omega⟩ ?_
    · exact ⟨k + 1 + 1, by omega, by omega, Ent.ren (rho [(3, 8), (4, 9), (5, 11), (6, 12)]) rfl rfl ⟨rfl, rfl, rfl, by rw [hi]; rfl, trivial⟩ ⟨rfl, rfl, rfl, by rw [hB]; rfl, by rw [hL]; rfl, trivial⟩ fun _ h => h⟩
    · have hkk : k + 1 = g.k := by omega
      refine ⟨fun w' h => h, fun β w' hB hblk => ⟨⟨β 3, β 4, β 5, β 6⟩, ?_, ?_⟩⟩
      · rw [← hkk]; rfl
      · have h3 := hblk 3 _ rfl rfl
        have h5 := hblk 5 _ rfl rfl
        exact (h3.and h5).imp fun w2 ⟨q3, q5⟩ => by
          rw [hkk] at q3 q5
          exact ⟨Rd.of_owns (sz := 4) (f := Bx.cs) (fun _ => rfl) rfl (seenB_len g _).symm q3, Rd.of_owns (sz := 1) (f := bF) (fun _ => rfl) rfl (seenL_len g _).symm q5⟩
end Go.Proofs.Ytlehjapeomallaa
