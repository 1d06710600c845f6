/- Whether ranges are near, whether all boxes are right, whether a flight is valid: what these functions return. -/
import Derived.Test.YtlehjapeomallaaF7
namespace Go.Proofs.Ytlehjapeomallaa
open Go Sx Go.RowKit

def nearB (r o : Rg) (reach : Int) : Bool := decide (r.hi - o.lo ≤ reach) && decide (o.hi - r.lo ≤ reach)
theorem near_ok (r o : Rg) (reach : Int) (w : World) (h0 : -100000000 ≤ r.lo ∧ r.lo ≤ 100000000) (h1 : -100000000 ≤ r.hi ∧ r.hi ≤ 100000000) (h2 : -100000000 ≤ o.lo ∧ o.lo ≤ 100000000) (h3 : -100000000 ≤ o.hi ∧ o.hi ≤ 100000000) :
    Calls Try.prog 92 #[r.v, o.v, iv reach] w fun e w' => e = .returned (.bool (nearB r o reach)) ∧ Below w.heap.size w w' := by
  refine calls_val env mixed Try.func92 has92 Try.ntmps92 [r.v, o.v, iv reach] (by simp) ?_
  repeat'
    conv => whnf
    first
      | refine And.intro (a := drawB _ = true) (by kernel_rfl) ?_
      | refine And.intro (a := (_ : Bool) = true) rfl ?_
      | refine And.intro (a := (_ : Bool) = true ∧ (_ : Bool) = true) ⟨rfl, rfl⟩ ?_
      | refine And.intro (a := (_ : Bool) = true ∧ (_ : List _) = []) ⟨rfl, rfl⟩ ?_
      | refine And.intro (a := IR _ _) (And.intro (by omega) (by omega)) ?_
      | refine And.intro (a := (0 : Int) ≤ _ ∧ _ < _) (And.intro (by omega) (by omega)) ?_
      | refine splT ?_
      | refine splF ?_
      | refine splNot ?_
      | (refine splIn (fun hc => ?_) (fun hc => ?_) <;> first | (exfalso; omega) | skip)
      | (refine splD (fun hc => ?_) (fun hc => ?_) <;> first | (exfalso; omega) | skip)
      | (refine splE (fun hc => ?_) (fun hc => ?_) <;> first | (exfalso; omega) | skip)
      | (refine splNE (fun hc => ?_) (fun hc => ?_) <;> first | (exfalso; omega) | skip)
  all_goals exact ⟨fun β => congrArg Value.bool (by simp [nearB, *]), fun w' h => h⟩

theorem box81_ok (b : Bx) (w : World) :
    Calls Try.prog 81 #[b.v] w fun e w' => e = .returned (.bool (b.ok 10000000)) ∧ Below w.heap.size w w' := by
  refine calls_val env mixed Try.func81 has81 Try.ntmps81 [b.v] (by simp) ?_
  repeat'
    conv => whnf
    first
      | refine And.intro (a := drawB _ = true) (by kernel_rfl) ?_
      | refine And.intro (a := (_ : Bool) = true) rfl ?_
      | refine And.intro (a := (_ : Bool) = true ∧ (_ : Bool) = true) ⟨rfl, rfl⟩ ?_
      | refine And.intro (a := (_ : Bool) = true ∧ (_ : List _) = []) ⟨rfl, rfl⟩ ?_
      | refine And.intro (a := IR _ _) (And.intro (by omega) (by omega)) ?_
      | refine And.intro (a := (0 : Int) ≤ _ ∧ _ < _) (And.intro (by omega) (by omega)) ?_
      | refine splT ?_
      | refine splF ?_
      | refine splNot ?_
      | (refine splIn (fun hc => ?_) (fun hc => ?_) <;> first | (exfalso; omega) | skip)
      | (refine splD (fun hc => ?_) (fun hc => ?_) <;> first | (exfalso; omega) | skip)
      | (refine splE (fun hc => ?_) (fun hc => ?_) <;> first | (exfalso; omega) | skip)
      | (refine splNE (fun hc => ?_) (fun hc => ?_) <;> first | (exfalso; omega) | skip)
      | ((with_reducible show CallEv _ _ 82 _ _ _ _ _); refine callE (k := 82) (fun β w' hbw => Bin_ok b _ _ (by omega) (by omega)) ?_)
  exact ⟨fun β => rfl, fun w' h => h⟩

theorem not97_ok (b : Bx) (p : Addr) (w : World) (hp : w.cell? p = some (.func (.func 81) #[] #[])) :
    Calls Try.prog 97 #[b.v, .pointer (some p)] w fun e w' => e = .returned (.bool (!(b.ok 10000000))) ∧ Below w.heap.size w w' := by
  refine calls_val env mixed Try.func97 has97 Try.ntmps97 [b.v, .pointer (some p)] (by simp) ?_
  have hx : ∀ w', Below w.heap.size w w' → ∀ j v, [Value.func (.func 81) #[] #[]][j]? = some v → w'.cell? (p.add j) = some v := fun w' hw' j v hv => by
    match j, hv with
    | 0, hv => cases hv; rw [show p.add 0 = p from by simp [Addr.add]]; exact ext_below hw' hp
  repeat'
    conv => whnf
    first
      | refine And.intro (a := drawB _ = true) (by kernel_rfl) ?_
      | refine And.intro (a := (_ : Bool) = true) rfl ?_
      | refine And.intro (a := (_ : Bool) = true ∧ (_ : Bool) = true) ⟨rfl, rfl⟩ ?_
      | refine And.intro (a := (_ : Bool) = true ∧ (_ : List _) = []) ⟨rfl, rfl⟩ ?_
      | refine And.intro (a := IR _ _) (And.intro (by omega) (by omega)) ?_
      | refine And.intro (a := (0 : Int) ≤ _ ∧ _ < _) (And.intro (by omega) (by omega)) ?_
      | refine splT ?_
      | refine splF ?_
      | refine splNot ?_
      | (refine splIn (fun hc => ?_) (fun hc => ?_) <;> first | (exfalso; omega) | skip)
      | (refine splD (fun hc => ?_) (fun hc => ?_) <;> first | (exfalso; omega) | skip)
      | (refine splE (fun hc => ?_) (fun hc => ?_) <;> first | (exfalso; omega) | skip)
      | (refine splNE (fun hc => ?_) (fun hc => ?_) <;> first | (exfalso; omega) | skip)
      | refine ⟨[.func (.func 81) #[] #[]], ⟨rfl, hx⟩, ?_⟩
      | ((with_reducible show CallEv _ _ 81 _ _ _ _ _); refine callE (k := 81) (fun β w' hbw => box81_ok b _) ?_)
  exact ⟨fun β => rfl, fun w' h => h⟩

/-- The place of the first box that is not right; -1: all are. -/
def ixF : List Bx → Nat → Int
  | [], _ => -1
  | b :: r, k => if b.ok 10000000 = true then ixF r (k + 1) else k
theorem ixF_nonneg : ∀ (bs : List Bx) (k : Nat), decide (ixF bs k ≥ 0) = !(bs.all (·.ok 10000000))
  | [], k => by simp [ixF]
  | b :: r, k => by
    cases hb : b.ok 10000000 with
    | true => simp [ixF, hb, ixF_nonneg r (k + 1)]
    | false => simp [ixF, hb]
theorem ixF_drop {bs : List Bx} {k : Nat} {b : Bx} (h : bs[k]? = some b) : ixF (bs.drop k) k = if b.ok 10000000 = true then ixF (bs.drop (k + 1)) (k + 1) else k := by
  obtain ⟨h1, h2⟩ := List.getElem?_eq_some_iff.1 h
  rw [List.drop_eq_getElem_cons h1, h2]
  rfl

theorem index_ok (s : Value) (bs : List Bx) (p : Addr) (w : World) (hp : w.cell? p = some (.func (.func 81) #[] #[])) (hr : Rd 4 Bx.cs s bs w) (hl : bs.length ≤ 1000000) :
    Calls Try.prog 100 #[s, .func (.func 97) #[] #[.pointer (some p)]] w fun e w' => e = .returned (iv (ixF bs 0)) ∧ Below w.heap.size w w' := by
  refine calls_val env mixed Try.func100 has100 Try.ntmps100 [s, .func (.func 97) #[] #[.pointer (some p)]] (by simp) ?_
  rcases hr with ⟨rfl, rfl⟩ | ⟨ad, c, rfl, hr⟩
  · skip
    repeat'
      conv => whnf
      first
        | refine And.intro (a := drawB _ = true) (by kernel_rfl) ?_
        | refine And.intro (a := (_ : Bool) = true) rfl ?_
        | refine And.intro (a := (_ : Bool) = true ∧ (_ : Bool) = true) ⟨rfl, rfl⟩ ?_
        | refine And.intro (a := (_ : Bool) = true ∧ (_ : List _) = []) ⟨rfl, rfl⟩ ?_
        | refine And.intro (a := IR _ _) (And.intro (by omega) (by omega)) ?_
        | refine And.intro (a := (0 : Int) ≤ _ ∧ _ < _) (And.intro (by omega) (by omega)) ?_
        | refine splT ?_
        | refine splF ?_
        | refine splNot ?_
        | (refine splIn (fun hc => ?_) (fun hc => ?_) <;> first | (exfalso; omega) | skip)
        | (refine splD (fun hc => ?_) (fun hc => ?_) <;> first | (exfalso; omega) | skip)
        | (refine splE (fun hc => ?_) (fun hc => ?_) <;> first | (exfalso; omega) | skip)
        | (refine splNE (fun hc => ?_) (fun hc => ?_) <;> first | (exfalso; omega) | skip)
    refine loopE (fun _ : Unit => [(7, .v (iv 0)), (8, .v (iv 0))]) (fun _ => []) (fun _ => True) (fun _ => 0) () trivial ⟨rfl, rfl, trivial⟩ trivial (fun _ => ⟨rfl, rfl⟩) ?_
    intro _ _
    repeat'
      conv => whnf
      first
        | refine And.intro (a := drawB _ = true) (by kernel_rfl) ?_
        | refine And.intro (a := (_ : Bool) = true) rfl ?_
        | refine And.intro (a := (_ : Bool) = true ∧ (_ : Bool) = true) ⟨rfl, rfl⟩ ?_
        | refine And.intro (a := (_ : Bool) = true ∧ (_ : List _) = []) ⟨rfl, rfl⟩ ?_
        | refine And.intro (a := IR _ _) (And.intro (by omega) (by omega)) ?_
        | refine And.intro (a := (0 : Int) ≤ _ ∧ _ < _) (And.intro (by omega) (by omega)) ?_
        | refine splT ?_
        | refine splF ?_
        | refine splNot ?_
        | (refine splIn (fun hc => ?_) (fun hc => ?_) <;> first | (exfalso; omega) | skip)
        | (refine splD (fun hc => ?_) (fun hc => ?_) <;> first | (exfalso; omega) | skip)
        | (refine splE (fun hc => ?_) (fun hc => ?_) <;> first | (exfalso; omega) | skip)
        | (refine splNE (fun hc => ?_) (fun hc => ?_) <;> first | (exfalso; omega) | skip)
    exact ⟨fun β => rfl, fun w' h => h⟩
  · skip
    repeat'
      conv => whnf
      first
        | refine And.intro (a := drawB _ = true) (by kernel_rfl) ?_
        | refine And.intro (a := (_ : Bool) = true) rfl ?_
        | refine And.intro (a := (_ : Bool) = true ∧ (_ : Bool) = true) ⟨rfl, rfl⟩ ?_
        | refine And.intro (a := (_ : Bool) = true ∧ (_ : List _) = []) ⟨rfl, rfl⟩ ?_
        | refine And.intro (a := IR _ _) (And.intro (by omega) (by omega)) ?_
        | refine And.intro (a := (0 : Int) ≤ _ ∧ _ < _) (And.intro (by omega) (by omega)) ?_
        | refine splT ?_
        | refine splF ?_
        | refine splNot ?_
        | (refine splIn (fun hc => ?_) (fun hc => ?_) <;> first | (exfalso; omega) | skip)
        | (refine splD (fun hc => ?_) (fun hc => ?_) <;> first | (exfalso; omega) | skip)
        | (refine splE (fun hc => ?_) (fun hc => ?_) <;> first | (exfalso; omega) | skip)
        | (refine splNE (fun hc => ?_) (fun hc => ?_) <;> first | (exfalso; omega) | skip)
    refine loopE (fun k : Nat => [(0, .v (.slice (some ad) bs.length c)), (1, .v (.func (.func 97) #[] #[.pointer (some p)])), (7, .v (iv bs.length)), (8, .v (iv k))]) (fun _ => [])
      (fun k => k ≤ bs.length ∧ ixF (bs.drop k) k = ixF bs 0) (fun k => bs.length - k) 0 ⟨Nat.zero_le _, rfl⟩ ⟨rfl, rfl, rfl, rfl, trivial⟩ trivial (fun _ => ⟨rfl, rfl⟩) ?_
    intro k ⟨hk, hix⟩
    rcases Nat.lt_or_ge k bs.length with hkl | hkl
    · obtain ⟨b, hb⟩ : ∃ b, bs[k]? = some b := ⟨_, List.getElem?_eq_getElem hkl⟩
      rw [ixF_drop hb] at hix
      have hx : ∀ w', Below w.heap.size w w' → ∀ j v, (Bx.cs b)[j]? = some v → w'.cell? ((ad.add (((k : Int).toNat) * 4)).add j) = some v := fun w' hw' j v hv => by
        rw [Int.toNat_natCast]
        exact ext_below hw' (hr k _ hb j v hv)
      repeat'
        conv => whnf
        first
          | refine And.intro (a := drawB _ = true) (by kernel_rfl) ?_
          | refine And.intro (a := (_ : Bool) = true) rfl ?_
          | refine And.intro (a := (_ : Bool) = true ∧ (_ : Bool) = true) ⟨rfl, rfl⟩ ?_
          | refine And.intro (a := (_ : Bool) = true ∧ (_ : List _) = []) ⟨rfl, rfl⟩ ?_
          | refine And.intro (a := IR _ _) (And.intro (by omega) (by omega)) ?_
          | refine And.intro (a := (0 : Int) ≤ _ ∧ _ < _) (And.intro (by omega) (by omega)) ?_
          | refine splT ?_
          | refine splF ?_
          | refine splNot ?_
          | (refine splIn (fun hc => ?_) (fun hc => ?_) <;> first | (exfalso; omega) | skip)
          | (refine splD (fun hc => ?_) (fun hc => ?_) <;> first | (exfalso; omega) | skip)
          | (refine splE (fun hc => ?_) (fun hc => ?_) <;> first | (exfalso; omega) | skip)
          | (refine splNE (fun hc => ?_) (fun hc => ?_) <;> first | (exfalso; omega) | skip)
          | refine ⟨Bx.cs b, ⟨rfl, hx⟩, ?_⟩
          | ((with_reducible show CallEv _ _ 97 _ _ _ _ _); refine callE (k := 97) (fun β w' hbw => not97_ok b p _ (ext_below hbw hp)) ?_)
          | refine splB (fun hc => ?_) (fun hc => ?_)
      · rw [if_pos (by simpa using hc)] at hix
        exact ⟨k + 1, ⟨by omega, hix⟩, by omega, Ent.weak rfl ⟨rfl, rfl, rfl, rfl, trivial⟩ trivial fun _ h => h⟩
      · rw [if_neg (by simp [hc])] at hix
        exact ⟨fun β => by rw [← hix]; rfl, fun w' h => h⟩
    · rw [List.drop_eq_nil_of_le hkl] at hix
      repeat'
        conv => whnf
        first
          | refine And.intro (a := drawB _ = true) (by kernel_rfl) ?_
          | refine And.intro (a := (_ : Bool) = true) rfl ?_
          | refine And.intro (a := (_ : Bool) = true ∧ (_ : Bool) = true) ⟨rfl, rfl⟩ ?_
          | refine And.intro (a := (_ : Bool) = true ∧ (_ : List _) = []) ⟨rfl, rfl⟩ ?_
          | refine And.intro (a := IR _ _) (And.intro (by omega) (by omega)) ?_
          | refine And.intro (a := (0 : Int) ≤ _ ∧ _ < _) (And.intro (by omega) (by omega)) ?_
          | refine splT ?_
          | refine splF ?_
          | refine splNot ?_
          | (refine splIn (fun hc => ?_) (fun hc => ?_) <;> first | (exfalso; omega) | skip)
          | (refine splD (fun hc => ?_) (fun hc => ?_) <;> first | (exfalso; omega) | skip)
          | (refine splE (fun hc => ?_) (fun hc => ?_) <;> first | (exfalso; omega) | skip)
          | (refine splNE (fun hc => ?_) (fun hc => ?_) <;> first | (exfalso; omega) | skip)
      exact ⟨fun β => by rw [← hix]; rfl, fun w' h => h⟩

theorem contains_ok (s : Value) (bs : List Bx) (p : Addr) (w : World) (hp : w.cell? p = some (.func (.func 81) #[] #[])) (hr : Rd 4 Bx.cs s bs w) (hl : bs.length ≤ 1000000) :
    Calls Try.prog 96 #[s, .func (.func 97) #[] #[.pointer (some p)]] w fun e w' => e = .returned (.bool (!(bs.all (·.ok 10000000)))) ∧ Below w.heap.size w w' := by
  refine calls_val env mixed Try.func96 has96 Try.ntmps96 [s, .func (.func 97) #[] #[.pointer (some p)]] (by simp) ?_
  repeat'
    conv => whnf
    first
      | refine And.intro (a := drawB _ = true) (by kernel_rfl) ?_
      | refine And.intro (a := (_ : Bool) = true) rfl ?_
      | refine And.intro (a := (_ : Bool) = true ∧ (_ : Bool) = true) ⟨rfl, rfl⟩ ?_
      | refine And.intro (a := (_ : Bool) = true ∧ (_ : List _) = []) ⟨rfl, rfl⟩ ?_
      | refine And.intro (a := IR _ _) (And.intro (by omega) (by omega)) ?_
      | refine And.intro (a := (0 : Int) ≤ _ ∧ _ < _) (And.intro (by omega) (by omega)) ?_
      | refine splT ?_
      | refine splF ?_
      | refine splNot ?_
      | (refine splIn (fun hc => ?_) (fun hc => ?_) <;> first | (exfalso; omega) | skip)
      | (refine splD (fun hc => ?_) (fun hc => ?_) <;> first | (exfalso; omega) | skip)
      | (refine splE (fun hc => ?_) (fun hc => ?_) <;> first | (exfalso; omega) | skip)
      | (refine splNE (fun hc => ?_) (fun hc => ?_) <;> first | (exfalso; omega) | skip)
      | ((with_reducible show CallEv _ _ 100 _ _ _ _ _); refine callE (k := 100) (fun β w' hbw => index_ok s bs p _ (ext_below hbw hp) (hr.below hbw) hl) ?_)
  all_goals exact ⟨fun β => congrArg Value.bool (by rw [← ixF_nonneg bs 0]), fun w' h => h⟩

theorem all80_ok (s : Value) (bs : List Bx) (w : World) (hr : Rd 4 Bx.cs s bs w) (hl : bs.length ≤ 1000000) :
    Calls Try.prog 80 #[s, .func (.func 81) #[] #[]] w fun e w' => e = .returned (.bool (bs.all (·.ok 10000000))) ∧ Below w.heap.size w w' := by
  refine calls_val env mixed Try.func80 has80 Try.ntmps80 [s, .func (.func 81) #[] #[]] (by simp) ?_
  repeat'
    conv => whnf
    first
      | refine And.intro (a := drawB _ = true) (by kernel_rfl) ?_
      | refine And.intro (a := (_ : Bool) = true) rfl ?_
      | refine And.intro (a := (_ : Bool) = true ∧ (_ : Bool) = true) ⟨rfl, rfl⟩ ?_
      | refine And.intro (a := (_ : Bool) = true ∧ (_ : List _) = []) ⟨rfl, rfl⟩ ?_
      | refine And.intro (a := IR _ _) (And.intro (by omega) (by omega)) ?_
      | refine And.intro (a := (0 : Int) ≤ _ ∧ _ < _) (And.intro (by omega) (by omega)) ?_
      | refine splT ?_
      | refine splF ?_
      | refine splNot ?_
      | (refine splIn (fun hc => ?_) (fun hc => ?_) <;> first | (exfalso; omega) | skip)
      | (refine splD (fun hc => ?_) (fun hc => ?_) <;> first | (exfalso; omega) | skip)
      | (refine splE (fun hc => ?_) (fun hc => ?_) <;> first | (exfalso; omega) | skip)
      | (refine splNE (fun hc => ?_) (fun hc => ?_) <;> first | (exfalso; omega) | skip)
      | ((with_reducible show CallEv _ _ 96 _ _ _ _ _); refine callM (k := 96) [0] (fun β w' hbk hbw => contains_ok s bs ⟨β 0, 0, none⟩ w' (cell_of_row w' (β 0) 0 _ _ (0, 0) (hbk 0 (by simp) _ rfl)) (hr.below hbw) hl) ?_)
  exact ⟨fun β => congrArg Value.bool (by simp), fun w' h => h⟩

def Fg.ok (g : Fg) (bs : List Bx) : Bool := g.f.ok && inB g.n 1 600 && bs.all (·.ok 10000000) && inB g.re 0 10000000 && inB g.so 1 100 && inB g.be 0 100000000 && inB g.le 0 300 && inB g.mo g.le 300

set_option maxRecDepth 100000 in
theorem Gvalid_ok (g : Fg) (bs : List Bx) (w : World) (hr : Rd 4 Bx.cs (.slice g.o g.n g.c) bs w) (hl : bs.length ≤ 1000000) :
    Calls Try.prog 60 #[g.v] w fun e w' => e = .returned (.bool (g.ok bs)) ∧ Below w.heap.size w w' := by
  refine calls_val env mixed Try.func60 has60 Try.ntmps60 [g.v] (by simp) ?_
  repeat'
    conv => whnf
    first
      | refine And.intro (a := drawB _ = true) (by kernel_rfl) ?_
      | refine And.intro (a := (_ : Bool) = true) rfl ?_
      | refine And.intro (a := (_ : Bool) = true ∧ (_ : Bool) = true) ⟨rfl, rfl⟩ ?_
      | refine And.intro (a := (_ : Bool) = true ∧ (_ : List _) = []) ⟨rfl, rfl⟩ ?_
      | refine And.intro (a := IR _ _) (And.intro (by omega) (by omega)) ?_
      | refine And.intro (a := (0 : Int) ≤ _ ∧ _ < _) (And.intro (by omega) (by omega)) ?_
      | refine splT ?_
      | refine splF ?_
      | refine splNot ?_
      | (refine splIn (fun hc => ?_) (fun hc => ?_) <;> first | (exfalso; omega) | skip)
      | (refine splD (fun hc => ?_) (fun hc => ?_) <;> first | (exfalso; omega) | skip)
      | (refine splE (fun hc => ?_) (fun hc => ?_) <;> first | (exfalso; omega) | skip)
      | (refine splNE (fun hc => ?_) (fun hc => ?_) <;> first | (exfalso; omega) | skip)
      | ((with_reducible show CallEv _ _ 69 _ _ _ _ _); refine callE (k := 69) (fun β w' hbw => Fvalid_ok g.f _) ?_)
      | ((with_reducible show CallEv _ _ 58 _ _ _ _ _); refine callE (k := 58) (fun β w' hbw => within_ok _ _ _ _) ?_)
      | ((with_reducible show CallEv _ _ 80 _ _ _ _ _); refine callE (k := 80) (fun β w' hbw => all80_ok _ bs _ (hr.below hbw) hl) ?_)
      | refine splB (fun hc => ?_) (fun hc => ?_)
  all_goals exact ⟨fun β => congrArg Value.bool (by simp [Fg.ok, inB, *]), fun w' h => h⟩
end Go.Proofs.Ytlehjapeomallaa
