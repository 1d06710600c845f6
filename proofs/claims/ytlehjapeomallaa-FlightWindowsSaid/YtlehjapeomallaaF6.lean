/- The greatest size of numbers, read out of a slice: what the function returns. -/
import Derived.Test.YtlehjapeomallaaF5
namespace Go.Proofs.Ytlehjapeomallaa
open Go Sx Go.RowKit

/-! ### Elements of a slice in memory -/
/-- The slice's elements are bs; each lies in sz cells, f tells them. -/
def Rd {α : Type} (sz : Nat) (f : α → List Value) (s : Value) (bs : List α) (w : World) : Prop :=
  (s = .slice none 0 0 ∧ bs = []) ∨ ∃ ad c, s = .slice (some ad) bs.length c ∧ ∀ k b, bs[k]? = some b → ∀ j v, (f b)[j]? = some v → w.cell? ((ad.add (k * sz)).add j) = some v

theorem ext_below {w w' : World} (h : Below w.heap.size w w') {a : Addr} {v : Value} (hv : w.cell? a = some v) : w'.cell? a = some v := by
  have hlt : a.block < w.heap.size := by
    unfold World.cell? at hv
    cases ho : w.heap[a.block]? with
    | none => simp [ho] at hv
    | some o => exact (Array.getElem?_eq_some_iff.1 ho).1
  exact (World.cell?_of_block (h.block _ hlt)).trans hv

theorem Rd.below {α : Type} {sz : Nat} {f : α → List Value} {s : Value} {bs : List α} {w w' : World} (h : Rd sz f s bs w) (hb : Below w.heap.size w w') : Rd sz f s bs w' := by
  rcases h with h | ⟨ad, c, h1, h2⟩
  · exact .inl h
  · exact .inr ⟨ad, c, h1, fun k b hk j v hv => ext_below hb (h2 k b hk j v hv)⟩

abbrev iF (n : Int) : List Value := [iv n]
abbrev Bx.cs (b : Bx) : List Value := [iv b.x.lo, iv b.x.hi, iv b.z.lo, iv b.z.hi]

/-- The greatest size of numbers, 0 at least. -/
def gr (xs : List Int) : Int := xs.foldl (fun n x => imax (imax n x) (-x)) 0
theorem gr_snoc (xs : List Int) (x : Int) : gr (xs ++ [x]) = imax (imax (gr xs) x) (-x) := by simp [gr]
theorem gr_take {xs : List Int} {k : Nat} {x : Int} (h : xs[k]? = some x) : gr (xs.take (k + 1)) = imax (imax (gr (xs.take k)) x) (-x) := by
  rw [List.take_add_one, h, Option.toList_some, gr_snoc]

theorem imax_bd {a b B : Int} (ha : a ≤ B) (hb : b ≤ B) : imax a b ≤ B := by unfold imax; split <;> omega
theorem imax_l (a b : Int) : a ≤ imax a b := by unfold imax; split <;> omega
theorem gr_bd (xs : List Int) (B : Int) (h0 : 0 ≤ B) (h : ∀ x ∈ xs, -B ≤ x ∧ x ≤ B) : 0 ≤ gr xs ∧ gr xs ≤ B := by
  have key : ∀ (l : List Int) (n : Int), 0 ≤ n → n ≤ B → (∀ x ∈ l, -B ≤ x ∧ x ≤ B) → 0 ≤ l.foldl (fun n x => imax (imax n x) (-x)) n ∧ l.foldl (fun n x => imax (imax n x) (-x)) n ≤ B := by
    intro l
    induction l with
    | nil => intro n h1 h2 _; exact ⟨h1, h2⟩
    | cons x r ih =>
      intro n h1 h2 h
      have hx := h x List.mem_cons_self
      rw [List.foldl_cons]
      refine ih _ ?_ (imax_bd (imax_bd h2 hx.2) (by omega)) fun y hy => h y (List.mem_cons_of_mem _ hy)
      exact Int.le_trans (Int.le_trans h1 (imax_l n x)) (imax_l _ _)
  exact key xs 0 (Int.le_refl 0) h0 h

theorem greatest_ok (ad : Addr) (c : Nat) (xs : List Int) (w : World) (hr : Rd 1 iF (.slice (some ad) xs.length c) xs w) (hl : xs.length ≤ 1000000) (hb : ∀ x ∈ xs, -1000000000000 ≤ x ∧ x ≤ 1000000000000) :
    Calls Try.prog 91 #[.slice (some ad) xs.length c] w fun e w' => e = .returned (iv (gr xs)) ∧ Below w.heap.size w w' := by
  refine calls_val env mixed Try.func91 has91 Try.ntmps91 [.slice (some ad) xs.length c] (by simp) ?_
  rcases hr with ⟨h0, _⟩ | ⟨ad', c', h0, hr⟩
  · cases h0
  cases h0
  repeat'
    conv => whnf
    first
      | refine And.intro (a := drawB _ = true) (by kernel_rfl) ?_
      | refine And.intro (a := (_ : Bool) = true) rfl ?_
      | refine And.intro (a := (_ : Bool) = true ∧ (_ : Bool) = true) ⟨rfl, rfl⟩ ?_
      | refine And.intro (a := (_ : Bool) = true ∧ (_ : List _) = []) ⟨rfl, rfl⟩ ?_
      | refine And.intro (a := IR _ _) (And.intro (by omega) (by omega)) ?_
      | refine And.intro (a := (0 : Int) ≤ _ ∧ _ < _) (And.intro (by omega) (by omega)) ?_
      | refine splT ?_
      | refine splF ?_
      | refine splNot ?_
      | (refine splIn (fun hc => ?_) (fun hc => ?_) <;> first | (exfalso; omega) | skip)
      | (refine splD (fun hc => ?_) (fun hc => ?_) <;> first | (exfalso; omega) | skip)
      | (refine splE (fun hc => ?_) (fun hc => ?_) <;> first | (exfalso; omega) | skip)
      | (refine splNE (fun hc => ?_) (fun hc => ?_) <;> first | (exfalso; omega) | skip)
  refine loopE (fun k : Nat => [(2, .v (iv (gr (xs.take k)))), (5, .v (.slice (some ad) xs.length c)), (6, .v (iv xs.length)), (7, .v (iv k))]) (fun _ => [])
    (fun k => k ≤ xs.length) (fun k => xs.length - k) 0 (Nat.zero_le _) ⟨rfl, rfl, rfl, rfl, trivial⟩ trivial (fun _ => ⟨rfl, rfl⟩) ?_
  intro k hk
  have hx : ∀ h : k < xs.length, ∀ w', Below w.heap.size w w' → ∀ j v, [iv (xs[k]'h)][j]? = some v → w'.cell? (((ad.add (((k : Int).toNat) * 1))).add j) = some v := fun h w' hw' j v hv => by
    rw [Int.toNat_natCast]
    exact ext_below hw' (hr k _ (List.getElem?_eq_getElem h) j v hv)
  have hbk : ∀ h : k < xs.length, -1000000000000 ≤ xs[k]'h ∧ xs[k]'h ≤ 1000000000000 := fun h => hb _ (List.getElem_mem h)
  repeat'
    conv => whnf
    first
      | refine And.intro (a := drawB _ = true) (by kernel_rfl) ?_
      | refine And.intro (a := (_ : Bool) = true) rfl ?_
      | refine And.intro (a := (_ : Bool) = true ∧ (_ : Bool) = true) ⟨rfl, rfl⟩ ?_
      | refine And.intro (a := (_ : Bool) = true ∧ (_ : List _) = []) ⟨rfl, rfl⟩ ?_
      | refine And.intro (a := IR _ _) (And.intro (by omega) (by omega)) ?_
      | refine And.intro (a := (0 : Int) ≤ _ ∧ _ < _) (And.intro (by omega) (by omega)) ?_
      | refine splT ?_
      | refine splF ?_
      | refine splNot ?_
      | (refine splIn (fun hc => ?_) (fun hc => ?_) <;> first | (exfalso; omega) | skip)
      | (refine splD (fun hc => ?_) (fun hc => ?_) <;> first | (exfalso; omega) | skip)
      | (refine splE (fun hc => ?_) (fun hc => ?_) <;> first | (exfalso; omega) | skip)
      | (refine splNE (fun hc => ?_) (fun hc => ?_) <;> first | (exfalso; omega) | skip)
      | refine ⟨[iv (xs[k]'(by omega))], ⟨rfl, hx (by omega)⟩, ?_⟩
      | refine And.intro (a := IR _ _) (by have := hbk (by omega); exact And.intro (by omega) (by omega)) ?_
  · exact ⟨k + 1, by omega, by omega, Ent.weak rfl ⟨by rw [gr_take (List.getElem?_eq_getElem (by omega : k < xs.length))]; rfl, rfl, rfl, rfl, trivial⟩ trivial fun _ h => h⟩
  · have hk' : k = xs.length := by omega
    subst hk'
    exact ⟨fun β => by rw [List.take_length]; rfl, fun w' h => h⟩
end Go.Proofs.Ytlehjapeomallaa
