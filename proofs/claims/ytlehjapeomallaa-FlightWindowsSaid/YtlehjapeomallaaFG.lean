/- The catches of any release: the function returns a slice that holds them, or the error. -/
import Derived.Test.YtlehjapeomallaaFF
namespace Go.Proofs.Ytlehjapeomallaa
open Go Sx Go.RowKit

theorem block_below {w w' : World} {n : Nat} {b : Nat} {o : Obj} (h : Below w.heap.size w w') (hb : w.heap[b]? = some o) (_ : n = n) : w'.heap[b]? = some o := (h.block b (Array.getElem?_eq_some_iff.1 hb).1).trans hb
theorem IterAt.of {g : Fg} {bs : List Bx} {x : SeeX} {r : Int} {ca : Nat × Nat} {w : World} (h1 : catHx g (x.bv g.k) (x.lv g.k) r ca w) (h2 : x.hx g w) (h3 : Rd 4 Bx.cs (.slice g.o g.n g.c) bs w) : IterAt w.heap.size g bs x r ca w :=
  fun _ hW => ⟨⟨block_below (n := 0) hW h1.1 rfl, block_below (n := 0) hW h1.2 rfl⟩, ⟨h2.1.below hW, h2.2.below hW⟩, h3.below hW⟩
theorem IterAt.later {g : Fg} {bs : List Bx} {x : SeeX} {r : Int} {ca : Nat × Nat} {w w' : World} (h : IterAt w.heap.size g bs x r ca w) (hb : Below w.heap.size w w') : IterAt w'.heap.size g bs x r ca w' :=
  fun W hW => h W (hb.trans (hW.mono hb.size))

theorem owns_ints {w' : World} {base : Nat} {v : Value} {xs : List Int} (h : w'.ownsRow base 3 1 v xs.length (xs.map (Value.int .i64))) :
    ∃ y : Option Addr × Nat, v = .slice y.1 xs.length y.2 ∧ St base (Rd 1 iF (.slice y.1 xs.length y.2) xs) w' := by
  have hx : xs.map (Value.int .i64) = xs.flatMap iF := by
    have : ∀ l : List Int, l.map (Value.int .i64) = l.flatMap iF := by
      intro l
      induction l with
      | nil => rfl
      | cons a l ih => rw [List.map_cons, List.flatMap_cons, ih]; rfl
    exact this xs
  rcases h.2 with ⟨rfl, h0⟩ | ⟨b, cap, cur, rfl, h1, h2, h3, h4, h5, h6⟩
  · have : xs = [] := List.eq_nil_of_length_eq_zero h0
    subst this
    exact ⟨(none, 0), rfl, fun _ _ => .inl ⟨rfl, rfl⟩⟩
  · refine ⟨(some ⟨b, 0, none⟩, cap), rfl, fun w2 hk => Rd.of_owns (sz := 1) (f := iF) (base := base) (ty := 3) (fun _ => rfl) hx rfl ⟨h.1, .inr ⟨b, cap, cur, rfl, h1, ?_, h3, h4, h5, h6⟩⟩⟩
    rw [hk.same b h1 (Array.getElem?_eq_some_iff.1 h2).1]
    exact h2

theorem St_stst {n m : Nat} {p : World → Prop} {w : World} (h : St m p w) (hn : n ≤ m) : St m (St n p) w := fun _ k2 w3 k3 => h w3 (k2.trans (k3.mono hn))

/-- A slice of ints, come as a result: where it lies. -/
abbrev sV (n : Nat) (y : Option Addr × Nat) : Value := .slice y.1 n y.2

theorem append83_fam (g : Fg) (bs : List Bx) (x : SeeX) (r : Int) (ca : Nat × Nat) (hg : g.ok bs = true) (hr0 : 0 ≤ r ∧ r ≤ 6000) (w : World) (hit : IterAt w.heap.size g bs x r ca w) :
    Calls Try.prog 83 #[.slice none 0 0, catV ca] w fun e w' => ∃ y : Option Addr × Nat, e = .returned (sV (catL g bs r g.k).length y) ∧ Below w.heap.size w w' ∧ St w.heap.size (Rd 1 iF (sV (catL g bs r g.k).length y) (catL g bs r g.k)) w' :=
  (append83_ok g bs x r ca hg hr0 w hit).mono fun e w' ⟨v, he, ho, hb⟩ => by
    obtain ⟨y, rfl, h⟩ := owns_ints ho
    exact ⟨y, he, hb, h⟩

theorem collect_ok (g : Fg) (bs : List Bx) (x : SeeX) (r : Int) (ca : Nat × Nat) (hg : g.ok bs = true) (hr0 : 0 ≤ r ∧ r ≤ 6000) (w : World) (hit : IterAt w.heap.size g bs x r ca w) :
    Calls Try.prog 61 #[catV ca] w fun e w' => ∃ y : Option Addr × Nat, e = .returned (sV (catL g bs r g.k).length y) ∧ Below w.heap.size w w' ∧ St w.heap.size (Rd 1 iF (sV (catL g bs r g.k).length y) (catL g bs r g.k)) w' := by
  refine calls_fam env mixed Try.func61 has61 Try.ntmps61 [catV ca] (by simp) ?_
  repeat'
    conv => whnf
    first
      | refine And.intro (a := drawB _ = true) (by kernel_rfl) ?_
      | refine And.intro (a := (_ : Bool) = true) rfl ?_
      | refine And.intro (a := (_ : Bool) = true ∧ (_ : Bool) = true) ⟨rfl, rfl⟩ ?_
      | refine And.intro (a := (_ : Bool) = true ∧ (_ : List _) = []) ⟨rfl, rfl⟩ ?_
      | refine And.intro (a := IR _ _) (And.intro (by omega) (by omega)) ?_
      | refine And.intro (a := (0 : Int) ≤ _ ∧ _ < _) (And.intro (by omega) (by omega)) ?_
      | refine splT ?_
      | refine splF ?_
      | refine splNot ?_
      | (refine splIn (fun hc => ?_) (fun hc => ?_) <;> first | (exfalso; omega) | skip)
      | (refine splD (fun hc => ?_) (fun hc => ?_) <;> first | (exfalso; omega) | skip)
      | (refine splE (fun hc => ?_) (fun hc => ?_) <;> first | (exfalso; omega) | skip)
      | (refine splNE (fun hc => ?_) (fun hc => ?_) <;> first | (exfalso; omega) | skip)
      | ((with_reducible show CallEv _ _ 83 _ _ _ _ _); refine callF [] (sV (catL g bs r g.k).length) (fun y => St w.heap.size (Rd 1 iF (sV (catL g bs r g.k).length y) (catL g bs r g.k))) (fun β w' _ hbw => (append83_fam g bs x r ca hg hr0 w' (hit.later hbw)).mono fun _ _ ⟨y, h1, h2, h3⟩ => ⟨y, h1, h2, St_stst h3 hbw.size⟩) ?_; intro y)
  exact ⟨fun w' h => h.1, fun β w' h _ => ⟨y, rfl, h.2⟩⟩

/-- The ticks at which a catch is sure, or none where the flight or the release is not right. -/
def catR (g : Fg) (bs : List Bx) (r : Int) : List Int := if g.ok bs = true ∧ (0 ≤ r ∧ r ≤ 6000) then catL g bs r g.k else []
def catE (g : Fg) (bs : List Bx) (r : Int) : Int := if g.ok bs = true then (if 0 ≤ r ∧ r ≤ 6000 then 0 else 2) else 1

theorem Catches_ok (g : Fg) (bs : List Bx) (r : Int) (w : World) (hrd : Rd 4 Bx.cs (.slice g.o g.n g.c) bs w) (hl : bs.length ≤ 1000000) :
    Calls Try.prog 24 #[g.v, iv r] w fun e w' => ∃ y : Option Addr × Nat, e = .returned (.tuple #[sV (catR g bs r).length y, iv (catE g bs r)]) ∧ Below w.heap.size w w' ∧ St w.heap.size (Rd 1 iF (sV (catR g bs r).length y) (catR g bs r)) w' := by
  refine calls_fam env mixed Try.func24 has24 Try.ntmps24 [g.v, iv r] (by simp) ?_
  by_cases hg : g.ok bs = true
  · have hg' := Fg.ok_iff.1 hg
    by_cases hr0 : 0 ≤ r ∧ r ≤ 6000
    · rw [show catR g bs r = catL g bs r g.k from if_pos ⟨hg, hr0⟩, show catE g bs r = 0 from by rw [catE, if_pos hg, if_pos hr0]]
      repeat'
        conv => whnf
        first
          | refine And.intro (a := drawB _ = true) (by kernel_rfl) ?_
          | refine And.intro (a := (_ : Bool) = true) rfl ?_
          | refine And.intro (a := (_ : Bool) = true ∧ (_ : Bool) = true) ⟨rfl, rfl⟩ ?_
          | refine And.intro (a := (_ : Bool) = true ∧ (_ : List _) = []) ⟨rfl, rfl⟩ ?_
          | refine And.intro (a := IR _ _) (And.intro (by omega) (by omega)) ?_
          | refine And.intro (a := (0 : Int) ≤ _ ∧ _ < _) (And.intro (by omega) (by omega)) ?_
          | refine splT ?_
          | refine splF ?_
          | refine splNot ?_
          | (refine splIn (fun hc => ?_) (fun hc => ?_) <;> first | (exfalso; omega) | skip)
          | (refine splD (fun hc => ?_) (fun hc => ?_) <;> first | (exfalso; omega) | skip)
          | (refine splE (fun hc => ?_) (fun hc => ?_) <;> first | (exfalso; omega) | skip)
          | (refine splNE (fun hc => ?_) (fun hc => ?_) <;> first | (exfalso; omega) | skip)
          | ((with_reducible show CallEv _ _ 60 _ _ _ _ _); refine callE (k := 60) (fun β w' hbw => Gvalid_ok g bs _ (hrd.below hbw) hl) ?_)
          | ((with_reducible show CallEv _ _ 58 _ _ _ _ _); refine callE (k := 58) (fun β w' hbw => within_ok _ _ _ _) ?_)
          | ((with_reducible show CallEv _ _ 62 _ _ _ _ _); refine callF [] (fun x : SeeX => g.sv (x.bv g.k) (x.lv g.k)) (fun x => x.hx g) (fun β w' _ _ => see_ok g w' hg'.1 hg'.2.2.2.2.1 (by omega) (by omega) (by omega)) ?_; intro x)
          | ((with_reducible show CallEv _ _ 63 _ _ _ _ _); refine callF [] catV (fun y => catHx g (x.bv g.k) (x.lv g.k) r y) (fun β w' _ _ => catches_ok g x g.k r w') ?_; intro ca)
          | ((with_reducible show CallEv _ _ 61 _ _ _ _ _); refine callF [] (sV (catL g bs r g.k).length) (fun y => St w.heap.size (Rd 1 iF (sV (catL g bs r g.k).length y) (catL g bs r g.k))) (fun β w' _ hbw => (collect_ok g bs x r ca hg hr0 w' (IterAt.of hbw.2 hbw.1.2 (hrd.below hbw.1.1))).mono fun _ _ ⟨y, h1, h2, h3⟩ => ⟨y, h1, h2, St_stst h3 hbw.1.1.size⟩) ?_; intro y)
          | refine splB (fun hc => ?_) (fun hc => ?_)
      all_goals first
        | exact ⟨fun w' h => h.1.1.1, fun β w' h _ => ⟨y, rfl, h.2⟩⟩
        | (exfalso; simp_all)
    · rw [show catR g bs r = [] from if_neg fun h => hr0 h.2, show catE g bs r = 2 from by rw [catE, if_pos hg, if_neg hr0]]
      repeat'
        conv => whnf
        first
          | refine And.intro (a := drawB _ = true) (by kernel_rfl) ?_
          | refine And.intro (a := (_ : Bool) = true) rfl ?_
          | refine And.intro (a := (_ : Bool) = true ∧ (_ : Bool) = true) ⟨rfl, rfl⟩ ?_
          | refine And.intro (a := (_ : Bool) = true ∧ (_ : List _) = []) ⟨rfl, rfl⟩ ?_
          | refine And.intro (a := IR _ _) (And.intro (by omega) (by omega)) ?_
          | refine And.intro (a := (0 : Int) ≤ _ ∧ _ < _) (And.intro (by omega) (by omega)) ?_
          | refine splT ?_
          | refine splF ?_
          | refine splNot ?_
          | (refine splIn (fun hc => ?_) (fun hc => ?_) <;> first | (exfalso; omega) | skip)
          | (refine splD (fun hc => ?_) (fun hc => ?_) <;> first | (exfalso; omega) | skip)
          | (refine splE (fun hc => ?_) (fun hc => ?_) <;> first | (exfalso; omega) | skip)
          | (refine splNE (fun hc => ?_) (fun hc => ?_) <;> first | (exfalso; omega) | skip)
          | ((with_reducible show CallEv _ _ 60 _ _ _ _ _); refine callE (k := 60) (fun β w' hbw => Gvalid_ok g bs _ (hrd.below hbw) hl) ?_)
          | ((with_reducible show CallEv _ _ 58 _ _ _ _ _); refine callE (k := 58) (fun β w' hbw => within_ok _ _ _ _) ?_)
          | refine splB (fun hc => ?_) (fun hc => ?_)
      all_goals first
        | exact ⟨fun w' h => h, fun β w' h _ => ⟨(none, 0), rfl, fun _ _ => .inl ⟨rfl, rfl⟩⟩⟩
        | (exfalso; simp_all)
  · rw [show catR g bs r = [] from if_neg fun h => hg h.1, show catE g bs r = 1 from by rw [catE, if_neg hg]]
    repeat'
      conv => whnf
      first
        | refine And.intro (a := drawB _ = true) (by kernel_rfl) ?_
        | refine And.intro (a := (_ : Bool) = true) rfl ?_
        | refine And.intro (a := (_ : Bool) = true ∧ (_ : Bool) = true) ⟨rfl, rfl⟩ ?_
        | refine And.intro (a := (_ : Bool) = true ∧ (_ : List _) = []) ⟨rfl, rfl⟩ ?_
        | refine And.intro (a := IR _ _) (And.intro (by omega) (by omega)) ?_
        | refine And.intro (a := (0 : Int) ≤ _ ∧ _ < _) (And.intro (by omega) (by omega)) ?_
        | refine splT ?_
        | refine splF ?_
        | refine splNot ?_
        | (refine splIn (fun hc => ?_) (fun hc => ?_) <;> first | (exfalso; omega) | skip)
        | (refine splD (fun hc => ?_) (fun hc => ?_) <;> first | (exfalso; omega) | skip)
        | (refine splE (fun hc => ?_) (fun hc => ?_) <;> first | (exfalso; omega) | skip)
        | (refine splNE (fun hc => ?_) (fun hc => ?_) <;> first | (exfalso; omega) | skip)
        | ((with_reducible show CallEv _ _ 60 _ _ _ _ _); refine callE (k := 60) (fun β w' hbw => Gvalid_ok g bs _ (hrd.below hbw) hl) ?_)
        | refine splB (fun hc => ?_) (fun hc => ?_)
    all_goals first
      | exact ⟨fun w' h => h, fun β w' h _ => ⟨(none, 0), rfl, fun _ _ => .inl ⟨rfl, rfl⟩⟩⟩
      | (exfalso; simp_all)
end Go.Proofs.Ytlehjapeomallaa
