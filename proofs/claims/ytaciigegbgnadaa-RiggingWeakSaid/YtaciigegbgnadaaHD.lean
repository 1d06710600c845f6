/- The first part that may be over, the first hanger that may be slack, with their witnesses: what Over, Slack and CheckRig return. -/
import Derived.Test.YtaciigegbgnadaaHC
namespace Go.Proofs.Ytaciigegbgnadaa
open Go Tx Go.RowKit
set_option linter.unusedSimpArgs false
set_option linter.unusedVariables false

/-- A part that was found: its two numbers, and its row. -/
abbrev Wk := Option (Int × Int × Row)
def Wk.b : Wk → Int
  | some (b, _, _) => b
  | none => 0
def Wk.a : Wk → Int
  | some (_, a, _) => a
  | none => 0
def Wk.pl (r : Rig) (LL : List Ld) (most : Bool) : Wk → List Int
  | some (_, _, x) => endL r x most LL
  | none => []
def Wk.v : Wk → Value
  | some (b, a, x) => .tuple #[.agg #[iv b, iv a], .agg (rwL x).toArray, .bool true]
  | none => .tuple #[.agg #[iv 0, iv 0], .agg (rwL zr).toArray, .bool false]
def Wk.e (rok : Bool) : Wk → Int
  | some _ => 0
  | none => if rok = true then 7 else 1
def hgW (F : Fr) (o : Option (Nat × Nat)) : Wk := o.map fun q => ((q.1 : Int), (q.2 : Int), F.h q.1 q.2)
def ovF (r : Rig) (PP : List Int) (LL : List Ld) (F : Fr) : Nat := fstN (fun j => decide (endD r LL (F.p j) true > PP.getD j 0 * 216000)) PP.length 0
def ovO (r : Rig) (PP : List Int) (BB : List Bm) (LL : List Ld) (F : Fr) : Wk :=
  if ovF r PP LL F < PP.length then some (-1, (ovF r PP LL F : Int), F.p (ovF r PP LL F)) else hgW F (hgO (fun i k => decide (endD r LL (F.h i k) true > capN BB i * 216000)) BB.length)
def slO (r : Rig) (BB : List Bm) (LL : List Ld) (F : Fr) : Wk := hgW F (hgO (fun i k => decide (endD r LL (F.h i k) false < 0)) BB.length)
theorem ptV_eq (F : Fr) (o : Option (Nat × Nat)) : ptV F o = (hgW F o).v := by cases o <;> rfl
theorem ovV_eq (r : Rig) (PP : List Int) (BB : List Bm) (LL : List Ld) (F : Fr) : ovV r PP BB LL F = (ovO r PP BB LL F).v := by
  unfold ovV ovO
  show (if ovF r PP LL F < PP.length then _ else _) = _
  split
  · rfl
  · exact ptV_eq _ _
def ovR (r : Rig) (PP : List Int) (BB : List Bm) (LL : List Ld) : Wk := if rigOk r.f0 r.f1 r.f2 PP BB LL = true then ovO r PP BB LL (frF BB LL) else none
def slR (r : Rig) (PP : List Int) (BB : List Bm) (LL : List Ld) : Wk := if rigOk r.f0 r.f1 r.f2 PP BB LL = true then slO r BB LL (frF BB LL) else none

set_option maxRecDepth 100000 in
theorem CheckRig_ok (r : Rig) (PP : List Int) (BB : List Bm) (LL : List Ld) (w : World) (h : RigIn r PP BB LL w) :
    Calls Try.prog 34 #[r.v] w fun e w' => e = .returned (iv (if rigOk r.f0 r.f1 r.f2 PP BB LL = true then 0 else 1)) ∧ Below w.heap.size w w' := by
  have hv := fun (w' : World) (hb : Below w.heap.size w w') => valid_ok r PP BB LL w' (h.below hb)
  obtain ⟨r1, r2, r3, r4, r5, r6, f0, f1, f2, lo, ln, lc⟩ := r
  dsimp only at hv ⊢
  refine calls_val env mixed Try.func34 has34 Try.ntmps34 [.agg #[.slice r1 r2 r3, .slice r4 r5 r6, iv f0, iv f1, iv f2, .slice lo ln lc]] (by simp) ?_
  cases hr : rigOk f0 f1 f2 PP BB LL
  all_goals rw [hr] at hv
  all_goals skip
  repeat'
    conv => whnf
    first
      | refine And.intro (a := drawB _ = true) (by kernel_rfl) ?_
      | refine And.intro (a := (_ : Bool) = true) rfl ?_
      | refine And.intro (a := (_ : Bool) = true ∧ (_ : Bool) = true) ⟨rfl, rfl⟩ ?_
      | refine And.intro (a := (_ : Bool) = true ∧ (_ : List _) = []) ⟨rfl, rfl⟩ ?_
      | refine And.intro (a := IR _ _) (And.intro (by omega) (by omega)) ?_
      | refine wrapE (And.intro (by omega) (by omega)) ?_
      | refine And.intro (a := (0 : Int) ≤ _ ∧ _ < _) (And.intro (by omega) (by omega)) ?_
      | refine And.intro (a := (_ : Bool) = true) (by simp only [Nat.beq_refl]; rfl) ?_
      | refine And.intro (a := ((_ : Bool) = true → 1 ≤ _) ∧ _ ≤ 9223372036854775807 ∧ _ ≤ 140737488355328) ⟨fun h => (by first | omega | cases h), by omega, by omega⟩ ?_
      | refine splT ?_
      | refine splF ?_
      | refine splNot ?_
      | (refine splIn (fun hc => ?_) (fun hc => ?_) <;> first | (exfalso; omega) | (exfalso; dsimp only at hc; omega) | skip)
      | (refine splD (fun hc => ?_) (fun hc => ?_) <;> first | (exfalso; omega) | (exfalso; dsimp only at hc; omega) | skip)
      | (refine splE (fun hc => ?_) (fun hc => ?_) <;> first | (exfalso; omega) | (exfalso; dsimp only at hc; omega) | skip)
      | (refine splNE (fun hc => ?_) (fun hc => ?_) <;> first | (exfalso; omega) | (exfalso; dsimp only at hc; omega) | skip)
      | ((with_reducible show CallEv _ _ 67 _ _ _ _ _); refine callE (k := 67) (fun β w' hbw => hv _ hbw) ?_)
  all_goals exact ⟨fun β => rfl, fun w' h => h⟩

set_option maxHeartbeats 8000000 in
set_option maxRecDepth 100000 in
theorem Over_ok (r : Rig) (PP : List Int) (BB : List Bm) (LL : List Ld) (w : World) (h : RigIn r PP BB LL w) :
    Calls Try.prog 41 #[r.v] w fun e w' => ∃ y : Option Addr × Nat, e = .returned (.tuple #[.agg #[iv (ovR r PP BB LL).b, iv (ovR r PP BB LL).a], sV ((ovR r PP BB LL).pl r LL true).length y, iv ((ovR r PP BB LL).e (rigOk r.f0 r.f1 r.f2 PP BB LL))]) ∧ Below w.heap.size w w' ∧
      St w.heap.size (Rd 1 iF (sV ((ovR r PP BB LL).pl r LL true).length y) ((ovR r PP BB LL).pl r LL true)) w' := by
  have hv := fun (w' : World) (hb : Below w.heap.size w w') => valid_ok r PP BB LL w' (h.below hb)
  have hfr := fun (w' : World) (hb : Below w.heap.size w w') (hr : rigOk r.f0 r.f1 r.f2 PP BB LL = true) => frame_ok r PP BB LL w' (h.below hb) hr (frB_of hr)
  unfold ovR
  cases hr : rigOk r.f0 r.f1 r.f2 PP BB LL with
  | false =>
    rw [hr] at hv
    obtain ⟨r1, r2, r3, r4, r5, r6, f0, f1, f2, lo, ln, lc⟩ := r
    dsimp only at hv hfr
    refine calls_fam env mixed Try.func41 has41 Try.ntmps41 [.agg #[.slice r1 r2 r3, .slice r4 r5 r6, iv f0, iv f1, iv f2, .slice lo ln lc]] (by simp) ?_
    rw [if_neg (by simp)]
    repeat'
      conv => whnf
      first
        | refine And.intro (a := drawB _ = true) (by kernel_rfl) ?_
        | refine And.intro (a := (_ : Bool) = true) rfl ?_
        | refine And.intro (a := (_ : Bool) = true ∧ (_ : Bool) = true) ⟨rfl, rfl⟩ ?_
        | refine And.intro (a := (_ : Bool) = true ∧ (_ : List _) = []) ⟨rfl, rfl⟩ ?_
        | refine And.intro (a := IR _ _) (And.intro (by omega) (by omega)) ?_
        | refine wrapE (And.intro (by omega) (by omega)) ?_
        | refine And.intro (a := (0 : Int) ≤ _ ∧ _ < _) (And.intro (by omega) (by omega)) ?_
        | refine And.intro (a := (_ : Bool) = true) (by simp only [Nat.beq_refl]; rfl) ?_
        | refine And.intro (a := ((_ : Bool) = true → 1 ≤ _) ∧ _ ≤ 9223372036854775807 ∧ _ ≤ 140737488355328) ⟨fun h => (by first | omega | cases h), by omega, by omega⟩ ?_
        | refine splT ?_
        | refine splF ?_
        | refine splNot ?_
        | (refine splIn (fun hc => ?_) (fun hc => ?_) <;> first | (exfalso; omega) | (exfalso; dsimp only at hc; omega) | skip)
        | (refine splD (fun hc => ?_) (fun hc => ?_) <;> first | (exfalso; omega) | (exfalso; dsimp only at hc; omega) | skip)
        | (refine splE (fun hc => ?_) (fun hc => ?_) <;> first | (exfalso; omega) | (exfalso; dsimp only at hc; omega) | skip)
        | (refine splNE (fun hc => ?_) (fun hc => ?_) <;> first | (exfalso; omega) | (exfalso; dsimp only at hc; omega) | skip)
        | ((with_reducible show CallEv _ _ 67 _ _ _ _ _); refine callE (k := 67) (fun β w' hbw => hv _ hbw) ?_)
    all_goals exact ⟨fun w' h => h, fun β w' h _ => ⟨(none, 0), rfl, fun _ _ => .inl ⟨rfl, rfl⟩⟩⟩
  | true =>
    rw [hr] at hv
    have hfr := fun w' hb => hfr w' hb hr
    rw [if_pos rfl]
    obtain ⟨hQ1, hQ2⟩ := frF_Q hr
    generalize frF BB LL = F at *
    have hin := fun (y : FrA) (w' : World) (hb : Below w.heap.size w w' ∧ FrIn r PP.length BB.length F y w') => over_ok r PP BB LL F y w' (h.below hb.1) hr hb.2 hQ2 hQ1
    have hend := fun (y : FrA) (x : Row) (w' : World) (hb : Below w.heap.size w w' ∧ FrIn r PP.length BB.length F y w') => end_ok r PP BB LL F y x true w' (h.below hb.1) hr hb.2
    simp only [ovV_eq] at hin
    skip
    generalize ovO r PP BB LL F = o at *
    cases o with
    | none =>
      obtain ⟨r1, r2, r3, r4, r5, r6, f0, f1, f2, lo, ln, lc⟩ := r
      refine calls_fam env mixed Try.func41 has41 Try.ntmps41 [.agg #[.slice r1 r2 r3, .slice r4 r5 r6, iv f0, iv f1, iv f2, .slice lo ln lc]] (by simp) ?_
      repeat'
        conv => whnf
        first
          | refine And.intro (a := drawB _ = true) (by kernel_rfl) ?_
          | refine And.intro (a := (_ : Bool) = true) rfl ?_
          | refine And.intro (a := (_ : Bool) = true ∧ (_ : Bool) = true) ⟨rfl, rfl⟩ ?_
          | refine And.intro (a := (_ : Bool) = true ∧ (_ : List _) = []) ⟨rfl, rfl⟩ ?_
          | refine And.intro (a := IR _ _) (And.intro (by omega) (by omega)) ?_
          | refine wrapE (And.intro (by omega) (by omega)) ?_
          | refine And.intro (a := (0 : Int) ≤ _ ∧ _ < _) (And.intro (by omega) (by omega)) ?_
          | refine And.intro (a := (_ : Bool) = true) (by simp only [Nat.beq_refl]; rfl) ?_
          | refine And.intro (a := ((_ : Bool) = true → 1 ≤ _) ∧ _ ≤ 9223372036854775807 ∧ _ ≤ 140737488355328) ⟨fun h => (by first | omega | cases h), by omega, by omega⟩ ?_
          | refine splT ?_
          | refine splF ?_
          | refine splNot ?_
          | (refine splIn (fun hc => ?_) (fun hc => ?_) <;> first | (exfalso; omega) | (exfalso; dsimp only at hc; omega) | skip)
          | (refine splD (fun hc => ?_) (fun hc => ?_) <;> first | (exfalso; omega) | (exfalso; dsimp only at hc; omega) | skip)
          | (refine splE (fun hc => ?_) (fun hc => ?_) <;> first | (exfalso; omega) | (exfalso; dsimp only at hc; omega) | skip)
          | (refine splNE (fun hc => ?_) (fun hc => ?_) <;> first | (exfalso; omega) | (exfalso; dsimp only at hc; omega) | skip)
          | ((with_reducible show CallEv _ _ 67 _ _ _ _ _); refine callE (k := 67) (fun β w' hbw => hv _ hbw) ?_)
          | ((with_reducible show CallEv _ _ 69 _ _ _ _ _); refine callF [] (fun y : FrA => .pointer (some ⟨y.fb, 0, none⟩)) (fun y => FrIn ⟨r1, r2, r3, r4, r5, r6, f0, f1, f2, lo, ln, lc⟩ PP.length BB.length F y) (fun β w' _ hbw => hfr w' hbw) ?_; intro y; have hin := hin y; have hend := hend y; obtain ⟨fb, pb, qc, gb, gc, ub, uc⟩ := y; dsimp only at hin hend ⊢)
          | ((with_reducible show CallEv _ _ 75 _ _ _ _ _); refine callE (k := 75) (fun β w' hbw => hin _ hbw) ?_)
      all_goals first | exact ⟨fun w' h => h.1, fun β w' h _ => ⟨(none, 0), rfl, fun _ _ => .inl ⟨rfl, rfl⟩⟩⟩ | (trace_state; sorry)
    | some q =>
      obtain ⟨b, a, x⟩ := q
      have hend := fun y => hend y x
      show Calls _ _ _ _ fun e w' => ∃ y : Option Addr × Nat, e = .returned (.tuple #[.agg #[iv b, iv a], sV (endL r x true LL).length y, iv 0]) ∧ Below w.heap.size w w' ∧ St w.heap.size (Rd 1 iF (sV (endL r x true LL).length y) (endL r x true LL)) w'
      have hl := endL_len r x true LL
      generalize endL r x true LL = E at *
      rw [hl]
      obtain ⟨r1, r2, r3, r4, r5, r6, f0, f1, f2, lo, ln, lc⟩ := r
      refine calls_fam env mixed Try.func41 has41 Try.ntmps41 [.agg #[.slice r1 r2 r3, .slice r4 r5 r6, iv f0, iv f1, iv f2, .slice lo ln lc]] (by simp) ?_
      repeat'
        conv => whnf
        first
          | refine And.intro (a := drawB _ = true) (by kernel_rfl) ?_
          | refine And.intro (a := (_ : Bool) = true) rfl ?_
          | refine And.intro (a := (_ : Bool) = true ∧ (_ : Bool) = true) ⟨rfl, rfl⟩ ?_
          | refine And.intro (a := (_ : Bool) = true ∧ (_ : List _) = []) ⟨rfl, rfl⟩ ?_
          | refine And.intro (a := IR _ _) (And.intro (by omega) (by omega)) ?_
          | refine wrapE (And.intro (by omega) (by omega)) ?_
          | refine And.intro (a := (0 : Int) ≤ _ ∧ _ < _) (And.intro (by omega) (by omega)) ?_
          | refine And.intro (a := (_ : Bool) = true) (by simp only [Nat.beq_refl]; rfl) ?_
          | refine And.intro (a := ((_ : Bool) = true → 1 ≤ _) ∧ _ ≤ 9223372036854775807 ∧ _ ≤ 140737488355328) ⟨fun h => (by first | omega | cases h), by omega, by omega⟩ ?_
          | refine splT ?_
          | refine splF ?_
          | refine splNot ?_
          | (refine splIn (fun hc => ?_) (fun hc => ?_) <;> first | (exfalso; omega) | (exfalso; dsimp only at hc; omega) | skip)
          | (refine splD (fun hc => ?_) (fun hc => ?_) <;> first | (exfalso; omega) | (exfalso; dsimp only at hc; omega) | skip)
          | (refine splE (fun hc => ?_) (fun hc => ?_) <;> first | (exfalso; omega) | (exfalso; dsimp only at hc; omega) | skip)
          | (refine splNE (fun hc => ?_) (fun hc => ?_) <;> first | (exfalso; omega) | (exfalso; dsimp only at hc; omega) | skip)
          | ((with_reducible show CallEv _ _ 67 _ _ _ _ _); refine callE (k := 67) (fun β w' hbw => hv _ hbw) ?_)
          | ((with_reducible show CallEv _ _ 69 _ _ _ _ _); refine callF [] (fun y : FrA => .pointer (some ⟨y.fb, 0, none⟩)) (fun y => FrIn ⟨r1, r2, r3, r4, r5, r6, f0, f1, f2, lo, ln, lc⟩ PP.length BB.length F y) (fun β w' _ hbw => hfr w' hbw) ?_; intro y; have hin := hin y; have hend := hend y; obtain ⟨fb, pb, qc, gb, gc, ub, uc⟩ := y; dsimp only at hin hend ⊢)
          | ((with_reducible show CallEv _ _ 75 _ _ _ _ _); refine callE (k := 75) (fun β w' hbw => hin _ hbw) ?_)
          | ((with_reducible show CallEv _ _ 76 _ _ _ _ _); refine callO 4 [] (.os 4 5 LL.length) LL.length 1 (E.flatMap iF) 3 rfl (fun β w' _ hbw => (hend w' hbw).mono fun _ _ ⟨b, c, h1, h2, h3, h4⟩ => ⟨b, c, h1, h2, h3, h4⟩) ?_)
      all_goals first | exact ⟨fun w' h => h.1, fun β w' h hblk => ⟨(some ⟨β 4, 0, none⟩, β 5), rfl, (hblk 4 _ rfl rfl).imp fun _ q => Rd.of_owns (sz := 1) (f := iF) (fun _ => rfl) rfl hl.symm q⟩⟩ | (trace_state; sorry)

set_option maxHeartbeats 8000000 in
set_option maxRecDepth 100000 in
theorem Slack_ok (r : Rig) (PP : List Int) (BB : List Bm) (LL : List Ld) (w : World) (h : RigIn r PP BB LL w) :
    Calls Try.prog 42 #[r.v] w fun e w' => ∃ y : Option Addr × Nat, e = .returned (.tuple #[.agg #[iv (slR r PP BB LL).b, iv (slR r PP BB LL).a], sV ((slR r PP BB LL).pl r LL false).length y, iv ((slR r PP BB LL).e (rigOk r.f0 r.f1 r.f2 PP BB LL))]) ∧ Below w.heap.size w w' ∧
      St w.heap.size (Rd 1 iF (sV ((slR r PP BB LL).pl r LL false).length y) ((slR r PP BB LL).pl r LL false)) w' := by
  have hv := fun (w' : World) (hb : Below w.heap.size w w') => valid_ok r PP BB LL w' (h.below hb)
  have hfr := fun (w' : World) (hb : Below w.heap.size w w') (hr : rigOk r.f0 r.f1 r.f2 PP BB LL = true) => frame_ok r PP BB LL w' (h.below hb) hr (frB_of hr)
  unfold slR
  cases hr : rigOk r.f0 r.f1 r.f2 PP BB LL with
  | false =>
    rw [hr] at hv
    obtain ⟨r1, r2, r3, r4, r5, r6, f0, f1, f2, lo, ln, lc⟩ := r
    dsimp only at hv hfr
    refine calls_fam env mixed Try.func42 has42 Try.ntmps42 [.agg #[.slice r1 r2 r3, .slice r4 r5 r6, iv f0, iv f1, iv f2, .slice lo ln lc]] (by simp) ?_
    rw [if_neg (by simp)]
    repeat'
      conv => whnf
      first
        | refine And.intro (a := drawB _ = true) (by kernel_rfl) ?_
        | refine And.intro (a := (_ : Bool) = true) rfl ?_
        | refine And.intro (a := (_ : Bool) = true ∧ (_ : Bool) = true) ⟨rfl, rfl⟩ ?_
        | refine And.intro (a := (_ : Bool) = true ∧ (_ : List _) = []) ⟨rfl, rfl⟩ ?_
        | refine And.intro (a := IR _ _) (And.intro (by omega) (by omega)) ?_
        | refine wrapE (And.intro (by omega) (by omega)) ?_
        | refine And.intro (a := (0 : Int) ≤ _ ∧ _ < _) (And.intro (by omega) (by omega)) ?_
        | refine And.intro (a := (_ : Bool) = true) (by simp only [Nat.beq_refl]; rfl) ?_
        | refine And.intro (a := ((_ : Bool) = true → 1 ≤ _) ∧ _ ≤ 9223372036854775807 ∧ _ ≤ 140737488355328) ⟨fun h => (by first | omega | cases h), by omega, by omega⟩ ?_
        | refine splT ?_
        | refine splF ?_
        | refine splNot ?_
        | (refine splIn (fun hc => ?_) (fun hc => ?_) <;> first | (exfalso; omega) | (exfalso; dsimp only at hc; omega) | skip)
        | (refine splD (fun hc => ?_) (fun hc => ?_) <;> first | (exfalso; omega) | (exfalso; dsimp only at hc; omega) | skip)
        | (refine splE (fun hc => ?_) (fun hc => ?_) <;> first | (exfalso; omega) | (exfalso; dsimp only at hc; omega) | skip)
        | (refine splNE (fun hc => ?_) (fun hc => ?_) <;> first | (exfalso; omega) | (exfalso; dsimp only at hc; omega) | skip)
        | ((with_reducible show CallEv _ _ 67 _ _ _ _ _); refine callE (k := 67) (fun β w' hbw => hv _ hbw) ?_)
    all_goals exact ⟨fun w' h => h, fun β w' h _ => ⟨(none, 0), rfl, fun _ _ => .inl ⟨rfl, rfl⟩⟩⟩
  | true =>
    rw [hr] at hv
    have hfr := fun w' hb => hfr w' hb hr
    rw [if_pos rfl]
    obtain ⟨hQ1, hQ2⟩ := frF_Q hr
    generalize frF BB LL = F at *
    have hin := fun (y : FrA) (w' : World) (hb : Below w.heap.size w w' ∧ FrIn r PP.length BB.length F y w') => slack_ok r PP BB LL F y w' (h.below hb.1) hr hb.2 hQ2
    have hend := fun (y : FrA) (x : Row) (w' : World) (hb : Below w.heap.size w w' ∧ FrIn r PP.length BB.length F y w') => end_ok r PP BB LL F y x false w' (h.below hb.1) hr hb.2
    simp only [ptV_eq] at hin
    change ∀ (y : FrA) (w_1 : World) (hb : Below w.heap.size w w_1 ∧ FrIn r PP.length BB.length F y w_1), Calls Try.prog 77 #[Value.pointer (some ⟨y.fb, 0, none⟩)] w_1 fun e w2 => e = .returned (slO r BB LL F).v ∧ Below w_1.heap.size w_1 w2 at hin
    generalize slO r BB LL F = o at *
    cases o with
    | none =>
      obtain ⟨r1, r2, r3, r4, r5, r6, f0, f1, f2, lo, ln, lc⟩ := r
      refine calls_fam env mixed Try.func42 has42 Try.ntmps42 [.agg #[.slice r1 r2 r3, .slice r4 r5 r6, iv f0, iv f1, iv f2, .slice lo ln lc]] (by simp) ?_
      repeat'
        conv => whnf
        first
          | refine And.intro (a := drawB _ = true) (by kernel_rfl) ?_
          | refine And.intro (a := (_ : Bool) = true) rfl ?_
          | refine And.intro (a := (_ : Bool) = true ∧ (_ : Bool) = true) ⟨rfl, rfl⟩ ?_
          | refine And.intro (a := (_ : Bool) = true ∧ (_ : List _) = []) ⟨rfl, rfl⟩ ?_
          | refine And.intro (a := IR _ _) (And.intro (by omega) (by omega)) ?_
          | refine wrapE (And.intro (by omega) (by omega)) ?_
          | refine And.intro (a := (0 : Int) ≤ _ ∧ _ < _) (And.intro (by omega) (by omega)) ?_
          | refine And.intro (a := (_ : Bool) = true) (by simp only [Nat.beq_refl]; rfl) ?_
          | refine And.intro (a := ((_ : Bool) = true → 1 ≤ _) ∧ _ ≤ 9223372036854775807 ∧ _ ≤ 140737488355328) ⟨fun h => (by first | omega | cases h), by omega, by omega⟩ ?_
          | refine splT ?_
          | refine splF ?_
          | refine splNot ?_
          | (refine splIn (fun hc => ?_) (fun hc => ?_) <;> first | (exfalso; omega) | (exfalso; dsimp only at hc; omega) | skip)
          | (refine splD (fun hc => ?_) (fun hc => ?_) <;> first | (exfalso; omega) | (exfalso; dsimp only at hc; omega) | skip)
          | (refine splE (fun hc => ?_) (fun hc => ?_) <;> first | (exfalso; omega) | (exfalso; dsimp only at hc; omega) | skip)
          | (refine splNE (fun hc => ?_) (fun hc => ?_) <;> first | (exfalso; omega) | (exfalso; dsimp only at hc; omega) | skip)
          | ((with_reducible show CallEv _ _ 67 _ _ _ _ _); refine callE (k := 67) (fun β w' hbw => hv _ hbw) ?_)
          | ((with_reducible show CallEv _ _ 69 _ _ _ _ _); refine callF [] (fun y : FrA => .pointer (some ⟨y.fb, 0, none⟩)) (fun y => FrIn ⟨r1, r2, r3, r4, r5, r6, f0, f1, f2, lo, ln, lc⟩ PP.length BB.length F y) (fun β w' _ hbw => hfr w' hbw) ?_; intro y; have hin := hin y; have hend := hend y; obtain ⟨fb, pb, qc, gb, gc, ub, uc⟩ := y; dsimp only at hin hend ⊢)
          | ((with_reducible show CallEv _ _ 77 _ _ _ _ _); refine callE (k := 77) (fun β w' hbw => hin _ hbw) ?_)
      all_goals first | exact ⟨fun w' h => h.1, fun β w' h _ => ⟨(none, 0), rfl, fun _ _ => .inl ⟨rfl, rfl⟩⟩⟩ | (trace_state; sorry)
    | some q =>
      obtain ⟨b, a, x⟩ := q
      have hend := fun y => hend y x
      show Calls _ _ _ _ fun e w' => ∃ y : Option Addr × Nat, e = .returned (.tuple #[.agg #[iv b, iv a], sV (endL r x false LL).length y, iv 0]) ∧ Below w.heap.size w w' ∧ St w.heap.size (Rd 1 iF (sV (endL r x false LL).length y) (endL r x false LL)) w'
      have hl := endL_len r x false LL
      generalize endL r x false LL = E at *
      rw [hl]
      obtain ⟨r1, r2, r3, r4, r5, r6, f0, f1, f2, lo, ln, lc⟩ := r
      refine calls_fam env mixed Try.func42 has42 Try.ntmps42 [.agg #[.slice r1 r2 r3, .slice r4 r5 r6, iv f0, iv f1, iv f2, .slice lo ln lc]] (by simp) ?_
      repeat'
        conv => whnf
        first
          | refine And.intro (a := drawB _ = true) (by kernel_rfl) ?_
          | refine And.intro (a := (_ : Bool) = true) rfl ?_
          | refine And.intro (a := (_ : Bool) = true ∧ (_ : Bool) = true) ⟨rfl, rfl⟩ ?_
          | refine And.intro (a := (_ : Bool) = true ∧ (_ : List _) = []) ⟨rfl, rfl⟩ ?_
          | refine And.intro (a := IR _ _) (And.intro (by omega) (by omega)) ?_
          | refine wrapE (And.intro (by omega) (by omega)) ?_
          | refine And.intro (a := (0 : Int) ≤ _ ∧ _ < _) (And.intro (by omega) (by omega)) ?_
          | refine And.intro (a := (_ : Bool) = true) (by simp only [Nat.beq_refl]; rfl) ?_
          | refine And.intro (a := ((_ : Bool) = true → 1 ≤ _) ∧ _ ≤ 9223372036854775807 ∧ _ ≤ 140737488355328) ⟨fun h => (by first | omega | cases h), by omega, by omega⟩ ?_
          | refine splT ?_
          | refine splF ?_
          | refine splNot ?_
          | (refine splIn (fun hc => ?_) (fun hc => ?_) <;> first | (exfalso; omega) | (exfalso; dsimp only at hc; omega) | skip)
          | (refine splD (fun hc => ?_) (fun hc => ?_) <;> first | (exfalso; omega) | (exfalso; dsimp only at hc; omega) | skip)
          | (refine splE (fun hc => ?_) (fun hc => ?_) <;> first | (exfalso; omega) | (exfalso; dsimp only at hc; omega) | skip)
          | (refine splNE (fun hc => ?_) (fun hc => ?_) <;> first | (exfalso; omega) | (exfalso; dsimp only at hc; omega) | skip)
          | ((with_reducible show CallEv _ _ 67 _ _ _ _ _); refine callE (k := 67) (fun β w' hbw => hv _ hbw) ?_)
          | ((with_reducible show CallEv _ _ 69 _ _ _ _ _); refine callF [] (fun y : FrA => .pointer (some ⟨y.fb, 0, none⟩)) (fun y => FrIn ⟨r1, r2, r3, r4, r5, r6, f0, f1, f2, lo, ln, lc⟩ PP.length BB.length F y) (fun β w' _ hbw => hfr w' hbw) ?_; intro y; have hin := hin y; have hend := hend y; obtain ⟨fb, pb, qc, gb, gc, ub, uc⟩ := y; dsimp only at hin hend ⊢)
          | ((with_reducible show CallEv _ _ 77 _ _ _ _ _); refine callE (k := 77) (fun β w' hbw => hin _ hbw) ?_)
          | ((with_reducible show CallEv _ _ 76 _ _ _ _ _); refine callO 4 [] (.os 4 5 LL.length) LL.length 1 (E.flatMap iF) 3 rfl (fun β w' _ hbw => (hend w' hbw).mono fun _ _ ⟨b, c, h1, h2, h3, h4⟩ => ⟨b, c, h1, h2, h3, h4⟩) ?_)
      all_goals first | exact ⟨fun w' h => h.1, fun β w' h hblk => ⟨(some ⟨β 4, 0, none⟩, β 5), rfl, (hblk 4 _ rfl rfl).imp fun _ q => Rd.of_owns (sz := 1) (f := iF) (fun _ => rfl) rfl hl.symm q⟩⟩ | (trace_state; sorry)
end Go.Proofs.Ytaciigegbgnadaa
