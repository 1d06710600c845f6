/- The engine, part 12: whether two structs are the same. -/
import Derived.Test.YtlehjapeomallaaSk
namespace Go.Proofs.Ytlehjapeomallaa.Sx
open Go
section
variable {P : Program}
theorem equalIn_struct {t : TypeId} {fs : Array Field} {xs ys : Array Value} {d : Nat} {w : World} (B : Field → Bool) (hu : P.underlying t = some (.struct fs)) (hst : P.stoodInHeld t = false)
    (h : ∀ f ∈ fs.toList, f.name ≠ "_" ∧ ∃ x y, (part f.type xs f.offset).run P w = .ok x w ∧ (part f.type ys f.offset).run P w = .ok y w ∧ (Op.equalIn d f.type x y).run P w = .ok (B f) w) :
    (Op.equalIn (d + 1) t (.agg xs) (.agg ys)).run P w = .ok (fs.toList.all B) w := by
  rw [Op.equalIn]
  simp only [Sem.run_bind, Go.run_underlying hu w, Result.andThen_ok]
  have key : ∀ l : List Field, (∀ f ∈ l, f.name ≠ "_" ∧ ∃ x y, (part f.type xs f.offset).run P w = .ok x w ∧ (part f.type ys f.offset).run P w = .ok y w ∧ (Op.equalIn d f.type x y).run P w = .ok (B f) w) →
      (forIn l ((none, ()) : Option Bool × Unit) fun f __s =>
            if f.name = "_" then pure (ForInStep.yield (none, ()))
            else do
              let __do_lift ← part f.type xs f.offset
              let __do_lift_1 ← part f.type ys f.offset
              let __do_lift ← Op.equalIn d f.type __do_lift __do_lift_1
              if __do_lift = false then pure (ForInStep.done (some false, ())) else pure (ForInStep.yield (none, ())) : Sem (Option Bool × Unit)).run P w = .ok (if l.all B = true then (none, ()) else (some false, ())) w := by
    intro l
    induction l with
    | nil => intro _; simp
    | cons f l ih =>
      intro hl
      obtain ⟨h1, x, y, h2, h3, h4⟩ := hl f List.mem_cons_self
      rw [List.forIn_cons]
      simp only [h1, if_false, Sem.run_bind, h2, h3, h4, Result.andThen_ok]
      cases hb : B f with
      | true =>
        simp only [Bool.true_eq_false, if_false, Sem.run_pure, Result.andThen_ok, ih (fun g hg => hl g (List.mem_cons_of_mem _ hg)), List.all_cons, hb, Bool.true_and]
      | false =>
        simp [hb]
  simp [hst]
  rw [← Array.forIn_toList, key _ h]
  rw [Result.andThen_ok]
  by_cases hb : fs.toList.all B = true
  · rw [if_pos hb]
    simp only [Array.all_toList] at hb
    simp [hb]
  · rw [if_neg hb]
    simp only [Array.all_toList] at hb
    simp [hb]

theorem equalIn_int {t : TypeId} {k : IntKind} {d : Nat} {w : World} (hu : P.underlying t = some (.int k)) (a b : Int) : (Op.equalIn (d + 1) t (.int k a) (.int k b)).run P w = .ok (a == b) w := by
  rw [Op.equalIn]
  simp [Sem.run_bind, Go.run_underlying hu w]

theorem runIs_eql {t : TypeId} {x y : Operand} {xs ys : Array Value} {b : Bool} (hg : P.eqGuardType P.depth t = false) (h : ∀ w, (Op.equalIn 10000 t (.agg xs) (.agg ys)).run P w = .ok b w) :
    RunIs P (do eqGuard .eql t x y (.agg xs) (.agg ys); binOp .eql t (.agg xs) (.agg ys)) (.bool b) := fun w => by
  simp [eqGuard, binOp, hg, Op.equal, Op.maxDepth, h w]
theorem runIs_neq {t : TypeId} {x y : Operand} {xs ys : Array Value} {b : Bool} (hg : P.eqGuardType P.depth t = false) (h : ∀ w, (Op.equalIn 10000 t (.agg xs) (.agg ys)).run P w = .ok b w) :
    RunIs P (do eqGuard .neq t x y (.agg xs) (.agg ys); binOp .neq t (.agg xs) (.agg ys)) (.bool (!b)) := fun w => by
  simp [eqGuard, binOp, hg, Op.equal, Op.maxDepth, h w]
/-- No blank field; no type that the model stands in for. -/
def namesB (P : Program) (t : TypeId) : Bool :=
  (match P.underlying t with | some (.struct fs) => fs.toList.all (fun f => f.name != "_") | _ => false) && !(P.stoodInHeld t)

/-- A struct of two fields. -/
theorem equalIn_two {t t1 t2 o1 o2 : Nat} {ti : TI} (ht : TOK P t ti) (hk : ti.kind = .struct [(o1, t1), (o2, t2)]) (hne : o1 ≠ o2) (hn : namesB P t = true) {xs ys : Array Value} {d : Nat} {w : World} {x1 x2 y1 y2 : Value} {b1 b2 : Bool}
    (hx1 : (part t1 xs o1).run P w = .ok x1 w) (hx2 : (part t2 xs o2).run P w = .ok x2 w) (hy1 : (part t1 ys o1).run P w = .ok y1 w) (hy2 : (part t2 ys o2).run P w = .ok y2 w)
    (h1 : (Op.equalIn d t1 x1 y1).run P w = .ok b1 w) (h2 : (Op.equalIn d t2 x2 y2).run P w = .ok b2 w) : (Op.equalIn (d + 1) t (.agg xs) (.agg ys)).run P w = .ok (b1 && b2) w := by
  obtain ⟨dd, g1, g2⟩ := ht.under
  rw [hk] at g2
  obtain ⟨fs, rfl, g3⟩ := kindOf_struct g2
  simp only [namesB, g1, Bool.and_eq_true, Bool.not_eq_true', List.all_eq_true, bne_iff_ne] at hn
  match hfs : fs.toList, g3 with
  | [f1, f2], g3 =>
    simp only [List.map_cons, List.map_nil, List.cons.injEq, Prod.mk.injEq, and_true] at g3
    obtain ⟨⟨e1, e2⟩, e3, e4⟩ := g3
    have := equalIn_struct (d := d) (w := w) (xs := xs) (ys := ys) (fun f => bif f.offset == o1 then b1 else b2) g1 hn.2 (fun f hf => by
      refine ⟨hn.1 f hf, ?_⟩
      rw [hfs] at hf
      simp only [List.mem_cons, List.not_mem_nil, or_false] at hf
      rcases hf with rfl | rfl
      · refine ⟨x1, y1, by rw [e1, e2]; exact hx1, by rw [e1, e2]; exact hy1, ?_⟩
        rw [e1, e2, h1]; simp
      · have hb : (o2 == o1) = false := by simpa using Ne.symm hne
        refine ⟨x2, y2, by rw [e3, e4]; exact hx2, by rw [e3, e4]; exact hy2, ?_⟩
        rw [e3, e4, h2, hb]; rfl)
    rw [this, hfs]
    have hb : (o2 == o1) = false := by simpa using Ne.symm hne
    simp [e1, e3, hb]
end
end Go.Proofs.Ytlehjapeomallaa.Sx
