/- Whether two ranges, legs, stops, faults are the same. -/
import Derived.Test.YthfabodamhdhaaaRG
namespace Go.Proofs.Ythfabodamhdhaaa.Tx
open Go Go.RowKit
set_option linter.unusedSimpArgs false
set_option linter.unusedVariables false
theorem equalIn_three {P : Program} {t t1 t2 t3 o1 o2 o3 : Nat} {ti : TI} (ht : TOK P t ti) (hk : ti.kind = .struct [(o1, t1), (o2, t2), (o3, t3)]) (hne : o1 ≠ o2 ∧ o1 ≠ o3 ∧ o2 ≠ o3) (hn : namesB P t = true) {xs ys : Array Value} {d : Nat} {w : World} {x1 x2 x3 y1 y2 y3 : Value} {b1 b2 b3 : Bool}
 (hx1 : (part t1 xs o1).run P w = .ok x1 w) (hx2 : (part t2 xs o2).run P w = .ok x2 w) (hx3 : (part t3 xs o3).run P w = .ok x3 w) (hy1 : (part t1 ys o1).run P w = .ok y1 w) (hy2 : (part t2 ys o2).run P w = .ok y2 w) (hy3 : (part t3 ys o3).run P w = .ok y3 w)
 (h1 : (Op.equalIn d t1 x1 y1).run P w = .ok b1 w) (h2 : (Op.equalIn d t2 x2 y2).run P w = .ok b2 w) (h3 : (Op.equalIn d t3 x3 y3).run P w = .ok b3 w) : (Op.equalIn (d + 1) t (.agg xs) (.agg ys)).run P w = .ok (b1 && (b2 && b3)) w := by
 obtain ⟨dd, g1, g2⟩ := ht.under
 rw [hk] at g2
 obtain ⟨fs, rfl, g3⟩ := kindOf_struct g2
 simp only [namesB, g1, Bool.and_eq_true, Bool.not_eq_true', List.all_eq_true, bne_iff_ne] at hn
 match hfs : fs.toList, g3 with
 | [f1, f2, f3], g3 =>
  simp only [List.map_cons, List.map_nil, List.cons.injEq, Prod.mk.injEq, and_true] at g3
  obtain ⟨⟨e1, e2⟩, ⟨e3, e4⟩, e5, e6⟩ := g3
  have hb12 : (o2 == o1) = false := by simpa using Ne.symm hne.1
  have hb13 : (o3 == o1) = false := by simpa using Ne.symm hne.2.1
  have hb23 : (o3 == o2) = false := by simpa using Ne.symm hne.2.2
  have := equalIn_struct (d := d) (w := w) (xs := xs) (ys := ys) (fun f => bif f.offset == o1 then b1 else bif f.offset == o2 then b2 else b3) g1 hn.2 (fun f hf => by
   refine ⟨hn.1 f hf, ?_⟩
   rw [hfs] at hf
   simp only [List.mem_cons, List.not_mem_nil, or_false] at hf
   rcases hf with rfl | rfl | rfl
   · refine ⟨x1, y1, by rw [e1, e2]; exact hx1, by rw [e1, e2]; exact hy1, ?_⟩
     rw [e1, e2, h1]; simp
   · refine ⟨x2, y2, by rw [e3, e4]; exact hx2, by rw [e3, e4]; exact hy2, ?_⟩
     rw [e3, e4, h2, hb12]; simp
   · refine ⟨x3, y3, by rw [e5, e6]; exact hx3, by rw [e5, e6]; exact hy3, ?_⟩
     rw [e5, e6, h3, hb13, hb23]; rfl)
  rw [this, hfs]
  simp [e1, e3, e5, hb12, hb13, hb23]
theorem gvs_nil {σ : Sg} {K : List SV → Prop} (h : K []) : gvs σ [] K := h
end Go.Proofs.Ythfabodamhdhaaa.Tx
namespace Go.Proofs.Ythfabodamhdhaaa
open Go Tx Go.RowKit
set_option linter.unusedSimpArgs false
set_option linter.unusedVariables false
theorem part3 (cs : List Value) (o : Nat) (v : Value) (w : World) (h : cs[o]? = some v) : (part 3 cs.toArray o).run Try.prog w = .ok v w :=
 run_part (β := fun _ => 0) (l := [.v v]) (s := .v v) tok3 (by
  obtain ⟨h1, h2⟩ := List.getElem?_eq_some_iff.1 h
  show List.take 1 (List.drop o cs) = [v]
  rw [List.drop_eq_getElem_cons h1, h2]; rfl) rfl (.inr ⟨rfl, rfl⟩)
theorem part5 (cs : List Value) (o : Nat) (v : Value) (w : World) (h : cs[o]? = some v) : (part 5 cs.toArray o).run Try.prog w = .ok v w :=
 run_part (β := fun _ => 0) (l := [.v v]) (s := .v v) tok5 (by
  obtain ⟨h1, h2⟩ := List.getElem?_eq_some_iff.1 h
  show List.take 1 (List.drop o cs) = [v]
  rw [List.drop_eq_getElem_cons h1, h2]; rfl) rfl (.inr ⟨rfl, rfl⟩)
theorem under5 : Try.prog.underlying 5 = some (.int .u8) := by kernel_rfl
theorem eqIn3 (d : Nat) (a b : Int) (w : World) : (Op.equalIn (d + 1) 3 (iv a) (iv b)).run Try.prog w = .ok (a == b) w := equalIn_int under3 a b
theorem eqIn5 (d : Nat) (a b : Int) (w : World) : (Op.equalIn (d + 1) 5 (.int .u8 a) (.int .u8 b)).run Try.prog w = .ok (a == b) w := equalIn_int under5 a b
theorem names55 : namesB Try.prog 55 = true := by kernel_rfl
theorem names60 : namesB Try.prog 60 = true := by kernel_rfl
theorem names81 : namesB Try.prog 81 = true := by kernel_rfl
theorem names96 : namesB Try.prog 96 = true := by kernel_rfl
theorem guard55 : Try.prog.eqGuardType Try.prog.depth 55 = false := by kernel_rfl
theorem guard60 : Try.prog.eqGuardType Try.prog.depth 60 = false := by kernel_rfl
theorem guard81 : Try.prog.eqGuardType Try.prog.depth 81 = false := by kernel_rfl
theorem guard96 : Try.prog.eqGuardType Try.prog.depth 96 = false := by kernel_rfl
theorem eqIn55 (a b c e : Int) (w : World) : (Op.equalIn 10000 55 (.agg #[iv a, iv b]) (.agg #[iv c, iv e])).run Try.prog w = .ok (a == c && b == e) w :=
 equalIn_two tok55 rfl (by decide) names55 (part3 _ 0 _ w rfl) (part3 _ 1 _ w rfl) (part3 _ 0 _ w rfl) (part3 _ 1 _ w rfl) (eqIn3 9998 _ _ w) (eqIn3 9998 _ _ w)
theorem eqIn60 (a b c e : Int) (w : World) : (Op.equalIn 10000 60 (.agg #[iv a, iv b]) (.agg #[iv c, iv e])).run Try.prog w = .ok (a == c && b == e) w :=
 equalIn_two tok60 rfl (by decide) names60 (part3 _ 0 _ w rfl) (part3 _ 1 _ w rfl) (part3 _ 0 _ w rfl) (part3 _ 1 _ w rfl) (eqIn3 9998 _ _ w) (eqIn3 9998 _ _ w)
theorem eqIn81 (a b c e : Int) (w : World) : (Op.equalIn 10000 81 (.agg #[iv a, .int .u8 b]) (.agg #[iv c, .int .u8 e])).run Try.prog w = .ok (a == c && b == e) w :=
 equalIn_two tok81 rfl (by decide) names81 (part3 _ 0 _ w rfl) (part5 _ 1 _ w rfl) (part3 _ 0 _ w rfl) (part5 _ 1 _ w rfl) (eqIn3 9998 _ _ w) (eqIn5 9998 _ _ w)
theorem eqIn96 (a b c a' b' c' : Int) (w : World) : (Op.equalIn 10000 96 (.agg #[iv a, iv b, iv c]) (.agg #[iv a', iv b', iv c'])).run Try.prog w = .ok (a == a' && (b == b' && c == c')) w :=
 equalIn_three tok96 rfl (by decide) names96 (part3 _ 0 _ w rfl) (part3 _ 1 _ w rfl) (part3 _ 2 _ w rfl) (part3 _ 0 _ w rfl) (part3 _ 1 _ w rfl) (part3 _ 2 _ w rfl) (eqIn3 9998 _ _ w) (eqIn3 9998 _ _ w) (eqIn3 9998 _ _ w)
theorem eqlE55 {a b c e : Int} {q : Bool} {x y : Operand} {K : Value → Prop} (hq : (a == c && b == e) = q) (h : K (.bool q)) : ∃ v, (∀ _ : Nat → Nat, RunIs Try.prog (do eqGuard .eql 55 x y (.agg #[iv a, iv b]) (.agg #[iv c, iv e]); binOp .eql 55 (.agg #[iv a, iv b]) (.agg #[iv c, iv e])) v) ∧ K v :=
 ⟨_, fun _ => runIs_eql guard55 fun w => eqIn55 _ _ _ _ w, by rw [hq]; exact h⟩
theorem neqE60 {a b c e : Int} {q : Bool} {x y : Operand} {K : Value → Prop} (hq : (!(a == c && b == e)) = q) (h : K (.bool q)) : ∃ v, (∀ _ : Nat → Nat, RunIs Try.prog (do eqGuard .neq 60 x y (.agg #[iv a, iv b]) (.agg #[iv c, iv e]); binOp .neq 60 (.agg #[iv a, iv b]) (.agg #[iv c, iv e])) v) ∧ K v :=
 ⟨_, fun _ => runIs_neq guard60 fun w => eqIn60 _ _ _ _ w, by rw [hq]; exact h⟩
theorem eqlE81 {a b c e : Int} {q : Bool} {x y : Operand} {K : Value → Prop} (hq : (a == c && b == e) = q) (h : K (.bool q)) : ∃ v, (∀ _ : Nat → Nat, RunIs Try.prog (do eqGuard .eql 81 x y (.agg #[iv a, .int .u8 b]) (.agg #[iv c, .int .u8 e]); binOp .eql 81 (.agg #[iv a, .int .u8 b]) (.agg #[iv c, .int .u8 e])) v) ∧ K v :=
 ⟨_, fun _ => runIs_eql guard81 fun w => eqIn81 _ _ _ _ w, by rw [hq]; exact h⟩
theorem neqE81 {a b c e : Int} {q : Bool} {x y : Operand} {K : Value → Prop} (hq : (!(a == c && b == e)) = q) (h : K (.bool q)) : ∃ v, (∀ _ : Nat → Nat, RunIs Try.prog (do eqGuard .neq 81 x y (.agg #[iv a, .int .u8 b]) (.agg #[iv c, .int .u8 e]); binOp .neq 81 (.agg #[iv a, .int .u8 b]) (.agg #[iv c, .int .u8 e])) v) ∧ K v :=
 ⟨_, fun _ => runIs_neq guard81 fun w => eqIn81 _ _ _ _ w, by rw [hq]; exact h⟩
theorem eqlE96 {a b c a' b' c' : Int} {q : Bool} {x y : Operand} {K : Value → Prop} (hq : (a == a' && (b == b' && c == c')) = q) (h : K (.bool q)) : ∃ v, (∀ _ : Nat → Nat, RunIs Try.prog (do eqGuard .eql 96 x y (.agg #[iv a, iv b, iv c]) (.agg #[iv a', iv b', iv c']); binOp .eql 96 (.agg #[iv a, iv b, iv c]) (.agg #[iv a', iv b', iv c'])) v) ∧ K v :=
 ⟨_, fun _ => runIs_eql guard96 fun w => eqIn96 _ _ _ _ _ _ w, by rw [hq]; exact h⟩
theorem neqE96 {a b c a' b' c' : Int} {q : Bool} {x y : Operand} {K : Value → Prop} (hq : (!(a == a' && (b == b' && c == c'))) = q) (h : K (.bool q)) : ∃ v, (∀ _ : Nat → Nat, RunIs Try.prog (do eqGuard .neq 96 x y (.agg #[iv a, iv b, iv c]) (.agg #[iv a', iv b', iv c']); binOp .neq 96 (.agg #[iv a, iv b, iv c]) (.agg #[iv a', iv b', iv c'])) v) ∧ K v :=
 ⟨_, fun _ => runIs_neq guard96 fun w => eqIn96 _ _ _ _ _ _ w, by rw [hq]; exact h⟩
end Go.Proofs.Ythfabodamhdhaaa
