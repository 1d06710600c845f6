/- Comparing two ranges or two boxes tells whether they are the same. -/
import Derived.Test.YtlehjapeomallaaFA
import Derived.Test.YtlehjapeomallaaSl
namespace Go.Proofs.Ytlehjapeomallaa
open Go Sx Go.RowKit

/-! ### Ranges and boxes that are the same -/
def Rg.eqB (a b : Rg) : Bool := a.lo == b.lo && a.hi == b.hi
def Bx.eqB (a b : Bx) : Bool := a.x.eqB b.x && a.z.eqB b.z
theorem under3 : Try.prog.underlying 3 = some (.int .i64) := by kernel_rfl
theorem names23 : namesB Try.prog 23 = true := by kernel_rfl
theorem names47 : namesB Try.prog 47 = true := by kernel_rfl
theorem guard23 : Try.prog.eqGuardType Try.prog.depth 23 = false := by kernel_rfl
theorem guard47 : Try.prog.eqGuardType Try.prog.depth 47 = false := by kernel_rfl

theorem part3 (cs : List Value) (o : Nat) (v : Value) (w : World) (h : cs[o]? = some v) : (part 3 cs.toArray o).run Try.prog w = .ok v w :=
  run_part (β := fun _ => 0) (l := [.v v]) (s := .v v) tok3 (by
    obtain ⟨h1, h2⟩ := List.getElem?_eq_some_iff.1 h
    show List.take 1 (List.drop o cs) = [v]
    rw [List.drop_eq_getElem_cons h1, h2]; rfl) rfl (.inr ⟨rfl, rfl⟩)
theorem part23 (cs : List Value) (o : Nat) (v v' : Value) (w : World) (h : (cs.drop o).take 2 = [v, v']) : (part 23 cs.toArray o).run Try.prog w = .ok (.agg #[v, v']) w :=
  run_part (β := fun _ => 0) (l := [.v v, .v v']) (s := .agg [.v v, .v v']) tok23 h rfl (.inl ⟨rfl, rfl⟩)
theorem eqIn3 (d : Nat) (a b : Int) (w : World) : (Op.equalIn (d + 1) 3 (iv a) (iv b)).run Try.prog w = .ok (a == b) w := equalIn_int under3 a b
theorem eqIn23 (d : Nat) (a b : Rg) (w : World) : (Op.equalIn (d + 2) 23 a.v b.v).run Try.prog w = .ok (a.eqB b) w :=
  equalIn_two tok23 rfl (by decide) names23 (part3 _ 0 _ w rfl) (part3 _ 1 _ w rfl) (part3 _ 0 _ w rfl) (part3 _ 1 _ w rfl) (eqIn3 d _ _ w) (eqIn3 d _ _ w)
theorem eqIn47 (d : Nat) (a b : Bx) (w : World) : (Op.equalIn (d + 3) 47 a.v b.v).run Try.prog w = .ok (a.eqB b) w :=
  equalIn_two tok47 rfl (by decide) names47 (part23 _ 0 _ _ w rfl) (part23 _ 2 _ _ w rfl) (part23 _ 0 _ _ w rfl) (part23 _ 2 _ _ w rfl) (eqIn23 d a.x b.x w) (eqIn23 d a.z b.z w)
theorem eql23 (a b : Rg) (x y : Operand) : RunIs Try.prog (do eqGuard .eql 23 x y a.v b.v; binOp .eql 23 a.v b.v) (.bool (a.eqB b)) := runIs_eql guard23 fun w => eqIn23 9998 a b w
theorem eql47 (a b : Bx) (x y : Operand) : RunIs Try.prog (do eqGuard .eql 47 x y a.v b.v; binOp .eql 47 a.v b.v) (.bool (a.eqB b)) := runIs_eql guard47 fun w => eqIn47 9997 a b w
theorem neq23 (a b : Rg) (x y : Operand) : RunIs Try.prog (do eqGuard .neq 23 x y a.v b.v; binOp .neq 23 a.v b.v) (.bool (!(a.eqB b))) := runIs_neq guard23 fun w => eqIn23 9998 a b w
theorem neq47 (a b : Bx) (x y : Operand) : RunIs Try.prog (do eqGuard .neq 47 x y a.v b.v; binOp .neq 47 a.v b.v) (.bool (!(a.eqB b))) := runIs_neq guard47 fun w => eqIn47 9997 a b w

theorem eqlE23 {a b : Rg} {x y : Operand} {K : Value → Prop} (h : K (.bool (a.eqB b))) : ∃ v, (∀ _ : Nat → Nat, RunIs Try.prog (do eqGuard .eql 23 x y a.v b.v; binOp .eql 23 a.v b.v) v) ∧ K v := ⟨_, fun _ => eql23 a b x y, h⟩
theorem eqlE47 {a b : Bx} {x y : Operand} {K : Value → Prop} (h : K (.bool (a.eqB b))) : ∃ v, (∀ _ : Nat → Nat, RunIs Try.prog (do eqGuard .eql 47 x y a.v b.v; binOp .eql 47 a.v b.v) v) ∧ K v := ⟨_, fun _ => eql47 a b x y, h⟩
theorem neqE23 {a b : Rg} {x y : Operand} {K : Value → Prop} (h : K (.bool (!(a.eqB b)))) : ∃ v, (∀ _ : Nat → Nat, RunIs Try.prog (do eqGuard .neq 23 x y a.v b.v; binOp .neq 23 a.v b.v) v) ∧ K v := ⟨_, fun _ => neq23 a b x y, h⟩
theorem neqE47 {a b : Bx} {x y : Operand} {K : Value → Prop} (h : K (.bool (!(a.eqB b)))) : ∃ v, (∀ _ : Nat → Nat, RunIs Try.prog (do eqGuard .neq 47 x y a.v b.v; binOp .neq 47 a.v b.v) v) ∧ K v := ⟨_, fun _ => neq47 a b x y, h⟩
end Go.Proofs.Ytlehjapeomallaa
