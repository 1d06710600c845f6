/- Whether two pairs, ranges, parts are the same; the rig and the diary of the chapter. -/
import Derived.Test.YtaciigegbgnadaaHD
import Derived.ChangeKeysEq
namespace Go.Proofs.Ytaciigegbgnadaa
open Go Tx Go.RowKit
set_option linter.unusedSimpArgs false
set_option linter.unusedVariables false

theorem part3 (cs : List Value) (o : Nat) (v : Value) (w : World) (h : cs[o]? = some v) : (part 3 cs.toArray o).run Try.prog w = .ok v w :=
  run_part (β := fun _ => 0) (l := [.v v]) (s := .v v) tok3 (by
    obtain ⟨h1, h2⟩ := List.getElem?_eq_some_iff.1 h
    show List.take 1 (List.drop o cs) = [v]
    rw [List.drop_eq_getElem_cons h1, h2]; rfl) rfl (.inr ⟨rfl, rfl⟩)
theorem under71 : Try.prog.underlying 71 = some (.array 2 3) := by kernel_rfl
theorem cells3 : Try.prog.cellsOf 3 = 1 := by kernel_rfl
theorem names93 : namesB Try.prog 93 = true := by kernel_rfl
theorem names95 : namesB Try.prog 95 = true := by kernel_rfl
theorem names91 : namesB Try.prog 91 = true := by kernel_rfl
theorem guard93 : Try.prog.eqGuardType Try.prog.depth 93 = false := by kernel_rfl
theorem guard95 : Try.prog.eqGuardType Try.prog.depth 95 = false := by kernel_rfl
theorem guard91 : Try.prog.eqGuardType Try.prog.depth 91 = false := by kernel_rfl
theorem guard71 : Try.prog.eqGuardType Try.prog.depth 71 = false := by kernel_rfl
theorem eqIn71 (d : Nat) (a b c e : Int) (w : World) : (Op.equalIn (d + 2) 71 (.agg #[iv a, iv b]) (.agg #[iv c, iv e])).run Try.prog w = .ok (a == c && b == e) w := by
  obtain ⟨i, z, q1, _⟩ := tok3.row
  rw [run_equalIn_array w (d + 1) _ _ under71 q1, cells3, show List.range 2 = [0, 1] from rfl]
  have p := fun (x y : Int) (o : Nat) (v : Int) (h : [iv x, iv y][o]? = some (iv v)) => part3 [iv x, iv y] o (iv v) w h
  simp only [Op.eqItems, Sem.run_bind, p a b (0 * 1) a rfl, p c e (0 * 1) c rfl, p a b (1 * 1) b rfl, p c e (1 * 1) e rfl, Result.andThen_ok, eqIn3]
  cases h1 : (a == c) <;> cases h2 : (b == e) <;> simp [p a b 1 b rfl, p c e 1 e rfl, eqIn3, h2]
theorem eqInS {t o1 o2 : Nat} {ti : TI} (ht : TOK Try.prog t ti) (hk : ti.kind = .struct [(0, 3), (1, 3)]) (hn : namesB Try.prog t = true) (d : Nat) (a b c e : Int) (w : World) : (Op.equalIn (d + 2) t (.agg #[iv a, iv b]) (.agg #[iv c, iv e])).run Try.prog w = .ok (a == c && b == e) w :=
  equalIn_two ht hk (by decide) hn (part3 _ 0 _ w rfl) (part3 _ 1 _ w rfl) (part3 _ 0 _ w rfl) (part3 _ 1 _ w rfl) (eqIn3 d _ _ w) (eqIn3 d _ _ w)
theorem eqlE71 {a b c e : Int} {q : Bool} {x y : Operand} {K : Value → Prop} (hq : (a == c && b == e) = q) (h : K (.bool q)) : ∃ v, (∀ _ : Nat → Nat, RunIs Try.prog (do eqGuard .eql 71 x y (.agg #[iv a, iv b]) (.agg #[iv c, iv e]); binOp .eql 71 (.agg #[iv a, iv b]) (.agg #[iv c, iv e])) v) ∧ K v :=
  ⟨_, fun _ => runIs_eql guard71 fun w => eqIn71 9998 _ _ _ _ w, by rw [hq]; exact h⟩
theorem neqE71 {a b c e : Int} {q : Bool} {x y : Operand} {K : Value → Prop} (hq : (!(a == c && b == e)) = q) (h : K (.bool q)) : ∃ v, (∀ _ : Nat → Nat, RunIs Try.prog (do eqGuard .neq 71 x y (.agg #[iv a, iv b]) (.agg #[iv c, iv e]); binOp .neq 71 (.agg #[iv a, iv b]) (.agg #[iv c, iv e])) v) ∧ K v :=
  ⟨_, fun _ => runIs_neq guard71 fun w => eqIn71 9998 _ _ _ _ w, by rw [hq]; exact h⟩
theorem eqlE95 {a b c e : Int} {q : Bool} {x y : Operand} {K : Value → Prop} (hq : (a == c && b == e) = q) (h : K (.bool q)) : ∃ v, (∀ _ : Nat → Nat, RunIs Try.prog (do eqGuard .eql 95 x y (.agg #[iv a, iv b]) (.agg #[iv c, iv e]); binOp .eql 95 (.agg #[iv a, iv b]) (.agg #[iv c, iv e])) v) ∧ K v :=
  ⟨_, fun _ => runIs_eql guard95 fun w => eqInS (o1 := 0) (o2 := 0) tok95 rfl names95 9998 _ _ _ _ w, by rw [hq]; exact h⟩
theorem neqE95 {a b c e : Int} {q : Bool} {x y : Operand} {K : Value → Prop} (hq : (!(a == c && b == e)) = q) (h : K (.bool q)) : ∃ v, (∀ _ : Nat → Nat, RunIs Try.prog (do eqGuard .neq 95 x y (.agg #[iv a, iv b]) (.agg #[iv c, iv e]); binOp .neq 95 (.agg #[iv a, iv b]) (.agg #[iv c, iv e])) v) ∧ K v :=
  ⟨_, fun _ => runIs_neq guard95 fun w => eqInS (o1 := 0) (o2 := 0) tok95 rfl names95 9998 _ _ _ _ w, by rw [hq]; exact h⟩
theorem neqE93 {a b c e : Int} {q : Bool} {x y : Operand} {K : Value → Prop} (hq : (!(a == c && b == e)) = q) (h : K (.bool q)) : ∃ v, (∀ _ : Nat → Nat, RunIs Try.prog (do eqGuard .neq 93 x y (.agg #[iv a, iv b]) (.agg #[iv c, iv e]); binOp .neq 93 (.agg #[iv a, iv b]) (.agg #[iv c, iv e])) v) ∧ K v :=
  ⟨_, fun _ => runIs_neq guard93 fun w => eqInS (o1 := 0) (o2 := 0) tok93 rfl names93 9998 _ _ _ _ w, by rw [hq]; exact h⟩
theorem eqlE91 {a b c e : Int} {q : Bool} {x y : Operand} {K : Value → Prop} (hq : (a == c && b == e) = q) (h : K (.bool q)) : ∃ v, (∀ _ : Nat → Nat, RunIs Try.prog (do eqGuard .eql 91 x y (.agg #[iv a, iv b]) (.agg #[iv c, iv e]); binOp .eql 91 (.agg #[iv a, iv b]) (.agg #[iv c, iv e])) v) ∧ K v :=
  ⟨_, fun _ => runIs_eql guard91 fun w => eqInS (o1 := 0) (o2 := 0) tok91 rfl names91 9998 _ _ _ _ w, by rw [hq]; exact h⟩

/-- The chapter's rig. -/
def exP : List Int := [1000, 500]
def exB : List Bm := [⟨10, 40, -1, 0, -1, 1, 90, 800⟩]
def exL : List Ld := [⟨0, 40, 2, 100, 300⟩, ⟨0, 0, 0, 60, 60⟩]
def exR (p q s : Option Addr) : Rig := ⟨p, 2, 2, q, 1, 1, 1000, 1500, 2000, s, 2, 2⟩
theorem ex_brP (p q s : Option Addr) : brP (exR p q s) exP exB exL [600, 60] = [23760000, 138240000] := by kernel_rfl
theorem ex_brH (p q s : Option Addr) : brH (exR p q s) exP exB exL [600, 60] = [(23760000, 138240000)] := by kernel_rfl
theorem ex_brE (p q s : Option Addr) : brE (exR p q s) exP exB exL [600, 60] = 0 := by kernel_rfl
theorem ex_ov (p q s : Option Addr) : (ovR (exR p q s) exP exB exL).b = -1 ∧ (ovR (exR p q s) exP exB exL).a = 1 ∧ (ovR (exR p q s) exP exB exL).pl (exR p q s) exL true = [600, 60] ∧ (ovR (exR p q s) exP exB exL).e (rigOk 1000 1500 2000 exP exB exL) = 0 := ⟨by kernel_rfl, by kernel_rfl, by kernel_rfl, by kernel_rfl⟩
def exG : List (Int × Int) := [(30, 10)]
def exD : List En := [⟨5, 0, 0, true⟩, ⟨6, 0, 8, false⟩, ⟨7, 0, 3, false⟩]
theorem ex_sta : staR exG exD 7 = [0] ∧ staE exG exD 7 = 0 ∧ untR exG exD 0 6 1 = 8 ∧ untE exG exD 0 6 1 = 0 := ⟨by kernel_rfl, by kernel_rfl, by kernel_rfl, by kernel_rfl⟩
end Go.Proofs.Ytaciigegbgnadaa
