import Derived.Test.YtaciigegbgnadaaHD
import Derived.ChangeKeysEq
/- Whether two pairs, ranges, parts are the same; the rig and the diary of the chapter. -/
namespace Go.Proofs.Ytaciigegbgnadaa
open Go Tx Go.RowKit
set_option linter.unusedSimpArgs false
set_option linter.unusedVariables false

theorem part3 (cs : List Value) (o : Nat) (v : Value) (w : World) (h : cs[o]? = some v) : (part 3 cs.toArray o).run Try.prog w = .ok v w :=
  run_part (β := fun _ => 0) (l := [.v v]) (s := .v v) tok3 (by
    obtain ⟨h1, h2⟩ := List.getElem?_eq_some_iff.1 h
    show List.take 1 (List.drop o cs) = [v]
    rw [List.drop_eq_getElem_cons h1, h2]; rfl) rfl (.inr ⟨rfl, rfl⟩)
theorem under71 : Try.prog.underlying 71 = some (.array 2 3) := by kernel_rfl
theorem cells3 : Try.prog.cellsOf 3 = 1 := by kernel_rfl
theorem names93 : namesB Try.prog 93 = true := by kernel_rfl
theorem names95 : namesB Try.prog 95 = true := by kernel_rfl
theorem names91 : namesB Try.prog 91 = true := by kernel_rfl
theorem guard93 : Try.prog.eqGuardType Try.prog.depth 93 = false := by kernel_rfl
theorem guard95 : Try.prog.eqGuardType Try.prog.depth 95 = false := by kernel_rfl
theorem guard91 : Try.prog.eqGuardType Try.prog.depth 91 = false := by kernel_rfl
theorem guard71 : Try.prog.eqGuardType Try.prog.depth 71 = false := by kernel_rfl
theorem eqIn71 (d : Nat) (a b c e : Int) (w : World) : (Op.equalIn (d + 2) 71 (.agg #[iv a, iv b]) (.agg #[iv c, iv e])).run Try.prog w = .ok (a == c && b == e) w := by
  obtain ⟨i, z, q1, _⟩ := tok3.row
  rw [run_equalIn_array w (d + 1) _ _ under71 q1, cells3, show List.range 2 = [0, 1] from rfl]
  have p := fun (x y : Int) (o : Nat) (v : Int) (h : [iv x, iv y][o]? = some (iv v)) => part3 [iv x, iv y] o (iv v) w h
  simp only [Op.eqItems, Sem.run_bind, p a b (0 * 1) a rfl, p c e (0 * 1) c rfl, p a b (1 * 1) b rfl, p c e (1 * 1) e rfl, Result.andThen_ok, eqIn3]
  cases h1 : (a == c) <;> cases h2 : (b == e) <;> simp [p a b 1 b rfl, p c e 1 e rfl, eqIn3, h2]
theorem eqInS {t o1 o2 : Nat} {ti : TI} (ht : TOK Try.prog t ti) (hk : ti.kind = .struct [(0, 3), (1, 3)]) (hn : namesB Try.prog t = true) (d : Nat) (a b c e : Int) (w : World) : (Op.equalIn (d + 2) t (.agg #[iv a, iv b]) (.agg #[iv c, iv e])).run Try.prog w = .ok (a == c && b == e) w :=
  equalIn_two ht hk (by decide) hn (part3 _ 0 _ w rfl) (part3 _ 1 _ w rfl) (part3 _ 0 _ w rfl) (part3 _ 1 _ w rfl) (eqIn3 d _ _ w) (eqIn3 d _ _ w)
theorem eqlE71 {a b c e : Int} {q : Bool} {x y : Operand} {K : Value → Prop} (hq : (a == c && b == e) = q) (h : K (.bool q)) : ∃ v, (∀ _ : Nat → Nat, RunIs Try.prog (do eqGuard .eql 71 x y (.agg #[iv a, iv b]) (.agg #[iv c, iv e]); binOp .eql 71 (.agg #[iv a, iv b]) (.agg #[iv c, iv e])) v) ∧ K v :=
  ⟨_, fun _ => runIs_eql guard71 fun w => eqIn71 9998 _ _ _ _ w, by rw [hq]; exact h⟩
theorem neqE71 {a b c e : Int} {q : Bool} {x y : Operand} {K : Value → Prop} (hq : (!(a == c && b == e)) = q) (h : K (.bool q)) : ∃ v, (∀ _ : Nat → Nat, RunIs Try.prog (do eqGuard .neq 71 x y (.agg #[iv a, iv b]) (.agg #[iv c, iv e]); binOp .neq 71 (.agg #[iv a, iv b]) (.agg #[iv c, iv e])) v) ∧ K v :=
  ⟨_, fun _ => runIs_neq guard71 fun w => eqIn71 9998 _ _ _ _ w, by rw [hq]; exact h⟩
theorem eqlE95 {a b c e : Int} {q : Bool} {x y : Operand} {K : Value → Prop} (hq : (a == c && b == e) = q) (h : K (.bool q)) : ∃ v, (∀ _ : Nat → Nat, RunIs Try.prog (do eqGuard .eql 95 x y (.agg #[iv a, iv b]) (.agg #[iv c, iv e]); binOp .eql 95 (.agg #[iv a, iv b]) (.agg #[iv c, iv e])) v) ∧ K v :=
  ⟨_, fun _ => runIs_eql guard95 fun w => eqInS (o1 := 0) (o2 := 0) tok95 rfl names95 9998 _ _ _ _ w, by rw [hq]; exact h⟩
theorem neqE95 {a b c e : Int} {q : Bool} {x y : Operand} {K : Value → Prop} (hq : (!(a == c && b == e)) = q) (h : K (.bool q)) : ∃ v, (∀ _ : Nat → Nat, RunIs Try.prog (do eqGuard .neq 95 x y (.agg #[iv a, iv b]) (.agg #[iv c, iv e]); binOp .neq 95 (.agg #[iv a, iv b]) (.agg #[iv c, iv e])) v) ∧ K v :=
  ⟨_, fun _ => runIs_neq guard95 fun w => eqInS (o1 := 0) (o2 := 0) tok95 rfl names95 9998 _ _ _ _ w, by rw [hq]; exact h⟩
theorem neqE93 {a b c e : Int} {q : Bool} {x y : Operand} {K : Value → Prop} (hq : (!(a == c && b == e)) = q) (h : K (.bool q)) : ∃ v, (∀ _ : Nat → Nat, RunIs Try.prog (do eqGuard .neq 93 x y (.agg #[iv a, iv b]) (.agg #[iv c, iv e]); binOp .neq 93 (.agg #[iv a, iv b]) (.agg #[iv c, iv e])) v) ∧ K v :=
  ⟨_, fun _ => runIs_neq guard93 fun w => eqInS (o1 := 0) (o2 := 0) tok93 rfl names93 9998 _ _ _ _ w, by rw [hq]; exact h⟩
theorem eqlE91 {a b c e : Int} {q : Bool} {x y : Operand} {K : Value → Prop} (hq : (a == c && b == e) = q) (h : K (.bool q)) : ∃ v, (∀ _ : Nat → Nat, RunIs Try.prog (do eqGuard .eql 91 x y (.agg #[iv a, iv b]) (.agg #[iv c, iv e]); binOp .eql 91 (.agg #[iv a, iv b]) (.agg #[iv c, iv e])) v) ∧ K v :=
  ⟨_, fun _ => runIs_eql guard91 fun w => eqInS (o1 := 0) (o2 := 0) tok91 rfl names91 9998 _ _ _ _ w, by rw [hq]; exact h⟩

/-- The chapter's rig. -/
def exP : List Int := [1000, 500]
def exB : List Bm := [⟨10, 40, -1, 0, -1, 1, 90, 800⟩]
def exL : List Ld := [⟨0, 40, 2, 100, 300⟩, ⟨0, 0, 0, 60, 60⟩]
def exR (p q s : Option Addr) : Rig := ⟨p, 2, 2, q, 1, 1, 1000, 1500, 2000, s, 2, 2⟩
theorem ex_brP (p q s : Option Addr) : brP (exR p q s) exP exB exL [600, 60] = [23760000, 138240000] := by kernel_rfl
theorem ex_brH (p q s : Option Addr) : brH (exR p q s) exP exB exL [600, 60] = [(23760000, 138240000)] := by kernel_rfl
theorem ex_brE (p q s : Option Addr) : brE (exR p q s) exP exB exL [600, 60] = 0 := by kernel_rfl
theorem ex_ov (p q s : Option Addr) : (ovR (exR p q s) exP exB exL).b = -1 ∧ (ovR (exR p q s) exP exB exL).a = 1 ∧ (ovR (exR p q s) exP exB exL).pl (exR p q s) exL true = [600, 60] ∧ (ovR (exR p q s) exP exB exL).e (rigOk 1000 1500 2000 exP exB exL) = 0 := ⟨by kernel_rfl, by kernel_rfl, by kernel_rfl, by kernel_rfl⟩
def exG : List (Int × Int) := [(30, 10)]
def exD : List En := [⟨5, 0, 0, true⟩, ⟨6, 0, 8, false⟩, ⟨7, 0, 3, false⟩]
theorem ex_sta : staR exG exD 7 = [0] ∧ staE exG exD 7 = 0 ∧ untR exG exD 0 6 1 = 8 ∧ untE exG exD 0 6 1 = 0 := ⟨by kernel_rfl, by kernel_rfl, by kernel_rfl, by kernel_rfl⟩
end Go.Proofs.Ytaciigegbgnadaa

/- What the chapter shows: awake returns true. -/
namespace Go.Proofs.Ytaciigegbgnadaa
open Go Tx Go.RowKit
set_option linter.unusedSimpArgs false
set_option linter.unusedVariables false

abbrev exV (y : Addr × Addr × Addr) : Value := .agg #[.slice (some y.1) 2 2, .slice (some y.2.1) 1 1, iv 1000, iv 1500, iv 2000, .slice (some y.2.2) 2 2]
theorem rd_cells {α : Type} {sz : Nat} {f : α → List Value} (hf : ∀ x, (f x).length = sz) {n m : Nat} {bs : List α} {w' : World} {b c ty : Nat} {l : List Value} (hl : l = bs.flatMap f) (hn : n = bs.length) (h : St m (fun w2 => w2.heap[b]? = some (.cells l.toArray ty (0, 0))) w') : St m (Rd sz f (.slice (some ⟨b, 0, none⟩) n c) bs) w' :=
  h.imp fun w2 q => Rd.of_cells (sz := sz) (f := f) hf hn (hl ▸ q)

set_option maxHeartbeats 1000000 in
set_option maxRecDepth 100000 in
theorem ex54_ok (w : World) : Calls Try.prog 54 #[] w fun e w' => ∃ y : Addr × Addr × Addr, e = .returned (exV y) ∧ Below w.heap.size w w' ∧ St w.heap.size (RigIn (exR (some y.1) (some y.2.1) (some y.2.2)) exP exB exL) w' := by
  refine calls_fam env mixed Try.func54 has54 Try.ntmps54 [] (by simp) ?_
  repeat'
   conv => whnf
   first
    | refine zA ?_ | refine zB ?_ | refine zC ?_ | refine zD ?_ | refine zE ?_ | refine zF ?_ | refine zG ?_ | refine zH ?_ | refine zI ?_ | refine splT ?_ | refine splF ?_ | refine splNot ?_
    | ((first | refine splIn (fun hc => ?_) (fun hc => ?_) | refine splD (fun hc => ?_) (fun hc => ?_) | refine splE (fun hc => ?_) (fun hc => ?_) | refine splNE (fun hc => ?_) (fun hc => ?_)) <;> first | (exfalso; omega) | (exfalso; dsimp only at hc; omega) | skip)
  exact ⟨fun w' h => h, fun β w' hB hblk => ⟨(⟨β 1, 0, none⟩, ⟨β 2, 0, none⟩, ⟨β 3, 0, none⟩), rfl, (((rd_cells (sz := 1) (f := iF) (bs := exP) (fun _ => rfl) rfl rfl (hblk 1 _ rfl rfl)).and (rd_cells (sz := 8) (f := Bm.cs) (bs := exB) (fun _ => rfl) rfl rfl (hblk 2 _ rfl rfl))).and (rd_cells (sz := 5) (f := Ld.cs) (bs := exL) (fun _ => rfl) rfl rfl (hblk 3 _ rfl rfl))).imp
    fun w2 q => ⟨q.1.1, q.1.2, q.2, rfl, rfl, rfl, by decide, by decide, by decide⟩⟩⟩
set_option maxRecDepth 100000 in
theorem ex55_ok (w : World) : Calls Try.prog 55 #[] w fun e w' => ∃ y : Addr, e = .returned (.slice (some y) 3 3) ∧ Below w.heap.size w w' ∧ St w.heap.size (Rd 4 En.cs (.slice (some y) 3 3) exD) w' := by
  refine calls_fam env mixed Try.func55 has55 Try.ntmps55 [] (by simp) ?_
  repeat'
   conv => whnf
   first
    | refine zA ?_ | refine zB ?_ | refine zC ?_ | refine zD ?_ | refine zE ?_ | refine zF ?_ | refine zG ?_ | refine zH ?_ | refine zI ?_ | refine splT ?_ | refine splF ?_ | refine splNot ?_
    | ((first | refine splIn (fun hc => ?_) (fun hc => ?_) | refine splD (fun hc => ?_) (fun hc => ?_) | refine splE (fun hc => ?_) (fun hc => ?_) | refine splNE (fun hc => ?_) (fun hc => ?_)) <;> first | (exfalso; omega) | (exfalso; dsimp only at hc; omega) | skip)
  exact ⟨fun w' h => h, fun β w' hB hblk => ⟨⟨β 0, 0, none⟩, rfl, rd_cells (sz := 4) (f := En.cs) (bs := exD) (fun _ => rfl) rfl rfl (hblk 0 _ rfl rfl)⟩⟩
theorem ex29_ok (y : Addr × Addr × Addr) (b : Nat) (w : World) (h : RigIn (exR (some y.1) (some y.2.1) (some y.2.2)) exP exB exL w) (hp : Rd 1 iF (.slice (some ⟨b, 0, none⟩) 2 2) [600, 60] w) :
    Calls Try.prog 29 #[exV y, .slice (some ⟨b, 0, none⟩) 2 2] w fun e w' => ∃ z : (Option Addr × Nat) × (Addr × Nat), e = .returned (.tuple #[sV 2 z.1, .slice (some z.2.1) 1 z.2.2, iv 0]) ∧ Below w.heap.size w w' ∧
      St w.heap.size (fun w2 => Rd 1 iF (sV 2 z.1) [23760000, 138240000] w2 ∧ Rd 2 gF (.slice (some z.2.1) 1 z.2.2) [(23760000, 138240000)] w2) w' := by
  refine (Bears_ok (exR (some y.1) (some y.2.1) (some y.2.2)) exP exB exL [600, 60] (some ⟨b, 0, none⟩) 2 w h hp (by decide)).mono fun e w' ⟨z, h1, h2, h3⟩ => ?_
  rw [ex_brP, ex_brH, ex_brE] at h1
  rw [ex_brP, ex_brH] at h3
  obtain ⟨z1, z2, z3⟩ := z
  rcases (h3.now).2 with h | ⟨ad, c, h, _⟩
  · simp at h
  · simp only [List.length_cons, List.length_nil, Value.slice.injEq] at h
    obtain ⟨rfl, _, rfl⟩ := h
    exact ⟨(z1, (ad, _)), h1, h2, h3⟩
theorem ex41_ok (y : Addr × Addr × Addr) (w : World) (h : RigIn (exR (some y.1) (some y.2.1) (some y.2.2)) exP exB exL w) :
    Calls Try.prog 41 #[exV y] w fun e w' => ∃ z : Option Addr × Nat, e = .returned (.tuple #[.agg #[iv (-1), iv 1], sV 2 z, iv 0]) ∧ Below w.heap.size w w' ∧ St w.heap.size (Rd 1 iF (sV 2 z) [600, 60]) w' := by
  refine (Over_ok (exR (some y.1) (some y.2.1) (some y.2.2)) exP exB exL w h).mono fun e w' ⟨z, h1, h2, h3⟩ => ?_
  obtain ⟨q1, q2, q3, q4⟩ := ex_ov (some y.1) (some y.2.1) (some y.2.2)
  have q4' : (ovR (exR (some y.1) (some y.2.1) (some y.2.2)) exP exB exL).e (rigOk (exR (some y.1) (some y.2.1) (some y.2.2)).f0 (exR (some y.1) (some y.2.1) (some y.2.2)).f1 (exR (some y.1) (some y.2.1) (some y.2.2)).f2 exP exB exL) = 0 := q4
  rw [q1, q2, q3, q4'] at h1
  rw [q3] at h3
  exact ⟨z, h1, h2, h3⟩
theorem ex17_ok (b : Nat) (y : Addr) (w : World) (hG : Rd 2 gF (.slice (some ⟨b, 0, none⟩) 1 1) exG w) (hL : Rd 4 En.cs (.slice (some y) 3 3) exD w) :
    Calls Try.prog 17 #[.slice (some ⟨b, 0, none⟩) 1 1, .slice (some y) 3 3, iv 7] w fun e w' => ∃ z : Option Addr × Nat, e = .returned (.tuple #[sV 1 z, iv 0]) ∧ Below w.heap.size w w' ∧ St w.heap.size (Rd 1 iF (sV 1 z) [0]) w' := by
  refine (Stale_ok exG exD (some ⟨b, 0, none⟩) (some y) 1 3 7 w hG hL (by decide) (by decide)).mono fun e w' ⟨z, h1, h2, h3⟩ => ?_
  rw [ex_sta.1, ex_sta.2.1] at h1
  rw [ex_sta.1] at h3
  exact ⟨z, h1, h2, h3⟩
theorem ex20_ok (b : Nat) (y : Addr) (w : World) (hG : Rd 2 gF (.slice (some ⟨b, 0, none⟩) 1 1) exG w) (hL : Rd 4 En.cs (.slice (some y) 3 3) exD w) :
    Calls Try.prog 20 #[.slice (some ⟨b, 0, none⟩) 1 1, .slice (some y) 3 3, iv 0, iv 6, iv 1] w fun e w' => e = .returned (.tuple #[iv 8, iv 0]) ∧ Below w.heap.size w w' := by
  have h := Until_ok exG exD (some ⟨b, 0, none⟩) (some y) 1 3 0 6 1 w hG hL (by decide) (by decide)
  rw [ex_sta.2.2.1, ex_sta.2.2.2] at h
  exact h
theorem ints_eq (A : List Int) (o p : Option Addr) (n c d : Nat) (w : World) (hn : n = A.length) (hA : Rd 1 iF (.slice o n c) A w) (hB : Rd 1 iF (.slice p n d) A w) (hl : A.length ≤ 1000000) :
    Calls Try.prog 25 #[.slice o n c, .slice p n d] w fun e w' => e = .returned (.bool true) ∧ Below w.heap.size w w' := by
  subst hn
  have h := ints_ok A A o p c d w hA hB hl hl
  rwa [decide_eq_true rfl] at h

set_option maxHeartbeats 4000000 in
set_option maxRecDepth 100000 in
theorem awake_ok (w : World) : Calls Try.prog 16 #[] w fun e w' => e = .returned (.bool true) ∧ Below w.heap.size w w' := by
  refine calls_val env mixed Try.func16 has16 Try.ntmps16 [] (by simp) ?_
  repeat'
   conv => whnf
   first
    | refine zA ?_ | refine zB ?_ | refine zC ?_ | refine zD ?_ | refine zE ?_ | refine zF ?_ | refine zG ?_ | refine zH ?_ | refine zI ?_ | refine splT ?_ | refine splF ?_ | refine splNot ?_
    | ((first | refine splIn (fun hc => ?_) (fun hc => ?_) | refine splD (fun hc => ?_) (fun hc => ?_) | refine splE (fun hc => ?_) (fun hc => ?_) | refine splNE (fun hc => ?_) (fun hc => ?_)) <;> first | (exfalso; omega) | (exfalso; dsimp only at hc; omega) | skip)
    | ((with_reducible show CallEv _ _ 54 _ _ _ _ _); refine callF [] exV (fun y => RigIn (exR (some y.1) (some y.2.1) (some y.2.2)) exP exB exL) (fun β w' _ hbw => ex54_ok w') ?_; intro y; obtain ⟨y1, y2, y3⟩ := y; dsimp only)
    | ((with_reducible show CallEv _ _ 29 _ _ _ _ _); refine callF [0] (fun z : (Option Addr × Nat) × (Addr × Nat) => .tuple #[sV 2 z.1, .slice (some z.2.1) 1 z.2.2, iv 0]) (fun z w2 => Rd 1 iF (sV 2 z.1) [23760000, 138240000] w2 ∧ Rd 2 gF (.slice (some z.2.1) 1 z.2.2) [(23760000, 138240000)] w2) (fun β w' hbk hbw => ex29_ok (_, _, _) _ w' hbw.2 (Rd.of_cells (sz := 1) (f := iF) (bs := [600, 60]) (fun _ => rfl) rfl (hbk 0 (by simp) _ rfl))) ?_; intro z; obtain ⟨⟨z1, z2⟩, z3, z4⟩ := z; dsimp only)
    | ((with_reducible show CallEv _ _ 41 _ _ _ _ _); refine callF [] (fun z : Option Addr × Nat => .tuple #[.agg #[iv (-1), iv 1], sV 2 z, iv 0]) (fun z => Rd 1 iF (sV 2 z) [600, 60]) (fun β w' hbk hbw => ex41_ok (_, _, _) w' hbw.2) ?_; intro z; obtain ⟨v1, v2⟩ := z; dsimp only)
    | ((with_reducible show CallEv _ _ 55 _ _ _ _ _); refine callF [] (fun y : Addr => .slice (some y) 3 3) (fun y => Rd 4 En.cs (.slice (some y) 3 3) exD) (fun β w' hbk hbw => ex55_ok w') ?_; intro u)
    | ((with_reducible show CallEv _ _ 17 _ _ _ _ _); refine callF [2] (fun z : Option Addr × Nat => .tuple #[sV 1 z, iv 0]) (fun z => Rd 1 iF (sV 1 z) [0]) (fun β w' hbk hbw => ex17_ok _ _ w' (Rd.of_cells (sz := 2) (f := gF) (bs := exG) (fun _ => rfl) rfl (hbk 2 (by simp) _ rfl)) hbw.2) ?_; intro z; obtain ⟨x1, x2⟩ := z; dsimp only)
    | ((with_reducible show CallEv _ _ 20 _ _ _ _ _); refine callM (k := 20) [2] (fun β w' hbk hbw => ex20_ok _ _ w' (Rd.of_cells (sz := 2) (f := gF) (bs := exG) (fun _ => rfl) rfl (hbk 2 (by simp) _ rfl)) hbw.2) ?_)
    | ((with_reducible show CallEv _ _ 25 [_, .sl 3 0 2 2] _ _ _ _); refine callM (k := 25) [3] (fun β w' hbk hbw => ints_eq [23760000, 138240000] _ _ 2 _ _ w' rfl hbw.1.1.1.1.1.2.1 (Rd.of_cells (sz := 1) (f := iF) (bs := [23760000, 138240000]) (fun _ => rfl) rfl (hbk 3 (by simp) _ rfl)) (by decide)) ?_)
    | ((with_reducible show CallEv _ _ 25 [_, .sl 4 0 2 2] _ _ _ _); refine callM (k := 25) [4] (fun β w' hbk hbw => ints_eq [600, 60] _ _ 2 _ _ w' rfl hbw.1.1.1.2 (Rd.of_cells (sz := 1) (f := iF) (bs := [600, 60]) (fun _ => rfl) rfl (hbk 4 (by simp) _ rfl)) (by decide)) ?_)
    | ((with_reducible show CallEv _ _ 25 [_, .sl 5 0 1 1] _ _ _ _); refine callM (k := 25) [5] (fun β w' hbk hbw => ints_eq [0] _ _ 1 _ _ w' rfl hbw.1.2 (Rd.of_cells (sz := 1) (f := iF) (bs := [0]) (fun _ => rfl) rfl (hbk 5 (by simp) _ rfl)) (by decide)) ?_)
    | refine Exists.intro (α := List Value) (gF (23760000, 138240000)) ⟨⟨rfl, fun w' hw' => rd_atz hw'.1.1.1.1.1.2.2 (k := 0) (b := (23760000, 138240000)) rfl 0 rfl⟩, ?_⟩
    | refine eqlE71 (q := true) rfl ?_
    | refine eqlE95 (q := true) rfl ?_
  all_goals first | exact ⟨fun β => rfl, fun w' h => h.1.1.1.1.1.1.1⟩
end Go.Proofs.Ytaciigegbgnadaa
