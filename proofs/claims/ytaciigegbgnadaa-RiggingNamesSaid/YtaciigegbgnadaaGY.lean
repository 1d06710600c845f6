/- Whether two structs, two truth values are the same; pulls with which a row is the greatest, or the least: what end, least and most return. -/
import Derived.Test.YtaciigegbgnadaaGX
import Derived.Test.YtaciigegbgnadaaE
namespace Go.Proofs.Ytaciigegbgnadaa.Tx
open Go Go.RowKit
set_option linter.unusedSimpArgs false
set_option linter.unusedVariables false
theorem calls_fam2 {P : Program} (T : Env P) (hm : P.follows .mixedOrders = true) {k : Nat} {fn : Func} {c : Code} (hfn : P.funcs[k]? = some fn) (hb : fn.body = some c) {nt : Nat} (hnt : fn.ntmps = nt) (args : List Value)
    (hlen : args.length ≤ nt) {w : World} {R : Ending → World → Prop}
    (hvc : vc T c ⟨nt, slotsOf 0 (args.map .v), [], 0, Below w.heap.size w, z0⟩ (endΦ T fn fun s σ => (∀ w', σ.h w' → Below w.heap.size w w') ∧ ∀ β w', σ.h w' → Below w.heap.size w w' →
      (∀ i b, lk σ.m i = some b → b.live = true → w.heap.size ≤ β i ∧ b.ok β w' (β i)) → R (.returned (s.c β)) w')) :
    Calls P k args.toArray w R := by
  have h0 : Mem ⟨nt, slotsOf 0 (args.map .v), [], 0, Below w.heap.size w, z0⟩ (fun _ => 0) (fun b => b < w.heap.size) w :=
    ⟨fun i b h => (by simp [lk] at h), fun i j bi bj h => (by simp [lk] at h), fun i b h => (by simp [lk] at h), fun b h => h,
     fun w' hc => ⟨hc.os, hc.tape, hc.output, hc.size, fun b hb => hc.same b hb (fun h => h hb)⟩⟩
  have h1 := calls_vc T hm hfn hb hnt (args := args.map .v) (m0 := []) (nb0 := 0) (h := Below w.heap.size w) (by simpa using hlen) (lts_v _ _) (fun i b h => by simp [lk] at h) (fun k s h => by simp [z0, lk] at h) hvc cx0 (amb0 _ _ _) h0
  rw [cs_v] at h1
  refine h1.mono fun e w' ⟨s, σ', β', D', he, hv, _, _, hmem, _⟩ => ?_
  have hh := hmem.h w' (Chg.refl _ _)
  subst he
  exact hv.2 β' w' hh (hv.1 w' hh) fun i b hi hl => ⟨Nat.le_of_not_lt fun hlt => hmem.out i b hi hl (hmem.old hv.1 hlt), hmem.m i b hi⟩

theorem dropK_to {n : Nat} {s : SV} {r : List SV} : ∀ {l : List SV} {K : List SV → Prop}, l.drop n = s :: r → K (s :: r) → dropK n l K := by
  induction n with
  | zero => intro l K h hK; show K l; rw [List.drop_zero] at h; rw [h]; exact hK
  | succ n ih =>
    intro l K h hK
    cases l with
    | nil => simp at h
    | cons x l => exact ih (by simpa using h) hK
/-- What lies in an own row that somebody has made anew abides. -/
theorem own_st {β : Type} {sz : Nat} {f : β → List Value} (hf : ∀ x, (f x).length = sz) {bs : List β} {b c n m ty : Nat} {w : World} (hb : m ≤ b) (hn : n = bs.length) (h : w.ownsRow 0 ty sz (.slice (some ⟨b, 0, none⟩) n c) n (bs.flatMap f)) :
    St m (Rd sz f (.slice (some ⟨b, 0, none⟩) n c) bs) w := fun w2 k => by
  refine Rd.of_owns (sz := sz) (f := f) (base := 0) (ty := ty) hf rfl hn ?_
  have := Blk.keep (β := fun _ => c) (b := b) (k := .own 0 n sz (bs.flatMap f) ty) rfl h hb k
  exact this
end Go.Proofs.Ytaciigegbgnadaa.Tx
namespace Go.Proofs.Ytaciigegbgnadaa
open Go Tx Go.RowKit
theorem under4 : Try.prog.underlying 4 = some .bool := by kernel_rfl
theorem eqIn4 (d : Nat) (a b : Bool) (w : World) : (Op.equalIn (d + 1) 4 (.bool a) (.bool b)).run Try.prog w = .ok (a == b) w := by
  rw [Op.equalIn]
  simp [Sem.run_bind, Go.run_underlying under4 w]
theorem under3 : Try.prog.underlying 3 = some (.int .i64) := by kernel_rfl
theorem eqIn3 (d : Nat) (a b : Int) (w : World) : (Op.equalIn (d + 1) 3 (iv a) (iv b)).run Try.prog w = .ok (a == b) w := equalIn_int under3 a b
theorem eqlB (a b : Bool) (x y : Operand) : RunIs Try.prog (do eqGuard .eql 4 x y (.bool a) (.bool b); binOp .eql 4 (.bool a) (.bool b)) (.bool (a == b)) := fun w => by
  have h := eqIn4 9999 a b w
  simp [eqGuard, binOp, Op.equal, Op.maxDepth, h]
theorem eqlEB {a b : Bool} {x y : Operand} {K : Value → Prop} (h : K (.bool (a == b))) : ∃ v, (∀ _ : Nat → Nat, RunIs Try.prog (do eqGuard .eql 4 x y (.bool a) (.bool b); binOp .eql 4 (.bool a) (.bool b)) v) ∧ K v := ⟨_, fun _ => eqlB a b x y, h⟩

theorem FrIn.below {r : Rig} {n m : Nat} {F : Fr} {y : FrA} {w w' : World} (h : FrIn r n m F y w) (hb : Below w.heap.size w w') : FrIn r n m F y w' :=
  ⟨fun j v hj => ext_below hb (h.c j v hj), h.p.below hb, h.h.below hb⟩
/-- The pull of a load with which a row is greatest, or least. -/
def endV (r : Rig) (x : Int) (most : Bool) (l : Ld) : Int := if x ≠ 0 ∧ (decide (x > 0) = most) then hiP r l else l.lo
def endL (r : Rig) (x : Row) (most : Bool) (LL : List Ld) : List Int := (List.range LL.length).map fun k => match LL[k]? with | some l => endV r (x k) most l | none => 0
theorem endL_len (r : Rig) (x : Row) (most : Bool) (LL : List Ld) : (endL r x most LL).length = LL.length := by simp [endL]
theorem endL_at {r : Rig} {x : Row} {most : Bool} {LL : List Ld} {k : Nat} {l : Ld} (h : LL[k]? = some l) : (endL r x most LL)[k]? = some (endV r (x k) most l) := by
  have := (List.getElem?_eq_some_iff.1 h).1
  simp [endL, this]
  rw [List.getElem?_eq_getElem this] at h
  cases h; rfl
theorem row_at (x : Row) {k : Nat} (hk : k < 21) : (rwS x).drop k = .v (iv (x k)) :: (rwS x).drop (k + 1) := by
  rcases m22 (show k ≤ 21 by omega) with rfl | rfl | rfl | rfl | rfl | rfl | rfl | rfl | rfl | rfl | rfl | rfl | rfl | rfl | rfl | rfl | rfl | rfl | rfl | rfl | rfl | rfl
  all_goals first | rfl | (exfalso; omega)

theorem fac_bd {r : Rig} (h : [r.f0, r.f1, r.f2].all (fun n => inB n 1000 20000) = true) (k : Nat) : 1000 ≤ r.fac k ∧ r.fac k ≤ 20000 := by
  simp only [List.all_cons, List.all_nil, Bool.and_true, Bool.and_eq_true, inB_iff] at h
  unfold Rig.fac
  split <;> omega

set_option maxHeartbeats 8000000 in
set_option maxRecDepth 100000 in
theorem end_ok (r : Rig) (PP : List Int) (BB : List Bm) (LL : List Ld) (F : Fr) (y : FrA) (x : Row) (most : Bool) (w : World) (h : RigIn r PP BB LL w) (hr : rigOk r.f0 r.f1 r.f2 PP BB LL = true) (hy : FrIn r PP.length BB.length F y w) :
    Calls Try.prog 76 #[.pointer (some ⟨y.fb, 0, none⟩), .agg (rwL x).toArray, .bool most] w fun e w' => ∃ b c, e = .returned (.slice (some ⟨b, 0, none⟩) LL.length c) ∧ w.heap.size ≤ b ∧ Below w.heap.size w w' ∧
      w'.ownsRow 0 3 1 (.slice (some ⟨b, 0, none⟩) LL.length c) LL.length ((endL r x most LL).flatMap iF) := by
  obtain ⟨po, pn, pc, bo, bn, bc, f0, f1, f2, lo, ln, lc⟩ := r
  obtain ⟨hP, hB, hL, rfl, rfl, rfl, l1, l2, l3⟩ := h
  have hc := hy.c
  obtain ⟨fb, pb, pc', hb, hc', ub, uc⟩ := y
  dsimp only at hP hB hL l1 l2 l3 hr hc ⊢
  rw [rigOk_iff] at hr
  obtain ⟨q1, q2, q3, q4, q5, q6, q7⟩ := hr
  refine calls_fam2 env mixed Try.func76 has76 Try.ntmps76 [.pointer (some ⟨fb, 0, none⟩), .agg (rwL x).toArray, .bool most] (by simp) ?_
  have g5 := fun (w' : World) (hb : Below w.heap.size w w') => fun j v (h : [Value.slice lo LL.length lc][j]? = some v) => (show w'.cell? ((((⟨fb, 0, none⟩ : Addr).add 0).add 5).add j) = some v from by
    match j, h with
    | 0, h => cases h; rw [Addr.add_add, Addr.add_add]; exact ext_below hb (hc 5 _ rfl))
  repeat'
   conv => whnf
   first
    | refine zA ?_ | refine zB ?_ | refine zC ?_ | refine zD ?_ | refine zE ?_ | refine zF ?_ | refine zG ?_ | refine zH ?_ | refine zI ?_ | refine splT ?_ | refine splF ?_ | refine splNot ?_
    | ((first | refine splIn (fun hc => ?_) (fun hc => ?_) | refine splD (fun hc => ?_) (fun hc => ?_) | refine splE (fun hc => ?_) (fun hc => ?_) | refine splNE (fun hc => ?_) (fun hc => ?_)) <;> first | (exfalso; omega) | (exfalso; dsimp only at hc; omega) | skip)
    | refine nilX rfl rfl ?_
    | refine Exists.intro (α := List Value) [.slice lo LL.length lc] ⟨⟨rfl, fun w' hw' => g5 w' hw'⟩, ?_⟩
    | refine mkO env 1 LL.length ((List.replicate LL.length (0 : Int)).flatMap iF) rfl rfl rfl (by decide) rfl (by omega) (by decide) (by rw [List.flatMap_replicate]; rfl) rfl ?_
  refine loopN2 3 (fun (k : Nat) (D : List Int) => [(0, .v (.pointer (some ⟨fb, 0, none⟩))), (2, .v (.bool most)), (4, .ptr 0 0), (7, .os 1 2 LL.length), (18, .v (iv LL.length)), (19, .v (iv k))])
    (fun k D => [(0, .cells (rwS x) 142), (1, .own 2 LL.length 1 (D.flatMap iF) 3)])
    (fun k D => k ≤ LL.length ∧ D.length = LL.length ∧ D.take k = (endL ⟨po, PP.length, pc, bo, BB.length, bc, f0, f1, f2, lo, LL.length, lc⟩ x most LL).take k) (fun k _ => LL.length - k) 0 (List.replicate LL.length 0)
    ⟨Nat.zero_le _, by simp, rfl⟩ ⟨rfl, rfl, rfl, rfl, rfl, rfl, trivial⟩ ⟨rfl, rfl, trivial⟩ (fun _ _ _ => ⟨rfl, rfl⟩) ?_
  intro k D ⟨hk, hD, hDk⟩
  have hel := endL_len ⟨po, PP.length, pc, bo, BB.length, bc, f0, f1, f2, lo, LL.length, lc⟩ x most LL
  rcases Nat.lt_or_ge k LL.length with hkl | hkl
  · obtain ⟨l, hb⟩ : ∃ b, LL[k]? = some b := ⟨_, List.getElem?_eq_getElem hkl⟩
    have hlo := List.all_eq_true.1 q7 l (List.mem_of_getElem? hb)
    rw [ldOk_iff] at hlo
    have hnx : (endL ⟨po, PP.length, pc, bo, BB.length, bc, f0, f1, f2, lo, LL.length, lc⟩ x most LL).take (k + 1) = (endL ⟨po, PP.length, pc, bo, BB.length, bc, f0, f1, f2, lo, LL.length, lc⟩ x most LL).take k ++ [endV ⟨po, PP.length, pc, bo, BB.length, bc, f0, f1, f2, lo, LL.length, lc⟩ (x k) most l] := by
      rw [List.take_add_one, endL_at hb]; rfl
    have hfac := fac_bd (r := ⟨po, PP.length, pc, bo, BB.length, bc, f0, f1, f2, lo, LL.length, lc⟩) q6 l.kind
    have hp := fun (w' : World) (hb' : Below w.heap.size w w') => pull_ok ⟨po, PP.length, pc, bo, BB.length, bc, f0, f1, f2, lo, LL.length, lc⟩ LL k l w' (hL.below hb') rfl hb l3 (by omega) (by omega) (by omega)
    have hkD : k < D.length := by omega
    unfold endV at hnx
    have hxd := row_at x (show k < 21 by omega)
    generalize hiP ⟨po, PP.length, pc, bo, BB.length, bc, f0, f1, f2, lo, LL.length, lc⟩ l = hi at *
    have gA := fun (w' : World) (hb : Below w.heap.size w w') => fun j v (h : [Value.slice po PP.length pc, .slice bo BB.length bc, iv f0, iv f1, iv f2, .slice lo LL.length lc][j]? = some v) => (show w'.cell? (((⟨fb, 0, none⟩ : Addr).add 0).add j) = some v from by
      rw [Addr.add_add, Nat.zero_add]; exact ext_below hb (hc j _ (by
        have hj : j < 6 := (List.getElem?_eq_some_iff.1 h).1
        obtain rfl | rfl | rfl | rfl | rfl | rfl : j = 0 ∨ j = 1 ∨ j = 2 ∨ j = 3 ∨ j = 4 ∨ j = 5 := by omega
        all_goals exact h)))
    have hdr : (rwS x).drop (0 + (k : Int).toNat * ti3.size) = .v (iv (x k)) :: (rwS x).drop (k + 1) := by
      rw [Int.toNat_natCast, Nat.zero_add, show ti3.size = 1 from rfl, Nat.mul_one]; exact hxd
    cases most <;> by_cases hx0 : x k = 0
    all_goals skip
    repeat'
     conv => whnf
     first
      | refine zA ?_ | refine zB ?_ | refine zC ?_ | refine zD ?_ | refine zE ?_ | refine zF ?_ | refine zG ?_ | refine zH ?_ | refine zI ?_ | refine splT ?_ | refine splF ?_ | refine splNot ?_
      | ((first | refine splIn (fun hc => ?_) (fun hc => ?_) | refine splD (fun hc => ?_) (fun hc => ?_) | refine splE (fun hc => ?_) (fun hc => ?_) | refine splNE (fun hc => ?_) (fun hc => ?_)) <;> first | (exfalso; omega) | (exfalso; dsimp only at hc; omega) | skip)
      | refine nilX rfl rfl ?_
      | refine Exists.intro (α := List Value) [.slice po PP.length pc, .slice bo BB.length bc, iv f0, iv f1, iv f2, .slice lo LL.length lc] ⟨⟨rfl, fun w' hw' => gA w' hw'⟩, ?_⟩
      | ((with_reducible show CallEv _ _ 68 _ _ _ _ _); refine callE (k := 68) (fun β w' hbw => hp _ hbw) ?_)
      | refine dropK_to hdr ?_
      | refine eqlEB ?_
      | ((with_reducible show CallEv _ _ 99 _ _ _ _ _); refine callE (k := 99) (fun β w' hbw => choose_ok _ _ _ _) ?_)
      | (refine And.intro (a := _ + _ ≤ List.length _) (stS' hkD _) ?_; rw [stE hkD])
    all_goals first | (exfalso; omega) | skip
    all_goals first
      | exact ⟨k + 1, D.set k (if false = true then hi else l.lo), ⟨by omega, by rw [List.length_set]; exact hD, by rw [set_take hkD, hDk, hnx]; congr 2; by_cases hx1 : x k > 0 <;> simp [hx0, hx1]⟩, by omega, Ent.weak rfl ⟨rfl, rfl, rfl, rfl, rfl, rfl, trivial⟩ ⟨rfl, rfl, trivial⟩ fun _ h => h⟩
      | exact ⟨k + 1, D.set k (if (decide (x k > 0) == false) = true then hi else l.lo), ⟨by omega, by rw [List.length_set]; exact hD, by rw [set_take hkD, hDk, hnx]; congr 2; by_cases hx1 : x k > 0 <;> simp [hx0, hx1]⟩, by omega, Ent.weak rfl ⟨rfl, rfl, rfl, rfl, rfl, rfl, trivial⟩ ⟨rfl, rfl, trivial⟩ fun _ h => h⟩
      | exact ⟨k + 1, D.set k (if (decide (x k > 0) == true) = true then hi else l.lo), ⟨by omega, by rw [List.length_set]; exact hD, by rw [set_take hkD, hDk, hnx]; congr 2; by_cases hx1 : x k > 0 <;> simp [hx0, hx1]⟩, by omega, Ent.weak rfl ⟨rfl, rfl, rfl, rfl, rfl, rfl, trivial⟩ ⟨rfl, rfl, trivial⟩ fun _ h => h⟩
  · rw [List.take_of_length_le (by omega), List.take_of_length_le (by omega)] at hDk
    subst hDk
    repeat'
     conv => whnf
     first
      | refine zA ?_ | refine zB ?_ | refine zC ?_ | refine zD ?_ | refine zE ?_ | refine zF ?_ | refine zG ?_ | refine zH ?_ | refine zI ?_ | refine splT ?_ | refine splF ?_ | refine splNot ?_
      | ((first | refine splIn (fun hc => ?_) (fun hc => ?_) | refine splD (fun hc => ?_) (fun hc => ?_) | refine splE (fun hc => ?_) (fun hc => ?_) | refine splNE (fun hc => ?_) (fun hc => ?_)) <;> first | (exfalso; omega) | (exfalso; dsimp only at hc; omega) | skip)
    exact ⟨fun w' h => h, fun β w' hB hB2 hblk => ⟨β 1, β 2, rfl, (hblk 1 _ rfl rfl).1, hB2, (hblk 1 _ rfl rfl).2⟩⟩
end Go.Proofs.Ytaciigegbgnadaa
