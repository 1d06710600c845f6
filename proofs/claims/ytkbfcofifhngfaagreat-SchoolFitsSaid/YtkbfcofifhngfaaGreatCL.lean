/- Engine arms: make of any number of elements, copy of numbers, places in a block of 48 numbers, arrays compared. -/
import Derived.Test.YtkbfcofifhngfaaGreatCK
import Derived.ChangeKeysEq
import Derived.Laws.CopyRow
import Derived.Laws.StructEq
namespace Go.Proofs.YtkbfcofifhngfaaGreat.Tx
open Go Go.RowKit
set_option linter.unusedSimpArgs false
set_option linter.unusedVariables false

theorem replK_mk2 : ∀ {l ys : List SV} {K : List SV → Prop}, ys.length ≤ l.length → K (ys ++ l.drop ys.length) → replK l ys K
  | l, [], K, _, h => by cases l <;> simpa [replK] using h
  | x :: l, y :: ys, K, hn, h => replK_mk2 (l := l) (K := fun l => K (y :: l)) (by simpa using hn) h
  | [], y :: ys, _, hn, _ => by simp at hn
theorem splK_mk2 : ∀ {n : Nat} {l ys : List SV} {K : List SV → Prop}, n + ys.length ≤ l.length → K (l.take n ++ ys ++ l.drop (n + ys.length)) → splK n l ys K
  | 0, l, ys, K, hn, h => replK_mk2 (by omega) (by simpa using h)
  | n + 1, x :: l, ys, K, hn, h => by
    refine splK_mk2 (l := l) (K := fun l => K (x :: l)) (by simp only [List.length_cons] at hn; omega) ?_
    rw [show n + 1 + ys.length = (n + ys.length) + 1 from by omega] at h
    exact h
  | n + 1, [], ys, _, hn, _ => by simp at hn
theorem splK_to {n : Nat} {l ys l' : List SV} {K : List SV → Prop} (hl : n + ys.length ≤ l.length) (he : l.take n ++ ys ++ l.drop (n + ys.length) = l') (h : K l') : splK n l ys K := splK_mk2 hl (he ▸ h)
/-- Numbers copied into a block of ours. -/
theorem copyE {P : Program} (T : Env P) {dst : Option Tmp} {ty : TypeId} {pos : String} {after : Array Edge} {gd : Option (Nat × Bool)} {gs : List Nat} {σ : Sg} {K : Ef → Prop} {KF : Option KT} {t t' e i o n c m sc : Nat} {so : Option Addr} {x y : Operand} {l : List SV} {ty2 : Nat} (xs : List Value)
    {sz : Nat} {zr : List Value} {by_ : Nat} {ti : TI} (hx : gv σ x = some (.sl i o n c)) (hy : gv σ y = some (.v (.slice so m sc))) (hm : lk σ.m i = some (.cells l ty2)) (ht : T.ty t = some ⟨sz, zr, by_, .slice e⟩) (he : T.ty e = some ti) (h1 : ti.size = 1)
    (hmn : m ≤ n) (hxl : xs.length = m) (ho : o + m ≤ l.length) (hon : ∀ v ∈ xs, v.oneCell' = true) (hso : so = none → m = 0) (hrd : ∀ ad, so = some ad → ∀ w, σ.h w → ∀ j v, xs[j]? = some v → w.cell? (ad.add j) = some v)
    (l' : List SV) (hl' : l.take o ++ xs.map .v ++ l.drop (o + m) = l') (hi : Nat.blt i σ.nb = true) (hls : SV.lts σ.nb l' = true)
    (hK : K ⟨.v (iv m), [], [(i, .cells l' ty2)], gs ++ (os x ++ os y), [i]⟩) :
    OpEvS P ⟨dst, .call ⟨.builtin .copy, #[x, y], #[t, t']⟩, ty, pos, after, gd⟩ gs σ K KF := by
  refine .mk ⟨.v (iv m), [], [(i, .cells l' ty2)], gs ++ (os x ++ os y), [i]⟩ (by simp [efB, eqs, modsLt, oldB, keysB, nodupB, hi, Blk.lt, hls, hm, Blk.live, SV.lt, nin]) (fun k hk => by simp [hk]) rfl (fun β a w hs => ?_) hK
  have e1 := gv_eval hs hx (fun k hk => by simp [hk])
  have e2 := gv_eval hs hy (fun k hk => by simp [hk])
  have e3 : w.heap[β i]? = some (.cells (SV.cs β l).toArray ty2 (0, 0)) := by
    have := hs.m i (by simp) _ hm
    simpa [Blk.ok] using this
  have hu := under_slice (T.tok t _ ht) rfl
  have hcl : (SV.cs β l).length = l.length := by rw [SV.cs_eq, List.length_map]
  have hfc : (Builtin.firstCells 1 m (.slice so m sc)).run P w = .ok xs.toArray w := by
    cases so with
    | none =>
      have := hso rfl
      subst this
      have hx0 : xs = [] := List.eq_nil_of_length_eq_zero hxl
      subst hx0
      rw [run_firstCells_none]
    | some ad => exact run_firstCells_some w 1 m ad m sc xs (by rw [hxl, Nat.mul_one]) (hrd ad rfl w hs.h)
  have hrun := run_storeCells_at (P := P) (β i) o ty2 xs 0 _ w e3 (by rw [List.size_toArray, hcl]; omega) hon
  simp only [Nat.add_zero] at hrun
  refine ⟨β, w.setRow (β i) ((SV.cs β l).take o ++ xs ++ (SV.cs β l).drop (o + xs.length)).toArray, ?_, .inl ?_⟩
  · refine ⟨fun _ _ => rfl, ⟨rfl, rfl, rfl, by simp [World.setRow], fun b hb hX => ?_⟩, fun q b hq => ?_, fun q hq => (by cases hq), fun q hq => (by cases hq)⟩
    · have hne : β i ≠ b := fun e => hX ⟨i, _, List.mem_singleton.2 rfl, by simp, e⟩
      simp only [World.setRow, Array.getElem?_modify]
      rw [if_neg hne]
    · simp only [List.mem_singleton, Prod.mk.injEq] at hq
      obtain ⟨rfl, rfl⟩ := hq
      show Blk.ok β _ (β q) (.cells _ ty2)
      simp only [Blk.ok]
      rw [setRow_heap w _ _ _ ty2 _ e3, ← hl']
      congr 2
      rw [SV.cs_eq, SV.cs_eq, List.map_append, List.map_append, List.map_take, List.map_drop, hxl, List.map_map]
      congr 3
      exact (List.map_id _).symm
  · have hx0 : (#[x, y] : Array Operand).map a.eval = #[a.eval x, a.eval y] := by simp
    have hsz := (T.tok e ti he).run_sizeOf w
    have hmin : Nat.min m n = m := Nat.min_eq_left hmn
    simp only [execOp, resolve, invoke, builtin, hx0, e1, e2, SV.c]
    simp [Sem.run_bind, Builtin.copy_, Go.run_underlying hu w, Builtin.lenOf, hsz, h1, hmin, hfc, hrun, goInt]

end Go.Proofs.YtkbfcofifhngfaaGreat.Tx
namespace Go.Proofs.YtkbfcofifhngfaaGreat
open Go Tx Go.RowKit
set_option linter.unusedSimpArgs false
set_option linter.unusedVariables false
/-- Numbers, place by place. -/
def tbS (n : Nat) (f : Nat → Int) : List SV := (List.range n).map fun p => .v (iv (f p))
def tbV (n : Nat) (f : Nat → Int) : List Value := (List.range n).map fun p => iv (f p)
theorem tbS_v (n : Nat) (f : Nat → Int) : tbS n f = (tbV n f).map .v := by rw [tbS, tbV, List.map_map]; rfl
theorem tbS_len (n : Nat) (f : Nat → Int) : (tbS n f).length = n := by simp [tbS]
theorem tbV_len (n : Nat) (f : Nat → Int) : (tbV n f).length = n := by simp [tbV]
theorem tbS_lt (m n : Nat) (f : Nat → Int) : SV.lts m (tbS n f) = true := by rw [tbS_v]; exact lts_v _ _
theorem tbV_at {n : Nat} (f : Nat → Int) {p : Nat} (h : p < n) : (tbV n f)[p]? = some (iv (f p)) := by simp [tbV, h]
theorem tbS_drop {n : Nat} (f : Nat → Int) {p : Nat} (h : p < n) : (tbS n f).drop p = .v (iv (f p)) :: (tbS n f).drop (p + 1) := by
  rw [List.drop_eq_getElem_cons (by rw [tbS_len]; exact h)]
  simp [tbS]
def updF (f : Nat → Int) (p : Nat) (v : Int) : Nat → Int := fun q => if q = p then v else f q
theorem tbV_set {n : Nat} (f : Nat → Int) {p : Nat} (v : Int) (h : p < n) : (tbV n f).take p ++ [iv v] ++ (tbV n f).drop (p + 1) = tbV n (updF f p v) := by
  have e : (tbV n f).take p ++ [iv v] ++ (tbV n f).drop (p + 1) = (tbV n f).set p (iv v) := by
    rw [List.set_eq_take_append_cons_drop, if_pos (by rw [tbV_len]; exact h), List.append_assoc, List.singleton_append]
  rw [e]
  apply List.ext_getElem?
  intro q
  rw [List.getElem?_set, tbV_len]
  by_cases hq : p = q
  · subst hq; rw [if_pos rfl, if_pos h, tbV_at _ h]; simp [updF]
  · rw [if_neg hq]
    by_cases hn : q < n
    · rw [tbV_at _ hn, tbV_at _ hn, updF, if_neg (fun h => hq h.symm)]
    · rw [List.getElem?_eq_none (by rw [tbV_len]; omega), List.getElem?_eq_none (by rw [tbV_len]; omega)]
theorem tbS_set {n : Nat} (f : Nat → Int) {p : Nat} (v : Int) (h : p < n) : (tbS n f).take p ++ [.v (iv v)] ++ (tbS n f).drop (p + 1) = tbS n (updF f p v) := by
  rw [tbS_v, tbS_v, ← tbV_set f v h, List.map_append, List.map_append, List.map_take, List.map_drop]; rfl
theorem und3 : Tryz.prog.underlying 3 = some (.int .i64) := by kernel_rfl
theorem und116 : Tryz.prog.underlying 116 = some (.array 6 3) := by kernel_rfl
theorem und117 : Tryz.prog.underlying 117 = some (.array 8 116) := by kernel_rfl
theorem eqIn3 (d : Nat) (a b : Int) (w : World) : (Op.equalIn (d + 1) 3 (iv a) (iv b)).run Tryz.prog w = .ok (a == b) w := by
  simp [Op.equalIn, Go.run_underlying und3 w]
theorem part3 {X : Array Value} {o : Nat} {a : Int} (h : X[o]? = some (iv a)) (w : World) : (part 3 X o).run Tryz.prog w = .ok (iv a) w := by
  have ha : (isAgg 3).run Tryz.prog w = .ok false w := (env.tok 3 _ rfl).run_isAgg w
  simp [part, Sem.run_bind, ha, h]
theorem eqI3 (d : Nat) (f g : Nat → Int) (X Y : Array Value) (w : World) : ∀ is : List Nat, (∀ i ∈ is, X[i]? = some (iv (f i)) ∧ Y[i]? = some (iv (g i))) →
    (Op.eqItems (d + 1) 3 1 X Y is).run Tryz.prog w = .ok (is.all fun i => f i == g i) w := by
  intro is
  induction is with
  | nil => intro _; rfl
  | cons i is ih =>
    intro h
    have hi := h i (by simp)
    have ih := ih fun j hj => h j (by simp [hj])
    simp only [Op.eqItems, Sem.run_bind, Nat.mul_one, part3 hi.1 w, part3 hi.2 w, Result.andThen_ok, eqIn3, List.all_cons]
    cases hc : (f i == g i) with
    | true => simpa using ih
    | false => simp
theorem eqI116 (d : Nat) (f g : Nat → Int) (w : World) : ∀ is : List Nat, (∀ i ∈ is, i < 8) →
    (Op.eqItems (d + 2) 116 6 (tbV 48 f).toArray (tbV 48 g).toArray is).run Tryz.prog w = .ok (is.all fun i => (List.range 6).all fun j => f (i * 6 + j) == g (i * 6 + j)) w := by
  intro is
  induction is with
  | nil => intro _; rfl
  | cons i is ih =>
    intro h
    have hi := h i (by simp)
    have ih := ih fun j hj => h j (by simp [hj])
    have hp : ∀ f : Nat → Int, (part 116 (tbV 48 f).toArray (i * 6)).run Tryz.prog w = .ok (.agg ((tbV 48 f).toArray.extract (i * 6) (i * 6 + 6))) w := fun f => by
      have ha : (isAgg 116).run Tryz.prog w = .ok true w := (env.tok 116 _ rfl).run_isAgg w
      have hb : (sizeOf 116).run Tryz.prog w = .ok 6 w := (env.tok 116 _ rfl).run_sizeOf w
      simp only [part, Sem.run_bind, ha, hb, Result.andThen_ok, if_true, Sem.run_pure]
    have hx : ∀ (f : Nat → Int) (j : Nat), j < 6 → ((tbV 48 f).toArray.extract (i * 6) (i * 6 + 6))[j]? = some (iv (f (i * 6 + j))) := fun f j hj => by
      rw [Array.getElem?_extract, if_pos (by rw [List.size_toArray, tbV_len]; omega), List.getElem?_toArray, tbV_at f (by omega)]
    obtain ⟨i0, z, q1, _⟩ := (env.tok 3 _ rfl).row
    have h1 := run_equalIn_array (P := Tryz.prog) w (d + 1) ((tbV 48 f).toArray.extract (i * 6) (i * 6 + 6)) ((tbV 48 g).toArray.extract (i * 6) (i * 6 + 6)) und116 q1
    have h2 := eqI3 d (fun j => f (i * 6 + j)) (fun j => g (i * 6 + j)) ((tbV 48 f).toArray.extract (i * 6) (i * 6 + 6)) ((tbV 48 g).toArray.extract (i * 6) (i * 6 + 6)) w (List.range 6) (fun j hj => ⟨hx f j (List.mem_range.1 hj), hx g j (List.mem_range.1 hj)⟩)
    have hc3 : Tryz.prog.cellsOf 3 = 1 := by kernel_rfl
    rw [hc3, h2] at h1
    simp only [Op.eqItems, Sem.run_bind, hp, Result.andThen_ok, h1, List.all_cons]
    cases hc : ((List.range 6).all fun j => f (i * 6 + j) == g (i * 6 + j)) with
    | true => simpa using ih
    | false => simp
theorem all48 (f : Nat → Int) : ((List.range 8).all fun i => (List.range 6).all fun j => f (i * 6 + j) == 0) = alN (fun p => f p == 0) 48 := by
  rw [Bool.eq_iff_iff, alN_iff, List.all_eq_true]
  simp only [List.all_eq_true, List.mem_range]
  constructor
  · intro h p hp
    have := h (p / 6) (by omega) (p % 6) (by omega)
    rwa [show p / 6 * 6 + p % 6 = p by omega] at this
  · intro h i hi j hj
    exact h _ (by omega)
theorem eq48 (f : Nat → Int) (x y : Operand) : RunIs Tryz.prog (do eqGuard .eql 117 x y (.agg (tbV 48 f).toArray) (.agg (tbV 48 fun _ => 0).toArray); binOp .eql 117 (.agg (tbV 48 f).toArray) (.agg (tbV 48 fun _ => 0).toArray)) (.bool (alN (fun p => f p == 0) 48)) := fun w => by
  have hm : Tryz.prog.eqGuardType Tryz.prog.depth 117 = false := by kernel_rfl
  obtain ⟨i0, z, q1, _⟩ := (env.tok 116 _ rfl).row
  have h1 := run_equalIn_array (P := Tryz.prog) w 9999 (tbV 48 f).toArray (tbV 48 fun _ => 0).toArray und117 q1
  have h2 := eqI116 9997 f (fun _ => 0) w (List.range 8) (fun i hi => List.mem_range.1 hi)
  have hc3 : Tryz.prog.cellsOf 116 = 6 := by kernel_rfl
  rw [hc3, h2, all48] at h1
  have h0 := run_eqGuard_agg (P := Tryz.prog) w .eql 117 x y (tbV 48 f).toArray (tbV 48 fun _ => 0).toArray hm
  have h1' : (Op.equalIn 10000 117 (Value.agg (tbV 48 f).toArray) (Value.agg (tbV 48 fun _ => 0).toArray)).run Tryz.prog w = _ := h1
  simp only [Sem.run_bind, h0, Result.andThen_ok, run_eql_struct, h1']
theorem tbS_at (n : Nat) (f : Nat → Int) (q : Nat) : (tbS n f)[q]? = if q < n then some (.v (iv (f q))) else none := by
  by_cases h : q < n
  · simp [tbS, h]
  · rw [if_neg h, List.getElem?_eq_none (by rw [tbS_len]; omega)]
theorem tbS_congr {n : Nat} {f g : Nat → Int} (h : ∀ q, q < n → f q = g q) : tbS n f = tbS n g := by
  apply List.ext_getElem?
  intro q
  rw [tbS_at, tbS_at]
  by_cases hq : q < n
  · rw [if_pos hq, if_pos hq, h q hq]
  · rw [if_neg hq, if_neg hq]
theorem tbS_blit {n : Nat} (f : Nat → Int) (xs : List Int) {o : Nat} (h : o + xs.length ≤ n) :
    (tbS n f).take o ++ (xs.map iv).map .v ++ (tbS n f).drop (o + xs.length) = tbS n (fun q => if o ≤ q ∧ q < o + xs.length then xs.getD (q - o) 0 else f q) := by
  apply List.ext_getElem?
  intro q
  rw [tbS_at, List.append_assoc, List.getElem?_append, List.length_take, tbS_len, Nat.min_eq_left (by omega)]
  by_cases h1 : q < o
  · rw [if_pos h1, List.getElem?_take, if_pos h1, tbS_at]
    rw [if_pos (by omega), if_pos (by omega), if_neg (by omega)]
  · rw [if_neg h1, List.getElem?_append, List.length_map, List.length_map]
    by_cases h2 : q - o < xs.length
    · rw [if_pos h2, if_pos (by omega), if_pos (by omega), List.map_map, List.getElem?_map, List.getD_eq_getElem?_getD, List.getElem?_eq_getElem h2]; rfl
    · rw [if_neg h2, List.getElem?_drop, tbS_at, show o + xs.length + (q - o - xs.length) = q by omega]
      by_cases h3 : q < n
      · rw [if_pos h3, if_pos h3, if_neg (by omega)]
      · rw [if_neg h3, if_neg h3]
end Go.Proofs.YtkbfcofifhngfaaGreat
