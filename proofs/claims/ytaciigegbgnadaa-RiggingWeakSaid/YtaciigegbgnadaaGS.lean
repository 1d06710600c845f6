/- Engine arms that lacked: nil checks; callees that change rows of the caller; rows of rows written at a place. -/
import Derived.Test.YtaciigegbgnadaaGR
namespace Go.Proofs.Ytaciigegbgnadaa.Tx
open Go Go.RowKit
set_option linter.unusedSimpArgs false
set_option linter.unusedVariables false

theorem nilE {P : Program} {dst : Option Tmp} {ty : TypeId} {pos : String} {after : Array Edge} {gd : Option (Nat × Bool)} {gs : List Nat} {σ : Sg} {K : Ef → Prop} {KF : Option KT} {x : Operand} {i o : Nat} (hx : gv σ x = some (.ptr i o))
    (hB : efB σ ⟨.ptr i o, [], [], gs ++ os x, []⟩ = true) (hK : K ⟨.ptr i o, [], [], gs ++ os x, []⟩) : OpEvS P ⟨dst, .nilCheck x, ty, pos, after, gd⟩ gs σ K KF := by
  refine .mk _ hB (fun k hk => by simp [hk]) rfl (runOK_pure fun β a w hss => ?_) hK
  have e1 := gv_eval hss hx (fun k hk => by simp [hk])
  simp only [execOp, e1, SV.c, Sem.run_pure]
theorem nilX {P : Program} {dst : Option Tmp} {ty : TypeId} {pos : String} {after : Array Edge} {gd : Option (Nat × Bool)} {gs : List Nat} {σ : Sg} {K : Ef → Prop} {KF : Option KT} {x : Operand} {ad : Addr} (hx : gv σ x = some (.v (.pointer (some ad))))
    (hB : efB σ ⟨.v (.pointer (some ad)), [], [], gs ++ os x, []⟩ = true) (hK : K ⟨.v (.pointer (some ad)), [], [], gs ++ os x, []⟩) : OpEvS P ⟨dst, .nilCheck x, ty, pos, after, gd⟩ gs σ K KF := by
  refine .mk _ hB (fun k hk => by simp [hk]) rfl (runOK_pure fun β a w hss => ?_) hK
  have e1 := gv_eval hss hx (fun k hk => by simp [hk])
  simp only [execOp, e1, SV.c, Sem.run_pure]

mutual
theorem SV.c_lt {β β' : Nat → Nat} {n : Nat} (h : ∀ i, i < n → β' i = β i) : ∀ s : SV, s.lt n = true → s.c β' = s.c β
  | .v _, _ => rfl
  | .ptr i o, hs => by simp only [SV.lt, Nat.blt_eq] at hs; simp only [SV.c, h i hs]
  | .sl i _ _ _, hs => by simp only [SV.lt, Nat.blt_eq] at hs; simp only [SV.c, h i hs]
  | .os i j _, hs => by simp only [SV.lt, Bool.and_eq_true, Nat.blt_eq] at hs; simp only [SV.c, h i hs.1, h j hs.2]
  | .agg l, hs => by simp only [SV.lt] at hs; simp only [SV.c, SV.cs_lt h l hs]
  | .fn _ cap, hs => by simp only [SV.lt] at hs; simp only [SV.c, SV.cs_lt h cap hs]
  | .mv _ cap, hs => by simp only [SV.lt] at hs; simp only [SV.c, SV.cs_lt h cap hs]
  | .tup l, hs => by simp only [SV.lt] at hs; simp only [SV.c, SV.cs_lt h l hs]
theorem SV.cs_lt {β β' : Nat → Nat} {n : Nat} (h : ∀ i, i < n → β' i = β i) : ∀ l : List SV, SV.lts n l = true → SV.cs β' l = SV.cs β l
  | [], _ => rfl
  | x :: r, hs => by
    simp only [SV.lts, Bool.and_eq_true] at hs
    simp only [SV.cs, SV.c_lt h x hs.1, SV.cs_lt h r hs.2]
end
theorem Blk.ok_nm {β β' : Nat → Nat} {n : Nat} (h : ∀ i, i < n → β' i = β i) {w : World} {b : Nat} (k : Blk) (hk : k.lt n = true) (ho : k.ok β w b) : k.ok β' w b := by
  cases k with
  | gone => trivial
  | cells l ty => simp only [Blk.ok] at *; rw [SV.cs_lt h l hk]; exact ho
  | row xs ty => exact ho
  | own j n' sz xs ty => simp only [Blk.lt, Nat.blt_eq] at hk; simp only [Blk.ok, h j hk] at *; exact ho
  | grow j n' sz xs ty => simp only [Blk.lt, Bool.and_eq_true, Nat.blt_eq] at hk; simp only [Blk.ok, h j hk.1, SV.cs_lt h xs hk.2] at *; exact ho

/-- Ghosts that hold the names of the first own blocks. -/
def pinG : Nat → List (Nat × SV)
  | 0 => []
  | n + 1 => (n, .ptr n 0) :: pinG n
theorem pinG_lk : ∀ {n i : Nat}, i < n → lk (pinG n) i = some (.ptr i 0)
  | n + 1, i, h => by
    rw [pinG, lk]
    cases hb : Nat.beq i n with
    | true => rw [Nat.eq_of_beq_eq_true hb]; rfl
    | false =>
      have : i ≠ n := fun e => by subst e; simp at hb
      exact pinG_lk (by omega)
theorem pinG_all : ∀ {n k : Nat} {s : SV}, lk (pinG n) k = some s → k < n ∧ s = .ptr k 0
  | n + 1, k, s, h => by
    rw [pinG, lk] at h
    cases hb : Nat.beq k n with
    | true =>
      rw [hb, cond_true, Option.some.injEq] at h
      have := Nat.eq_of_beq_eq_true hb
      subst this
      exact ⟨by omega, h.symm⟩
    | false =>
      rw [hb, cond_false] at h
      have := pinG_all h
      exact ⟨by omega, this.2⟩

/-- **A CALLEE THAT CHANGES ROWS OF ITS CALLER**: m0 is what it finds, m1 what it leaves; it names the blocks as the caller does. -/
theorem calls_WS {P : Program} (T : Env P) (hm : P.follows .mixedOrders = true) {k : Nat} {fn : Func} {c : Code} (hfn : P.funcs[k]? = some fn) (hb : fn.body = some c) {nt : Nat} (hnt : fn.ntmps = nt) (args : List SV) (m0 m1 : List (Nat × Blk)) (nb0 : Nat) (v : Value)
    (hlen : args.length ≤ nt) (hargs : SV.lts nb0 args = true) (hm0 : mB nb0 m0 = true) (hm1 : mB nb0 m1 = true) (hlive : ∀ i b, lk m0 i = some b → b.live = true)
    {Hp : World → Prop} (hvc : ∀ h : World → Prop, (∀ w', h w' → Hp w') → vc T c ⟨nt, slotsOf 0 args, m0, nb0, h, ⟨pinG nb0, [], 0⟩⟩ (endΦ T fn fun s σ => (∀ β, s.c β = v) ∧ MSub σ.m m1 ∧ (∀ w', σ.h w' → h w') ∧ σ.z.g = pinG nb0))
    {β : Nat → Nat} {w : World} (hok : ∀ i b, lk m0 i = some b → b.ok β w (β i)) (hinj : ∀ i j bi bj, lk m0 i = some bi → lk m0 j = some bj → i ≠ j → β i ≠ β j) (hst : ∀ w', Chg (fun b => ∃ i bk, lk m0 i = some bk ∧ β i = b) w w' → Hp w') :
    Calls P k (SV.cs β args).toArray w fun e w' => e = .returned v ∧ Chg (fun b => ∃ i bk, lk m0 i = some bk ∧ β i = b) w w' ∧ ∀ i b, lk m1 i = some b → b.ok β w' (β i) := by
  have hmk := okB (nt := 0) (t := []) (m := m0) (nb := nb0) (h := fun _ => True) (z := ⟨[], [], 0⟩) rfl hm0 rfl
  have hm1k := okB (nt := 0) (t := []) (m := m1) (nb := nb0) (h := fun _ => True) (z := ⟨[], [], 0⟩) rfl hm1 rfl
  let D : Nat → Prop := fun b => b < w.heap.size ∧ ¬ ∃ i bk, lk m0 i = some bk ∧ β i = b
  let h0 : World → Prop := fun w' => Chg (fun b => ∃ i bk, lk m0 i = some bk ∧ β i = b) w w'
  let X : Cx := ⟨fun k => .pointer (some ⟨β k, 0, none⟩), [], []⟩
  have hmem : Mem ⟨nt, slotsOf 0 args, m0, nb0, h0, ⟨pinG nb0, [], 0⟩⟩ β D w :=
    ⟨hok, fun i j bi bj h1 h2 _ _ hne => hinj i j bi bj h1 h2 hne, fun i b hi _ hD => hD.2 ⟨i, b, hi, rfl⟩, fun b hD => hD.1,
     fun w' hc => ⟨hc.os, hc.tape, hc.output, hc.size, fun b hb hX => hc.same b hb (fun hD => hD ⟨hb, hX⟩)⟩⟩
  have hamb : Amb X ⟨pinG nb0, [], 0⟩ β D w :=
    ⟨fun k s hk => by rw [(pinG_all hk).2]; rfl, fun p hp => (by cases hp), fun i e hi => (by simp [lk] at hi), rfl, List.nodup_nil, fun d hd => (by cases hd)⟩
  have hg0 : ∀ k s, lk (pinG nb0) k = some s → s.lt nb0 = true := fun k s hk => by
    obtain ⟨h1, h2⟩ := pinG_all hk
    subst h2
    simp only [SV.lt, Nat.blt_eq]; exact h1
  refine (calls_vc T hm hfn hb hnt (args := args) (m0 := m0) (nb0 := nb0) (h := h0) (z0 := ⟨pinG nb0, [], 0⟩) hlen hargs hmk.wf.m hg0 (hvc h0 hst) X hamb hmem).mono fun e w' ⟨s, σ', β', D', he, ⟨h1, h2, h3, h4⟩, h5, h6, h7, h8⟩ => ?_
  have hpin : ∀ i, i < nb0 → β' i = β i := fun i hi => by
    have := h8.g i (.ptr i 0) (by rw [h4]; exact pinG_lk hi)
    simp only [X, SV.c, Value.pointer.injEq, Option.some.injEq, Addr.mk.injEq] at this
    exact this.1.symm
  refine ⟨by rw [he, h1], h3 w' (h7.h w' (Chg.refl _ _)), fun i b hi => ?_⟩
  obtain ⟨q1, q2⟩ := hm1k.wf.m i b hi
  have := h7.m i b (h2.get i b hi)
  rw [hpin i q1] at this
  exact Blk.ok_nm (fun j hj => (hpin j hj).symm) b q2 this

/-- The same, nothing said of the rest. -/
theorem calls_W {P : Program} (T : Env P) (hm : P.follows .mixedOrders = true) {k : Nat} {fn : Func} {c : Code} (hfn : P.funcs[k]? = some fn) (hb : fn.body = some c) {nt : Nat} (hnt : fn.ntmps = nt) (args : List SV) (m0 m1 : List (Nat × Blk)) (nb0 : Nat) (v : Value)
    (hlen : args.length ≤ nt) (hargs : SV.lts nb0 args = true) (hm0 : mB nb0 m0 = true) (hm1 : mB nb0 m1 = true) (hlive : ∀ i b, lk m0 i = some b → b.live = true)
    (hvc : ∀ h : World → Prop, vc T c ⟨nt, slotsOf 0 args, m0, nb0, h, ⟨pinG nb0, [], 0⟩⟩ (endΦ T fn fun s σ => (∀ β, s.c β = v) ∧ MSub σ.m m1 ∧ (∀ w', σ.h w' → h w') ∧ σ.z.g = pinG nb0))
    {β : Nat → Nat} {w : World} (hok : ∀ i b, lk m0 i = some b → b.ok β w (β i)) (hinj : ∀ i j bi bj, lk m0 i = some bi → lk m0 j = some bj → i ≠ j → β i ≠ β j) :
    Calls P k (SV.cs β args).toArray w fun e w' => e = .returned v ∧ Chg (fun b => ∃ i bk, lk m0 i = some bk ∧ β i = b) w w' ∧ ∀ i b, lk m1 i = some b → b.ok β w' (β i) :=
  calls_WS T hm hfn hb hnt args m0 m1 nb0 v hlen hargs hm0 hm1 hlive (Hp := fun _ => True) (fun h _ => hvc h) hok hinj fun _ _ => trivial

/-- The call of such a callee: what is said of the rest of the world abides when its rows change. -/
theorem callWS {P : Program} {σ : Sg} {k : Nat} {args : List SV} {rs : List Nat} {K : Ef → Prop} {KF : Option KT} (rb : List Nat) (m1 : List (Nat × Blk)) (v : Value)
    (hB : efB σ ⟨.v v, [], m1, [], rb⟩ = true) (hall : ∀ i ∈ rb, ∃ bk, (i, bk) ∈ m1)
    (h : ∀ β w, (∀ i ∈ rb, ∀ b, lk σ.m i = some b → b.ok β w (β i)) → (∀ i ∈ rb, ∀ j ∈ rb, ∀ bi bj, lk σ.m i = some bi → lk σ.m j = some bj → bi.live = true → bj.live = true → i ≠ j → β i ≠ β j) →
      (∀ w', Chg (fun b => ∃ i ∈ rb, (∃ bk, lk σ.m i = some bk ∧ bk.live = true) ∧ β i = b) w w' → σ.h w') →
      Calls P k (SV.cs β args).toArray w fun e w' => e = .returned v ∧ Chg (fun b => ∃ i ∈ rb, β i = b) w w' ∧ ∀ i b, (i, b) ∈ m1 → b.ok β w' (β i))
    (hK : K ⟨.v v, [], m1, rs, rb⟩) : CallEv P σ k args (efB σ) rs K KF :=
  .mk ⟨.v v, [], m1, [], rb⟩ hB (fun β w h1 h2 hst => (h β w h1 h2 hst).mono fun e w' ⟨he, hc, ho⟩ =>
    ⟨β, he, fun _ _ => rfl, ⟨hc.os, hc.tape, hc.output, hc.size, fun b hb hX => hc.same b hb fun ⟨i, hi, hib⟩ => hX (by obtain ⟨bk, hbk⟩ := hall i hi; exact ⟨i, bk, hbk, by simp, hib⟩)⟩, ho, fun i hi => (by cases hi), fun i hi => (by cases hi)⟩) hK
/-- The call of such a callee. -/
theorem callW {P : Program} {σ : Sg} {k : Nat} {args : List SV} {rs : List Nat} {K : Ef → Prop} {KF : Option KT} (rb : List Nat) (m1 : List (Nat × Blk)) (v : Value)
    (hB : efB σ ⟨.v v, [], m1, [], rb⟩ = true) (hall : ∀ i ∈ rb, ∃ bk, (i, bk) ∈ m1)
    (h : ∀ β w, (∀ i ∈ rb, ∀ b, lk σ.m i = some b → b.ok β w (β i)) → (∀ i ∈ rb, ∀ j ∈ rb, ∀ bi bj, lk σ.m i = some bi → lk σ.m j = some bj → bi.live = true → bj.live = true → i ≠ j → β i ≠ β j) → σ.h w →
      Calls P k (SV.cs β args).toArray w fun e w' => e = .returned v ∧ Chg (fun b => ∃ i ∈ rb, β i = b) w w' ∧ ∀ i b, (i, b) ∈ m1 → b.ok β w' (β i))
    (hK : K ⟨.v v, [], m1, rs, rb⟩) : CallEv P σ k args (efB σ) rs K KF :=
  callWS rb m1 v hB hall (fun β w h1 h2 hst => h β w h1 h2 (hst w (Chg.refl _ _))) hK

/-! ### Rows of equal parts -/
theorem fm_len {sz : Nat} {f : Nat → List Value} (hf : ∀ j, (f j).length = sz) : ∀ l : List Nat, (l.flatMap f).length = l.length * sz
  | [] => by simp
  | a :: l => by rw [List.flatMap_cons, List.length_append, hf, fm_len hf l, List.length_cons, Nat.succ_mul, Nat.add_comm]
theorem fm_split (f : Nat → List Value) {n k : Nat} (hk : k < n) : (List.range n).flatMap f = (List.range k).flatMap f ++ f k ++ ((List.range' (k + 1) (n - k - 1)).flatMap f) := by
  have : List.range n = List.range k ++ k :: List.range' (k + 1) (n - k - 1) := by
    rw [List.range_eq_range', List.range_eq_range', ← List.range'_succ, show n = k + (n - k - 1 + 1) from by omega, ← List.range'_append_1, Nat.zero_add]
    congr 2
    omega
  rw [this]
  simp [List.flatMap_append, List.flatMap_cons]
theorem fm_congr {f g : Nat → List Value} : ∀ {l : List Nat}, (∀ j ∈ l, f j = g j) → l.flatMap f = l.flatMap g
  | [], _ => rfl
  | a :: l, h => by rw [List.flatMap_cons, List.flatMap_cons, h a List.mem_cons_self, fm_congr fun j hj => h j (List.mem_cons_of_mem _ hj)]
/-- What lies at a place. -/
theorem fm_get {sz : Nat} {f : Nat → List Value} (hf : ∀ j, (f j).length = sz) {n k j : Nat} {v : Value} (hk : k < n) (hv : (f k)[j]? = some v) : ((List.range n).flatMap f)[k * sz + j]? = some v := by
  have hj : j < sz := by rw [← hf k]; exact (List.getElem?_eq_some_iff.1 hv).1
  have hl : ((List.range k).flatMap f).length = k * sz := by rw [fm_len hf, List.length_range]
  rw [fm_split f hk, List.append_assoc, List.getElem?_append_right (by omega), hl, Nat.add_sub_cancel_left, List.getElem?_append_left (by rw [hf]; exact hj), hv]
/-- One part written anew. -/
theorem fm_set {sz : Nat} {f : Nat → List Value} (hf : ∀ j, (f j).length = sz) {n k o : Nat} {v : List Value} (hk : k < n) (ho : o + v.length ≤ sz) :
    ((List.range n).flatMap f).take (k * sz + o) ++ v ++ ((List.range n).flatMap f).drop (k * sz + o + v.length) = (List.range n).flatMap (fun j => if j = k then (f k).take o ++ v ++ (f k).drop (o + v.length) else f j) := by
  have hl : ((List.range k).flatMap f).length = k * sz := by rw [fm_len hf, List.length_range]
  rw [fm_split (fun j => if j = k then (f k).take o ++ v ++ (f k).drop (o + v.length) else f j) hk, fm_split f hk, if_pos rfl]
  rw [fm_congr (f := fun j => if j = k then (f k).take o ++ v ++ (f k).drop (o + v.length) else f j) (g := f) (l := List.range k) (fun j hj => if_neg (by rw [List.mem_range] at hj; omega))]
  rw [fm_congr (f := fun j => if j = k then (f k).take o ++ v ++ (f k).drop (o + v.length) else f j) (g := f) (l := List.range' (k + 1) (n - k - 1)) (fun j hj => if_neg (by rw [List.mem_range'] at hj; omega))]
  have h1 : ((List.range k).flatMap f ++ f k ++ (List.range' (k + 1) (n - k - 1)).flatMap f).take (k * sz + o) = (List.range k).flatMap f ++ (f k).take o := by
    rw [List.append_assoc, ← hl, List.take_length_add_append, List.take_append_of_le_length (by rw [hf]; omega)]
  have h2 : ((List.range k).flatMap f ++ f k ++ (List.range' (k + 1) (n - k - 1)).flatMap f).drop (k * sz + o + v.length) = (f k).drop (o + v.length) ++ (List.range' (k + 1) (n - k - 1)).flatMap f := by
    rw [List.append_assoc, ← hl, Nat.add_assoc, List.drop_length_add_append, List.drop_append_of_le_length (by rw [hf]; omega)]
  rw [h1, h2]
  simp only [List.append_assoc]
end Go.Proofs.Ytaciigegbgnadaa.Tx
