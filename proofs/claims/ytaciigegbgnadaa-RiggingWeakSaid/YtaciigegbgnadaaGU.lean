/- A frame: its call of put; the rows that it makes. -/
import Derived.Test.YtaciigegbgnadaaGT
namespace Go.Proofs.Ytaciigegbgnadaa
open Go Tx Go.RowKit
set_option linter.unusedSimpArgs false
set_option linter.unusedVariables false

/-- What a place is given. -/
def tgt (F : Fr) (b a : Int) : Row := if b = -1 then F.p a.toNat else F.u b.toNat a.toNat
theorem put_ok (r : Rig) (n m : Nat) (F : Fr) (b a : Int) (x : Row) (hn : 1 ≤ n ∧ n ≤ 12) (hm : m ≤ 12) (hh : hasB n b a m = true) (hf : rwB (tgt F b a)) (hx : rwB x) {β : Nat → Nat} {w : World}
    (hok : ∀ i b, lk (frM r n m F) i = some b → b.ok β w (β i)) (hinj : ∀ i j bi bj, lk (frM r n m F) i = some bi → lk (frM r n m F) j = some bj → i ≠ j → β i ≠ β j) :
    Calls Try.prog 91 (SV.cs β [.ptr 7 0, .v (.agg #[iv b, iv a]), .v (.agg (rwL x).toArray)]).toArray w fun e w' => e = .returned (.tuple #[]) ∧ Chg (fun b => ∃ i bk, lk (frM r n m F) i = some bk ∧ β i = b) w w' ∧
      ∀ i bk, lk (frM r n m (putF F b a x)) i = some bk → bk.ok β w' (β i) := by
  unfold tgt at hf
  unfold putF
  rcases hasB_cases hh with ⟨rfl, h1, h2⟩ | ⟨hne, ⟨h1, h2⟩, h3, h4⟩
  · obtain ⟨k, rfl⟩ := Int.eq_ofNat_of_zero_le h1
    rw [if_pos rfl] at hf ⊢
    rw [Int.toNat_natCast] at hf ⊢
    exact put_p r n m F k x hn.2 (by omega) hf hx hok hinj
  · obtain ⟨k, rfl⟩ := Int.eq_ofNat_of_zero_le h3
    obtain ⟨q, rfl⟩ := Int.eq_ofNat_of_zero_le h1
    rw [if_neg hne] at hf ⊢
    rw [Int.toNat_natCast, Int.toNat_natCast] at hf ⊢
    exact put_u r n m F q k x hn hm (by omega) (by omega) hf hx hok hinj
theorem frM_lk {r : Rig} {n m : Nat} {F : Fr} {i : Nat} {b : Blk} (h : lk (frM r n m F) i = some b) : i = 7 ∧ b = .cells (frC r n m) 140 ∨ i = 1 ∧ b = .own 2 n 21 (ptsL n F) 142 ∨ i = 5 ∧ b = .own 6 m 1281 (hngL m F) 162 := by
  have := lk_mem h
  simp only [List.mem_cons, Prod.mk.injEq, List.not_mem_nil, or_false] at this
  exact this

/-- The call of put. -/
theorem callPut {σ : Sg} {args : List SV} {rs : List Nat} {K : Ef → Prop} {KF : Option KT} (r : Rig) (n m : Nat) (F : Fr) (b a : Int) (x : Row) (hn : 1 ≤ n ∧ n ≤ 12) (hm : m ≤ 12) (hh : hasB n b a m = true) (hf : rwB (tgt F b a)) (hx : rwB x)
    (e7 : lk σ.m 7 = some (.cells (frC r n m) 140)) (e1 : lk σ.m 1 = some (.own 2 n 21 (ptsL n F) 142)) (e5 : lk σ.m 5 = some (.own 6 m 1281 (hngL m F) 162))
    (ha : ∀ β, SV.cs β args = SV.cs β [.ptr 7 0, .v (.agg #[iv b, iv a]), .v (.agg (rwL x).toArray)])
    (hB : efB σ ⟨.v (.tuple #[]), [], frM r n m (putF F b a x), [], [7, 1, 5]⟩ = true) (hK : K ⟨.v (.tuple #[]), [], frM r n m (putF F b a x), rs, [7, 1, 5]⟩) : CallEv Try.prog σ 91 args (efB σ) rs K KF := by
  have he : ∀ {i : Nat} {bk : Blk}, lk (frM r n m F) i = some bk → lk σ.m i = some bk := fun h => by
    rcases frM_lk h with ⟨rfl, rfl⟩ | ⟨rfl, rfl⟩ | ⟨rfl, rfl⟩ <;> assumption
  have hmem : ∀ {i : Nat} {bk : Blk}, lk (frM r n m F) i = some bk → i ∈ [7, 1, 5] ∧ bk.live = true := fun h => by
    rcases frM_lk h with ⟨rfl, rfl⟩ | ⟨rfl, rfl⟩ | ⟨rfl, rfl⟩ <;> exact ⟨by simp, rfl⟩
  refine callW [7, 1, 5] (frM r n m (putF F b a x)) (.tuple #[]) hB (fun i hi => ?_) (fun β w h1 h2 _ => ?_) hK
  · simp only [List.mem_cons, List.not_mem_nil, or_false] at hi
    rcases hi with rfl | rfl | rfl
    · exact ⟨_, List.mem_cons_self⟩
    · exact ⟨_, List.mem_cons_of_mem _ List.mem_cons_self⟩
    · exact ⟨_, List.mem_cons_of_mem _ (List.mem_cons_of_mem _ List.mem_cons_self)⟩
  · rw [ha β]
    refine (put_ok r n m F b a x hn hm hh hf hx (β := β) (w := w) (fun i bk hi => h1 i (hmem hi).1 bk (he hi)) (fun i j bi bj hi hj hne => h2 i (hmem hi).1 j (hmem hj).1 bi bj (he hi) (he hj) (hmem hi).2 (hmem hj).2 hne)).mono fun e w' ⟨q1, q2, q3⟩ => ⟨q1, ?_, fun i bk hi => ?_⟩
    · exact ⟨q2.os, q2.tape, q2.output, q2.size, fun b hb hX => q2.same b hb fun ⟨i, bk, hi, hib⟩ => hX ⟨i, (hmem hi).1, hib⟩⟩
    · refine q3 i bk ?_
      simp only [List.mem_cons, Prod.mk.injEq, List.not_mem_nil, or_false] at hi
      rcases hi with ⟨rfl, rfl⟩ | ⟨rfl, rfl⟩ | ⟨rfl, rfl⟩ <;> rfl

/-- `idxS` where the element is known. -/
theorem idxL {P : Program} (T : Env P) {dst : Option Tmp} {ty : TypeId} {pos : String} {after : Array Edge} {gd : Option (Nat × Bool)} {gs : List Nat} {σ : Sg} {K : Ef → Prop} {KF : Option KT} {t e n : Nat} {x ix : Operand} {s0 : SV} {k : IntKind} {z : Int} (l : List SV)
    {sz : Nat} {zr : List Value} {by_ : Nat} {ti : TI} (hx : gv σ x = some s0) (hix : gv σ ix = some (.v (.int k z))) (ht : T.ty t = some ⟨sz, zr, by_, .arr n e⟩) (he : T.ty e = some ti) (h01 : 0 ≤ z ∧ z < n)
    (hag : s0.isAgg = true) (hl : (s0.cells.drop (z.toNat * ti.size)).take ti.size = l) (hlen : l.length = ti.size) (hagg : ti.kind.agg = true)
    (hB : efB σ ⟨.agg l, [], [], gs ++ (os x ++ os ix), []⟩ = true) (hK : K ⟨.agg l, [], [], gs ++ (os x ++ os ix), []⟩) : OpEvS P ⟨dst, .index t x ix, ty, pos, after, gd⟩ gs σ K KF := by
  subst hl
  exact idxS T hx hix ht he h01 hag hlen (.inl ⟨hagg, rfl⟩) hB hK
theorem callPutE {σ : Sg} {args : List SV} {rs : List Nat} {K : Ef → Prop} {KF : Option KT} (r : Rig) (n m : Nat) (F F' : Fr) (b a : Int) (x : Row) (hF : putF F b a x = F') (hn : 1 ≤ n ∧ n ≤ 12) (hm : m ≤ 12) (hh : hasB n b a m = true) (hf : rwB (tgt F b a)) (hx : rwB x)
    (e7 : lk σ.m 7 = some (.cells (frC r n m) 140)) (e1 : lk σ.m 1 = some (.own 2 n 21 (ptsL n F) 142)) (e5 : lk σ.m 5 = some (.own 6 m 1281 (hngL m F) 162))
    (ha : ∀ β, SV.cs β args = SV.cs β [.ptr 7 0, .v (.agg #[iv b, iv a]), .v (.agg (rwL x).toArray)])
    (hB : efB σ ⟨.v (.tuple #[]), [], frM r n m F', [], [7, 1, 5]⟩ = true) (hK : K ⟨.v (.tuple #[]), [], frM r n m F', rs, [7, 1, 5]⟩) : CallEv Try.prog σ 91 args (efB σ) rs K KF := by
  subst hF
  exact callPut r n m F b a x hn hm hh hf hx e7 e1 e5 ha hB hK
theorem putF_nat (F : Fr) (i : Nat) (x : Row) : putF F i 30 x = putU F i 30 x := by
  unfold putF
  rw [if_neg (by omega), Int.toNat_natCast]
  rfl

/-- The rows of a frame: those of loads, then of beams. -/
def setH (F : Fr) (b a : Nat) (x : Row) : Fr := { F with h := fun j c => if j = b then (if c = a then x else F.h j c) else F.h j c }
def F0 : Fr := ⟨fun _ => zr, fun _ _ => zr, fun _ _ => zr⟩
def unitR (k : Nat) : Row := fun i => bif Nat.beq i k then 216000 else 0
def wtR (b : Bm) : Row := fun i => bif Nat.beq i 20 then b.wt * 216000 else 0
def ldsF (LL : List Ld) : Nat → Fr
  | 0 => F0
  | k + 1 => match LL[k]? with
    | some l => putF (ldsF LL k) l.beam l.at' (unitR k)
    | none => ldsF LL k
def hStep (b : Bm) (i a : Nat) (F : Fr) : Fr := setH (setH F i 0 (addR (F.h i 0) (lft b.lo b.hi a (F.u i a)))) i 1 (addR (F.h i 1) (rgt b.lo b.hi a (F.u i a)))
def hgF (b : Bm) (i : Nat) (F : Fr) : Nat → Fr
  | 0 => F
  | a + 1 => hStep b i a (hgF b i F a)
def bmG (b : Bm) (i : Nat) (F : Fr) : Fr := hgF b i (putU F i 30 (wtR b)) 61
def bmF (b : Bm) (i : Nat) (F : Fr) : Fr := putF (putF (bmG b i F) b.ab b.aa ((bmG b i F).h i 0)) b.bb b.ba ((bmG b i F).h i 1)
def bmsF (BB : List Bm) (F : Fr) : Nat → Fr
  | 0 => F
  | k + 1 => match BB[BB.length - 1 - k]? with
    | some b => bmF b (BB.length - 1 - k) (bmsF BB F k)
    | none => bmsF BB F k
def frF (BB : List Bm) (LL : List Ld) : Fr := bmsF BB (ldsF LL LL.length) BB.length
theorem hgs_set {F : Fr} {m k a : Nat} (hk : k < m) (ha : a < 2) (x : Row) : (hgsL m F).take (k * 42 + a * 21) ++ rwL x ++ (hgsL m F).drop (k * 42 + a * 21 + 21) = hgsL m (setH F k a x) := by
  have := fm_set (sz := 42) (f := fun j => (List.range 2).flatMap fun a => rwL (F.h j a)) (hg_len F) (o := a * 21) (v := rwL x) hk (by rw [rwL_len]; omega)
  refine (Eq.trans this ?_)
  unfold hgsL
  refine fm_congr fun j _ => ?_
  by_cases h : j = k
  · subst h
    rw [if_pos rfl]
    have h2 := fm_set (sz := 21) (f := fun a => rwL (F.h j a)) (fun _ => rfl) (o := 0) (v := rwL x) ha (Nat.le_refl _)
    refine (Eq.trans h2 ?_)
    refine fm_congr fun c _ => ?_
    by_cases h : c = a
    · subst h
      rw [if_pos rfl]
      simp only [setH, if_true]
      rw [List.drop_of_length_le (by rw [rwL_len]; exact Nat.le_refl _)]
      simp
    · rw [if_neg h]; simp only [setH, if_true, if_neg h]
  · rw [if_neg h]; simp only [setH, if_neg h]
theorem fm_const (c : List Value) : ∀ n, (List.replicate n c).flatten = (List.range n).flatMap fun _ => c := by
  intro n
  rw [show (List.range n).flatMap (fun _ => c) = ((List.range n).map fun _ => c).flatten from by rw [List.flatMap_def]]
  congr 1
  rw [List.map_const', List.length_range]
theorem pts0 (n : Nat) : ptsL n F0 = (List.replicate n ti142.zero).flatten := by rw [fm_const]; rfl
theorem hgs0 (n : Nat) : hgsL n F0 = (List.replicate n ti144.zero).flatten := by rw [fm_const]; rfl
theorem hng0 (n : Nat) : hngL n F0 = (List.replicate n ti162.zero).flatten := by
  rw [fm_const]
  unfold hngL
  refine fm_congr fun j _ => ?_
  show (List.range 61).flatMap (fun _ => rwL zr) = _
  rw [← fm_const]
  show _ = List.replicate 1281 _
  rw [show rwL zr = List.replicate 21 (iv 0) from rfl, List.flatten_replicate_replicate]
end Go.Proofs.Ytaciigegbgnadaa
