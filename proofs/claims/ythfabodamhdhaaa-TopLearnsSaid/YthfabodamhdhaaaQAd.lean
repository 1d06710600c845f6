/- Part 4 of the proof: texts merged. -/
import Derived.Test.YthfabodamhdhaaaQAc
import Derived.Laws.OwnMore
import Derived.Maps.AppendAt
import Derived.Deep.RegionLaw
import Derived.Lib.SliceRun
import Derived.Shelf.RegionOpenPlain
import Derived.Lib.Walk
namespace Go.Proofs.Ythfabodamhdhaaa.Tx
open Go Go.RowKit
set_option linter.unusedSimpArgs false
set_option linter.unusedVariables false
theorem beqF {a b : Nat} (h : a ≠ b) : Nat.beq a b = false := by
 cases hb : Nat.beq a b with
 | false => rfl
 | true => exact absurd (Nat.eq_of_beq_eq_true hb) h
theorem callN {P : Program} {σ : Sg} {k : Nat} {args : List SV} {rs : List Nat} {K : Ef → Prop} {KF : Option KT} (nb : Nat) (rb : List Nat) (V : SV) (l : List SV) (ty : TypeId)
 (hB : efB σ ⟨V, [nb], [(nb, .cells l ty)], [], rb⟩ = true)
 (h : ∀ β w, (∀ i ∈ rb, ∀ b, lk σ.m i = some b → b.ok β w (β i)) → σ.h w → Calls P k (SV.cs β args).toArray w fun e w' => ∃ b, e = .returned (V.c fun i => bif Nat.beq i nb then b else β i) ∧ w.heap.size ≤ b ∧ Below w.heap.size w w' ∧
  (Blk.cells l ty).ok (fun i => bif Nat.beq i nb then b else β i) w' b)
 (hK : K ⟨V, [nb], [(nb, .cells l ty)], rs, rb⟩) : CallEv P σ k args (efB σ) rs K KF :=
 .mk ⟨V, [nb], [(nb, .cells l ty)], [], rb⟩ hB (fun β w h1 _ hst => (h β w h1 (hst w (Chg.refl _ _))).mono fun e w' ⟨b, he, hb, hB, ho⟩ => by
  have e1 : Nat.beq nb nb = true := Nat.beq_refl nb
  refine ⟨_, he, ?_, ⟨hB.os, hB.tape, hB.output, hB.size, fun i hi _ => hB.block i hi⟩, ?_, ?_, ?_⟩
  · intro i hi
    have h1 : ¬ i = nb := fun e => hi (by simp [e])
    simp only [beqF h1, cond_false]
  · intro i bk hm
    simp only [List.mem_singleton, Prod.mk.injEq] at hm
    obtain ⟨rfl, rfl⟩ := hm
    simp only [e1, cond_true]
    exact ho
  · intro i hi hl
    obtain ⟨bk, hm, _⟩ := hl
    simp only [List.mem_singleton, Prod.mk.injEq] at hm
    obtain ⟨rfl, _⟩ := hm
    simp only [e1, cond_true]
    exact .inl hb
  · intro i hi j hj hl hl' hne
    obtain ⟨bk, hm, _⟩ := hl
    obtain ⟨bk', hm', _⟩ := hl'
    simp only [List.mem_singleton, Prod.mk.injEq] at hm hm'
    exact absurd (hm.1.trans hm'.1.symm) hne) hK
theorem slHiS {P : Program} (T : Env P) {dst : Option Tmp} {ty : TypeId} {pos : String} {after : Array Edge} {gd : Option (Nat × Bool)} {gs : List Nat} {σ : Sg} {K : Ef → Prop} {KF : Option KT} {t e n c z i o : Nat} {x hi : Operand} {k : IntKind}
 {sz : Nat} {zr : List Value} {by_ : Nat} {ti : TI} (hx : gv σ x = some (.sl i o n c)) (hl : gv σ hi = some (.v (.int k z))) (ht : T.ty t = some ⟨sz, zr, by_, .slice e⟩) (he : T.ty e = some ti) (hc : z ≤ c)
 (hB : efB σ ⟨.sl i o z c, [], [], gs ++ (os x ++ os hi), []⟩ = true) (hK : K ⟨.sl i o z c, [], [], gs ++ (os x ++ os hi), []⟩) : OpEvS P ⟨dst, .slice t x none (some hi) none, ty, pos, after, gd⟩ gs σ K KF := by
 refine .mk _ hB (fun k hk => by simp [hk]) rfl (runOK_pure fun β a w hss => ?_) hK
 have e1 := gv_eval hss hx (fun k hk => by simp [hk])
 have e2 := gv_eval hss hl (fun k hk => by simp [hk])
 have hu := under_slice (T.tok t _ ht) rfl
 have hel : P.elem t = e := by simp [Program.elem, hu]
 have hu' : P.underlying t = some (.slice (P.elem t)) := by rw [hel]; exact hu
 have hsz := (T.tok e ti he).run_sizeOf w
 simp only [execOp, Option.map_some, Option.map_none, e1, e2, SV.c, Sem.run_bind, Sem.run_pure, Result.andThen_ok]
 rw [run_sliceAt_slice w t _ _ _ _ hu', run_slice_h w t _ _ _ hu' _ _ (by omega) (by omega), hel, hsz]
 simp only [Result.andThen_ok, sliced, Int.toNat_natCast, Option.map_some, Nat.zero_mul, Nat.sub_zero]
 have h0 : (⟨β i, o, none⟩ : Addr).add 0 = ⟨β i, o, none⟩ := by simp [Addr.add]
 rw [h0, ite_self]
end Go.Proofs.Ythfabodamhdhaaa.Tx
namespace Go.Proofs.Ythfabodamhdhaaa
open Go Tx Go.RowKit
set_option linter.unusedSimpArgs false
set_option linter.unusedVariables false
abbrev tsF (p : Nat × Nat) : List Value := [.int .u8 p.1, .func (.func p.2) #[] #[]]
def TS : List (Nat × Nat) := [(1, 144), (2, 145), (3, 146), (4, 148), (5, 150), (6, 153), (7, 154)]
def tsA (x : To) (S : List (Int × Int × Int)) (i : Nat) (k f l : Int) : List Bool := [ts1 x k, ts2 x k, ts3 x k f l, ts4 x k f l, ts5 S i k, ts6 x S i k f, ts7 x S i k l]
def fstT : List Bool → Nat → Nat
 | [], _ => 0
 | b :: r, n => if b = true then n + 1 else fstT r (n + 1)
def fltO (x : To) (S : List (Int × Int × Int)) (i : Nat) (k f l : Int) (m : Nat) : Nat := fstT ((tsA x S i k f l).take m) 0
theorem fstT_yes : ∀ {L : List Bool} {j n : Nat}, (∀ i, i < j → L[i]? = some false) → L[j]? = some true → fstT L n = n + j + 1
 | b :: r, 0, n, _, h => by
  simp only [List.getElem?_cons_zero, Option.some.injEq] at h
  rw [fstT, if_pos h]
 | b :: r, j + 1, n, h1, h => by
  have h0 := h1 0 (by omega)
  simp only [List.getElem?_cons_zero, Option.some.injEq] at h0
  subst h0
  rw [fstT, if_neg (by decide), fstT_yes (j := j) (fun i hi => by simpa using h1 (i + 1) (by omega)) (by simpa using h)]
  omega
theorem fstT_no : ∀ {L : List Bool} {n : Nat}, (∀ i, i < L.length → L[i]? = some false) → fstT L n = 0
 | [], _, _ => rfl
 | b :: r, n, h1 => by
  have h0 := h1 0 (by simp)
  simp only [List.getElem?_cons_zero, Option.some.injEq] at h0
  subst h0
  rw [fstT, if_neg (by decide)]
  exact fstT_no fun i hi => by simpa using h1 (i + 1) (by simp; omega)
theorem fltO_le (x : To) (S : List (Int × Int × Int)) (i : Nat) (k f l : Int) (m : Nat) : fltO x S i k f l m ≤ 7 := by
 have : ∀ (L : List Bool) (n : Nat), fstT L n ≤ n + L.length := by
  intro L
  induction L with
  | nil => intro n; simp [fstT]
  | cons b r ih =>
   intro n
   have := ih (n + 1)
   rw [fstT]
   split <;> simp only [List.length_cons] <;> omega
 have h := this ((tsA x S i k f l).take m) 0
 have h2 : ((tsA x S i k f l).take m).length ≤ 7 := by rw [List.length_take]; exact Nat.min_le_right _ _
 unfold fltO; omega
theorem lic_bd {x : To} (hn : ToN x) {k f l : Int} (h1 : 1 ≤ k ∧ k < x.T.length) (h4 : ts4 x k f l = false) : (0 ≤ f ∧ f ≤ 59) ∧ 0 ≤ l ∧ l ≤ 59 := by
 simp only [ts4, Bool.not_eq_false', licB, List.any_eq_true, inB, Bool.and_eq_true, decide_eq_true_eq] at h4
 obtain ⟨r, hr, h5⟩ := h4
 obtain ⟨t, ht⟩ : ∃ t, x.T[k.toNat]? = some t := ⟨_, List.getElem?_eq_getElem (by omega)⟩
 have htw : twO x k = t := by simp [twO, ht]
 rw [htw] at hr
 have hb := hn.t k.toNat (by omega) t ht
 have hd := hn.d
 have hop : ∀ (O : List (Int × Int)) (last : Int), apB x.days last O = true → -1 ≤ last → ∀ r ∈ O, 0 ≤ r.1 ∧ r.2 ≤ x.days - 1 := by
  intro O
  induction O with
  | nil => intro _ _ _ r hr; cases hr
  | cons q O ih =>
   intro last h hl r hr
   simp only [apB, Bool.and_eq_true, decide_eq_true_eq] at h
   rcases List.mem_cons.1 hr with rfl | hr
   · omega
   · exact ih q.2 h.2 (by omega) r hr
 simp only [twB, Bool.and_eq_true] at hb
 have h6 := hop t.O (-1) hb.2.1 (by omega) r hr
 omega
set_option maxHeartbeats 4000000 in
set_option maxRecDepth 100000 in
theorem fault_ok (x : Tr) (o : Option Addr) (c : Nat) (S : List (Int × Int × Int)) (i : Nat) (k f l : Int) (ta : Addr) (tac m : Nat) (w : World) (h : TrIn x w) (hn : ToN x.d) (hS : SpIn o c S w) (hi : S[i]? = some (k, f, l)) (hm : m ≤ 7)
 (hr : ∀ j p, j < m → TS[j]? = some p → ∀ q v, (tsF p)[q]? = some v → w.cell? ((ta.add (j * 2)).add q) = some v) :
 Calls Try.prog 108 #[x.v, .slice o S.length c, iv i, .slice (some ta) m tac] w fun e w' => e = .returned (.int .u8 (fltO x.d S i k f l m)) ∧ Below w.heap.size w w' := by
 have hlen : x.d.T.length = x.T.length := List.length_map ..
 have e0 : ∀ (j a b : Nat), j < m → TS[j]? = some (a, b) → ∀ (w' : World), Below w.heap.size w w' → ∀ q v, [Value.int .u8 a, Value.func (.func b) #[] #[]][q]? = some v → w'.cell? ((ta.add ((j : Int).toNat * 2)).add q) = some v := fun j a b hj hp w' hb q v hv => by
  rw [Int.toNat_natCast]
  exact ext_below hb (hr j _ hj hp q v hv)
 refine calls_val env mixed Try.func108 has108 Try.ntmps108 [.agg #[iv x.days, iv x.shift, iv x.size, .slice x.to x.T.length x.tc, .slice x.lo x.L.length x.lc], .slice o S.length c, iv i, .slice (some ta) m tac] (by simp) ?_
 repeat'
  conv => whnf
  first
   | refine zA ?_ | refine zB ?_ | refine zC ?_ | refine zD ?_ | refine zE ?_ | refine zF ?_ | refine zG ?_ | refine zH ?_ | refine zJ ?_ | refine zI ?_ | refine splT ?_ | refine splF ?_ | refine splNot ?_
   | ((first | refine splIn ?_ ?_ | refine splD ?_ ?_ | refine splE ?_ ?_ | refine splNE ?_ ?_) <;> intro hc <;> first | (exfalso; omega) | (exfalso; dsimp only at hc; omega) | skip)
 refine loopE (fun j : Nat => [(1, .v (.slice o S.length c)), (2, .v (iv i)), (4, .ptr 0 0), (8, .v (.int .u8 0)), (11, .v (.slice (some ta) m tac)), (12, .v (iv m)), (13, .v (iv j))]) (fun _ => [(0, .cells [.v (iv x.days), .v (iv x.shift), .v (iv x.size), .v (.slice x.to x.T.length x.tc), .v (.slice x.lo x.L.length x.lc)] 35)]) (fun j => j ≤ m ∧ ∀ j', j' < j → (tsA x.d S i k f l)[j']? = some false) (fun j => m - j) 0 ⟨Nat.zero_le _, fun j' hj' => by omega⟩ ⟨rfl, rfl, rfl, rfl, rfl, rfl, rfl, trivial⟩ ⟨rfl, trivial⟩ (fun _ => ⟨rfl, rfl⟩) ?_
 intro j ⟨hj, hall⟩
 rcases Nat.lt_or_ge j m with hlt | hge
 · obtain rfl | rfl | rfl | rfl | rfl | rfl | rfl : j = 0 ∨ j = 1 ∨ j = 2 ∨ j = 3 ∨ j = 4 ∨ j = 5 ∨ j = 6 := by omega
   · -- test 1
     have e1 := fun w' hw' => e0 0 1 144 hlt rfl w' hw'
     have ht := fun w' hb => test1_ok x o c S i k f l w' (h.below hb) hn (hS.below hb) hi
     obtain ⟨b, hb0⟩ : ∃ b, ts1 x.d k = b := ⟨_, rfl⟩
     rw [hb0] at ht
     have hb : (tsA x.d S i k f l)[0]? = some b := by rw [← hb0]; rfl
     cases b with
     | false =>
      have hall' : ∀ j', j' < 0 + 1 → (tsA x.d S i k f l)[j']? = some false := fun j' hj' => by
       rcases (by omega : j' = 0 ∨ j' < 0) with rfl | h
       · exact hb
       · exact hall j' h
      clear hall hn
      obtain ⟨days, shift, size, to, tc, T, lo, lc, L⟩ := x
      repeat'
       conv => whnf
       first
        | refine zA ?_ | refine zB ?_ | refine zC ?_ | refine zD ?_ | refine zE ?_ | refine zF ?_ | refine zG ?_ | refine zH ?_ | refine zJ ?_ | refine zI ?_ | refine splT ?_ | refine splF ?_ | refine splNot ?_
        | ((first | refine splIn ?_ ?_ | refine splD ?_ ?_ | refine splE ?_ ?_ | refine splNE ?_ ?_) <;> intro hc <;> first | (exfalso; omega) | (exfalso; dsimp only at hc; omega) | skip)
        | refine Exists.intro (α := List Value) [.int .u8 (1 : Nat), .func (.func 144) #[] #[]] ⟨⟨rfl, fun w' hw' => e1 w' hw'⟩, ?_⟩
        | ((with_reducible show CallEv _ _ 144 _ _ _ _ _); refine callE (k := 144) (fun β w' hbw => ht _ hbw) ?_)
      all_goals first | (exfalso; omega) | exact ⟨0 + 1, ⟨by omega, hall'⟩, by omega, Ent.weak rfl ⟨rfl, rfl, rfl, rfl, rfl, rfl, rfl, trivial⟩ ⟨rfl, trivial⟩ fun _ h => h⟩
     | true =>
      have hv : fltO x.d S i k f l m = 1 := by
       unfold fltO
       rw [fstT_yes (j := 0) (fun i' hi' => by rw [List.getElem?_take, if_pos (by omega)]; exact hall i' hi') (by rw [List.getElem?_take, if_pos (by omega)]; exact hb)]
      rw [hv]
      clear hall hn hv
      obtain ⟨days, shift, size, to, tc, T, lo, lc, L⟩ := x
      repeat'
       conv => whnf
       first
        | refine zA ?_ | refine zB ?_ | refine zC ?_ | refine zD ?_ | refine zE ?_ | refine zF ?_ | refine zG ?_ | refine zH ?_ | refine zJ ?_ | refine zI ?_ | refine splT ?_ | refine splF ?_ | refine splNot ?_
        | ((first | refine splIn ?_ ?_ | refine splD ?_ ?_ | refine splE ?_ ?_ | refine splNE ?_ ?_) <;> intro hc <;> first | (exfalso; omega) | (exfalso; dsimp only at hc; omega) | skip)
        | refine Exists.intro (α := List Value) [.int .u8 (1 : Nat), .func (.func 144) #[] #[]] ⟨⟨rfl, fun w' hw' => e1 w' hw'⟩, ?_⟩
        | ((with_reducible show CallEv _ _ 144 _ _ _ _ _); refine callE (k := 144) (fun β w' hbw => ht _ hbw) ?_)
      all_goals first | (exfalso; omega) | exact ⟨fun β => rfl, fun w' h => h⟩
   · -- test 2
     have e1 := fun w' hw' => e0 1 2 145 hlt rfl w' hw'
     have hkk : 1 ≤ k ∧ k < x.T.length := by
      have h0 := hall 0 (by omega)
      simp only [tsA, List.getElem?_cons_zero, Option.some.injEq, ts1, hlen, inB, Bool.not_eq_false', Bool.and_eq_true, decide_eq_true_eq] at h0
      omega
     have ht := fun w' hb => test2_ok x o c S i k f l w' (h.below hb) hn (hS.below hb) hi hkk
     obtain ⟨b, hb0⟩ : ∃ b, ts2 x.d k = b := ⟨_, rfl⟩
     rw [hb0] at ht
     have hb : (tsA x.d S i k f l)[1]? = some b := by rw [← hb0]; rfl
     cases b with
     | false =>
      have hall' : ∀ j', j' < 1 + 1 → (tsA x.d S i k f l)[j']? = some false := fun j' hj' => by
       rcases (by omega : j' = 1 ∨ j' < 1) with rfl | h
       · exact hb
       · exact hall j' h
      clear hall hn
      obtain ⟨days, shift, size, to, tc, T, lo, lc, L⟩ := x
      repeat'
       conv => whnf
       first
        | refine zA ?_ | refine zB ?_ | refine zC ?_ | refine zD ?_ | refine zE ?_ | refine zF ?_ | refine zG ?_ | refine zH ?_ | refine zJ ?_ | refine zI ?_ | refine splT ?_ | refine splF ?_ | refine splNot ?_
        | ((first | refine splIn ?_ ?_ | refine splD ?_ ?_ | refine splE ?_ ?_ | refine splNE ?_ ?_) <;> intro hc <;> first | (exfalso; omega) | (exfalso; dsimp only at hc; omega) | skip)
        | refine Exists.intro (α := List Value) [.int .u8 (2 : Nat), .func (.func 145) #[] #[]] ⟨⟨rfl, fun w' hw' => e1 w' hw'⟩, ?_⟩
        | ((with_reducible show CallEv _ _ 145 _ _ _ _ _); refine callE (k := 145) (fun β w' hbw => ht _ hbw) ?_)
      all_goals first | (exfalso; omega) | exact ⟨1 + 1, ⟨by omega, hall'⟩, by omega, Ent.weak rfl ⟨rfl, rfl, rfl, rfl, rfl, rfl, rfl, trivial⟩ ⟨rfl, trivial⟩ fun _ h => h⟩
     | true =>
      have hv : fltO x.d S i k f l m = 2 := by
       unfold fltO
       rw [fstT_yes (j := 1) (fun i' hi' => by rw [List.getElem?_take, if_pos (by omega)]; exact hall i' hi') (by rw [List.getElem?_take, if_pos (by omega)]; exact hb)]
      rw [hv]
      clear hall hn hv
      obtain ⟨days, shift, size, to, tc, T, lo, lc, L⟩ := x
      repeat'
       conv => whnf
       first
        | refine zA ?_ | refine zB ?_ | refine zC ?_ | refine zD ?_ | refine zE ?_ | refine zF ?_ | refine zG ?_ | refine zH ?_ | refine zJ ?_ | refine zI ?_ | refine splT ?_ | refine splF ?_ | refine splNot ?_
        | ((first | refine splIn ?_ ?_ | refine splD ?_ ?_ | refine splE ?_ ?_ | refine splNE ?_ ?_) <;> intro hc <;> first | (exfalso; omega) | (exfalso; dsimp only at hc; omega) | skip)
        | refine Exists.intro (α := List Value) [.int .u8 (2 : Nat), .func (.func 145) #[] #[]] ⟨⟨rfl, fun w' hw' => e1 w' hw'⟩, ?_⟩
        | ((with_reducible show CallEv _ _ 145 _ _ _ _ _); refine callE (k := 145) (fun β w' hbw => ht _ hbw) ?_)
      all_goals first | (exfalso; omega) | exact ⟨fun β => rfl, fun w' h => h⟩
   · -- test 3
     have e1 := fun w' hw' => e0 2 3 146 hlt rfl w' hw'
     have hkk : 1 ≤ k ∧ k < x.T.length := by
      have h0 := hall 0 (by omega)
      simp only [tsA, List.getElem?_cons_zero, Option.some.injEq, ts1, hlen, inB, Bool.not_eq_false', Bool.and_eq_true, decide_eq_true_eq] at h0
      omega
     have ht := fun w' hb => test3_ok x o c S i k f l w' (h.below hb) hn (hS.below hb) hi hkk
     obtain ⟨b, hb0⟩ : ∃ b, ts3 x.d k f l = b := ⟨_, rfl⟩
     rw [hb0] at ht
     have hb : (tsA x.d S i k f l)[2]? = some b := by rw [← hb0]; rfl
     cases b with
     | false =>
      have hall' : ∀ j', j' < 2 + 1 → (tsA x.d S i k f l)[j']? = some false := fun j' hj' => by
       rcases (by omega : j' = 2 ∨ j' < 2) with rfl | h
       · exact hb
       · exact hall j' h
      clear hall hn
      obtain ⟨days, shift, size, to, tc, T, lo, lc, L⟩ := x
      repeat'
       conv => whnf
       first
        | refine zA ?_ | refine zB ?_ | refine zC ?_ | refine zD ?_ | refine zE ?_ | refine zF ?_ | refine zG ?_ | refine zH ?_ | refine zJ ?_ | refine zI ?_ | refine splT ?_ | refine splF ?_ | refine splNot ?_
        | ((first | refine splIn ?_ ?_ | refine splD ?_ ?_ | refine splE ?_ ?_ | refine splNE ?_ ?_) <;> intro hc <;> first | (exfalso; omega) | (exfalso; dsimp only at hc; omega) | skip)
        | refine Exists.intro (α := List Value) [.int .u8 (3 : Nat), .func (.func 146) #[] #[]] ⟨⟨rfl, fun w' hw' => e1 w' hw'⟩, ?_⟩
        | ((with_reducible show CallEv _ _ 146 _ _ _ _ _); refine callE (k := 146) (fun β w' hbw => ht _ hbw) ?_)
      all_goals first | (exfalso; omega) | exact ⟨2 + 1, ⟨by omega, hall'⟩, by omega, Ent.weak rfl ⟨rfl, rfl, rfl, rfl, rfl, rfl, rfl, trivial⟩ ⟨rfl, trivial⟩ fun _ h => h⟩
     | true =>
      have hv : fltO x.d S i k f l m = 3 := by
       unfold fltO
       rw [fstT_yes (j := 2) (fun i' hi' => by rw [List.getElem?_take, if_pos (by omega)]; exact hall i' hi') (by rw [List.getElem?_take, if_pos (by omega)]; exact hb)]
      rw [hv]
      clear hall hn hv
      obtain ⟨days, shift, size, to, tc, T, lo, lc, L⟩ := x
      repeat'
       conv => whnf
       first
        | refine zA ?_ | refine zB ?_ | refine zC ?_ | refine zD ?_ | refine zE ?_ | refine zF ?_ | refine zG ?_ | refine zH ?_ | refine zJ ?_ | refine zI ?_ | refine splT ?_ | refine splF ?_ | refine splNot ?_
        | ((first | refine splIn ?_ ?_ | refine splD ?_ ?_ | refine splE ?_ ?_ | refine splNE ?_ ?_) <;> intro hc <;> first | (exfalso; omega) | (exfalso; dsimp only at hc; omega) | skip)
        | refine Exists.intro (α := List Value) [.int .u8 (3 : Nat), .func (.func 146) #[] #[]] ⟨⟨rfl, fun w' hw' => e1 w' hw'⟩, ?_⟩
        | ((with_reducible show CallEv _ _ 146 _ _ _ _ _); refine callE (k := 146) (fun β w' hbw => ht _ hbw) ?_)
      all_goals first | (exfalso; omega) | exact ⟨fun β => rfl, fun w' h => h⟩
   · -- test 4
     have e1 := fun w' hw' => e0 3 4 148 hlt rfl w' hw'
     have hkk : 1 ≤ k ∧ k < x.T.length := by
      have h0 := hall 0 (by omega)
      simp only [tsA, List.getElem?_cons_zero, Option.some.injEq, ts1, hlen, inB, Bool.not_eq_false', Bool.and_eq_true, decide_eq_true_eq] at h0
      omega
     have ht := fun w' hb => test4_ok x o c S i k f l w' (h.below hb) hn (hS.below hb) hi hkk
     obtain ⟨b, hb0⟩ : ∃ b, ts4 x.d k f l = b := ⟨_, rfl⟩
     rw [hb0] at ht
     have hb : (tsA x.d S i k f l)[3]? = some b := by rw [← hb0]; rfl
     cases b with
     | false =>
      have hall' : ∀ j', j' < 3 + 1 → (tsA x.d S i k f l)[j']? = some false := fun j' hj' => by
       rcases (by omega : j' = 3 ∨ j' < 3) with rfl | h
       · exact hb
       · exact hall j' h
      clear hall hn
      obtain ⟨days, shift, size, to, tc, T, lo, lc, L⟩ := x
      repeat'
       conv => whnf
       first
        | refine zA ?_ | refine zB ?_ | refine zC ?_ | refine zD ?_ | refine zE ?_ | refine zF ?_ | refine zG ?_ | refine zH ?_ | refine zJ ?_ | refine zI ?_ | refine splT ?_ | refine splF ?_ | refine splNot ?_
        | ((first | refine splIn ?_ ?_ | refine splD ?_ ?_ | refine splE ?_ ?_ | refine splNE ?_ ?_) <;> intro hc <;> first | (exfalso; omega) | (exfalso; dsimp only at hc; omega) | skip)
        | refine Exists.intro (α := List Value) [.int .u8 (4 : Nat), .func (.func 148) #[] #[]] ⟨⟨rfl, fun w' hw' => e1 w' hw'⟩, ?_⟩
        | ((with_reducible show CallEv _ _ 148 _ _ _ _ _); refine callE (k := 148) (fun β w' hbw => ht _ hbw) ?_)
      all_goals first | (exfalso; omega) | exact ⟨3 + 1, ⟨by omega, hall'⟩, by omega, Ent.weak rfl ⟨rfl, rfl, rfl, rfl, rfl, rfl, rfl, trivial⟩ ⟨rfl, trivial⟩ fun _ h => h⟩
     | true =>
      have hv : fltO x.d S i k f l m = 4 := by
       unfold fltO
       rw [fstT_yes (j := 3) (fun i' hi' => by rw [List.getElem?_take, if_pos (by omega)]; exact hall i' hi') (by rw [List.getElem?_take, if_pos (by omega)]; exact hb)]
      rw [hv]
      clear hall hn hv
      obtain ⟨days, shift, size, to, tc, T, lo, lc, L⟩ := x
      repeat'
       conv => whnf
       first
        | refine zA ?_ | refine zB ?_ | refine zC ?_ | refine zD ?_ | refine zE ?_ | refine zF ?_ | refine zG ?_ | refine zH ?_ | refine zJ ?_ | refine zI ?_ | refine splT ?_ | refine splF ?_ | refine splNot ?_
        | ((first | refine splIn ?_ ?_ | refine splD ?_ ?_ | refine splE ?_ ?_ | refine splNE ?_ ?_) <;> intro hc <;> first | (exfalso; omega) | (exfalso; dsimp only at hc; omega) | skip)
        | refine Exists.intro (α := List Value) [.int .u8 (4 : Nat), .func (.func 148) #[] #[]] ⟨⟨rfl, fun w' hw' => e1 w' hw'⟩, ?_⟩
        | ((with_reducible show CallEv _ _ 148 _ _ _ _ _); refine callE (k := 148) (fun β w' hbw => ht _ hbw) ?_)
      all_goals first | (exfalso; omega) | exact ⟨fun β => rfl, fun w' h => h⟩
   · -- test 5
     have e1 := fun w' hw' => e0 4 5 150 hlt rfl w' hw'
     have hkk : 1 ≤ k ∧ k < x.T.length := by
      have h0 := hall 0 (by omega)
      simp only [tsA, List.getElem?_cons_zero, Option.some.injEq, ts1, hlen, inB, Bool.not_eq_false', Bool.and_eq_true, decide_eq_true_eq] at h0
      omega
     have ht := fun w' hb => test5_ok x o c S i k f l w' (h.below hb) hn (hS.below hb) hi
     obtain ⟨b, hb0⟩ : ∃ b, ts5 S i k = b := ⟨_, rfl⟩
     rw [hb0] at ht
     have hb : (tsA x.d S i k f l)[4]? = some b := by rw [← hb0]; rfl
     cases b with
     | false =>
      have hall' : ∀ j', j' < 4 + 1 → (tsA x.d S i k f l)[j']? = some false := fun j' hj' => by
       rcases (by omega : j' = 4 ∨ j' < 4) with rfl | h
       · exact hb
       · exact hall j' h
      clear hall hn
      obtain ⟨days, shift, size, to, tc, T, lo, lc, L⟩ := x
      repeat'
       conv => whnf
       first
        | refine zA ?_ | refine zB ?_ | refine zC ?_ | refine zD ?_ | refine zE ?_ | refine zF ?_ | refine zG ?_ | refine zH ?_ | refine zJ ?_ | refine zI ?_ | refine splT ?_ | refine splF ?_ | refine splNot ?_
        | ((first | refine splIn ?_ ?_ | refine splD ?_ ?_ | refine splE ?_ ?_ | refine splNE ?_ ?_) <;> intro hc <;> first | (exfalso; omega) | (exfalso; dsimp only at hc; omega) | skip)
        | refine Exists.intro (α := List Value) [.int .u8 (5 : Nat), .func (.func 150) #[] #[]] ⟨⟨rfl, fun w' hw' => e1 w' hw'⟩, ?_⟩
        | ((with_reducible show CallEv _ _ 150 _ _ _ _ _); refine callE (k := 150) (fun β w' hbw => ht _ hbw) ?_)
      all_goals first | (exfalso; omega) | exact ⟨4 + 1, ⟨by omega, hall'⟩, by omega, Ent.weak rfl ⟨rfl, rfl, rfl, rfl, rfl, rfl, rfl, trivial⟩ ⟨rfl, trivial⟩ fun _ h => h⟩
     | true =>
      have hv : fltO x.d S i k f l m = 5 := by
       unfold fltO
       rw [fstT_yes (j := 4) (fun i' hi' => by rw [List.getElem?_take, if_pos (by omega)]; exact hall i' hi') (by rw [List.getElem?_take, if_pos (by omega)]; exact hb)]
      rw [hv]
      clear hall hn hv
      obtain ⟨days, shift, size, to, tc, T, lo, lc, L⟩ := x
      repeat'
       conv => whnf
       first
        | refine zA ?_ | refine zB ?_ | refine zC ?_ | refine zD ?_ | refine zE ?_ | refine zF ?_ | refine zG ?_ | refine zH ?_ | refine zJ ?_ | refine zI ?_ | refine splT ?_ | refine splF ?_ | refine splNot ?_
        | ((first | refine splIn ?_ ?_ | refine splD ?_ ?_ | refine splE ?_ ?_ | refine splNE ?_ ?_) <;> intro hc <;> first | (exfalso; omega) | (exfalso; dsimp only at hc; omega) | skip)
        | refine Exists.intro (α := List Value) [.int .u8 (5 : Nat), .func (.func 150) #[] #[]] ⟨⟨rfl, fun w' hw' => e1 w' hw'⟩, ?_⟩
        | ((with_reducible show CallEv _ _ 150 _ _ _ _ _); refine callE (k := 150) (fun β w' hbw => ht _ hbw) ?_)
      all_goals first | (exfalso; omega) | exact ⟨fun β => rfl, fun w' h => h⟩
   · -- test 6
     have e1 := fun w' hw' => e0 5 6 153 hlt rfl w' hw'
     have hkk : 1 ≤ k ∧ k < x.T.length := by
      have h0 := hall 0 (by omega)
      simp only [tsA, List.getElem?_cons_zero, Option.some.injEq, ts1, hlen, inB, Bool.not_eq_false', Bool.and_eq_true, decide_eq_true_eq] at h0
      omega
     have hlb := lic_bd hn (k := k) (f := f) (l := l) (by rw [hlen]; exact hkk) (by
      have h3 := hall 3 (by omega)
      simp only [tsA, List.getElem?_cons_succ, List.getElem?_cons_zero, Option.some.injEq] at h3
      exact h3)
     have ht := fun w' hb => test6_ok x o c S i k f l w' (h.below hb) hn (hS.below hb) hi hkk hlb.1
     obtain ⟨b, hb0⟩ : ∃ b, ts6 x.d S i k f = b := ⟨_, rfl⟩
     rw [hb0] at ht
     have hb : (tsA x.d S i k f l)[5]? = some b := by rw [← hb0]; rfl
     cases b with
     | false =>
      have hall' : ∀ j', j' < 5 + 1 → (tsA x.d S i k f l)[j']? = some false := fun j' hj' => by
       rcases (by omega : j' = 5 ∨ j' < 5) with rfl | h
       · exact hb
       · exact hall j' h
      clear hall hn
      obtain ⟨days, shift, size, to, tc, T, lo, lc, L⟩ := x
      repeat'
       conv => whnf
       first
        | refine zA ?_ | refine zB ?_ | refine zC ?_ | refine zD ?_ | refine zE ?_ | refine zF ?_ | refine zG ?_ | refine zH ?_ | refine zJ ?_ | refine zI ?_ | refine splT ?_ | refine splF ?_ | refine splNot ?_
        | ((first | refine splIn ?_ ?_ | refine splD ?_ ?_ | refine splE ?_ ?_ | refine splNE ?_ ?_) <;> intro hc <;> first | (exfalso; omega) | (exfalso; dsimp only at hc; omega) | skip)
        | refine Exists.intro (α := List Value) [.int .u8 (6 : Nat), .func (.func 153) #[] #[]] ⟨⟨rfl, fun w' hw' => e1 w' hw'⟩, ?_⟩
        | ((with_reducible show CallEv _ _ 153 _ _ _ _ _); refine callE (k := 153) (fun β w' hbw => ht _ hbw) ?_)
      all_goals first | (exfalso; omega) | exact ⟨5 + 1, ⟨by omega, hall'⟩, by omega, Ent.weak rfl ⟨rfl, rfl, rfl, rfl, rfl, rfl, rfl, trivial⟩ ⟨rfl, trivial⟩ fun _ h => h⟩
     | true =>
      have hv : fltO x.d S i k f l m = 6 := by
       unfold fltO
       rw [fstT_yes (j := 5) (fun i' hi' => by rw [List.getElem?_take, if_pos (by omega)]; exact hall i' hi') (by rw [List.getElem?_take, if_pos (by omega)]; exact hb)]
      rw [hv]
      clear hall hn hv
      obtain ⟨days, shift, size, to, tc, T, lo, lc, L⟩ := x
      repeat'
       conv => whnf
       first
        | refine zA ?_ | refine zB ?_ | refine zC ?_ | refine zD ?_ | refine zE ?_ | refine zF ?_ | refine zG ?_ | refine zH ?_ | refine zJ ?_ | refine zI ?_ | refine splT ?_ | refine splF ?_ | refine splNot ?_
        | ((first | refine splIn ?_ ?_ | refine splD ?_ ?_ | refine splE ?_ ?_ | refine splNE ?_ ?_) <;> intro hc <;> first | (exfalso; omega) | (exfalso; dsimp only at hc; omega) | skip)
        | refine Exists.intro (α := List Value) [.int .u8 (6 : Nat), .func (.func 153) #[] #[]] ⟨⟨rfl, fun w' hw' => e1 w' hw'⟩, ?_⟩
        | ((with_reducible show CallEv _ _ 153 _ _ _ _ _); refine callE (k := 153) (fun β w' hbw => ht _ hbw) ?_)
      all_goals first | (exfalso; omega) | exact ⟨fun β => rfl, fun w' h => h⟩
   · -- test 7
     have e1 := fun w' hw' => e0 6 7 154 hlt rfl w' hw'
     have hkk : 1 ≤ k ∧ k < x.T.length := by
      have h0 := hall 0 (by omega)
      simp only [tsA, List.getElem?_cons_zero, Option.some.injEq, ts1, hlen, inB, Bool.not_eq_false', Bool.and_eq_true, decide_eq_true_eq] at h0
      omega
     have hlb := lic_bd hn (k := k) (f := f) (l := l) (by rw [hlen]; exact hkk) (by
      have h3 := hall 3 (by omega)
      simp only [tsA, List.getElem?_cons_succ, List.getElem?_cons_zero, Option.some.injEq] at h3
      exact h3)
     have ht := fun w' hb => test7_ok x o c S i k f l w' (h.below hb) hn (hS.below hb) hi hkk hlb.2
     obtain ⟨b, hb0⟩ : ∃ b, ts7 x.d S i k l = b := ⟨_, rfl⟩
     rw [hb0] at ht
     have hb : (tsA x.d S i k f l)[6]? = some b := by rw [← hb0]; rfl
     cases b with
     | false =>
      have hall' : ∀ j', j' < 6 + 1 → (tsA x.d S i k f l)[j']? = some false := fun j' hj' => by
       rcases (by omega : j' = 6 ∨ j' < 6) with rfl | h
       · exact hb
       · exact hall j' h
      clear hall hn
      obtain ⟨days, shift, size, to, tc, T, lo, lc, L⟩ := x
      repeat'
       conv => whnf
       first
        | refine zA ?_ | refine zB ?_ | refine zC ?_ | refine zD ?_ | refine zE ?_ | refine zF ?_ | refine zG ?_ | refine zH ?_ | refine zJ ?_ | refine zI ?_ | refine splT ?_ | refine splF ?_ | refine splNot ?_
        | ((first | refine splIn ?_ ?_ | refine splD ?_ ?_ | refine splE ?_ ?_ | refine splNE ?_ ?_) <;> intro hc <;> first | (exfalso; omega) | (exfalso; dsimp only at hc; omega) | skip)
        | refine Exists.intro (α := List Value) [.int .u8 (7 : Nat), .func (.func 154) #[] #[]] ⟨⟨rfl, fun w' hw' => e1 w' hw'⟩, ?_⟩
        | ((with_reducible show CallEv _ _ 154 _ _ _ _ _); refine callE (k := 154) (fun β w' hbw => ht _ hbw) ?_)
      all_goals first | (exfalso; omega) | exact ⟨6 + 1, ⟨by omega, hall'⟩, by omega, Ent.weak rfl ⟨rfl, rfl, rfl, rfl, rfl, rfl, rfl, trivial⟩ ⟨rfl, trivial⟩ fun _ h => h⟩
     | true =>
      have hv : fltO x.d S i k f l m = 7 := by
       unfold fltO
       rw [fstT_yes (j := 6) (fun i' hi' => by rw [List.getElem?_take, if_pos (by omega)]; exact hall i' hi') (by rw [List.getElem?_take, if_pos (by omega)]; exact hb)]
      rw [hv]
      clear hall hn hv
      obtain ⟨days, shift, size, to, tc, T, lo, lc, L⟩ := x
      repeat'
       conv => whnf
       first
        | refine zA ?_ | refine zB ?_ | refine zC ?_ | refine zD ?_ | refine zE ?_ | refine zF ?_ | refine zG ?_ | refine zH ?_ | refine zJ ?_ | refine zI ?_ | refine splT ?_ | refine splF ?_ | refine splNot ?_
        | ((first | refine splIn ?_ ?_ | refine splD ?_ ?_ | refine splE ?_ ?_ | refine splNE ?_ ?_) <;> intro hc <;> first | (exfalso; omega) | (exfalso; dsimp only at hc; omega) | skip)
        | refine Exists.intro (α := List Value) [.int .u8 (7 : Nat), .func (.func 154) #[] #[]] ⟨⟨rfl, fun w' hw' => e1 w' hw'⟩, ?_⟩
        | ((with_reducible show CallEv _ _ 154 _ _ _ _ _); refine callE (k := 154) (fun β w' hbw => ht _ hbw) ?_)
      all_goals first | (exfalso; omega) | exact ⟨fun β => rfl, fun w' h => h⟩
 · obtain rfl : j = m := by omega
   have hv : fltO x.d S i k f l j = 0 := by
    unfold fltO
    refine fstT_no fun i' hi' => ?_
    rw [List.length_take] at hi'
    rw [List.getElem?_take, if_pos (by omega)]
    exact hall i' (by omega)
   rw [hv]
   clear hall hn hv
   obtain ⟨days, shift, size, to, tc, T, lo, lc, L⟩ := x
   repeat'
    conv => whnf
    first
     | refine zA ?_ | refine zB ?_ | refine zC ?_ | refine zD ?_ | refine zE ?_ | refine zF ?_ | refine zG ?_ | refine zH ?_ | refine zJ ?_ | refine zI ?_ | refine splT ?_ | refine splF ?_ | refine splNot ?_
     | ((first | refine splIn ?_ ?_ | refine splD ?_ ?_ | refine splE ?_ ?_ | refine splNE ?_ ?_) <;> intro hc <;> first | (exfalso; omega) | (exfalso; dsimp only at hc; omega) | skip)
   all_goals first | (exfalso; omega) | exact ⟨fun β => rfl, fun w' h => h⟩
abbrev tsL : List SV := [.v (.int .u8 1), .v (.func (.func 144) #[] #[]), .v (.int .u8 2), .v (.func (.func 145) #[] #[]), .v (.int .u8 3), .v (.func (.func 146) #[] #[]), .v (.int .u8 4), .v (.func (.func 148) #[] #[]), .v (.int .u8 5), .v (.func (.func 150) #[] #[]), .v (.int .u8 6), .v (.func (.func 153) #[] #[]), .v (.int .u8 7), .v (.func (.func 154) #[] #[])]
theorem tests_ok (w : World) : Calls Try.prog 109 #[] w fun e w' => ∃ b, e = .returned (.slice (some ⟨b, 0, none⟩) 7 7) ∧ w.heap.size ≤ b ∧ Below w.heap.size w w' ∧ ∀ β, (Blk.cells tsL 192).ok β w' b := by
 refine calls_fam2 env mixed Try.func109 has109 Try.ntmps109 [] (by simp) ?_
 repeat'
  conv => whnf
  first
   | refine zA ?_ | refine zB ?_ | refine zC ?_ | refine zD ?_ | refine zE ?_ | refine zF ?_ | refine zG ?_ | refine zH ?_ | refine zJ ?_ | refine zI ?_ | refine splT ?_ | refine splF ?_ | refine splNot ?_
   | ((first | refine splIn ?_ ?_ | refine splD ?_ ?_ | refine splE ?_ ?_ | refine splNE ?_ ?_) <;> intro hc <;> first | (exfalso; omega) | (exfalso; dsimp only at hc; omega) | skip)
 exact ⟨fun w' h => h, fun β w' hB hB2 hblk => ⟨β 0, rfl, (hblk 0 _ rfl rfl).1, hB2, fun _ => (hblk 0 _ rfl rfl).2⟩⟩
theorem ts_hr {b m : Nat} {β : Nat → Nat} {w : World} (h : (Blk.cells tsL 192).ok β w b) : ∀ j p, j < m → TS[j]? = some p → ∀ q v, (tsF p)[q]? = some v → w.cell? (((⟨b, 0, none⟩ : Addr).add (j * 2)).add q) = some v := fun j p _ hp => by
 have h2 : w.heap[b]? = some (.cells (TS.flatMap tsF).toArray 192 (0, 0)) := h
 exact rd_at (Rd.of_cells (f := tsF) (sz := 2) (c := 7) (fun _ => rfl) rfl h2) hp
set_option maxHeartbeats 1000000 in
set_option maxRecDepth 100000 in
theorem alone_ok (x : Tr) (k f l : Int) (w : World) (h : TrIn x w) (hn : ToN x.d) (hb : (-1000000000 ≤ f ∧ f ≤ 1000000000) ∧ -1000000000 ≤ l ∧ l ≤ 1000000000) :
 Calls Try.prog 115 #[x.v, .agg #[iv k, iv f, iv l]] w fun e w' => e = .returned (.bool (decide (fltO x.d [(k, f, l)] 0 k f l 4 = 0))) ∧ Below w.heap.size w w' := by
 have hfl := fltO_le x.d [(k, f, l)] 0 k f l 4
 have h108 := fun (w' : World) (hw' : Below w.heap.size w w') (so bt : Nat) (h1 : w'.heap[so]? = some (.cells [iv k, iv f, iv l].toArray 96 (0, 0))) (β : Nat → Nat) (h2 : (Blk.cells tsL 192).ok β w' bt) =>
  fault_ok x (some ⟨so, 0, none⟩) 1 [(k, f, l)] 0 k f l ⟨bt, 0, none⟩ 7 4 w' (h.below hw') hn ⟨Rd.of_cells (f := spF) (sz := 3) (bs := [(k, f, l)]) (c := 1) (fun _ => rfl) rfl h1, by simp, by simp, fun s hs => by rw [List.mem_singleton.1 hs]; dsimp only; omega⟩ rfl (by decide) (ts_hr h2)
 generalize fltO x.d [(k, f, l)] 0 k f l 4 = F at *
 refine calls_val env mixed Try.func115 has115 Try.ntmps115 [.agg #[iv x.days, iv x.shift, iv x.size, .slice x.to x.T.length x.tc, .slice x.lo x.L.length x.lc], .agg #[iv k, iv f, iv l]] (by simp) ?_
 clear hn h
 obtain ⟨days, shift, size, to, tc, T, lo, lc, L⟩ := x
 repeat'
  conv => whnf
  first
   | refine zA ?_ | refine zB ?_ | refine zC ?_ | refine zD ?_ | refine zE ?_ | refine zF ?_ | refine zG ?_ | refine zH ?_ | refine zJ ?_ | refine zI ?_ | refine splT ?_ | refine splF ?_ | refine splNot ?_
   | ((first | refine splIn ?_ ?_ | refine splD ?_ ?_ | refine splE ?_ ?_ | refine splNE ?_ ?_) <;> intro hc <;> first | (exfalso; omega) | (exfalso; dsimp only at hc; omega) | skip)
   | ((with_reducible show CallEv _ _ 109 _ _ _ _ _); refine callN 3 [] (.sl 3 0 7 7) tsL 192 rfl (fun β w' _ hbw => (tests_ok w').mono fun e w2 ⟨b, h1, h2, h3, h4⟩ => ⟨b, h1, h2, h3, h4 _⟩) ?_)
   | refine slHiS env (z := 4) rfl rfl rfl rfl (by omega) rfl ?_
   | ((with_reducible show CallEv _ _ 108 _ _ _ _ _); refine callM [2, 3] (fun β w' hbk hbw => h108 w' hbw (β 2) (β 3) (hbk 2 (by simp) _ rfl) β (hbk 3 (by simp) _ rfl)) ?_)
 all_goals first | (exfalso; omega) | exact ⟨fun β => congrArg Value.bool (by rw [Bool.eq_iff_iff, beq_iff_eq, decide_eq_true_eq]; omega), fun w' h => h⟩
end Go.Proofs.Ythfabodamhdhaaa
namespace Go.Proofs.Ythfabodamhdhaaa
open Go Tx Go.RowKit
set_option linter.unusedSimpArgs false
set_option linter.unusedVariables false
theorem one_rd {w : World} {β : Nat → Nat} {b : Nat} {a : Int} (h : (Blk.cells [.v (iv a)] 3).ok β w b) : Rd 1 iF (.slice (some ⟨b, 0, none⟩) 1 1) [a] w := Rd.of_cells (f := iF) (bs := [a]) (ty := 3) (fun _ => rfl) rfl h
set_option maxHeartbeats 2000000 in
set_option maxRecDepth 100000 in
theorem sHas1_ok (x : Cr) (o : Option Addr) (c : Nat) (S : List Sy) (w : World) (h : CrIn x w) (hS : SyIn o c S w) (h0 : ckE x.N x.wk x.CC (S.map Sy.d) = 0) (h1 : x.N.length = 1) :
 Calls Try.prog 85 #[x.v, .slice o S.length c] w fun e w' => ∃ y : Nat × Nat, e = .returned (.tuple #[.slice (some ⟨y.1, 0, none⟩) 1 1, .slice (some ⟨y.2, 0, none⟩) 1 1, iv 0]) ∧ Below w.heap.size w w' ∧
  St w.heap.size (fun w2 => Rd 1 iF (.slice (some ⟨y.1, 0, none⟩) 1 1) [hsV x.CC (S.map Sy.d) 0] w2 ∧ Rd 1 iF (.slice (some ⟨y.2, 0, none⟩) 1 1) [lfV x.N x.CC (S.map Sy.d) 0] w2) w' := by
 have hck := fun w' hb => scheck_ok x o c S w' (h.below hb) (hS.below hb)
 have hy := YrOk.of h0
 have h79 := fun w' hb => hasC_ok x o c S 0 w' (h.below hb) (hS.below hb) hy (by omega)
 have h80 := fun w' hb => leftC_ok x o c S 0 w' (h.below hb) (hS.below hb) hy (by omega)
 rw [h0] at hck
 generalize hsV x.CC (S.map Sy.d) 0 = A at *
 generalize lfV x.N x.CC (S.map Sy.d) 0 = B at *
 clear hy h0 h hS
 obtain ⟨no, nc, N, wk, co, cc, C⟩ := x
 dsimp only at hck h79 h80 h1 ⊢
 simp only [Cr.v, Cr.ch, h1] at hck h79 h80 ⊢
 have e79 := fun w' hb => one121_own no nc wk co C.length cc (.slice o S.length c) A w' (fun w2 hb2 => h79 w2 (sbelow_tr hb hb2))
 have e80 := fun w' hb => one122_own no nc wk co C.length cc (.slice o S.length c) B w' (fun w2 hb2 => h80 w2 (sbelow_tr hb hb2))
 clear h79 h80
 refine calls_fam env mixed Try.func85 has85 Try.ntmps85 [.agg #[.slice no 1 nc, iv wk, .slice co C.length cc], .slice o S.length c] (by simp) ?_
 repeat'
  conv => whnf
  first
   | refine zA ?_ | refine zB ?_ | refine zC ?_ | refine zD ?_ | refine zE ?_ | refine zF ?_ | refine zG ?_ | refine zH ?_ | refine zJ ?_ | refine zI ?_ | refine splT ?_ | refine splF ?_ | refine splNot ?_
   | ((first | refine splIn ?_ ?_ | refine splD ?_ ?_ | refine splE ?_ ?_ | refine splNE ?_ ?_) <;> intro hc <;> first | (exfalso; omega) | (exfalso; dsimp only at hc; omega) | skip)
   | ((with_reducible show CallEv _ _ 119 _ _ _ _ _); refine callE (k := 119) (fun β w' hbw => hck _ hbw) ?_)
   | refine mkMv (.agg #[.slice no 1 nc, iv wk, .slice co C.length cc, .slice o S.length c]) rfl (fun _ => rfl) rfl ?_
   | ((with_reducible show CallEv _ _ 120 [_, .v (.func (.func 121) _ _)] _ _ _ _); refine callN 2 [] (.sl 2 0 1 1) [.v (iv A)] 3 rfl (fun β w' _ hbw => (e79 w' hbw).mono fun _ _ ⟨b, g1, g2, g3, g4⟩ => ⟨b, g1, g3, g2, g4⟩) ?_)
   | ((with_reducible show CallEv _ _ 120 [_, .v (.func (.func 122) _ _)] _ _ _ _); refine callN 3 [] (.sl 3 0 1 1) [.v (iv B)] 3 rfl (fun β w' _ hbw => (e80 w' hbw).mono fun _ _ ⟨b, g1, g2, g3, g4⟩ => ⟨b, g1, g3, g2, g4⟩) ?_)
 exact ⟨fun w' h => h, fun β w' hB hblk => ⟨(β 2, β 3), rfl, ((hblk 2 _ rfl rfl).imp (fun w2 q => one_rd q)).and ((hblk 3 _ rfl rfl).imp (fun w2 q => one_rd q))⟩⟩
end Go.Proofs.Ythfabodamhdhaaa
namespace Go.Proofs.Ythfabodamhdhaaa
open Go Tx Go.RowKit
set_option linter.unusedSimpArgs false
set_option linter.unusedVariables false
def lrD (h : Int) (s : Int × Int × Int) : Int × List Int := (s.1, [h * (s.2.2 - s.2.1 + 1)])
def dyS (S : List (Int × Int × Int)) : Int := (S.map fun s => s.2.2 - s.2.1 + 1).sum
def LrOk (m : Nat) (S : List (Int × Int × Int)) : Prop := S.length ≤ 60 ∧ ∀ s ∈ S, (0 ≤ s.1 ∧ s.1 < m) ∧ (-1000 ≤ s.2.1 ∧ s.2.2 ≤ 1000) ∧ 1 ≤ s.2.2 - s.2.1 + 1 ∧ s.2.2 - s.2.1 + 1 ≤ 10
theorem lr_has {m : Nat} {h : Int} : ∀ {S : List (Int × Int × Int)}, (∀ s ∈ S, 0 ≤ s.1 ∧ s.1 < m) → hsS (List.replicate m [1000]) (S.map (lrD h)) 0 = 1000 * (h * dyS S)
 | [], _ => by simp [hsS, dyS]
 | s :: S, hs => by
  have ih := lr_has (h := h) (S := S) (fun s hs' => hs s (List.mem_cons_of_mem _ hs'))
  have h1 := hs s (List.mem_cons_self ..)
  have h2 : tmS (List.replicate m [1000]) 0 (lrD h s) = h * (s.2.2 - s.2.1 + 1) * 1000 := by
   unfold tmS rwA lrD
   rw [List.getElem?_replicate, if_pos (by omega)]
   rfl
  simp only [hsS, List.map_cons, List.sum_cons, dyS] at ih ⊢
  rw [ih, h2]
  generalize (List.map (fun s : Int × Int × Int => s.2.2 - s.2.1 + 1) S).sum = T
  generalize s.2.2 - s.2.1 + 1 = D
  rw [Int.mul_add h D T, Int.mul_add, Int.mul_comm (h * D) 1000]
theorem dy_bd : ∀ {S : List (Int × Int × Int)}, (∀ s ∈ S, 1 ≤ s.2.2 - s.2.1 + 1 ∧ s.2.2 - s.2.1 + 1 ≤ 10) → 0 ≤ dyS S ∧ dyS S ≤ 10 * S.length
 | [], _ => by simp [dyS]
 | s :: S, hs => by
  have ih := dy_bd (S := S) (fun s hs' => hs s (List.mem_cons_of_mem _ hs'))
  have h1 := hs s (List.mem_cons_self ..)
  simp only [dyS, List.map_cons, List.sum_cons, List.length_cons] at ih ⊢
  omega
theorem lr_hv {m : Nat} {h : Int} {S : List (Int × Int × Int)} (hS : LrOk m S) (hh : 0 ≤ h ∧ h ≤ 4) : hsV (List.replicate m [1000]) (S.map (lrD h)) 0 = h * dyS S ∧ 0 ≤ h * dyS S ∧ h * dyS S ≤ 2400 := by
 have hd := dy_bd (S := S) fun s hs => (hS.2 s hs).2.2
 have h0 : 0 ≤ h * dyS S := Int.mul_nonneg hh.1 hd.1
 have h1 : h * dyS S ≤ 4 * 600 := Int.mul_le_mul hh.2 (by have := hS.1; omega) hd.1 (by omega)
 refine ⟨?_, h0, by omega⟩
 unfold hsV
 rw [lr_has fun s hs => (hS.2 s hs).1, Int.mul_tdiv_cancel_left _ (by decide)]
theorem lr_ck {m : Nat} {h : Int} {S : List (Int × Int × Int)} (hS : LrOk m S) (hh : 0 ≤ h ∧ h ≤ 4) (hm : 1 ≤ m ∧ m ≤ 20) : ckE [2000] 60 (List.replicate m [1000]) (S.map (lrD h)) = 0 := by
 have hc : crOk [2000] 60 (List.replicate m [1000]) = true := by
  simp only [crOk, inB, evB, Bool.and_eq_true, decide_eq_true_eq, List.length_replicate, List.all_eq_true, List.length_singleton]
  refine ⟨⟨⟨⟨by decide, fun n hn => ?_⟩, by decide⟩, by omega⟩, fun l hl => ?_⟩
  · rw [List.mem_singleton] at hn; subst hn; decide
  · rw [(List.mem_replicate.1 hl).2]; decide
 unfold ckE
 rw [if_pos hc]
 unfold stE
 have hl := hS.1
 rw [if_neg (by rw [List.length_map]; omega), if_pos]
 rw [List.all_eq_true]
 intro s hs
 obtain ⟨q, hq, rfl⟩ := List.mem_map.1 hs
 have h1 := hS.2 q hq
 have h2 : 0 ≤ h * (q.2.2 - q.2.1 + 1) := Int.mul_nonneg hh.1 (by omega)
 have h3 : h * (q.2.2 - q.2.1 + 1) ≤ 4 * 10 := Int.mul_le_mul hh.2 h1.2.2.2 (by omega) (by omega)
 have h4 := h1.1
 have h5 : ((List.replicate m [(1000 : Int)]).length : Int) = m := by rw [List.length_replicate]
 have e1 : inB (lrD h q).1 0 ((m : Int) - 1) = true := by
  show inB q.1 0 ((m : Int) - 1) = true
  simp [inB]; omega
 have e2 : evB (lrD h q).2 0 40 = true := by
  show evB [h * (q.2.2 - q.2.1 + 1)] 0 40 = true
  generalize h * (q.2.2 - q.2.1 + 1) = A at *
  simp [evB, inB]; omega
 unfold stOk
 rw [h5, e1, e2]
 rfl
end Go.Proofs.Ythfabodamhdhaaa
namespace Go.Proofs.Ythfabodamhdhaaa
open Go Tx Go.RowKit
set_option linter.unusedSimpArgs false
set_option linter.unusedVariables false
theorem one_at (a b : Int) : ∀ (j : Nat) (v : Value), [iv a][j]? = some v → ([iv a] ++ [iv b])[Int.toNat 0 * ti3.size + j]? = some v := fun j v h => by
 cases j with
 | zero => exact h
 | succ j => simp at h
theorem lr_len {h : Int} {S : List (Int × Int × Int)} : (S.map (lrD h)).length = S.length := List.length_map ..
set_option maxHeartbeats 4000000 in
set_option maxRecDepth 100000 in
theorem learned_ok (x : Cr) (o : Option Addr) (c : Nat) (S : List (Int × Int × Int)) (h : Int) (w : World) (hx : CrIn x w) (hrd : Rd 3 spF (.slice o S.length c) S w) (hh : 0 ≤ h ∧ h ≤ 4)
 (hs : ∀ s ∈ S, 0 ≤ s.1 ∧ -1000 ≤ s.2.1 ∧ s.2.2 ≤ 1000 ∧ 0 ≤ s.2.2 - s.2.1 + 1 ∧ s.2.2 - s.2.1 + 1 ≤ 10) (hl : S.length ≤ 60) (h1 : x.N = [2000]) (hck : ckE x.N x.wk x.CC (S.map (lrD h)) = 0) (a : Int)
 (ha : hsV x.CC (S.map (lrD h)) 0 = a) (hab : 0 ≤ a ∧ a ≤ 1000000) :
 Calls Try.prog 51 #[x.v, .slice o S.length c, iv h] w fun e w' => e = .returned (.tuple #[iv a, .bool true]) ∧ Below w.heap.size w w' := by
 have hck2 := fun (o' : Option Addr) (c' : Nat) (D : List Sy) (hD : D.map Sy.d = S.map (lrD h)) w' (hb : Below w.heap.size w w') (hS : SyIn o' c' D w') => sHas1_ok x o' c' D w' (hx.below hb) hS (by rw [hD]; exact hck) (by rw [h1]; rfl)
 have hlf : lfV x.N x.CC (S.map (lrD h)) 0 = imax 0 (2000 - a) := by rw [lfV, h1, ha]; rfl
 obtain ⟨no, nc, N, wk, co, cc, C⟩ := x
 dsimp only at h1
 subst h1
 change CrIn ⟨no, nc, [2000], wk, co, cc, C⟩ w at hx
 have hck3 : ∀ (o' : Option Addr) (c' : Nat) (D : List Sy), D.map Sy.d = S.map (lrD h) → ∀ w', Below w.heap.size w w' → SyIn o' c' D w' → Calls Try.prog 85 #[.agg #[.slice no 1 nc, iv wk, .slice co C.length cc], .slice o' D.length c'] w' fun e w2 => ∃ y : Nat × Nat, e = .returned (.tuple #[.slice (some ⟨y.1, 0, none⟩) 1 1, .slice (some ⟨y.2, 0, none⟩) 1 1, iv 0]) ∧ Below w'.heap.size w' w2 ∧
  St w'.heap.size (fun w3 => Rd 1 iF (.slice (some ⟨y.1, 0, none⟩) 1 1) [a] w3 ∧ Rd 1 iF (.slice (some ⟨y.2, 0, none⟩) 1 1) [imax 0 (2000 - a)] w3) w2 := fun o' c' D hD w' hb hS => by
  have := hck2 o' c' D hD w' hb hS
  rw [hD, hlf, ha] at this
  exact this
 clear hck2 hlf ha hck
 show Calls Try.prog 51 #[.agg #[.slice no 1 nc, iv wk, .slice co C.length cc], .slice o S.length c, iv h] w _
 refine calls_val env mixed Try.func51 has51 Try.ntmps51 [.agg #[.slice no 1 nc, iv wk, .slice co C.length cc], .slice o S.length c, iv h] (by simp) ?_
 repeat'
  conv => whnf
  first
   | refine zA ?_ | refine zB ?_ | refine zC ?_ | refine zD ?_ | refine zE ?_ | refine zF ?_ | refine zG ?_ | refine zH ?_ | refine zJ ?_ | refine zI ?_ | refine splT ?_ | refine splF ?_ | refine splNot ?_
   | ((first | refine splIn ?_ ?_ | refine splD ?_ ?_ | refine splE ?_ ?_ | refine splNE ?_ ?_) <;> intro hc <;> first | (exfalso; omega) | (exfalso; dsimp only at hc; omega) | skip)
 refine loopD 3 (fun D : List Sy => [(1, .v (.slice o S.length c)), (2, .v (iv h)), (3, .ptr 0 0), (8, oSV 1 2 D), (9, .v (iv D.length))]) (fun D => (0, .cells [.v (.slice no 1 nc), .v (iv wk), .v (.slice co C.length cc)] 100) :: oM 1 2 2 Sy.cs 154 D)
  (fun D w' => Below w.heap.size w w' ∧ ∀ s ∈ D, St w.heap.size (Rd 1 iF (.slice s.o s.xs.length s.c) s.xs) w')
  (fun D => D.length ≤ S.length ∧ D.map Sy.d = (S.map (lrD h)).take D.length) (fun D => S.length - D.length) (Dis.ent (x := []) ⟨Nat.zero_le _, rfl⟩ (Ent.weak rfl ⟨rfl, rfl, rfl, rfl, rfl, trivial⟩ ⟨rfl, trivial⟩ (fun w' h => ⟨h, fun r hr => by cases hr⟩))) (fun D _ => by cases D <;> exact ⟨rfl, rfl⟩) ?_
 intro D ⟨hk, hmap⟩
 rcases Nat.lt_or_ge D.length S.length with hkl | hkl
 · obtain ⟨⟨p, f, l⟩, hxs⟩ : ∃ b, S[D.length]? = some b := ⟨_, List.getElem?_eq_getElem hkl⟩
   obtain ⟨_, ad, rfl, _⟩ := hrd.ptr (by omega)
   have e0 := fun (w' : World) hw' => rd_fldz (hrd.below (w' := w') hw') hxs _ rfl 0 (iv p) rfl
   have e1 := fun (w' : World) hw' => rd_fldz (hrd.below (w' := w') hw') hxs _ rfl 1 (iv f) rfl
   have e2 := fun (w' : World) hw' => rd_fldz (hrd.below (w' := w') hw') hxs _ rfl 2 (iv l) rfl
   have hb := hs _ (List.mem_of_getElem? hxs)
   dsimp only at hb
   obtain ⟨m, hm⟩ : ∃ m, h * (l - f + 1) = m := ⟨_, rfl⟩
   have hmb : 0 ≤ m ∧ m ≤ 40 := by
    rw [← hm]
    exact ⟨Int.mul_nonneg hh.1 hb.2.2.2.1, by have := Int.mul_le_mul hh.2 hb.2.2.2.2 hb.2.2.2.1 (by omega : (0 : Int) ≤ 4); omega⟩
   have hm2 : (S.map (lrD h))[D.length]? = some (p, [m]) := by rw [List.getElem?_map, hxs, ← hm]; rfl
   have hnew : ∀ y : Nat, (D ++ [(⟨p, some ⟨y, 0, none⟩, 1, [m]⟩ : Sy)]).map Sy.d = (S.map (lrD h)).take (D ++ [(⟨p, some ⟨y, 0, none⟩, 1, [m]⟩ : Sy)]).length := fun y => by
    rw [List.map_append, hmap, List.length_append, List.length_singleton, List.take_add_one, hm2]; rfl
   have hl2 : ∀ y : Nat, (D ++ [(⟨p, some ⟨y, 0, none⟩, 1, [m]⟩ : Sy)]).length = D.length + 1 := fun y => by simp
   have hh1 : ∀ (b : Nat) (w' : World), w.heap.size ≤ b → (Below w.heap.size w w' ∧ ∀ s ∈ D, St w.heap.size (Rd 1 iF (.slice s.o s.xs.length s.c) s.xs) w') → w'.heap[b]? = some (.cells #[iv m] 3 (0, 0)) →
    Below w.heap.size w w' ∧ ∀ s ∈ D ++ [(⟨p, some ⟨b, 0, none⟩, 1, [m]⟩ : Sy)], St w.heap.size (Rd 1 iF (.slice s.o s.xs.length s.c) s.xs) w' := fun b w' hb h ho => ⟨h.1, fun r hr => by
    rcases List.mem_append.1 hr with hr | hr
    · exact h.2 r hr
    · rw [List.mem_singleton] at hr; subst hr; exact one_st hb ho⟩
   generalize hn : D.length = n at *
   cases D with
   | nil =>
    repeat'
     conv => whnf
     first
      | refine zA ?_ | refine zB ?_ | refine zC ?_ | refine zD ?_ | refine zE ?_ | refine zF ?_ | refine zG ?_ | refine zH ?_ | refine zJ ?_ | refine zI ?_ | refine splT ?_ | refine splF ?_ | refine splNot ?_
      | ((first | refine splIn ?_ ?_ | refine splD ?_ ?_ | refine splE ?_ ?_ | refine splNE ?_ ?_) <;> intro hc <;> first | (exfalso; omega) | (exfalso; dsimp only at hc; omega) | skip)
      | refine Exists.intro (α := List Value) [iv p] ⟨⟨rfl, fun w' hw' => e0 w' hw'.1⟩, ?_⟩
      | refine Exists.intro (α := List Value) [iv f] ⟨⟨rfl, fun w' hw' => e1 w' hw'.1⟩, ?_⟩
      | refine Exists.intro (α := List Value) [iv l] ⟨⟨rfl, fun w' hw' => e2 w' hw'.1⟩, ?_⟩
      | refine appG env 4 1 1 [.v (iv p), .sl 3 0 1 1] 154 0 [] [] rfl rfl rfl rfl rfl (by decide) rfl rfl rfl (fun _ => Nat.le_refl _) (by omega) (by decide) rfl (.inl ⟨rfl, rfl, rfl, rfl⟩) rfl ?_
    refine Dis.mk3 (w0 := w) (rho [(1, 5), (2, 6)]) [3] rfl (fun i hi => by rw [List.mem_singleton] at hi; subst hi; exact ⟨_, rfl, rfl⟩) (fun w' h => h.1) (fun β w1 hok hw1 hge => ⟨[(⟨p, some ⟨β 3, 0, none⟩, 1, [m]⟩ : Sy)], ⟨⟨by have := hl2 0; simp only [List.nil_append, List.length_singleton] at this ⊢; omega, hnew (β 3)⟩, by have := hl2 0; simp only [List.nil_append, List.length_singleton] at this ⊢; omega⟩, ⟨⟨_, rfl, rfl⟩, ⟨_, rfl, rfl⟩, ⟨_, rfl, rfl⟩, ⟨_, rfl, rfl⟩, ⟨_, rfl, by rw [← hn]; rfl⟩, trivial⟩, ⟨⟨rfl, _, rfl, fun _ => rfl, fun w2 y hy => hy⟩, ⟨rfl, _, rfl, fun _ => rfl, fun w2 y hy => hy⟩, trivial⟩, rfl, fun w2 hw2 hLo => hh1 (β 3) w2 (hge 3 _ rfl rfl) hw2 (by have := hLo 3 (by simp) _ rfl; rw [hm] at this; exact this)⟩)
   | cons a2 D =>
    simp only [List.length_cons] at hn
    repeat'
     conv => whnf
     first
      | refine zA ?_ | refine zB ?_ | refine zC ?_ | refine zD ?_ | refine zE ?_ | refine zF ?_ | refine zG ?_ | refine zH ?_ | refine zJ ?_ | refine zI ?_ | refine splT ?_ | refine splF ?_ | refine splNot ?_
      | ((first | refine splIn ?_ ?_ | refine splD ?_ ?_ | refine splE ?_ ?_ | refine splNE ?_ ?_) <;> intro hc <;> first | (exfalso; omega) | (exfalso; dsimp only at hc; omega) | skip)
      | refine Exists.intro (α := List Value) [iv p] ⟨⟨rfl, fun w' hw' => e0 w' hw'.1⟩, ?_⟩
      | refine Exists.intro (α := List Value) [iv f] ⟨⟨rfl, fun w' hw' => e1 w' hw'.1⟩, ?_⟩
      | refine Exists.intro (α := List Value) [iv l] ⟨⟨rfl, fun w' hw' => e2 w' hw'.1⟩, ?_⟩
      | refine appG env 4 1 1 [.v (iv p), .sl 3 0 1 1] 154 (D.length + 1) ((a2 :: D).flatMap Sy.cs) [1] rfl rfl rfl rfl rfl (by decide) rfl rfl rfl (fun h => by cases h) (by omega) (by show (D.length + 1 + 1) * 32 ≤ 140737488355328; omega) rfl (.inr ⟨1, 2, rfl, rfl, rfl, (by show 1 < 5; decide)⟩) rfl ?_
    have hl3 : ∀ y : Nat, (a2 :: D ++ [(⟨p, some ⟨y, 0, none⟩, 1, [m]⟩ : Sy)]).length = D.length + 1 + 1 := fun y => by rw [hl2]; omega
    refine Dis.mk3 (w0 := w) (rho [(1, 5), (2, 6)]) [3] rfl (fun i hi => by rw [List.mem_singleton] at hi; subst hi; exact ⟨_, rfl, rfl⟩) (fun w' h => h.1) (fun β w1 hok hw1 hge => ⟨a2 :: D ++ [(⟨p, some ⟨β 3, 0, none⟩, 1, [m]⟩ : Sy)], ⟨⟨by have := hl3 (β 3); omega, hnew (β 3)⟩, by have := hl3 (β 3); omega⟩, ⟨⟨_, rfl, rfl⟩, ⟨_, rfl, rfl⟩, ⟨_, rfl, rfl⟩, ⟨_, rfl, by simp [oSV]; rfl⟩, ⟨_, rfl, by rw [hl3 (β 3), ← hn]; rfl⟩, trivial⟩, ⟨⟨rfl, _, rfl, fun _ => rfl, fun w2 y hy => hy⟩, by simp [oM]; exact ⟨⟨rfl, _, rfl, fun _ => rfl, fun w2 y hy => by simp [Blk.ok] at hy ⊢; exact hy⟩, trivial⟩⟩, rfl, fun w2 hw2 hLo => hh1 (β 3) w2 (hge 3 _ rfl rfl) hw2 (by have := hLo 3 (by simp) _ rfl; rw [hm] at this; exact this)⟩)
 · have hk2 : D.length = S.length := by omega
   rw [hk2, List.take_of_length_le (Nat.le_of_eq lr_len)] at hmap
   have hxl : ∀ s ∈ D, s.xs.length = 1 := fun s hs => by
    have : Sy.d s ∈ S.map (lrD h) := by rw [← hmap]; exact List.mem_map_of_mem hs
    obtain ⟨q, _, hq⟩ := List.mem_map.1 this
    have := congrArg (fun p : Int × List Int => p.2.length) hq
    exact this.symm
   have hSy : ∀ (o' : Option Addr) (c' : Nat) (w' : World), (Below w.heap.size w w' ∧ ∀ s ∈ D, St w.heap.size (Rd 1 iF (.slice s.o s.xs.length s.c) s.xs) w') → Rd 2 Sy.cs (.slice o' D.length c') D w' → SyIn o' c' D w' := fun o' c' w' hh hr =>
    ⟨hr, fun s hs => (hh.2 s hs).now, by omega, fun s hs => by rw [hxl s hs]; decide⟩
   have hi1 : imax 0 a = a := by rw [imax_eq]; omega
   have hi2 : imax 0 (2000 - a) = imax 0 (2000 - a) := rfl
   cases D with
   | nil =>
    repeat'
     conv => whnf
     first
      | refine zA ?_ | refine zB ?_ | refine zC ?_ | refine zD ?_ | refine zE ?_ | refine zF ?_ | refine zG ?_ | refine zH ?_ | refine zJ ?_ | refine zI ?_ | refine splT ?_ | refine splF ?_ | refine splNot ?_
      | ((first | refine splIn ?_ ?_ | refine splD ?_ ?_ | refine splE ?_ ?_ | refine splNE ?_ ?_) <;> intro hc <;> first | (exfalso; omega) | (exfalso; dsimp only at hc; omega) | skip)
      | ((with_reducible show CallEv _ _ 85 _ _ _ _ _); refine callF [] (fun y : Nat × Nat => .tuple #[.slice (some ⟨y.1, 0, none⟩) 1 1, .slice (some ⟨y.2, 0, none⟩) 1 1, iv 0]) (fun y w3 => Rd 1 iF (.slice (some ⟨y.1, 0, none⟩) 1 1) [a] w3 ∧ Rd 1 iF (.slice (some ⟨y.2, 0, none⟩) 1 1) [imax 0 (2000 - a)] w3) (fun β w' _ hw => hck3 none 0 [] hmap w' hw.1 (hSy none 0 w' hw (.inl ⟨rfl, rfl⟩))) ?_; intro y)
      | refine appF env 3 1 1 [iv 0] 3 ⟨y.1, 0, none⟩ 1 1 [iv a] rfl rfl rfl rfl rfl (by decide) rfl rfl rfl (by decide) (by decide) (by decide) (fun w' hw' => Rd.ext (f := iF) (fun _ => rfl) hw'.2.1) rfl ?_
      | refine Exists.intro (α := List Value) [iv a] ⟨⟨rfl, one_at a 0⟩, ?_⟩
      | refine Exists.intro (α := List Value) [iv (imax 0 (2000 - a))] ⟨⟨rfl, fun w' hw' => rd_atz hw'.2.2 rfl 0 rfl⟩, ?_⟩
      | refine Exists.intro (α := List Value) [iv a] ⟨⟨rfl, fun w' hw' => rd_atz hw'.2.1 rfl 0 rfl⟩, ?_⟩
    all_goals first | (exfalso; omega) | exact ⟨fun β => by
     show Value.tuple #[iv (imax 0 a), .bool (imax 0 (2000 - a) == imax 0 (2000 - a))] = _
     rw [hi1, beq_self_eq_true], fun w' h => h.1.1⟩
   | cons a2 D =>
    repeat'
     conv => whnf
     first
      | refine zA ?_ | refine zB ?_ | refine zC ?_ | refine zD ?_ | refine zE ?_ | refine zF ?_ | refine zG ?_ | refine zH ?_ | refine zJ ?_ | refine zI ?_ | refine splT ?_ | refine splF ?_ | refine splNot ?_
      | ((first | refine splIn ?_ ?_ | refine splD ?_ ?_ | refine splE ?_ ?_ | refine splNE ?_ ?_) <;> intro hc <;> first | (exfalso; omega) | (exfalso; dsimp only at hc; omega) | skip)
      | ((with_reducible show CallEv _ _ 85 _ _ _ _ _); refine callF [1] (fun y : Nat × Nat => .tuple #[.slice (some ⟨y.1, 0, none⟩) 1 1, .slice (some ⟨y.2, 0, none⟩) 1 1, iv 0]) (fun y w3 => Rd 1 iF (.slice (some ⟨y.1, 0, none⟩) 1 1) [a] w3 ∧ Rd 1 iF (.slice (some ⟨y.2, 0, none⟩) 1 1) [imax 0 (2000 - a)] w3) (fun β w' hbk hw => hck3 (some ⟨β 1, 0, none⟩) (β 2) (a2 :: D) hmap w' hw.1 (hSy _ _ w' hw (Rd.of_owns (sz := 2) (f := Sy.cs) (fun _ => rfl) rfl rfl (hbk 1 (by simp) _ rfl)))) ?_; intro y)
      | refine appF env 3 1 1 [iv 0] 3 ⟨y.1, 0, none⟩ 1 1 [iv a] rfl rfl rfl rfl rfl (by decide) rfl rfl rfl (by decide) (by decide) (by decide) (fun w' hw' => Rd.ext (f := iF) (fun _ => rfl) hw'.2.1) rfl ?_
      | refine Exists.intro (α := List Value) [iv a] ⟨⟨rfl, one_at a 0⟩, ?_⟩
      | refine Exists.intro (α := List Value) [iv (imax 0 (2000 - a))] ⟨⟨rfl, fun w' hw' => rd_atz hw'.2.2 rfl 0 rfl⟩, ?_⟩
      | refine Exists.intro (α := List Value) [iv a] ⟨⟨rfl, fun w' hw' => rd_atz hw'.2.1 rfl 0 rfl⟩, ?_⟩
    all_goals first | (exfalso; omega) | exact ⟨fun β => by
     show Value.tuple #[iv (imax 0 a), .bool (imax 0 (2000 - a) == imax 0 (2000 - a))] = _
     rw [hi1, beq_self_eq_true], fun w' h => h.1.1⟩
end Go.Proofs.Ythfabodamhdhaaa
namespace Go.Proofs.Ythfabodamhdhaaa
open Go Tx Go.RowKit
set_option linter.unusedSimpArgs false
set_option linter.unusedVariables false
theorem w117_ok (n lo hi : Int) (w : World) : Calls Try.prog 117 #[iv n, iv lo, iv hi] w fun e w' => e = .returned (.bool (inB n lo hi)) ∧ Below w.heap.size w w' := by
 refine calls_val env mixed Try.func117 has117 Try.ntmps117 [iv n, iv lo, iv hi] (by simp) ?_
 repeat'
  conv => whnf
  first
   | refine zA ?_ | refine zB ?_ | refine zC ?_ | refine zD ?_ | refine zE ?_ | refine zF ?_ | refine zG ?_ | refine zH ?_ | refine zJ ?_ | refine zI ?_ | refine splT ?_ | refine splF ?_ | refine splNot ?_
   | ((first | refine splIn ?_ ?_ | refine splD ?_ ?_ | refine splE ?_ ?_ | refine splNE ?_ ?_) <;> intro hc <;> first | (exfalso; omega) | (exfalso; dsimp only at hc; omega) | skip)
 all_goals exact ⟨fun β => congrArg Value.bool (by simp [inB, *]), fun w' h => h⟩
theorem v116_ok (w : World) : Calls Try.prog 116 #[.agg #[iv 8, iv 8, iv 0, iv 16]] w fun e w' => e = .returned (.bool true) ∧ Below w.heap.size w w' := by
 refine calls_val env mixed Try.func116 has116 Try.ntmps116 [.agg #[iv 8, iv 8, iv 0, iv 16]] (by simp) ?_
 repeat'
  conv => whnf
  first
   | refine zA ?_ | refine zB ?_ | refine zC ?_ | refine zD ?_ | refine zE ?_ | refine zF ?_ | refine zG ?_ | refine zH ?_ | refine zJ ?_ | refine zI ?_ | refine splT ?_ | refine splF ?_ | refine splNot ?_
   | ((first | refine splIn ?_ ?_ | refine splD ?_ ?_ | refine splE ?_ ?_ | refine splNE ?_ ?_) <;> intro hc <;> first | (exfalso; omega) | (exfalso; dsimp only at hc; omega) | skip)
   | ((with_reducible show CallEv _ _ 117 _ _ _ _ _); refine callE (k := 117) (fun β w' hbw => w117_ok _ _ _ w') ?_)
 all_goals first | (exfalso; omega) | exact ⟨fun β => rfl, fun w' h => h⟩
theorem s118_ok (n m : Int) (w : World) (hn : 1 ≤ n ∧ n ≤ 8) (hm : n = m) : Calls Try.prog 118 #[.agg #[iv 8, iv 8, iv 0, iv 16], iv n] w fun e w' => e = .returned (iv m) ∧ Below w.heap.size w w' := by
 subst hm
 refine calls_val env mixed Try.func118 has118 Try.ntmps118 [.agg #[iv 8, iv 8, iv 0, iv 16], iv n] (by simp) ?_
 repeat'
  conv => whnf
  first
   | refine zA ?_ | refine zB ?_ | refine zC ?_ | refine zD ?_ | refine zE ?_ | refine zF ?_ | refine zG ?_ | refine zH ?_ | refine zJ ?_ | refine zI ?_ | refine splT ?_ | refine splF ?_ | refine splNot ?_
   | ((first | refine splIn ?_ ?_ | refine splD ?_ ?_ | refine splE ?_ ?_ | refine splNE ?_ ?_) <;> intro hc <;> first | (exfalso; omega) | (exfalso; dsimp only at hc; omega) | skip)
   | refine Exists.intro (α := Int) ((n - 1).tdiv 8) ⟨⟨by decide, rfl, by rw [Int.tdiv_eq_ediv_of_nonneg (by omega)]; constructor <;> omega⟩, ?_⟩
 all_goals first | (exfalso; omega) | exact ⟨fun β => congrArg iv (by omega), fun w' h => h⟩
theorem t84_ok (w : World) : Calls Try.prog 84 #[.agg #[iv 8, iv 8, iv 0, iv 16], iv 9] w fun e w' => e = .returned (.tuple #[iv 25, iv 0]) ∧ Below w.heap.size w w' := by
 refine calls_val env mixed Try.func84 has84 Try.ntmps84 [.agg #[iv 8, iv 8, iv 0, iv 16], iv 9] (by simp) ?_
 repeat'
  conv => whnf
  first
   | refine zA ?_ | refine zB ?_ | refine zC ?_ | refine zD ?_ | refine zE ?_ | refine zF ?_ | refine zG ?_ | refine zH ?_ | refine zJ ?_ | refine zI ?_ | refine splT ?_ | refine splF ?_ | refine splNot ?_
   | ((first | refine splIn ?_ ?_ | refine splD ?_ ?_ | refine splE ?_ ?_ | refine splNE ?_ ?_) <;> intro hc <;> first | (exfalso; omega) | (exfalso; dsimp only at hc; omega) | skip)
   | ((with_reducible show CallEv _ _ 117 _ _ _ _ _); refine callE (k := 117) (fun β w' hbw => w117_ok _ _ _ w') ?_)
   | ((with_reducible show CallEv _ _ 116 _ _ _ _ _); refine callE (k := 116) (fun β w' hbw => v116_ok w') ?_)
   | refine Exists.intro (α := Int) 1 ⟨⟨by decide, by decide, by constructor <;> decide⟩, ?_⟩
   | (with_reducible show CallEv _ _ 118 [_, .v (.int .i64 8)] _ _ _ _); refine callE (k := 118) (fun β w' hbw => s118_ok 8 8 w' (by decide) rfl) ?_
   | ((with_reducible show CallEv _ _ 118 _ _ _ _ _); refine callE (k := 118) (fun β w' hbw => s118_ok 1 1 w' (by decide) rfl) ?_)
 all_goals first | (exfalso; omega) | exact ⟨fun β => rfl, fun w' h => h⟩
theorem drives_ok (w : World) : Calls Try.prog 50 #[] w fun e w' => e = .returned (.bool true) ∧ Below w.heap.size w w' := by
 refine calls_val env mixed Try.func50 has50 Try.ntmps50 [] (by simp) ?_
 repeat'
  conv => whnf
  first
   | refine zA ?_ | refine zB ?_ | refine zC ?_ | refine zD ?_ | refine zE ?_ | refine zF ?_ | refine zG ?_ | refine zH ?_ | refine zJ ?_ | refine zI ?_ | refine splT ?_ | refine splF ?_ | refine splNot ?_
   | ((first | refine splIn ?_ ?_ | refine splD ?_ ?_ | refine splE ?_ ?_ | refine splNE ?_ ?_) <;> intro hc <;> first | (exfalso; omega) | (exfalso; dsimp only at hc; omega) | skip)
   | ((with_reducible show CallEv _ _ 84 _ _ _ _ _); refine callE (k := 84) (fun β w' hbw => t84_ok w') ?_)
 all_goals first | (exfalso; omega) | exact ⟨fun β => rfl, fun w' h => h⟩
end Go.Proofs.Ythfabodamhdhaaa
namespace Go.Proofs.Ythfabodamhdhaaa
open Go Tx Go.RowKit
set_option linter.unusedSimpArgs false
set_option linter.unusedVariables false
abbrev flF (p : Nat × Nat) : List Value := [iv p.1, .int .u8 p.2]
def fsP (x : To) (S : List (Int × Int × Int)) : Nat → List (Nat × Nat)
 | 0 => []
 | k + 1 => match S[k]? with
  | some (a, f, l) => if fltO x S k a f l 7 = 0 then fsP x S k else fsP x S k ++ [(k, fltO x S k a f l 7)]
  | none => fsP x S k
def fsO (x : To) (S : List (Int × Int × Int)) : List (Nat × Nat) := fsP x S S.length
theorem fsP_len (x : To) (S : List (Int × Int × Int)) : ∀ k, (fsP x S k).length ≤ k
 | 0 => Nat.le_refl _
 | k + 1 => by
  have ih := fsP_len x S k
  simp only [fsP]
  split
  · split
    · omega
    · simp; omega
  · omega
set_option maxHeartbeats 4000000 in
set_option maxRecDepth 100000 in
theorem faults_ok (x : Tr) (o : Option Addr) (c : Nat) (S : List (Int × Int × Int)) (w : World) (h : TrIn x w) (hn : ToN x.d) (hS : SpIn o c S w) :
 Calls Try.prog 74 #[x.v, .slice o S.length c] w fun e w' => ∃ y : Option Addr × Nat, e = .returned (sV (fsO x.d S).length y) ∧ Below w.heap.size w w' ∧ St w.heap.size (Rd 2 flF (sV (fsO x.d S).length y) (fsO x.d S)) w' := by
 have hsl := hS.l
 have h108' := fun (k : Nat) (a f l : Int) (hi : S[k]? = some (a, f, l)) (w' : World) (hw' : Below w.heap.size w w') (bt : Nat) (β : Nat → Nat) (h2 : (Blk.cells tsL 192).ok β w' bt) =>
  fault_ok x o c S k a f l ⟨bt, 0, none⟩ 7 7 w' (h.below hw') hn (hS.below hw') hi (by decide) (ts_hr h2)
 refine calls_fam env mixed Try.func74 has74 Try.ntmps74 [.agg #[iv x.days, iv x.shift, iv x.size, .slice x.to x.T.length x.tc, .slice x.lo x.L.length x.lc], .slice o S.length c] (by simp) ?_
 repeat'
  conv => whnf
  first
   | refine zA ?_ | refine zB ?_ | refine zC ?_ | refine zD ?_ | refine zE ?_ | refine zF ?_ | refine zG ?_ | refine zH ?_ | refine zJ ?_ | refine zI ?_ | refine splT ?_ | refine splF ?_ | refine splNot ?_
   | ((first | refine splIn ?_ ?_ | refine splD ?_ ?_ | refine splE ?_ ?_ | refine splNE ?_ ?_) <;> intro hc <;> first | (exfalso; omega) | (exfalso; dsimp only at hc; omega) | skip)
 refine loopN 3 (fun k : Nat => [(1, .v (.slice o S.length c)), (2, .ptr 0 0), (5, oSV 1 2 (fsP x.d S k)), (8, .v (.slice o S.length c)), (9, .v (iv S.length)), (10, .v (iv k))]) (fun k => (0, .cells [.v (iv x.days), .v (iv x.shift), .v (iv x.size), .v (.slice x.to x.T.length x.tc), .v (.slice x.lo x.L.length x.lc)] 35) :: oM 1 2 2 flF 81 (fsP x.d S k))
  (fun k => k ≤ S.length) (fun k => S.length - k) 0 (Nat.zero_le _) ⟨rfl, rfl, rfl, rfl, rfl, rfl, trivial⟩ ⟨rfl, trivial⟩ (fun k _ => by cases fsP x.d S k <;> exact ⟨rfl, rfl⟩) ?_
 intro k hk
 rcases Nat.lt_or_ge k S.length with hkl | hkl
 · obtain ⟨⟨a, f, l⟩, hx⟩ : ∃ b, S[k]? = some b := ⟨_, List.getElem?_eq_getElem hkl⟩
   have ht : fsP x.d S (k + 1) = if fltO x.d S k a f l 7 = 0 then fsP x.d S k else fsP x.d S k ++ [(k, fltO x.d S k a f l 7)] := by simp only [fsP, hx]
   have hlen := fsP_len x.d S k
   have h108 := h108' k a f l hx
   have hfl := fltO_le x.d S k a f l 7
   generalize fltO x.d S k a f l 7 = F at *
   generalize fsP x.d S k = D at *
   clear h108' hn h
   obtain ⟨days, shift, size, to, tc, T, lo, lc, L⟩ := x
   cases D with
   | nil =>
    skip
    by_cases hF0 : F = 0
    · rw [if_pos hF0] at ht
      subst hF0
      repeat'
       conv => whnf
       first
        | refine zA ?_ | refine zB ?_ | refine zC ?_ | refine zD ?_ | refine zE ?_ | refine zF ?_ | refine zG ?_ | refine zH ?_ | refine zJ ?_ | refine zI ?_ | refine splT ?_ | refine splF ?_ | refine splNot ?_
        | ((first | refine splIn ?_ ?_ | refine splD ?_ ?_ | refine splE ?_ ?_ | refine splNE ?_ ?_) <;> intro hc <;> first | (exfalso; omega) | (exfalso; dsimp only at hc; omega) | skip)
        | ((with_reducible show CallEv _ _ 109 _ _ _ _ _); refine callN 3 [] (.sl 3 0 7 7) tsL 192 rfl (fun β w' _ hbw => (tests_ok w').mono fun e w2 ⟨b, h1, h2, h3, h4⟩ => ⟨b, h1, h2, h3, h4 _⟩) ?_)
        | ((with_reducible show CallEv _ _ 108 _ _ _ _ _); refine callM [3] (fun β w' hbk hbw => h108 w' hbw (β 3) β (hbk 3 (by simp) _ rfl)) ?_)
      all_goals first | (exfalso; omega) | exact ⟨k + 1, by omega, by omega, Ent.weak rfl ⟨rfl, rfl, by rw [ht]; rfl, rfl, rfl, rfl, trivial⟩ (by rw [ht]; exact ⟨rfl, trivial⟩) fun _ h => h⟩
    · rw [if_neg hF0] at ht
      repeat'
       conv => whnf
       first
        | refine zA ?_ | refine zB ?_ | refine zC ?_ | refine zD ?_ | refine zE ?_ | refine zF ?_ | refine zG ?_ | refine zH ?_ | refine zJ ?_ | refine zI ?_ | refine splT ?_ | refine splF ?_ | refine splNot ?_
        | ((first | refine splIn ?_ ?_ | refine splD ?_ ?_ | refine splE ?_ ?_ | refine splNE ?_ ?_) <;> intro hc <;> first | (exfalso; omega) | (exfalso; dsimp only at hc; omega) | skip)
        | ((with_reducible show CallEv _ _ 109 _ _ _ _ _); refine callN 3 [] (.sl 3 0 7 7) tsL 192 rfl (fun β w' _ hbw => (tests_ok w').mono fun e w2 ⟨b, h1, h2, h3, h4⟩ => ⟨b, h1, h2, h3, h4 _⟩) ?_)
        | ((with_reducible show CallEv _ _ 108 _ _ _ _ _); refine callM [3] (fun β w' hbk hbw => h108 w' hbw (β 3) β (hbk 3 (by simp) _ rfl)) ?_)
      all_goals first | (exfalso; omega) | exact ⟨k + 1, by omega, by omega, Ent.ren (rho [(1, 5), (2, 6)]) rfl (by rw [ht]; rfl) ⟨rfl, rfl, by rw [ht]; rfl, rfl, rfl, rfl, trivial⟩ (by rw [ht]; exact ⟨rfl, rfl, trivial⟩) fun _ h => h⟩
   | cons a0 D =>
    simp only [List.length_cons] at hlen
    by_cases hF0 : F = 0
    · rw [if_pos hF0] at ht
      subst hF0
      repeat'
       conv => whnf
       first
        | refine zA ?_ | refine zB ?_ | refine zC ?_ | refine zD ?_ | refine zE ?_ | refine zF ?_ | refine zG ?_ | refine zH ?_ | refine zJ ?_ | refine zI ?_ | refine splT ?_ | refine splF ?_ | refine splNot ?_
        | ((first | refine splIn ?_ ?_ | refine splD ?_ ?_ | refine splE ?_ ?_ | refine splNE ?_ ?_) <;> intro hc <;> first | (exfalso; omega) | (exfalso; dsimp only at hc; omega) | skip)
        | ((with_reducible show CallEv _ _ 109 _ _ _ _ _); refine callN 3 [] (.sl 3 0 7 7) tsL 192 rfl (fun β w' _ hbw => (tests_ok w').mono fun e w2 ⟨b, h1, h2, h3, h4⟩ => ⟨b, h1, h2, h3, h4 _⟩) ?_)
        | ((with_reducible show CallEv _ _ 108 _ _ _ _ _); refine callM [3] (fun β w' hbk hbw => h108 w' hbw (β 3) β (hbk 3 (by simp) _ rfl)) ?_)
      all_goals first | (exfalso; omega) | exact ⟨k + 1, by omega, by omega, Ent.weak rfl ⟨rfl, rfl, by rw [ht]; rfl, rfl, rfl, rfl, trivial⟩ (by rw [ht]; exact ⟨rfl, rfl, trivial⟩) fun _ h => h⟩
    · rw [if_neg hF0] at ht
      repeat'
       conv => whnf
       first
        | refine zA ?_ | refine zB ?_ | refine zC ?_ | refine zD ?_ | refine zE ?_ | refine zF ?_ | refine zG ?_ | refine zH ?_ | refine zJ ?_ | refine zI ?_ | refine splT ?_ | refine splF ?_ | refine splNot ?_
        | ((first | refine splIn ?_ ?_ | refine splD ?_ ?_ | refine splE ?_ ?_ | refine splNE ?_ ?_) <;> intro hc <;> first | (exfalso; omega) | (exfalso; dsimp only at hc; omega) | skip)
        | ((with_reducible show CallEv _ _ 109 _ _ _ _ _); refine callN 3 [] (.sl 3 0 7 7) tsL 192 rfl (fun β w' _ hbw => (tests_ok w').mono fun e w2 ⟨b, h1, h2, h3, h4⟩ => ⟨b, h1, h2, h3, h4 _⟩) ?_)
        | ((with_reducible show CallEv _ _ 108 _ _ _ _ _); refine callM [3] (fun β w' hbk hbw => h108 w' hbw (β 3) β (hbk 3 (by simp) _ rfl)) ?_)
      all_goals first | (exfalso; omega) | exact ⟨k + 1, by omega, by omega, Ent.ren (rho [(1, 5), (2, 6)]) rfl (by rw [ht]; rfl) ⟨rfl, rfl, by rw [ht]; simp [oSV]; rfl, rfl, rfl, rfl, trivial⟩ (by rw [ht]; exact ⟨rfl, by simp [oM]; rfl, trivial⟩) fun _ h => h⟩
 · obtain rfl : k = S.length := by omega
   show vc _ _ _ _
   unfold fsO
   generalize fsP x.d S S.length = D at *
   clear h108' hn h
   obtain ⟨days, shift, size, to, tc, T, lo, lc, L⟩ := x
   cases D with
   | nil =>
    repeat'
     conv => whnf
     first
      | refine zA ?_ | refine zB ?_ | refine zC ?_ | refine zD ?_ | refine zE ?_ | refine zF ?_ | refine zG ?_ | refine zH ?_ | refine zJ ?_ | refine zI ?_ | refine splT ?_ | refine splF ?_ | refine splNot ?_
      | ((first | refine splIn ?_ ?_ | refine splD ?_ ?_ | refine splE ?_ ?_ | refine splNE ?_ ?_) <;> intro hc <;> first | (exfalso; omega) | (exfalso; dsimp only at hc; omega) | skip)
    exact ⟨fun w' h => h, fun β w' hB hblk => oNil (i := 1) (j := 2) (f := flF) (sz := 2)⟩
   | cons a0 D =>
    repeat'
     conv => whnf
     first
      | refine zA ?_ | refine zB ?_ | refine zC ?_ | refine zD ?_ | refine zE ?_ | refine zF ?_ | refine zG ?_ | refine zH ?_ | refine zJ ?_ | refine zI ?_ | refine splT ?_ | refine splF ?_ | refine splNot ?_
      | ((first | refine splIn ?_ ?_ | refine splD ?_ ?_ | refine splE ?_ ?_ | refine splNE ?_ ?_) <;> intro hc <;> first | (exfalso; omega) | (exfalso; dsimp only at hc; omega) | skip)
    exact ⟨fun w' h => h, fun β w' hB hblk => oEnd (sz := 2) (f := flF) (fun _ => rfl) a0 D (hblk 1 _ rfl rfl)⟩
theorem check_ok (x : Tr) (o : Option Addr) (c : Nat) (S : List (Int × Int × Int)) (w : World) (h : TrIn x w) (hl : S.length ≤ 1000000) :
 Calls Try.prog 73 #[x.v, .slice o S.length c] w fun e w' => e = .returned (iv (if toB x.d = true then (if S.length ≤ 20 then 0 else 3) else 1)) ∧ Below w.heap.size w w' := by
 have hv := fun w' hb => valid_ok x w' (h.below hb)
 refine calls_val env mixed Try.func73 has73 Try.ntmps73 [.agg #[iv x.days, iv x.shift, iv x.size, .slice x.to x.T.length x.tc, .slice x.lo x.L.length x.lc], .slice o S.length c] (by simp) ?_
 obtain ⟨b, hb⟩ : ∃ b, toB x.d = b := ⟨_, rfl⟩
 rw [hb] at hv ⊢
 clear h
 obtain ⟨days, shift, size, to, tc, T, lo, lc, L⟩ := x
 by_cases hs : S.length ≤ 20
 · rw [if_pos hs]
   cases b
   all_goals skip
   repeat'
    conv => whnf
    first
     | refine zA ?_ | refine zB ?_ | refine zC ?_ | refine zD ?_ | refine zE ?_ | refine zF ?_ | refine zG ?_ | refine zH ?_ | refine zJ ?_ | refine zI ?_ | refine splT ?_ | refine splF ?_ | refine splNot ?_
     | ((first | refine splIn ?_ ?_ | refine splD ?_ ?_ | refine splE ?_ ?_ | refine splNE ?_ ?_) <;> intro hc <;> first | (exfalso; omega) | (exfalso; dsimp only at hc; omega) | skip)
     | ((with_reducible show CallEv _ _ 56 _ _ _ _ _); refine callE (k := 56) (fun β w' hbw => hv _ hbw) ?_)
   all_goals first | (exfalso; omega) | exact ⟨fun β => rfl, fun w' h => h⟩
 · rw [if_neg hs]
   cases b
   all_goals skip
   repeat'
    conv => whnf
    first
     | refine zA ?_ | refine zB ?_ | refine zC ?_ | refine zD ?_ | refine zE ?_ | refine zF ?_ | refine zG ?_ | refine zH ?_ | refine zJ ?_ | refine zI ?_ | refine splT ?_ | refine splF ?_ | refine splNot ?_
     | ((first | refine splIn ?_ ?_ | refine splD ?_ ?_ | refine splE ?_ ?_ | refine splNE ?_ ?_) <;> intro hc <;> first | (exfalso; omega) | (exfalso; dsimp only at hc; omega) | skip)
     | ((with_reducible show CallEv _ _ 56 _ _ _ _ _); refine callE (k := 56) (fun β w' hbw => hv _ hbw) ?_)
   all_goals first | (exfalso; omega) | exact ⟨fun β => rfl, fun w' h => h⟩
end Go.Proofs.Ythfabodamhdhaaa
namespace Go.Proofs.Ythfabodamhdhaaa.Tx
open Go Go.RowKit
set_option linter.unusedSimpArgs false
set_option linter.unusedVariables false
def GEqR (ρ : Nat → Nat) : List (Nat × SV) → Prop
 | [] => True
 | (_, s) :: r => (∀ β : Nat → Nat, s.c (fun i => β (ρ i)) = s.c β) ∧ GEqR ρ r
theorem GEqR.get {ρ : Nat → Nat} : ∀ {l : List (Nat × SV)}, GEqR ρ l → ∀ k s, lk l k = some s → ∀ β : Nat → Nat, s.c (fun i => β (ρ i)) = s.c β
 | (j, x) :: r, ha, k, s, h => by
  simp only [lk] at h
  cases hb : Nat.beq k j with
  | true => rw [hb, cond_true, Option.some.injEq] at h; subst h; exact ha.1
  | false => rw [hb, cond_false] at h; exact ha.2.get k s h
theorem Dis.mk4 {α : Type} {nt nb nb' : Nat} {t : List (Nat × SV)} {m : List (Nat × Blk)} {h : World → Prop} {z : Gz} (ρ : Nat → Nat) (L : List Nat) {t' : α → List (Nat × SV)} {m' : α → List (Nat × Blk)} {h' : α → World → Prop} {pre : α → Prop} {w0 : World}
 (hz : GEqR ρ z.g) (hL : ∀ i ∈ L, ∃ b, lk m i = some b ∧ b.live = true) (hbel : ∀ w, h w → Below w0.heap.size w0 w)
 (hx : ∀ β w, (∀ i b, lk m i = some b → b.ok β w (β i)) → h w → (∀ i b, lk m i = some b → b.live = true → w0.heap.size ≤ β i) →
  ∃ x, pre x ∧ TEqR ρ β t (t' x) ∧ MEqR ρ L β m (m' x) ∧ injR ρ (m' x) = true ∧ ∀ w2, h w2 → (∀ i ∈ L, ∀ b, lk m i = some b → b.ok β w2 (β i)) → h' x w2) :
 Dis ⟨nt, t, m, nb, h, z⟩ (fun x => ⟨nt, t' x, m' x, nb', h' x, z⟩) pre := by
 unfold Dis
 rintro X a w ⟨β, D, hs⟩
 have hmem := hs.mem
 obtain ⟨x, hp, ht, hm, hinj, hh⟩ := hx β w hs.m (hs.h w (Chg.refl _ _)) (fun i b hi hl => Nat.le_of_not_lt fun hlt => hmem.out i b hi hl (hmem.old hbel hlt))
 have hLc : ∀ i ∈ L, ∃ o, w.heap[β i]? = some o ∧ IsMem o := fun i hi => by
  obtain ⟨b, h1, h2⟩ := hL i hi
  exact Blk.ok_cells h2 (hs.m i b h1)
 have hno : ∀ (d : Nat) (o : Obj), w.heap[d]? = some o → Other o → ¬ ∃ i ∈ L, β i = d := by
  rintro d o h1 h2 ⟨i, hi, rfl⟩
  obtain ⟨o3, h3, h4⟩ := hLc i hi
  rw [h1] at h3
  cases h3
  exact h2 h4
 refine ⟨x, hp, fun i => β (ρ i), fun b => D b ∨ ∃ i ∈ L, β i = b, ?_, hs.size, ?_, ?_, ?_, ?_, ?_, ?_, ?_⟩
 · obtain ⟨l, l1, l2, l3⟩ := hs.defers
   refine ⟨l, l1, l2, fun d hd => ⟨(l3 d hd).1, ?_, (l3 d hd).2.2⟩⟩
   rintro (h1 | h1)
   · exact (l3 d hd).2.1 h1
   · exact hno d _ (l3 d hd).1 (fun h => h) h1
 · intro k s hk
   obtain ⟨s', h1, h2⟩ := ht.get k s hk
   rw [← h2]; exact hs.t k s' h1
 · intro i b hi
   obtain ⟨_, b', h1, _, h2⟩ := hm.get i b hi
   exact h2 _ _ (hs.m _ b' h1)
 · intro i j bi bj hi hj h1 h2 hne
   obtain ⟨_, b', hi', l1, _⟩ := hm.get i bi hi
   obtain ⟨_, b2', hj', l2, _⟩ := hm.get j bj hj
   exact hs.inj _ _ _ _ hi' hj' (l1 h1) (l2 h2) (injR_spec hinj i j (lk_key hi) (lk_key hj) hne)
 · intro i b hi hl
   obtain ⟨hn, b', hi', l1, _⟩ := hm.get i b hi
   rintro (h1 | ⟨j, hj, h1⟩)
   · exact hs.out _ _ hi' (l1 hl) h1
   · obtain ⟨bj, h2, h3⟩ := hL j hj
     refine hs.inj j _ _ _ h2 hi' h3 (l1 hl) (fun e => ?_) h1
     subst e
     exact nin_iff.1 hn hj
 · rintro b (h1 | ⟨j, hj, rfl⟩)
   · exact hs.dlt b h1
   · obtain ⟨o3, h3, _⟩ := hLc j hj
     exact (Array.getElem?_eq_some_iff.1 h3).1
 · intro w2 hc
   refine hh w2 (hs.h w2 ⟨hc.os, hc.tape, hc.output, hc.size, fun b hb hd => hc.same b hb fun h1 => hd fun h2 => h1 (.inl h2)⟩) fun i hi b hb => ?_
   obtain ⟨o3, h3, _⟩ := hLc i hi
   exact Blk.keep_at (hc.same _ (Array.getElem?_eq_some_iff.1 h3).1 fun h1 => h1 (.inr ⟨i, hi, rfl⟩)) (hs.m i b hb)
 · refine ⟨fun k s hk => (hs.amb.g k s hk).trans (hz.get k s hk β).symm, fun p hp' => ⟨(hs.amb.la p hp').1, ?_⟩, hs.amb.lq, hs.amb.dep, hs.amb.nd, fun d hd => ⟨(hs.amb.pr d hd).1, ?_⟩⟩
   · rintro (h1 | h1)
     · exact (hs.amb.la p hp').2 h1
     · obtain ⟨st, pd, h2⟩ := (hs.amb.la p hp').1
       exact hno _ _ h2 (fun h => h) h1
   · rintro (h1 | h1)
     · exact (hs.amb.pr d hd).2 h1
     · exact hno _ _ (hs.amb.pr d hd).1 (fun h => h) h1
end Go.Proofs.Ythfabodamhdhaaa.Tx
namespace Go.Proofs.Ythfabodamhdhaaa
open Go Tx Go.RowKit
set_option linter.unusedSimpArgs false
set_option linter.unusedVariables false
abbrev Tr.l (x : Tr) : List SV := [.v (iv x.days), .v (iv x.shift), .v (iv x.size), .v (.slice x.to x.T.length x.tc), .v (.slice x.lo x.L.length x.lc)]
abbrev stB (x : Tr) (k d : Int) (nb : Nat) : List (Nat × Blk) := [(nb, .cells x.l 35), (nb + 1, .cells [.v (iv k)] 3), (nb + 2, .cells [.v (iv d)] 3)]
theorem stops_ok (x : Tr) (k d : Int) (w : World) : Calls Try.prog 83 #[x.v, iv k, iv d] w fun e w' => ∃ β : Nat → Nat, e = .returned ((SV.fn (.func 114) [.ptr 0 0, .ptr 1 0, .ptr 2 0]).c β) ∧ Below w.heap.size w w' ∧
 (∀ i b, lk (stB x k d 0) i = some b → w.heap.size ≤ β i ∧ b.ok β w' (β i)) ∧ ∀ i j, i < 3 → j < 3 → i ≠ j → β i ≠ β j := by
 refine calls_fam3 env mixed Try.func83 has83 Try.ntmps83 [.agg #[iv x.days, iv x.shift, iv x.size, .slice x.to x.T.length x.tc, .slice x.lo x.L.length x.lc], iv k, iv d] (by simp) ?_
 obtain ⟨days, shift, size, to, tc, T, lo, lc, L⟩ := x
 repeat'
  conv => whnf
  first
   | refine zA ?_ | refine zB ?_ | refine zC ?_ | refine zD ?_ | refine zE ?_ | refine zF ?_ | refine zG ?_ | refine zH ?_ | refine zJ ?_ | refine zI ?_ | refine splT ?_ | refine splF ?_ | refine splNot ?_
   | ((first | refine splIn ?_ ?_ | refine splD ?_ ?_ | refine splE ?_ ?_ | refine splNE ?_ ?_) <;> intro hc <;> first | (exfalso; omega) | (exfalso; dsimp only at hc; omega) | skip)
 refine ⟨fun w' h => h, fun β w' hB hB2 hblk hinj => ⟨β, rfl, hB2, fun i b hi => ?_, fun i j hi hj hne => ?_⟩⟩
 · have hm := lk_mem hi
   simp only [stB, List.mem_cons, Prod.mk.injEq, List.not_mem_nil, or_false] at hm
   rcases hm with ⟨rfl, rfl⟩ | ⟨rfl, rfl⟩ | ⟨rfl, rfl⟩
   · exact hblk 0 _ rfl rfl
   · exact hblk 1 _ rfl rfl
   · exact hblk 2 _ rfl rfl
 · rcases (by omega : i = 0 ∨ i = 1 ∨ i = 2) with rfl | rfl | rfl <;> rcases (by omega : j = 0 ∨ j = 1 ∨ j = 2) with rfl | rfl | rfl <;> first | exact absurd rfl hne | exact hinj _ _ _ _ rfl rfl rfl rfl (by decide)
theorem stops_R (x : Tr) (k d : Int) (nb : Nat) (β : Nat → Nat) (w : World) : Calls Try.prog 83 #[x.v, iv k, iv d] w fun e w' => ∃ γ : Nat → Nat, e = .returned ((SV.fn (.func 114) [.ptr nb 0, .ptr (nb + 1) 0, .ptr (nb + 2) 0]).c γ) ∧ (∀ i, i ∉ [nb, nb + 1, nb + 2] → γ i = β i) ∧ Below w.heap.size w w' ∧
 (∀ i b, (i, b) ∈ stB x k d nb → w.heap.size ≤ γ i ∧ b.ok γ w' (γ i)) ∧ ∀ i b j b', (i, b) ∈ stB x k d nb → (j, b') ∈ stB x k d nb → i ≠ j → γ i ≠ γ j := by
 refine (stops_ok x k d w).mono fun e w' ⟨δ, h1, h2, h3, h4⟩ => ?_
 let γ : Nat → Nat := fun i => if i = nb then δ 0 else if i = nb + 1 then δ 1 else if i = nb + 2 then δ 2 else β i
 have g0 : γ nb = δ 0 := if_pos rfl
 have g1 : γ (nb + 1) = δ 1 := by show (if nb + 1 = nb then _ else if nb + 1 = nb + 1 then _ else _) = _; rw [if_neg (by omega), if_pos rfl]
 have g2 : γ (nb + 2) = δ 2 := by show (if nb + 2 = nb then _ else if nb + 2 = nb + 1 then _ else if nb + 2 = nb + 2 then _ else _) = _; rw [if_neg (by omega), if_neg (by omega), if_pos rfl]
 refine ⟨γ, ?_, fun i hi => ?_, h2, fun i b hm => ?_, fun i b j b' hm hm' hne => ?_⟩
 · rw [h1]
   simp only [SV.c, SV.cs, g0, g1, g2]
 · simp only [List.mem_cons, List.not_mem_nil, or_false, not_or] at hi
   show (if i = nb then _ else if i = nb + 1 then _ else if i = nb + 2 then _ else _) = _
   rw [if_neg hi.1, if_neg hi.2.1, if_neg hi.2.2]
 · simp only [stB, List.mem_cons, Prod.mk.injEq, List.not_mem_nil, or_false] at hm
   rcases hm with ⟨rfl, rfl⟩ | ⟨rfl, rfl⟩ | ⟨rfl, rfl⟩
   · rw [g0]; exact h3 0 _ rfl
   · rw [g1]; exact h3 1 _ rfl
   · rw [g2]; exact h3 2 _ rfl
 · simp only [stB, List.mem_cons, Prod.mk.injEq, List.not_mem_nil, or_false] at hm hm'
   rcases hm with ⟨rfl, rfl⟩ | ⟨rfl, rfl⟩ | ⟨rfl, rfl⟩ <;> rcases hm' with ⟨rfl, rfl⟩ | ⟨rfl, rfl⟩ | ⟨rfl, rfl⟩ <;> first | exact absurd rfl hne | (simp only [g0, g1, g2]; exact h4 _ _ (by decide) (by decide) (by decide))
def aloB (x : To) (a d l : Int) : Bool := decide (fltO x [(a, d, l)] 0 a d l 4 = 0)
def ALp (x : To) (a d : Nat) : Nat → List Nat
 | 0 => []
 | j + 1 => if aloB x a d ((d : Int) + ((twO x a).s1 + j) - 1) = true then ALp x a d j ++ [((d : Int) + ((twO x a).s1 + j) - 1).toNat] else ALp x a d j
def ALO (x : To) (a d : Nat) : List Nat := if a = 0 then [] else ALp x a d ((twO x a).s2 - (twO x a).s1 + 1).toNat
theorem fstT_zero : ∀ {L : List Bool} {n : Nat}, fstT L n = 0 → ∀ b ∈ L, b = false
 | b :: r, n, h, c, hc => by
  rw [fstT] at h
  split at h
  · omega
  · rename_i hb
    rcases List.mem_cons.1 hc with rfl | hc
    · simpa using hb
    · exact fstT_zero h c hc
theorem twN_of {x : To} (hn : ToN x) {a : Nat} (h1 : 1 ≤ a) (h2 : a < x.T.length) : TwN (twO x a) := by
 obtain ⟨t, ht⟩ : ∃ t, x.T[a]? = some t := ⟨_, List.getElem?_eq_getElem h2⟩
 have htw : twO x a = t := by simp [twO, ht]
 rw [htw]
 exact TwN.of (hn.t a h1 t ht)
end Go.Proofs.Ythfabodamhdhaaa
namespace Go.Proofs.Ythfabodamhdhaaa
open Go Tx Go.RowKit
set_option linter.unusedSimpArgs false
set_option linter.unusedVariables false
structure Rw5 where
 b : Nat
 c : Nat
 ls : List (Option Addr × Nat)
def LOk (m : Nat) (a d : Nat) (L : List Nat) (y : Option Addr × Nat) (w : World) : Prop := (y = (none, 0) ∧ L = []) ∨ ∃ b, y.1 = some ⟨b, 0, none⟩ ∧ m ≤ b ∧ w.ownsRow 0 96 3 (.slice (some ⟨b, 0, none⟩) L.length y.2) L.length (L.flatMap (slF a d))
def lsV (AL : Nat → List Nat) (days : Nat) (E : List (Option Addr × Nat)) : List Value := (E.mapIdx fun d y => Value.slice y.1 (AL d).length y.2) ++ List.replicate (days - E.length) (.slice none 0 0)
def RwOk (m : Nat) (AL : Nat → List Nat) (days a : Nat) (r : Rw5) (w : World) : Prop := m ≤ r.b ∧ r.ls.length = days ∧ w.ownsRow 0 28 1 (.slice (some ⟨r.b, 0, none⟩) days r.c) days (lsV AL days r.ls) ∧ ∀ d y, r.ls[d]? = some y → LOk m a d (AL d) y w
def TbOk (m : Nat) (x : To) (D : List Rw5) (w : World) : Prop := ∀ a r, D[a]? = some r → RwOk m (ALO x a) x.days.toNat a r w
theorem own_heap {w : World} {b n c sz ty : Nat} {xs : List Value} (h : w.ownsRow 0 ty sz (.slice (some ⟨b, 0, none⟩) n c) n xs) : ∃ cur, w.heap[b]? = some (.cells cur ty (0, 0)) := by
 rcases h.2 with ⟨h', _⟩ | ⟨g, cap, cur, q0, q1, q2, _⟩
 · cases h'
 · simp only [Value.slice.injEq, Option.some.injEq, Addr.mk.injEq, and_true, true_and] at q0
   obtain ⟨rfl, rfl⟩ := q0
   exact ⟨cur, q2⟩
theorem own_keep {w w2 : World} {b n c sz ty : Nat} {xs : List Value} (h : w.ownsRow 0 ty sz (.slice (some ⟨b, 0, none⟩) n c) n xs) (e : w2.heap[b]? = w.heap[b]?) : w2.ownsRow 0 ty sz (.slice (some ⟨b, 0, none⟩) n c) n xs := by
 have := Blk.keep_at (β := fun _ => c) (b := b) (k := .own 0 n sz xs ty) e h
 exact this
theorem TbOk.keep {m : Nat} {x : To} {D : List Rw5} {w w2 : World} (h : TbOk m x D w) (hs : ∀ c cur ty, m ≤ c → w.heap[c]? = some (.cells cur ty (0, 0)) → ty = 28 ∨ ty = 96 → w2.heap[c]? = w.heap[c]?) : TbOk m x D w2 := fun a r hr => by
 obtain ⟨h1, h2, h3, h4⟩ := h a r hr
 refine ⟨h1, h2, ?_, fun d y hy => ?_⟩
 · obtain ⟨cur, hc⟩ := own_heap h3
   exact own_keep h3 (hs _ cur 28 h1 hc (.inl rfl))
 · rcases h4 d y hy with h5 | ⟨b, h5, h6, h7⟩
   · exact .inl h5
   · obtain ⟨cur, hc⟩ := own_heap h7
     exact .inr ⟨b, h5, h6, own_keep h7 (hs _ cur 96 h6 hc (.inr rfl))⟩
end Go.Proofs.Ythfabodamhdhaaa
namespace Go.Proofs.Ythfabodamhdhaaa.Tx
open Go Go.RowKit
set_option linter.unusedSimpArgs false
set_option linter.unusedVariables false
theorem calls_WSV {P : Program} (T : Env P) (hm : P.follows .mixedOrders = true) {k : Nat} {fn : Func} {c : Code} (hfn : P.funcs[k]? = some fn) (hb : fn.body = some c) {nt : Nat} (hnt : fn.ntmps = nt) (args : List SV) (m0 m1 : List (Nat × Blk)) (nb0 : Nat) (v : Value)
 (hlen : args.length ≤ nt) (hargs : SV.lts nb0 args = true) (hm0 : mB nb0 m0 = true) (hm1 : mB nb0 m1 = true) (hlive : ∀ i b, lk m0 i = some b → b.live = true)
 {Hp : World → Prop} (hvc : ∀ h : World → Prop, (∀ w', h w' → Hp w') → VC P c ⟨nt, slotsOf 0 args, m0, nb0, h, ⟨pinG nb0, [], 0⟩⟩ (endΦ T fn fun s σ => (∀ β, s.c β = v) ∧ MSub σ.m m1 ∧ (∀ w', σ.h w' → h w') ∧ σ.z.g = pinG nb0))
 {β : Nat → Nat} {w : World} (hok : ∀ i b, lk m0 i = some b → b.ok β w (β i)) (hinj : ∀ i j bi bj, lk m0 i = some bi → lk m0 j = some bj → i ≠ j → β i ≠ β j) (hst : ∀ w', Chg (fun b => ∃ i bk, lk m0 i = some bk ∧ β i = b) w w' → Hp w') :
 Calls P k (SV.cs β args).toArray w fun e w' => e = .returned v ∧ Chg (fun b => ∃ i bk, lk m0 i = some bk ∧ β i = b) w w' ∧ ∀ i b, lk m1 i = some b → b.ok β w' (β i) := by
 have hmk := okB (nt := 0) (t := []) (m := m0) (nb := nb0) (h := fun _ => True) (z := ⟨[], [], 0⟩) rfl hm0 rfl
 have hm1k := okB (nt := 0) (t := []) (m := m1) (nb := nb0) (h := fun _ => True) (z := ⟨[], [], 0⟩) rfl hm1 rfl
 let D : Nat → Prop := fun b => b < w.heap.size ∧ ¬ ∃ i bk, lk m0 i = some bk ∧ β i = b
 let h0 : World → Prop := fun w' => Chg (fun b => ∃ i bk, lk m0 i = some bk ∧ β i = b) w w'
 let X : Cx := ⟨fun k => .pointer (some ⟨β k, 0, none⟩), [], []⟩
 have hmem : Mem ⟨nt, slotsOf 0 args, m0, nb0, h0, ⟨pinG nb0, [], 0⟩⟩ β D w :=
  ⟨hok, fun i j bi bj h1 h2 _ _ hne => hinj i j bi bj h1 h2 hne, fun i b hi _ hD => hD.2 ⟨i, b, hi, rfl⟩, fun b hD => hD.1,
   fun w' hc => ⟨hc.os, hc.tape, hc.output, hc.size, fun b hb hX => hc.same b hb (fun hD => hD ⟨hb, hX⟩)⟩⟩
 have hamb : Amb X ⟨pinG nb0, [], 0⟩ β D w :=
  ⟨fun k s hk => by rw [(pinG_all hk).2]; rfl, fun p hp => (by cases hp), fun i e hi => (by simp [lk] at hi), rfl, List.nodup_nil, fun d hd => (by cases hd)⟩
 have hg0 : ∀ k s, lk (pinG nb0) k = some s → s.lt nb0 = true := fun k s hk => by
  obtain ⟨h1, h2⟩ := pinG_all hk
  subst h2
  simp only [SV.lt, Nat.blt_eq]; exact h1
 refine (calls_VC T hm hfn hb hnt (args := args) (m0 := m0) (nb0 := nb0) (h := h0) (z0 := ⟨pinG nb0, [], 0⟩) hlen hargs hmk.wf.m hg0 (hvc h0 hst) X hamb hmem).mono fun e w' ⟨s, σ', β', D', he, ⟨h1, h2, h3, h4⟩, h5, h6, h7, h8⟩ => ?_
 have hpin : ∀ i, i < nb0 → β' i = β i := fun i hi => by
  have := h8.g i (.ptr i 0) (by rw [h4]; exact pinG_lk hi)
  simp only [X, SV.c, Value.pointer.injEq, Option.some.injEq, Addr.mk.injEq] at this
  exact this.1.symm
 refine ⟨by rw [he, h1], h3 w' (h7.h w' (Chg.refl _ _)), fun i b hi => ?_⟩
 obtain ⟨q1, q2⟩ := hm1k.wf.m i b hi
 have := h7.m i b (h2.get i b hi)
 rw [hpin i q1] at this
 exact Blk.ok_nm (fun j hj => (hpin j hj).symm) b q2 this
end Go.Proofs.Ythfabodamhdhaaa.Tx
namespace Go.Proofs.Ythfabodamhdhaaa
open Go Tx Go.RowKit
set_option linter.unusedSimpArgs false
set_option linter.unusedVariables false
section
variable {x : Tr} {AL : Nat → Nat → List Nat} {aa : Alp} {an ac b1 b2 : Nat}
end
end Go.Proofs.Ythfabodamhdhaaa
namespace Go.Proofs.Ythfabodamhdhaaa
open Go Tx Go.RowKit
set_option linter.unusedSimpArgs false
set_option linter.unusedVariables false
structure Iw where
 o : Option Addr
 c : Nat
 xs : List Int
abbrev Iw.cs (r : Iw) : List Value := [.slice r.o r.xs.length r.c]
end Go.Proofs.Ythfabodamhdhaaa
namespace Go.Proofs.Ythfabodamhdhaaa
open Go Tx Go.RowKit
set_option linter.unusedSimpArgs false
set_option linter.unusedVariables false
structure TbG where
 o : Nat
 c : Nat
 D : List (Nat × Nat)
abbrev TbG.v (y : TbG) : Value := .slice (some ⟨y.o, 0, none⟩) y.D.length y.c
structure TbIn (m N : Nat) (y : TbG) (C : List (List Int)) (w : World) : Prop where
 l : C.length = y.D.length
 n : ∀ r ∈ C, r.length = N
 h : w.ownsRow 0 43 1 (.slice (some ⟨y.o, 0, none⟩) y.D.length y.c) y.D.length (y.D.map fun p => .slice (some ⟨p.1, 0, none⟩) N p.2)
 r : ∀ (i : Nat) (p : Nat × Nat) (xs : List Int), y.D[i]? = some p → C[i]? = some xs → w.ownsRow 0 3 1 (.slice (some ⟨p.1, 0, none⟩) N p.2) N (xs.flatMap iF)
 d : (y.D.map Prod.fst).Nodup
 a : ∀ p ∈ y.D, m ≤ p.1 ∧ p.1 ≠ y.o
 m : m ≤ y.o
def TbG.rw (y : TbG) (C : List (List Int)) : List Iw := (y.D.zip C).map fun p => ⟨some ⟨p.1.1, 0, none⟩, p.1.2, p.2⟩
theorem TbG.rw_len {y : TbG} {C : List (List Int)} (h : C.length = y.D.length) : (y.rw C).length = y.D.length := by simp [TbG.rw, h]
theorem TbG.rw_mem {y : TbG} {C : List (List Int)} {r : Iw} (h : r ∈ y.rw C) : ∃ (i : Nat) (p : Nat × Nat) (xs : List Int), y.D[i]? = some p ∧ C[i]? = some xs ∧ r = ⟨some ⟨p.1, 0, none⟩, p.2, xs⟩ := by
 obtain ⟨i, hi⟩ := List.mem_iff_getElem?.1 h
 simp only [TbG.rw, List.getElem?_map] at hi
 cases hz : (y.D.zip C)[i]? with
 | none => rw [hz] at hi; cases hi
 | some q =>
  rw [hz, Option.map_some, Option.some.injEq] at hi
  obtain ⟨h1, h2⟩ := List.getElem?_zip_eq_some.1 hz
  exact ⟨i, q.1, q.2, h1, h2, hi.symm⟩
theorem TbIn.out {m N : Nat} {y : TbG} {C : List (List Int)} {w : World} (h : TbIn m N y C w) : Rd 1 Iw.cs (.slice (some ⟨y.o, 0, none⟩) y.D.length y.c) (y.rw C) w :=
 .inr ⟨⟨y.o, 0, none⟩, y.c, by rw [TbG.rw_len h.l], fun k b hk j v hv => by
  obtain ⟨i, p, xs, h1, h2, rfl⟩ : ∃ (i : Nat) (p : Nat × Nat) (xs : List Int), y.D[k]? = some p ∧ C[k]? = some xs ∧ b = ⟨some ⟨p.1, 0, none⟩, p.2, xs⟩ := by
   simp only [TbG.rw, List.getElem?_map] at hk
   cases hz : (y.D.zip C)[k]? with
   | none => rw [hz] at hk; cases hk
   | some q =>
    rw [hz, Option.map_some, Option.some.injEq] at hk
    obtain ⟨h1, h2⟩ := List.getElem?_zip_eq_some.1 hz
    exact ⟨k, q.1, q.2, h1, h2, hk.symm⟩
  match j, hv with
  | 0, hv =>
   have hN := h.n xs (List.mem_of_getElem? h2)
   have hv2 : (y.D.map fun p => Value.slice (some ⟨p.1, 0, none⟩) N p.2)[k]? = some v := by
    rw [List.getElem?_map, h1, Option.map_some, ← hN]; exact hv
   have := h.h.cells (g := y.o) rfl _ _ hv2
   rw [own_add, Nat.zero_add] at this
   rw [own_add, own_add, Nat.zero_add, Nat.mul_one]
   exact this⟩
theorem TbIn.row {m N : Nat} {y : TbG} {C : List (List Int)} {w : World} (h : TbIn m N y C w) : ∀ r ∈ y.rw C, Rd 1 iF (.slice r.o r.xs.length r.c) r.xs w := fun r hr => by
 obtain ⟨i, p, xs, h1, h2, rfl⟩ := TbG.rw_mem hr
 have hN := h.n xs (List.mem_of_getElem? h2)
 dsimp only
 have := h.r i p xs h1 h2
 rw [← hN] at this
 exact Rd.of_owns (sz := 1) (f := iF) (fun _ => rfl) rfl rfl this
theorem TbIn.keep {m N : Nat} {y : TbG} {C : List (List Int)} {w w2 : World} (h : TbIn m N y C w) (hs : ∀ c, m ≤ c → c < w.heap.size → w2.heap[c]? = w.heap[c]?) : TbIn m N y C w2 :=
 ⟨h.l, h.n, own_keep h.h (hs _ h.m (by obtain ⟨c, hc⟩ := own_heap h.h; exact (Array.getElem?_eq_some_iff.1 hc).1)), fun i p xs h1 h2 => own_keep (h.r i p xs h1 h2) (hs _ (h.a p (List.mem_of_getElem? h1)).1 (by obtain ⟨c, hc⟩ := own_heap (h.r i p xs h1 h2); exact (Array.getElem?_eq_some_iff.1 hc).1)), h.d, h.a, h.m⟩
theorem TbIn.st {m N : Nat} {y : TbG} {C : List (List Int)} {w : World} (h : TbIn m N y C w) : St m (TbIn m N y C) w := fun w2 k => h.keep fun c h1 h2 => k.same c h1 h2
theorem TbIn.set {m N : Nat} {y : TbG} {C : List (List Int)} {w : World} {i j : Nat} {p : Nat × Nat} {xs0 : List Int} {v : Int} (h : TbIn m N y C w) (hr : y.D[i]? = some p) (hx0 : C[i]? = some xs0) (hj : j < N) :
 TbIn m N y (C.set i (xs0.set j v)) (w.setCell ⟨p.1, j, none⟩ (iv v)) := by
 have hpa := h.a p (List.mem_of_getElem? hr)
 have hN := h.n xs0 (List.mem_of_getElem? hx0)
 refine ⟨by rw [List.length_set]; exact h.l, fun r hm => ?_, own_keep h.h (setCell_other fun e => hpa.2 e.symm), fun k q xs hq hx => ?_, h.d, h.a, h.m⟩
 · rcases List.mem_or_eq_of_mem_set hm with hm | rfl
   · exact h.n r hm
   · rw [List.length_set]; exact hN
 · by_cases hp : k = i
   · subst hp
     rw [hr, Option.some.injEq] at hq
     subst hq
     rw [List.getElem?_set, if_pos rfl, if_pos (List.getElem?_eq_some_iff.1 hx0).1, Option.some.injEq] at hx
     subst hx
     have := (World.ownsRow.stored (h.r k p xs0 hr hx0) j (iv v)).1
     have e : (xs0.flatMap iF).set j (iv v) = (xs0.set j v).flatMap iF := by
      rw [← setF (by omega), List.set_eq_take_append_cons_drop, if_pos (by rw [lenF]; omega)]; rfl
     rw [e] at this
     exact this
   · rw [List.getElem?_set, if_neg (fun e => hp e.symm)] at hx
     refine own_keep (h.r k q xs hq hx) (setCell_other fun e => ?_)
     have e1 : (y.D.map Prod.fst)[k]? = some q.1 := by rw [List.getElem?_map, hq]; rfl
     have e2 : (y.D.map Prod.fst)[i]? = some p.1 := by rw [List.getElem?_map, hr]; rfl
     have e : q.1 = p.1 := e
     rw [e] at e1
     exact hp ((List.getElem?_inj (List.getElem?_eq_some_iff.1 e1).1 h.d).1 (e1.trans e2.symm))
def setT (R : List (List Int)) (a d : Nat) (v : Int) : List (List Int) := R.set a (((R[a]?).getD []).set d v)
end Go.Proofs.Ythfabodamhdhaaa
namespace Go.Proofs.Ythfabodamhdhaaa.Tx
open Go Go.RowKit
set_option linter.unusedSimpArgs false
set_option linter.unusedVariables false
theorem Dis.mk5 {α : Type} {nt nb nb' : Nat} {t : List (Nat × SV)} {m : List (Nat × Blk)} {h : World → Prop} {z : Gz} (ρ : Nat → Nat) (L : List Nat) {t' : α → List (Nat × SV)} {m' : α → List (Nat × Blk)} {h' : α → World → Prop} {pre : α → Prop} {w0 : World}
 (hz : GEqR ρ z.g) (hL : ∀ i ∈ L, ∃ b, lk m i = some b ∧ b.live = true) (hbel : ∀ w, h w → Below w0.heap.size w0 w)
 (hx : ∀ β w, (∀ i b, lk m i = some b → b.ok β w (β i)) → h w → (∀ i b, lk m i = some b → b.live = true → w0.heap.size ≤ β i) → (∀ i b c, lk m i = some b → b.live = true → (∀ w, h w → ∃ cs ty fr, w.heap[c]? = some (.cells cs ty fr)) → β i ≠ c) → (∀ i j bi bj, lk m i = some bi → lk m j = some bj → bi.live = true → bj.live = true → i ≠ j → β i ≠ β j) →
  ∃ x, pre x ∧ TEqR ρ β t (t' x) ∧ MEqR ρ L β m (m' x) ∧ injR ρ (m' x) = true ∧ ∀ w2, h w2 → (∀ i ∈ L, ∀ b, lk m i = some b → b.ok β w2 (β i)) → h' x w2) :
 Dis ⟨nt, t, m, nb, h, z⟩ (fun x => ⟨nt, t' x, m' x, nb', h' x, z⟩) pre := by
 unfold Dis
 rintro X a w ⟨β, D, hs⟩
 have hmem := hs.mem
 obtain ⟨x, hp, ht, hm, hinj, hh⟩ := hx β w hs.m (hs.h w (Chg.refl _ _)) (fun i b hi hl => Nat.le_of_not_lt fun hlt => hmem.out i b hi hl (hmem.old hbel hlt)) (fun i b c hi hl hc e => hs.out i b hi hl (by rw [e]; exact hs.dof hc)) (fun i j bi bj hi hj l1 l2 hne => hs.inj i j bi bj hi hj l1 l2 hne)
 have hLc : ∀ i ∈ L, ∃ o, w.heap[β i]? = some o ∧ IsMem o := fun i hi => by
  obtain ⟨b, h1, h2⟩ := hL i hi
  exact Blk.ok_cells h2 (hs.m i b h1)
 have hno : ∀ (d : Nat) (o : Obj), w.heap[d]? = some o → Other o → ¬ ∃ i ∈ L, β i = d := by
  rintro d o h1 h2 ⟨i, hi, rfl⟩
  obtain ⟨o3, h3, h4⟩ := hLc i hi
  rw [h1] at h3
  cases h3
  exact h2 h4
 refine ⟨x, hp, fun i => β (ρ i), fun b => D b ∨ ∃ i ∈ L, β i = b, ?_, hs.size, ?_, ?_, ?_, ?_, ?_, ?_, ?_⟩
 · obtain ⟨l, l1, l2, l3⟩ := hs.defers
   refine ⟨l, l1, l2, fun d hd => ⟨(l3 d hd).1, ?_, (l3 d hd).2.2⟩⟩
   rintro (h1 | h1)
   · exact (l3 d hd).2.1 h1
   · exact hno d _ (l3 d hd).1 (fun h => h) h1
 · intro k s hk
   obtain ⟨s', h1, h2⟩ := ht.get k s hk
   rw [← h2]; exact hs.t k s' h1
 · intro i b hi
   obtain ⟨_, b', h1, _, h2⟩ := hm.get i b hi
   exact h2 _ _ (hs.m _ b' h1)
 · intro i j bi bj hi hj h1 h2 hne
   obtain ⟨_, b', hi', l1, _⟩ := hm.get i bi hi
   obtain ⟨_, b2', hj', l2, _⟩ := hm.get j bj hj
   exact hs.inj _ _ _ _ hi' hj' (l1 h1) (l2 h2) (injR_spec hinj i j (lk_key hi) (lk_key hj) hne)
 · intro i b hi hl
   obtain ⟨hn, b', hi', l1, _⟩ := hm.get i b hi
   rintro (h1 | ⟨j, hj, h1⟩)
   · exact hs.out _ _ hi' (l1 hl) h1
   · obtain ⟨bj, h2, h3⟩ := hL j hj
     refine hs.inj j _ _ _ h2 hi' h3 (l1 hl) (fun e => ?_) h1
     subst e
     exact nin_iff.1 hn hj
 · rintro b (h1 | ⟨j, hj, rfl⟩)
   · exact hs.dlt b h1
   · obtain ⟨o3, h3, _⟩ := hLc j hj
     exact (Array.getElem?_eq_some_iff.1 h3).1
 · intro w2 hc
   refine hh w2 (hs.h w2 ⟨hc.os, hc.tape, hc.output, hc.size, fun b hb hd => hc.same b hb fun h1 => hd fun h2 => h1 (.inl h2)⟩) fun i hi b hb => ?_
   obtain ⟨o3, h3, _⟩ := hLc i hi
   exact Blk.keep_at (hc.same _ (Array.getElem?_eq_some_iff.1 h3).1 fun h1 => h1 (.inr ⟨i, hi, rfl⟩)) (hs.m i b hb)
 · refine ⟨fun k s hk => (hs.amb.g k s hk).trans (hz.get k s hk β).symm, fun p hp' => ⟨(hs.amb.la p hp').1, ?_⟩, hs.amb.lq, hs.amb.dep, hs.amb.nd, fun d hd => ⟨(hs.amb.pr d hd).1, ?_⟩⟩
   · rintro (h1 | h1)
     · exact (hs.amb.la p hp').2 h1
     · obtain ⟨st, pd, h2⟩ := (hs.amb.la p hp').1
       exact hno _ _ h2 (fun h => h) h1
   · rintro (h1 | h1)
     · exact (hs.amb.pr d hd).2 h1
     · exact hno _ _ (hs.amb.pr d hd).1 (fun h => h) h1
end Go.Proofs.Ythfabodamhdhaaa.Tx
namespace Go.Proofs.Ythfabodamhdhaaa
open Go Tx Go.RowKit
set_option linter.unusedSimpArgs false
set_option linter.unusedVariables false
end Go.Proofs.Ythfabodamhdhaaa
namespace Go.Proofs.Ythfabodamhdhaaa
open Go Tx Go.RowKit
set_option linter.unusedSimpArgs false
set_option linter.unusedVariables false
set_option maxRecDepth 100000
end Go.Proofs.Ythfabodamhdhaaa
namespace Go.Proofs.Ythfabodamhdhaaa
open Go Tx Go.RowKit
set_option linter.unusedSimpArgs false
set_option linter.unusedVariables false
theorem ends_ok (r1 r2 lo hi : Int) (w : World) : Calls Try.prog 102 #[.agg #[iv r1, iv r2], iv lo, iv hi] w fun e w' => e = .returned (.bool (rgB lo hi (r1, r2))) ∧ Below w.heap.size w w' := by
 refine calls_val env mixed Try.func102 has102 Try.ntmps102 [.agg #[iv r1, iv r2], iv lo, iv hi] (by simp) ?_
 repeat'
  conv => whnf
  first
   | refine zA ?_ | refine zB ?_ | refine zC ?_ | refine zD ?_ | refine zE ?_ | refine zF ?_ | refine zG ?_ | refine zH ?_ | refine zJ ?_ | refine zI ?_ | refine splT ?_ | refine splF ?_ | refine splNot ?_
   | ((first | refine splIn ?_ ?_ | refine splD ?_ ?_ | refine splE ?_ ?_ | refine splNE ?_ ?_) <;> intro hc <;> first | (exfalso; omega) | (exfalso; dsimp only at hc; omega) | skip)
 all_goals exact ⟨fun β => congrArg Value.bool (by simp [rgB, *]), fun w' h => h⟩
theorem names67 : namesB Try.prog 67 = true := by kernel_rfl
theorem guard67 : Try.prog.eqGuardType Try.prog.depth 67 = false := by kernel_rfl
theorem eqIn67 (a b c e : Int) (w : World) : (Op.equalIn 10000 67 (.agg #[iv a, iv b]) (.agg #[iv c, iv e])).run Try.prog w = .ok (a == c && b == e) w :=
 equalIn_two tok67 rfl (by decide) names67 (part3 _ 0 _ w rfl) (part3 _ 1 _ w rfl) (part3 _ 0 _ w rfl) (part3 _ 1 _ w rfl) (eqIn3 9998 _ _ w) (eqIn3 9998 _ _ w)
theorem names127 : namesB Try.prog 127 = true := by kernel_rfl
theorem guard127 : Try.prog.eqGuardType Try.prog.depth 127 = false := by kernel_rfl
theorem eqIn127 (a b c e : Int) (w : World) : (Op.equalIn 10000 127 (.agg #[iv a, iv b]) (.agg #[iv c, iv e])).run Try.prog w = .ok (a == c && b == e) w :=
 equalIn_two tok127 rfl (by decide) names127 (part3 _ 0 _ w rfl) (part3 _ 1 _ w rfl) (part3 _ 0 _ w rfl) (part3 _ 1 _ w rfl) (eqIn3 9998 _ _ w) (eqIn3 9998 _ _ w)
theorem eqlE67 {a b c e : Int} {q : Bool} {x y : Operand} {K : Value → Prop} (hq : (a == c && b == e) = q) (h : K (.bool q)) : ∃ v, (∀ _ : Nat → Nat, RunIs Try.prog (do eqGuard .eql 67 x y (.agg #[iv a, iv b]) (.agg #[iv c, iv e]); binOp .eql 67 (.agg #[iv a, iv b]) (.agg #[iv c, iv e])) v) ∧ K v :=
 ⟨_, fun _ => runIs_eql guard67 fun w => eqIn67 _ _ _ _ w, by rw [hq]; exact h⟩
theorem neqE127 {a b c e : Int} {q : Bool} {x y : Operand} {K : Value → Prop} (hq : (!(a == c && b == e)) = q) (h : K (.bool q)) : ∃ v, (∀ _ : Nat → Nat, RunIs Try.prog (do eqGuard .neq 127 x y (.agg #[iv a, iv b]) (.agg #[iv c, iv e]); binOp .neq 127 (.agg #[iv a, iv b]) (.agg #[iv c, iv e])) v) ∧ K v :=
 ⟨_, fun _ => runIs_neq guard127 fun w => eqIn127 _ _ _ _ w, by rw [hq]; exact h⟩
theorem empty_ok (t : Tn) (w : World) : Calls Try.prog 61 #[.agg t.cs.toArray] w fun e w' => e = .returned (.bool (quB t.d)) ∧ Below w.heap.size w w' := by
 obtain ⟨oo, oc, ro, rc, O, s1, s2, pay, lot, rent, R, cold, cut⟩ := t
 refine calls_val env mixed Try.func61 has61 Try.ntmps61 [.agg #[.slice oo O.length oc, iv s1, iv s2, iv pay, iv lot, iv rent, .slice ro R.length rc, iv cold, iv cut]] (by simp) ?_
 have hq : quB ⟨O, s1, s2, pay, lot, rent, R, cold, cut⟩ = (decide ((O.length : Int) = 0) && ((s1 == 0 && s2 == 0) && (decide (pay = 0) && (decide (lot = 0) && (decide (rent = 0) && (decide ((R.length : Int) = 0) && (decide (cold = 0) && decide (cut = 0)))))))) := by
  rw [Bool.eq_iff_iff]
  simp only [quB, Bool.and_eq_true, decide_eq_true_eq, beq_iff_eq]
  omega
 dsimp only
 rw [hq]
 obtain ⟨b, hb⟩ : ∃ b, (s1 == 0 && s2 == 0) = b := ⟨_, rfl⟩
 rw [hb]
 cases b
 all_goals skip
 repeat'
  conv => whnf
  first
   | refine zA ?_ | refine zB ?_ | refine zC ?_ | refine zD ?_ | refine zE ?_ | refine zF ?_ | refine zG ?_ | refine zH ?_ | refine zJ ?_ | refine zI ?_ | refine splT ?_ | refine splF ?_ | refine splNot ?_
   | ((first | refine splIn ?_ ?_ | refine splD ?_ ?_ | refine splE ?_ ?_ | refine splNE ?_ ?_) <;> intro hc <;> first | (exfalso; omega) | (exfalso; dsimp only at hc; omega) | skip)
   | refine eqlE67 hb ?_
 all_goals first | (exfalso; omega) | exact ⟨fun β => congrArg Value.bool (by first | (simp [*]; done) | (simp [*]; rfl) | (simp [*]; intros; first | assumption | omega) | simp_all), fun w' h => h⟩
structure TnI0 (t : Tn) (w : World) : Prop where
 o : Rd 2 prF (.slice t.oo t.d.O.length t.oc) t.d.O w
 r : Rd 2 prF (.slice t.ro t.d.R.length t.rc) t.d.R w
 ol : t.d.O.length ≤ 9223372036854775807
 rl : t.d.R.length ≤ 9223372036854775807
structure TrI0 (x : Tr) (w : World) : Prop where
 t : Rd 9 Tn.cs (.slice x.to x.T.length x.tc) x.T w
 ti : ∀ t ∈ x.T, TnI0 t w
 l : Rd 1 Lr.cs (.slice x.lo x.L.length x.lc) x.L w
 li : ∀ r ∈ x.L, Rd 2 prF (.slice r.o r.L.length r.c) r.L w
 tl : x.T.length ≤ 9223372036854775807
 ll : x.L.length ≤ 9223372036854775807
 lr : ∀ r ∈ x.L, r.L.length ≤ 9223372036854775807
 tcap : x.T.length ≤ x.tc
theorem TnI0.below {t : Tn} {w w' : World} (h : TnI0 t w) (hb : Below w.heap.size w w') : TnI0 t w' := ⟨h.o.below hb, h.r.below hb, h.ol, h.rl⟩
theorem TrI0.below {x : Tr} {w w' : World} (h : TrI0 x w) (hb : Below w.heap.size w w') : TrI0 x w' := ⟨h.t.below hb, fun t ht => (h.ti t ht).below hb, h.l.below hb, fun r hr => (h.li r hr).below hb, h.tl, h.ll, h.lr, h.tcap⟩
def lst (O : List (Int × Int)) : Nat → Int
 | 0 => -1
 | k + 1 => ((O[k]?).getD (0, 0)).2
theorem apB_step {days : Int} {O : List (Int × Int)} {i : Nat} {r : Int × Int} (h : O[i]? = some r) : apB days (lst O i) (O.drop i) = ((decide (lst O i + 1 ≤ r.1) && (decide (r.1 ≤ r.2) && decide (r.2 ≤ days - 1))) && apB days (lst O (i + 1)) (O.drop (i + 1))) := by
 obtain ⟨hi, rfl⟩ := List.getElem?_eq_some_iff.1 h
 rw [List.drop_eq_getElem_cons hi]
 show ((_ && (_ && _)) && apB days (O[i]).2 (O.drop (i + 1))) = _
 rw [show lst O (i + 1) = (O[i]).2 from by simp [lst, h]]
set_option maxHeartbeats 4000000 in
set_option maxRecDepth 100000 in
theorem rtown_ok (t : Tn) (days : Int) (w : World) (h : TnI0 t w) (hd : 1 ≤ days ∧ days ≤ 60) : Calls Try.prog 62 #[.agg t.cs.toArray, iv days] w fun e w' => e = .returned (.bool (twB days t.d)) ∧ Below w.heap.size w w' := by
 obtain ⟨oo, oc, ro, rc, O, s1, s2, pay, lot, rent, R, cold, cut⟩ := t
 have h00 : lst O 0 = -1 := rfl
 obtain ⟨hO, hR, hol, hrl⟩ := h
 dsimp only at h00 hO hR hol hrl ⊢
 refine calls_val env mixed Try.func62 has62 Try.ntmps62 [.agg #[.slice oo O.length oc, iv s1, iv s2, iv pay, iv lot, iv rent, .slice ro R.length rc, iv cold, iv cut], iv days] (by simp) ?_
 have htw : twB days ⟨O, s1, s2, pay, lot, rent, R, cold, cut⟩ = (apB days (-1) O && ((R.all fun r => rgB (-60) 60 r) && (inB O.length 1 3 && (rgB 1 10 (s1, s2) && (inB pay 0 1000000 && (inB lot 0 100000 && (inB rent 0 1000000 && (decide (R.length ≤ 3) && (inB cold 0 60 && inB cut 0 1000))))))))) := by
  simp only [twB, rgB]
  cases apB days (-1) O <;> cases (R.all fun r => decide (-60 ≤ r.1) && (decide (r.1 ≤ r.2) && decide (r.2 ≤ 60))) <;> simp
 rw [htw]
 clear htw
 repeat'
  conv => whnf
  first
   | refine zA ?_ | refine zB ?_ | refine zC ?_ | refine zD ?_ | refine zE ?_ | refine zF ?_ | refine zG ?_ | refine zH ?_ | refine zJ ?_ | refine zI ?_ | refine splT ?_ | refine splF ?_ | refine splNot ?_
   | ((first | refine splIn ?_ ?_ | refine splD ?_ ?_ | refine splE ?_ ?_ | refine splNE ?_ ?_) <;> intro hc <;> first | (exfalso; omega) | (exfalso; dsimp only at hc; omega) | skip)
 refine loopE (fun i : Nat => [(1, .v (iv days)), (2, .ptr 0 0), (5, .v (iv i))]) (fun _ => [(0, .cells [.v (.slice oo O.length oc), .v (iv s1), .v (iv s2), .v (iv pay), .v (iv lot), .v (iv rent), .v (.slice ro R.length rc), .v (iv cold), .v (iv cut)] 69)])
  (fun i => i ≤ O.length ∧ 0 ≤ lst O i + 1 ∧ apB days (-1) O = apB days (lst O i) (O.drop i)) (fun i => O.length - i) 0 ⟨Nat.zero_le _, by (show (0 : Int) ≤ -1 + 1); decide, rfl⟩ ⟨rfl, rfl, rfl, trivial⟩ ⟨rfl, trivial⟩ (fun _ => ⟨rfl, rfl⟩) ?_
 intro i ⟨hi, hlst, hap⟩
 rcases Nat.lt_or_ge i O.length with hil | hil
 · obtain ⟨⟨r1, r2⟩, hr⟩ : ∃ r, O[i]? = some r := ⟨_, List.getElem?_eq_getElem hil⟩
   have hst := apB_step (days := days) hr
   dsimp only at hst
   obtain ⟨_, ad, rfl, _⟩ := hO.ptr (by omega)
   have e0 := fun (w' : World) hw' => rd_ati (hO.below (w' := w') hw') hr
   have e1 := fun (w' : World) hw' => rd_fldz (hO.below (w' := w') hw') hr _ rfl 0 (iv r1) rfl
   have hls1 : lst O (i + 1) = r2 := by simp [lst, hr]
   rw [hap, hst, hls1]
   by_cases he : 0 ≤ r1 ∧ r1 ≤ r2 ∧ r2 ≤ days - 1
   · have h102 : ∀ w' : World, Calls Try.prog 102 #[.agg #[iv r1, iv r2], iv 0, iv (days - 1)] w' fun e w2 => e = .returned (.bool true) ∧ Below w'.heap.size w' w2 := fun w' => by
      have := ends_ok r1 r2 0 (days - 1) w'
      rwa [show rgB 0 (days - 1) (r1, r2) = true from by simp [rgB]; omega] at this
     cases i with
     | zero =>
      rw [show (decide (lst O 0 + 1 ≤ r1) && (decide (r1 ≤ r2) && decide (r2 ≤ days - 1))) = true from by (rw [h00]; simp; omega), Bool.true_and]
      rw [hst, hls1, show (decide (lst O 0 + 1 ≤ r1) && (decide (r1 ≤ r2) && decide (r2 ≤ days - 1))) = true from by (rw [h00]; simp; omega), Bool.true_and] at hap
      repeat'
       conv => whnf
       first
        | refine zA ?_ | refine zB ?_ | refine zC ?_ | refine zD ?_ | refine zE ?_ | refine zF ?_ | refine zG ?_ | refine zH ?_ | refine zJ ?_ | refine zI ?_ | refine splT ?_ | refine splF ?_ | refine splNot ?_
        | ((first | refine splIn ?_ ?_ | refine splD ?_ ?_ | refine splE ?_ ?_ | refine splNE ?_ ?_) <;> intro hc <;> first | (exfalso; omega) | (exfalso; dsimp only at hc; omega) | skip)
        | refine Exists.intro (α := List Value) [iv r1, iv r2] ⟨⟨rfl, fun w' hw' => e0 w' hw'⟩, ?_⟩
        | ((with_reducible show CallEv _ _ 102 _ _ _ _ _); refine callE (k := 102) (fun β w' hbw => h102 w') ?_)
      all_goals first | (exfalso; omega) | exact ⟨0 + 1, ⟨by omega, by rw [hls1]; omega, by rw [hls1]⟩, by omega, Ent.weak rfl ⟨rfl, rfl, rfl, trivial⟩ ⟨rfl, trivial⟩ fun _ h => h⟩
     | succ k =>
      obtain ⟨⟨p1, p2⟩, hp⟩ : ∃ r, O[k]? = some r := ⟨_, List.getElem?_eq_getElem (by omega)⟩
      have e2 := fun (w' : World) hw' => rd_fldz (hO.below (w' := w') hw') hp (((k + 1 : Nat) : Int) - 1) (by omega) 1 (iv p2) rfl
      have hlp : lst O (k + 1) = p2 := by simp [lst, hp]
      rw [hlp] at hst hap ⊢
      by_cases hlt : r1 ≤ p2
      · rw [show (decide (p2 + 1 ≤ r1) && (decide (r1 ≤ r2) && decide (r2 ≤ days - 1))) = false from by rw [decide_eq_false (by omega), Bool.false_and], Bool.false_and, Bool.false_and]
        repeat'
         conv => whnf
         first
          | refine zA ?_ | refine zB ?_ | refine zC ?_ | refine zD ?_ | refine zE ?_ | refine zF ?_ | refine zG ?_ | refine zH ?_ | refine zJ ?_ | refine zI ?_ | refine splT ?_ | refine splF ?_ | refine splNot ?_
          | ((first | refine splIn ?_ ?_ | refine splD ?_ ?_ | refine splE ?_ ?_ | refine splNE ?_ ?_) <;> intro hc <;> first | (exfalso; omega) | (exfalso; dsimp only at hc; omega) | skip)
          | refine Exists.intro (α := List Value) [iv r1, iv r2] ⟨⟨rfl, fun w' hw' => e0 w' hw'⟩, ?_⟩
          | ((with_reducible show CallEv _ _ 102 _ _ _ _ _); refine callE (k := 102) (fun β w' hbw => h102 w') ?_)
          | refine Exists.intro (α := List Value) [iv r1] ⟨⟨rfl, fun w' hw' => e1 w' hw'⟩, ?_⟩
          | refine Exists.intro (α := List Value) [iv p2] ⟨⟨rfl, fun w' hw' => e2 w' hw'⟩, ?_⟩
        all_goals first | (exfalso; omega) | exact ⟨fun β => rfl, fun w' h => h⟩
      · rw [show (decide (p2 + 1 ≤ r1) && (decide (r1 ≤ r2) && decide (r2 ≤ days - 1))) = true from by simp; omega, Bool.true_and]
        rw [hst, hls1, show (decide (p2 + 1 ≤ r1) && (decide (r1 ≤ r2) && decide (r2 ≤ days - 1))) = true from by simp; omega, Bool.true_and] at hap
        repeat'
         conv => whnf
         first
          | refine zA ?_ | refine zB ?_ | refine zC ?_ | refine zD ?_ | refine zE ?_ | refine zF ?_ | refine zG ?_ | refine zH ?_ | refine zJ ?_ | refine zI ?_ | refine splT ?_ | refine splF ?_ | refine splNot ?_
          | ((first | refine splIn ?_ ?_ | refine splD ?_ ?_ | refine splE ?_ ?_ | refine splNE ?_ ?_) <;> intro hc <;> first | (exfalso; omega) | (exfalso; dsimp only at hc; omega) | skip)
          | refine Exists.intro (α := List Value) [iv r1, iv r2] ⟨⟨rfl, fun w' hw' => e0 w' hw'⟩, ?_⟩
          | ((with_reducible show CallEv _ _ 102 _ _ _ _ _); refine callE (k := 102) (fun β w' hbw => h102 w') ?_)
          | refine Exists.intro (α := List Value) [iv r1] ⟨⟨rfl, fun w' hw' => e1 w' hw'⟩, ?_⟩
          | refine Exists.intro (α := List Value) [iv p2] ⟨⟨rfl, fun w' hw' => e2 w' hw'⟩, ?_⟩
        all_goals first | (exfalso; omega) | exact ⟨k + 1 + 1, ⟨by omega, by rw [hls1]; omega, by rw [hls1]⟩, by omega, Ent.weak rfl ⟨rfl, rfl, rfl, trivial⟩ ⟨rfl, trivial⟩ fun _ h => h⟩
   · have h102 : ∀ w' : World, Calls Try.prog 102 #[.agg #[iv r1, iv r2], iv 0, iv (days - 1)] w' fun e w2 => e = .returned (.bool false) ∧ Below w'.heap.size w' w2 := fun w' => by
      have := ends_ok r1 r2 0 (days - 1) w'
      rwa [show rgB 0 (days - 1) (r1, r2) = false from by (cases hb : rgB 0 (days - 1) (r1, r2) with | false => rfl | true => (simp [rgB] at hb; omega))] at this
     rw [show (decide (lst O i + 1 ≤ r1) && (decide (r1 ≤ r2) && decide (r2 ≤ days - 1))) = false from by (cases hb : (decide (lst O i + 1 ≤ r1) && (decide (r1 ≤ r2) && decide (r2 ≤ days - 1))) with | false => rfl | true => (simp at hb; omega)), Bool.false_and, Bool.false_and]
     repeat'
      conv => whnf
      first
       | refine zA ?_ | refine zB ?_ | refine zC ?_ | refine zD ?_ | refine zE ?_ | refine zF ?_ | refine zG ?_ | refine zH ?_ | refine zJ ?_ | refine zI ?_ | refine splT ?_ | refine splF ?_ | refine splNot ?_
       | ((first | refine splIn ?_ ?_ | refine splD ?_ ?_ | refine splE ?_ ?_ | refine splNE ?_ ?_) <;> intro hc <;> first | (exfalso; omega) | (exfalso; dsimp only at hc; omega) | skip)
       | refine Exists.intro (α := List Value) [iv r1, iv r2] ⟨⟨rfl, fun w' hw' => e0 w' hw'⟩, ?_⟩
       | ((with_reducible show CallEv _ _ 102 _ _ _ _ _); refine callE (k := 102) (fun β w' hbw => h102 w') ?_)
     all_goals first | (exfalso; omega) | exact ⟨fun β => rfl, fun w' h => h⟩
 · rw [List.drop_eq_nil_of_le hil] at hap
   rw [hap]
   show vc _ _ _ _
   rw [show (apB days (lst O i) [] && ((R.all fun r => rgB (-60) 60 r) && (inB O.length 1 3 && (rgB 1 10 (s1, s2) && (inB pay 0 1000000 && (inB lot 0 100000 && (inB rent 0 1000000 && (decide (R.length ≤ 3) && (inB cold 0 60 && inB cut 0 1000))))))))) = ((R.all fun r => rgB (-60) 60 r) && (inB O.length 1 3 && (rgB 1 10 (s1, s2) && (inB pay 0 1000000 && (inB lot 0 100000 && (inB rent 0 1000000 && (decide (R.length ≤ 3) && (inB cold 0 60 && inB cut 0 1000)))))))) from Bool.true_and _]
   repeat'
    conv => whnf
    first
     | refine zA ?_ | refine zB ?_ | refine zC ?_ | refine zD ?_ | refine zE ?_ | refine zF ?_ | refine zG ?_ | refine zH ?_ | refine zJ ?_ | refine zI ?_ | refine splT ?_ | refine splF ?_ | refine splNot ?_
     | ((first | refine splIn ?_ ?_ | refine splD ?_ ?_ | refine splE ?_ ?_ | refine splNE ?_ ?_) <;> intro hc <;> first | (exfalso; omega) | (exfalso; dsimp only at hc; omega) | skip)
   all_goals first | (exfalso; omega) | skip
   refine loopE (fun j : Nat => [(2, .ptr 0 0), (6, .v (iv j))]) (fun _ => [(0, .cells [.v (.slice oo O.length oc), .v (iv s1), .v (iv s2), .v (iv pay), .v (iv lot), .v (iv rent), .v (.slice ro R.length rc), .v (iv cold), .v (iv cut)] 69)])
    (fun j => j ≤ R.length ∧ (R.take j).all (fun r => rgB (-60) 60 r) = true) (fun j => R.length - j) 0 ⟨Nat.zero_le _, rfl⟩ ⟨rfl, rfl, trivial⟩ ⟨rfl, trivial⟩ (fun _ => ⟨rfl, rfl⟩) ?_
   intro j ⟨hj, hall⟩
   rcases Nat.lt_or_ge j R.length with hjl | hjl
   · obtain ⟨⟨r1, r2⟩, hr⟩ : ∃ r, R[j]? = some r := ⟨_, List.getElem?_eq_getElem hjl⟩
     obtain ⟨_, ad, rfl, _⟩ := hR.ptr (by omega)
     have e0 := fun (w' : World) hw' => rd_ati (hR.below (w' := w') hw') hr
     have h102 := fun w' : World => ends_ok r1 r2 (-60) 60 w'
     have hat := all_take (p := fun r => rgB (-60) 60 r) hr
     rw [hall, Bool.true_and] at hat
     obtain ⟨v, hv⟩ : ∃ v, rgB (-60) 60 (r1, r2) = v := ⟨_, rfl⟩
     have hno := all_no (p := fun r => rgB (-60) 60 r) hr
     rw [hv] at h102 hat hno
     cases v with
     | true =>
      repeat'
       conv => whnf
       first
        | refine zA ?_ | refine zB ?_ | refine zC ?_ | refine zD ?_ | refine zE ?_ | refine zF ?_ | refine zG ?_ | refine zH ?_ | refine zJ ?_ | refine zI ?_ | refine splT ?_ | refine splF ?_ | refine splNot ?_
        | ((first | refine splIn ?_ ?_ | refine splD ?_ ?_ | refine splE ?_ ?_ | refine splNE ?_ ?_) <;> intro hc <;> first | (exfalso; omega) | (exfalso; dsimp only at hc; omega) | skip)
        | refine Exists.intro (α := List Value) [iv r1, iv r2] ⟨⟨rfl, fun w' hw' => e0 w' hw'⟩, ?_⟩
        | ((with_reducible show CallEv _ _ 102 _ _ _ _ _); refine callE (k := 102) (fun β w' hbw => h102 w') ?_)
      all_goals first | (exfalso; omega) | exact ⟨j + 1, ⟨by omega, hat⟩, by omega, Ent.weak rfl ⟨rfl, rfl, trivial⟩ ⟨rfl, trivial⟩ fun _ h => h⟩
     | false =>
      rw [hno rfl, Bool.false_and]
      repeat'
       conv => whnf
       first
        | refine zA ?_ | refine zB ?_ | refine zC ?_ | refine zD ?_ | refine zE ?_ | refine zF ?_ | refine zG ?_ | refine zH ?_ | refine zJ ?_ | refine zI ?_ | refine splT ?_ | refine splF ?_ | refine splNot ?_
        | ((first | refine splIn ?_ ?_ | refine splD ?_ ?_ | refine splE ?_ ?_ | refine splNE ?_ ?_) <;> intro hc <;> first | (exfalso; omega) | (exfalso; dsimp only at hc; omega) | skip)
        | refine Exists.intro (α := List Value) [iv r1, iv r2] ⟨⟨rfl, fun w' hw' => e0 w' hw'⟩, ?_⟩
        | ((with_reducible show CallEv _ _ 102 _ _ _ _ _); refine callE (k := 102) (fun β w' hbw => h102 w') ?_)
      all_goals first | (exfalso; omega) | exact ⟨fun β => rfl, fun w' h => h⟩
   · rw [List.take_of_length_le hjl] at hall
     rw [hall, Bool.true_and]
     have hI := fun n lo hi (w' : World) => In_ok n lo hi w'
     have hE := fun (w' : World) => ends_ok s1 s2 1 10 w'
     clear hall hap
     generalize inB = f at *
     generalize rgB 1 10 (s1, s2) = g at *
     repeat'
      conv => whnf
      first
       | refine zA ?_ | refine zB ?_ | refine zC ?_ | refine zD ?_ | refine zE ?_ | refine zF ?_ | refine zG ?_ | refine zH ?_ | refine zJ ?_ | refine zI ?_ | refine splT ?_ | refine splF ?_ | refine splNot ?_
       | ((first | refine splIn ?_ ?_ | refine splD ?_ ?_ | refine splE ?_ ?_ | refine splNE ?_ ?_) <;> intro hc <;> first | (exfalso; omega) | (exfalso; dsimp only at hc; omega) | skip)
       | ((with_reducible show CallEv _ _ 37 _ _ _ _ _); refine callE (k := 37) (fun β w' hbw => hI _ _ _ w') ?_)
       | ((with_reducible show CallEv _ _ 102 _ _ _ _ _); refine callE (k := 102) (fun β w' hbw => hE w') ?_)
       | refine And.intro (a := (_ : Bool) = true → _) (fun hc => ?_) (fun hc => ?_)
     all_goals first | (exfalso; omega) | exact ⟨fun β => congrArg Value.bool (by first | (simp [*]; done) | (simp [*]; rfl) | (simp [*]; intros; first | assumption | omega) | simp_all), fun w' h => h⟩
end Go.Proofs.Ythfabodamhdhaaa
namespace Go.Proofs.Ythfabodamhdhaaa
open Go Tx Go.RowKit
set_option linter.unusedSimpArgs false
set_option linter.unusedVariables false
abbrev I64 (n : Int) : Prop := -9223372036854775808 ≤ n ∧ n ≤ 9223372036854775807
def shI : Shp := .int .i64
def shRg : Shp := .agg [shI, shI]
def shTw : Shp := .agg [.sl 2 shRg, shRg, shI, shI, shI, .sl 2 shRg, shI, shI]
def shTo : Shp := .agg [shI, shI, shI, .sl 9 shTw, .sl 1 (.sl 2 shRg)]
def shSp : Shp := .agg [shI, shI, shI]
theorem op_slc {α : Type} {w : World} {sz : Nat} {e : Shp} {f : α → List Value} {Q : α → Prop} (he : ∀ es, e.rd w es → ∃ x, es = f x ∧ Q x) {cs : List Value} (h : (Shp.sl sz e).rd w cs) :
 ∃ (o : Option Addr) (c : Nat) (xs : List α), cs = [.slice o xs.length c] ∧ Rd sz f (.slice o xs.length c) xs w ∧ xs.length ≤ 9223372036854775807 ∧ xs.length ≤ c ∧ ∀ x ∈ xs, Q x := by
 unfold Shp.rd at h
 rcases h with rfl | ⟨a, n, c, rfl, h1, h2, h3⟩
 · exact ⟨none, 0, [], rfl, .inl ⟨rfl, rfl⟩, by simp, by simp, fun x hx => by simp at hx⟩
 · obtain ⟨xs, hl, hb⟩ := list_of (Q := fun i (x : α) => (∀ j v, (f x)[j]? = some v → w.cell? ((a.add (i * sz)).add j) = some v) ∧ Q x) n fun i hi => by
    obtain ⟨es, _, e2, e3⟩ := h3 i hi
    obtain ⟨x, rfl, hx⟩ := he es e3
    exact ⟨x, e2, hx⟩
   subst hl
   exact ⟨some a, c, xs, rfl, .inr ⟨a, c, rfl, fun k b hk => (hb k b hk).1⟩, by unfold maxLen at h2; omega, h1, fun x hx => by
    obtain ⟨k, hk⟩ := List.mem_iff_getElem?.1 hx
    exact (hb k x hk).2⟩
theorem op_i {w : World} {es : List Value} (h : shI.rd w es) : ∃ n : Int, es = [iv n] ∧ I64 n := by
 simp only [shI, Shp.rd] at h
 obtain ⟨n, rfl, g⟩ := h
 exact ⟨n, rfl, wf64 g⟩
theorem op_rg {w : World} {es : List Value} (h : shRg.rd w es) : ∃ r : Int × Int, es = prF r ∧ I64 r.1 ∧ I64 r.2 := by
 simp only [shRg, Shp.rd.eq_3, Shp.rds] at h
 obtain ⟨_, _, rfl, h1, _, _, rfl, h2, rfl⟩ := h
 obtain ⟨a, rfl, ha⟩ := op_i h1
 obtain ⟨b, rfl, hb⟩ := op_i h2
 exact ⟨(a, b), rfl, ha, hb⟩
theorem op_rgs {w : World} {cs : List Value} (h : (Shp.sl 2 shRg).rd w cs) : ∃ (o : Option Addr) (c : Nat) (xs : List (Int × Int)), cs = [.slice o xs.length c] ∧ Rd 2 prF (.slice o xs.length c) xs w ∧ xs.length ≤ 9223372036854775807 := by
 obtain ⟨o, c, xs, h1, h2, h3, _, _⟩ := op_slc (f := prF) (Q := fun r => I64 r.1 ∧ I64 r.2) (fun es h => op_rg h) h
 exact ⟨o, c, xs, h1, h2, h3⟩
theorem op_tw {w : World} {es : List Value} (h : shTw.rd w es) : ∃ t : Tn, es = Tn.cs t ∧ TnI0 t w := by
 simp only [shTw, Shp.rd.eq_3, Shp.rds] at h
 obtain ⟨_, _, rfl, h1, _, _, rfl, h2, _, _, rfl, h3, _, _, rfl, h4, _, _, rfl, h5, _, _, rfl, h6, _, _, rfl, h7, _, _, rfl, h8, rfl⟩ := h
 obtain ⟨oo, oc, O, rfl, a1, a2⟩ := op_rgs h1
 obtain ⟨⟨s1, s2⟩, rfl, _⟩ := op_rg h2
 obtain ⟨pay, rfl, _⟩ := op_i h3
 obtain ⟨lot, rfl, _⟩ := op_i h4
 obtain ⟨rent, rfl, _⟩ := op_i h5
 obtain ⟨ro, rc, R, rfl, b1, b2⟩ := op_rgs h6
 obtain ⟨cold, rfl, _⟩ := op_i h7
 obtain ⟨cut, rfl, _⟩ := op_i h8
 exact ⟨⟨oo, oc, ro, rc, ⟨O, s1, s2, pay, lot, rent, R, cold, cut⟩⟩, rfl, a1, b1, a2, b2⟩
theorem op_lr {w : World} {es : List Value} (h : (Shp.sl 2 shRg).rd w es) : ∃ r : Lr, es = Lr.cs r ∧ Rd 2 prF (.slice r.o r.L.length r.c) r.L w ∧ r.L.length ≤ 9223372036854775807 := by
 obtain ⟨o, c, xs, h1, h2, h3⟩ := op_rgs h
 exact ⟨⟨o, c, xs⟩, h1, h2, h3⟩
theorem op_tour {w : World} {cs : List Value} (h : shTo.rd w cs) : ∃ x : Tr, cs = x.cs ∧ TrI0 x w := by
 simp only [shTo, Shp.rd.eq_3, Shp.rds] at h
 obtain ⟨_, _, rfl, h1, _, _, rfl, h2, _, _, rfl, h3, _, _, rfl, h4, _, _, rfl, h5, rfl⟩ := h
 obtain ⟨days, rfl, _⟩ := op_i h1
 obtain ⟨shift, rfl, _⟩ := op_i h2
 obtain ⟨size, rfl, _⟩ := op_i h3
 obtain ⟨to, tc, T, rfl, a1, a2, a3, a4⟩ := op_slc (f := Tn.cs) (Q := fun t => TnI0 t w) (fun es h => op_tw h) h4
 obtain ⟨lo, lc, L, rfl, b1, b2, _, b4⟩ := op_slc (f := Lr.cs) (Q := fun r => Rd 2 prF (.slice r.o r.L.length r.c) r.L w ∧ r.L.length ≤ 9223372036854775807) (fun es h => op_lr h) h5
 exact ⟨⟨days, shift, size, to, tc, T, lo, lc, L⟩, rfl, a1, a4, b1, fun r hr => (b4 r hr).1, a2, b2, fun r hr => (b4 r hr).2, a3⟩
structure SpI0 (o : Option Addr) (c : Nat) (S : List (Int × Int × Int)) (w : World) : Prop where
 r : Rd 3 spF (.slice o S.length c) S w
 l : S.length ≤ 9223372036854775807
 c : S.length ≤ c
 n : ∀ s ∈ S, I64 s.1 ∧ I64 s.2.1 ∧ I64 s.2.2
theorem op_sp {w : World} {es : List Value} (h : shSp.rd w es) : ∃ s : Int × Int × Int, es = spF s ∧ I64 s.1 ∧ I64 s.2.1 ∧ I64 s.2.2 := by
 simp only [shSp, Shp.rd.eq_3, Shp.rds] at h
 obtain ⟨_, _, rfl, h1, _, _, rfl, h2, _, _, rfl, h3, rfl⟩ := h
 obtain ⟨a, rfl, ha⟩ := op_i h1
 obtain ⟨b, rfl, hb⟩ := op_i h2
 obtain ⟨c, rfl, hc⟩ := op_i h3
 exact ⟨(a, b, c), rfl, ha, hb, hc⟩
theorem op_season {w : World} {v : Value} (h : (Shp.sl 3 shSp).rd w [v]) : ∃ (o : Option Addr) (c : Nat) (S : List (Int × Int × Int)), v = .slice o S.length c ∧ SpI0 o c S w := by
 obtain ⟨o, c, S, h1, h2, h3, h4, h5⟩ := op_slc (f := spF) (Q := fun s => I64 s.1 ∧ I64 s.2.1 ∧ I64 s.2.2) (fun es h => op_sp h) h
 simp only [List.cons.injEq, and_true] at h1
 exact ⟨o, c, S, h1, h2, h3, h4, h5⟩
end Go.Proofs.Ythfabodamhdhaaa
namespace Go.Proofs.Ythfabodamhdhaaa
open Go Tx Go.RowKit
set_option linter.unusedSimpArgs false
set_option linter.unusedVariables false
theorem toB_iff (days shift size : Int) (to : Option Addr) (tc : Nat) (T : List Tn) (lo : Option Addr) (lc : Nat) (L : List Lr) : toB (Tr.d ⟨days, shift, size, to, tc, T, lo, lc, L⟩) = true ↔ ((1 ≤ days ∧ days ≤ 60) ∧ (1 ≤ shift ∧ shift ≤ 24) ∧ (0 ≤ size ∧ size ≤ 100000) ∧ (2 ≤ T.length ∧ T.length ≤ 9) ∧ L.length = T.length) ∧
 (∃ t, T[0]? = some t ∧ quB t.d = true) ∧ ∀ i < T.length, (i = 0 ∨ ∃ t, T[i]? = some t ∧ twB days t.d = true) ∧ ∃ r, L[i]? = some r ∧ lgB T.length i r.L = true := by
 simp only [toB, inB, Tr.d, Bool.and_eq_true, decide_eq_true_eq, List.all_eq_true, List.mem_range, List.length_map]
 constructor
 · rintro ⟨⟨h1, h2, h3, h4, h5⟩, ⟨h6, h7⟩, h8⟩
   refine ⟨⟨h1, h2, h3, by omega, h5⟩, ?_, fun i hi => ⟨?_, ?_⟩⟩
   · rw [List.getElem?_map] at h6
     cases ht : T[0]? with
     | none => rw [ht] at h6; cases h6
     | some t => rw [ht] at h6; exact ⟨t, rfl, h6⟩
   · by_cases hi0 : i = 0
     · exact .inl hi0
     · refine .inr ⟨T[i], List.getElem?_eq_getElem hi, h7 _ ?_⟩
       rw [List.mem_iff_getElem?]
       exact ⟨i - 1, by rw [List.getElem?_drop, show 1 + (i - 1) = i from by omega, List.getElem?_map, List.getElem?_eq_getElem hi]; rfl⟩
   · have hl : i < L.length := by omega
     have := h8 i hl
     rw [List.getElem?_map, List.getElem?_eq_getElem hl] at this
     exact ⟨L[i], List.getElem?_eq_getElem hl, this⟩
 · rintro ⟨⟨h1, h2, h3, h4, h5⟩, ⟨t, h6, h6'⟩, h8⟩
   refine ⟨⟨h1, h2, h3, by omega, h5⟩, ⟨?_, fun u hu => ?_⟩, fun i hi => ?_⟩
   · rw [List.getElem?_map, h6]; exact h6'
   · obtain ⟨k, hk⟩ := List.mem_iff_getElem?.1 hu
     rw [List.getElem?_drop, List.getElem?_map, Option.map_eq_some_iff] at hk
     obtain ⟨v, hv, rfl⟩ := hk
     have hlt := (List.getElem?_eq_some_iff.1 hv).1
     rcases (h8 (1 + k) hlt).1 with h | ⟨v', hv', h⟩
     · omega
     · rw [hv, Option.some.injEq] at hv'; subst hv'; exact h
   · obtain ⟨r, hr, h⟩ := (h8 i (by omega)).2
     rw [List.getElem?_map, hr]; exact h
set_option maxHeartbeats 4000000 in
set_option maxRecDepth 100000 in
theorem Right_ok (x : Tr) (w : World) (h : TrI0 x w) : Calls Try.prog 22 #[x.v] w fun e w' => e = .returned (.bool (toB x.d)) ∧ Below w.heap.size w w' := by
 obtain ⟨days, shift, size, to, tc, T, lo, lc, L⟩ := x
 obtain ⟨hT, hTi, hL, hLi, htl, hll, hlr, htc⟩ := h
 dsimp only at hT hTi hL hLi htl hll hlr htc ⊢
 have hiff := toB_iff days shift size to tc T lo lc L
 obtain ⟨V, hV⟩ : ∃ V, toB (Tr.d ⟨days, shift, size, to, tc, T, lo, lc, L⟩) = V := ⟨_, rfl⟩
 rw [hV] at hiff ⊢
 clear hV
 refine calls_val env mixed Try.func22 has22 Try.ntmps22 [.agg #[iv days, iv shift, iv size, .slice to T.length tc, .slice lo L.length lc]] (by simp) ?_
 by_cases hA : (1 ≤ days ∧ days ≤ 60) ∧ (1 ≤ shift ∧ shift ≤ 24) ∧ (0 ≤ size ∧ size ≤ 100000) ∧ (2 ≤ T.length ∧ T.length ≤ 9) ∧ L.length = T.length
 · obtain ⟨t0, ht0⟩ : ∃ t, T[0]? = some t := ⟨_, List.getElem?_eq_getElem (by omega)⟩
   obtain ⟨_, ad, rfl, _⟩ := hT.ptr (by omega)
   obtain ⟨_, al, rfl, _⟩ := hL.ptr (by omega)
   have e0 := fun (w' : World) hw' => rd_atz (hT.below (w' := w') hw') ht0 (0 : Int) rfl
   have h61 := fun w' : World => empty_ok t0 w'
   have hq0 : (∃ t, T[0]? = some t ∧ quB t.d = true) ↔ quB t0.d = true := ⟨fun ⟨t, h1, h2⟩ => by rw [ht0, Option.some.injEq] at h1; subst h1; exact h2, fun h => ⟨t0, ht0, h⟩⟩
   obtain ⟨oo, oc, ro, rc, O, s1, s2, pay, lot, rent, R, cold, cut⟩ := t0
   dsimp only at h61 e0 hq0 ⊢
   obtain ⟨vq, hvq⟩ : ∃ v, quB ⟨O, s1, s2, pay, lot, rent, R, cold, cut⟩ = v := ⟨_, rfl⟩
   rw [hvq] at h61 hq0
   cases vq with
   | false =>
    have hVf : false = V := by
     cases V with
     | false => rfl
     | true => have := hq0.1 (hiff.1 rfl).2.1; cases this
    repeat'
     conv => whnf
     first
      | refine zA ?_ | refine zB ?_ | refine zC ?_ | refine zD ?_ | refine zE ?_ | refine zF ?_ | refine zG ?_ | refine zH ?_ | refine zJ ?_ | refine zI ?_ | refine splT ?_ | refine splF ?_ | refine splNot ?_
      | ((first | refine splIn ?_ ?_ | refine splD ?_ ?_ | refine splE ?_ ?_ | refine splNE ?_ ?_) <;> intro hc <;> first | (exfalso; omega) | (exfalso; dsimp only at hc; omega) | skip)
      | ((with_reducible show CallEv _ _ 37 _ _ _ _ _); refine callE (k := 37) (fun β w' hbw => In_ok _ _ _ w') ?_)
      | refine Exists.intro (α := List Value) [.slice oo O.length oc, iv s1, iv s2, iv pay, iv lot, iv rent, .slice ro R.length rc, iv cold, iv cut] ⟨⟨rfl, fun w' hw' => e0 w' hw'⟩, ?_⟩
      | ((with_reducible show CallEv _ _ 61 _ _ _ _ _); refine callE (k := 61) (fun β w' hbw => h61 w') ?_)
    all_goals first | (exfalso; omega) | exact ⟨fun β => congrArg Value.bool hVf, fun w' h => h⟩
   | true =>
    repeat'
     conv => whnf
     first
      | refine zA ?_ | refine zB ?_ | refine zC ?_ | refine zD ?_ | refine zE ?_ | refine zF ?_ | refine zG ?_ | refine zH ?_ | refine zJ ?_ | refine zI ?_ | refine splT ?_ | refine splF ?_ | refine splNot ?_
      | ((first | refine splIn ?_ ?_ | refine splD ?_ ?_ | refine splE ?_ ?_ | refine splNE ?_ ?_) <;> intro hc <;> first | (exfalso; omega) | (exfalso; dsimp only at hc; omega) | skip)
      | ((with_reducible show CallEv _ _ 37 _ _ _ _ _); refine callE (k := 37) (fun β w' hbw => In_ok _ _ _ w') ?_)
      | refine Exists.intro (α := List Value) [.slice oo O.length oc, iv s1, iv s2, iv pay, iv lot, iv rent, .slice ro R.length rc, iv cold, iv cut] ⟨⟨rfl, fun w' hw' => e0 w' hw'⟩, ?_⟩
      | ((with_reducible show CallEv _ _ 61 _ _ _ _ _); refine callE (k := 61) (fun β w' hbw => h61 w') ?_)
    all_goals first | (exfalso; omega) | skip
    refine loopE (fun i : Nat => [(1, .ptr 0 0), (3, .v (iv T.length)), (4, .v (iv i))]) (fun _ => [(0, .cells [.v (iv days), .v (iv shift), .v (iv size), .v (.slice (some ad) T.length tc), .v (.slice (some al) L.length lc)] 25)])
     (fun i => i ≤ T.length ∧ ∀ k < i, (k = 0 ∨ ∃ t, T[k]? = some t ∧ twB days t.d = true) ∧ ∃ r, L[k]? = some r ∧ lgB T.length k r.L = true) (fun i => T.length - i) 0 ⟨Nat.zero_le _, fun k hk => by omega⟩ ⟨rfl, rfl, rfl, trivial⟩ ⟨rfl, trivial⟩ (fun _ => ⟨rfl, rfl⟩) ?_
    intro i ⟨hi, hall⟩
    rcases Nat.lt_or_ge i T.length with hil | hil
    · obtain ⟨ti, hti⟩ : ∃ t, T[i]? = some t := ⟨_, List.getElem?_eq_getElem hil⟩
      obtain ⟨⟨ro', rc', row⟩, hri⟩ : ∃ r, L[i]? = some r := ⟨_, List.getElem?_eq_getElem (by omega)⟩
      have e1 := fun (w' : World) hw' => rd_ati (hT.below (w' := w') hw') hti
      have e2 := fun (w' : World) hw' => rd_ati (hL.below (w' := w') hw') hri
      have h62 := fun w' hb => rtown_ok ti days w' ((hTi ti (List.mem_of_getElem? hti)).below hb) (by omega)
      have hrow := hLi _ (List.mem_of_getElem? hri)
      have hrl := hlr _ (List.mem_of_getElem? hri)
      dsimp only at hrow hrl e2
      have hno : ¬ ((i = 0 ∨ twB days ti.d = true) ∧ lgB T.length i row = true) → false = V := fun hn => by
       cases V with
       | false => rfl
       | true =>
        obtain ⟨h1, r, h2, h3⟩ := (hiff.1 rfl).2.2 i hil
        rw [hri, Option.some.injEq] at h2
        subst h2
        refine absurd ⟨?_, h3⟩ hn
        rcases h1 with h1 | ⟨t, h1, h4⟩
        · exact .inl h1
        · rw [hti, Option.some.injEq] at h1; subst h1; exact .inr h4
      have hyes : (i = 0 ∨ twB days ti.d = true) → lgB T.length i row = true → ∀ k < i + 1, (k = 0 ∨ ∃ t, T[k]? = some t ∧ twB days t.d = true) ∧ ∃ r, L[k]? = some r ∧ lgB T.length k r.L = true := fun h1 h2 k hk => by
       rcases (by omega : k < i ∨ k = i) with hk | rfl
       · exact hall k hk
       · exact ⟨h1.imp id fun h => ⟨ti, hti, h⟩, _, hri, h2⟩
      obtain ⟨vt, hvt⟩ : ∃ v, twB days ti.d = v := ⟨_, rfl⟩
      rw [hvt] at h62 hno hyes
      obtain ⟨oo1, oc1, ro1, rc1, O1, s11, s21, pay1, lot1, rent1, R1, cold1, cut1⟩ := ti
      by_cases hok1 : i = 0 ∨ vt = true
      · by_cases hrn : row.length = T.length
        · obtain ⟨_, ar, rfl, _⟩ := hrow.ptr (by omega)
          have hi0 : vt = false → i = 0 := fun e => by
           rcases hok1 with h | h
           · exact h
           · rw [e] at h; cases h
          cases vt
          all_goals first | (have hi1 := hi0 rfl) | skip
          all_goals clear hi0
          repeat'
           conv => whnf
           first
            | refine zA ?_ | refine zB ?_ | refine zC ?_ | refine zD ?_ | refine zE ?_ | refine zF ?_ | refine zG ?_ | refine zH ?_ | refine zJ ?_ | refine zI ?_ | refine splT ?_ | refine splF ?_ | refine splNot ?_
            | ((first | refine splIn ?_ ?_ | refine splD ?_ ?_ | refine splE ?_ ?_ | refine splNE ?_ ?_) <;> intro hc <;> first | (exfalso; omega) | (exfalso; dsimp only at hc; omega) | skip)
            | refine Exists.intro (α := List Value) [.slice oo1 O1.length oc1, iv s11, iv s21, iv pay1, iv lot1, iv rent1, .slice ro1 R1.length rc1, iv cold1, iv cut1] ⟨⟨rfl, fun w' hw' => e1 w' hw'⟩, ?_⟩
            | ((with_reducible show CallEv _ _ 62 _ _ _ _ _); refine callE (k := 62) (fun β w' hbw => h62 w' hbw) ?_)
            | refine Exists.intro (α := List Value) [.slice (some ar) row.length rc'] ⟨⟨rfl, fun w' hw' => e2 w' hw'⟩, ?_⟩
          all_goals first | (exfalso; omega) | skip
          all_goals refine loopE (fun j : Nat => [(1, .ptr 0 0), (3, .v (iv T.length)), (4, .v (iv i)), (5, .v (iv j))]) (fun _ => [(0, .cells [.v (iv days), .v (iv shift), .v (iv size), .v (.slice (some ad) T.length tc), .v (.slice (some al) L.length lc)] 25)]) (fun j => j ≤ T.length ∧ ∀ k < j, ∀ p, row[k]? = some p → ((0 ≤ p.1 ∧ p.1 ≤ 200) ∧ (0 ≤ p.2 ∧ p.2 ≤ 1000000)) ∧ (i = k → p.1 = 0 ∧ p.2 = 0)) (fun j => T.length - j) 0 ⟨Nat.zero_le _, fun k hk => by omega⟩ ⟨rfl, rfl, rfl, rfl, trivial⟩ ⟨rfl, trivial⟩ (fun _ => ⟨rfl, rfl⟩) ?_
          all_goals
           intro j ⟨hj, hlegs⟩
           rcases Nat.lt_or_ge j T.length with hjl | hjl
           · obtain ⟨⟨p1, p2⟩, hp⟩ : ∃ p, row[j]? = some p := ⟨_, List.getElem?_eq_getElem (by omega)⟩
             have e3 := fun (w' : World) hw' => rd_ati (hrow.below (w' := w') hw') hp
             by_cases hok : ((0 ≤ p1 ∧ p1 ≤ 200) ∧ (0 ≤ p2 ∧ p2 ≤ 1000000)) ∧ (i = j → p1 = 0 ∧ p2 = 0)
             · have hnx : ∀ k < j + 1, ∀ p, row[k]? = some p → ((0 ≤ p.1 ∧ p.1 ≤ 200) ∧ (0 ≤ p.2 ∧ p.2 ≤ 1000000)) ∧ (i = k → p.1 = 0 ∧ p.2 = 0) := fun k hk p hpk => by
                rcases (by omega : k < j ∨ k = j) with hk | rfl
                · exact hlegs k hk p hpk
                · rw [hp, Option.some.injEq] at hpk; subst hpk; exact hok
               by_cases hz0 : p1 = 0 ∧ p2 = 0
               · have hz : (!(p1 == 0 && p2 == 0)) = false := by simp [hz0.1, hz0.2]
                 repeat'
                  conv => whnf
                  first
                   | refine zA ?_ | refine zB ?_ | refine zC ?_ | refine zD ?_ | refine zE ?_ | refine zF ?_ | refine zG ?_ | refine zH ?_ | refine zJ ?_ | refine zI ?_ | refine splT ?_ | refine splF ?_ | refine splNot ?_
                   | ((first | refine splIn ?_ ?_ | refine splD ?_ ?_ | refine splE ?_ ?_ | refine splNE ?_ ?_) <;> intro hc <;> first | (exfalso; omega) | (exfalso; dsimp only at hc; omega) | skip)
                   | refine Exists.intro (α := List Value) [.slice (some ar) row.length rc'] ⟨⟨rfl, fun w' hw' => e2 w' hw'⟩, ?_⟩
                   | refine Exists.intro (α := List Value) [iv p1, iv p2] ⟨⟨rfl, fun w' hw' => e3 w' hw'⟩, ?_⟩
                   | ((with_reducible show CallEv _ _ 37 _ _ _ _ _); refine callE (k := 37) (fun β w' hbw => In_ok _ _ _ w') ?_)
                   | refine neqE127 hz ?_
                 all_goals first | (exfalso; omega) | exact ⟨j + 1, ⟨by omega, hnx⟩, by omega, Ent.weak rfl ⟨rfl, rfl, rfl, rfl, trivial⟩ ⟨rfl, trivial⟩ fun _ h => h⟩
               · have hz : (!(p1 == 0 && p2 == 0)) = true := by
                  cases hb : (p1 == 0 && p2 == 0) with
                  | false => rfl
                  | true => simp at hb; exact absurd hb hz0
                 repeat'
                  conv => whnf
                  first
                   | refine zA ?_ | refine zB ?_ | refine zC ?_ | refine zD ?_ | refine zE ?_ | refine zF ?_ | refine zG ?_ | refine zH ?_ | refine zJ ?_ | refine zI ?_ | refine splT ?_ | refine splF ?_ | refine splNot ?_
                   | ((first | refine splIn ?_ ?_ | refine splD ?_ ?_ | refine splE ?_ ?_ | refine splNE ?_ ?_) <;> intro hc <;> first | (exfalso; omega) | (exfalso; dsimp only at hc; omega) | skip)
                   | refine Exists.intro (α := List Value) [.slice (some ar) row.length rc'] ⟨⟨rfl, fun w' hw' => e2 w' hw'⟩, ?_⟩
                   | refine Exists.intro (α := List Value) [iv p1, iv p2] ⟨⟨rfl, fun w' hw' => e3 w' hw'⟩, ?_⟩
                   | ((with_reducible show CallEv _ _ 37 _ _ _ _ _); refine callE (k := 37) (fun β w' hbw => In_ok _ _ _ w') ?_)
                   | refine neqE127 hz ?_
                 all_goals first | (exfalso; omega) | exact ⟨j + 1, ⟨by omega, hnx⟩, by omega, Ent.weak rfl ⟨rfl, rfl, rfl, rfl, trivial⟩ ⟨rfl, trivial⟩ fun _ h => h⟩
             · have hVf : false = V := hno fun hh => hok (by
                have h2 := hh.2
                simp only [lgB, inB, Bool.and_eq_true, decide_eq_true_eq, List.all_eq_true] at h2
                refine ⟨h2.2.2 (p1, p2) (List.mem_of_getElem? hp), fun e => ?_⟩
                subst e
                rw [hp, Option.some.injEq, Prod.mk.injEq] at h2
                exact h2.2.1)
               obtain ⟨vz, hz⟩ : ∃ v, (!(p1 == 0 && p2 == 0)) = v := ⟨_, rfl⟩
               have hz2 : vz = false → p1 = 0 ∧ p2 = 0 := fun e => by subst e; simpa using hz
               cases vz
               all_goals skip
               all_goals have hz2 := hz2
               · have hz3 := hz2 rfl
                 repeat'
                  conv => whnf
                  first
                   | refine zA ?_ | refine zB ?_ | refine zC ?_ | refine zD ?_ | refine zE ?_ | refine zF ?_ | refine zG ?_ | refine zH ?_ | refine zJ ?_ | refine zI ?_ | refine splT ?_ | refine splF ?_ | refine splNot ?_
                   | ((first | refine splIn ?_ ?_ | refine splD ?_ ?_ | refine splE ?_ ?_ | refine splNE ?_ ?_) <;> intro hc <;> first | (exfalso; omega) | (exfalso; dsimp only at hc; omega) | skip)
                   | refine Exists.intro (α := List Value) [.slice (some ar) row.length rc'] ⟨⟨rfl, fun w' hw' => e2 w' hw'⟩, ?_⟩
                   | refine Exists.intro (α := List Value) [iv p1, iv p2] ⟨⟨rfl, fun w' hw' => e3 w' hw'⟩, ?_⟩
                   | ((with_reducible show CallEv _ _ 37 _ _ _ _ _); refine callE (k := 37) (fun β w' hbw => In_ok _ _ _ w') ?_)
                   | refine neqE127 hz ?_
                 all_goals first | (exfalso; omega) | exact ⟨fun β => congrArg Value.bool hVf, fun w' h => h⟩
               · clear hz2
                 repeat'
                  conv => whnf
                  first
                   | refine zA ?_ | refine zB ?_ | refine zC ?_ | refine zD ?_ | refine zE ?_ | refine zF ?_ | refine zG ?_ | refine zH ?_ | refine zJ ?_ | refine zI ?_ | refine splT ?_ | refine splF ?_ | refine splNot ?_
                   | ((first | refine splIn ?_ ?_ | refine splD ?_ ?_ | refine splE ?_ ?_ | refine splNE ?_ ?_) <;> intro hc <;> first | (exfalso; omega) | (exfalso; dsimp only at hc; omega) | skip)
                   | refine Exists.intro (α := List Value) [.slice (some ar) row.length rc'] ⟨⟨rfl, fun w' hw' => e2 w' hw'⟩, ?_⟩
                   | refine Exists.intro (α := List Value) [iv p1, iv p2] ⟨⟨rfl, fun w' hw' => e3 w' hw'⟩, ?_⟩
                   | ((with_reducible show CallEv _ _ 37 _ _ _ _ _); refine callE (k := 37) (fun β w' hbw => In_ok _ _ _ w') ?_)
                   | refine neqE127 hz ?_
                 all_goals first | (exfalso; omega) | exact ⟨fun β => congrArg Value.bool hVf, fun w' h => h⟩
           · have hlg : lgB T.length i row = true := by
              simp only [lgB, inB, Bool.and_eq_true, decide_eq_true_eq, List.all_eq_true]
              refine ⟨hrn, ?_, fun p hp => ?_⟩
              · obtain ⟨p, hp⟩ : ∃ p, row[i]? = some p := ⟨_, List.getElem?_eq_getElem (by omega)⟩
                have := (hlegs i (by omega) p hp).2 rfl
                rw [hp]
                obtain ⟨a, b⟩ := p
                simp only [Option.some.injEq, Prod.mk.injEq]
                exact this
              · obtain ⟨k, hk⟩ := List.mem_iff_getElem?.1 hp
                exact (hlegs k (by have := (List.getElem?_eq_some_iff.1 hk).1; omega) p hk).1
             repeat'
              conv => whnf
              first
               | refine zA ?_ | refine zB ?_ | refine zC ?_ | refine zD ?_ | refine zE ?_ | refine zF ?_ | refine zG ?_ | refine zH ?_ | refine zJ ?_ | refine zI ?_ | refine splT ?_ | refine splF ?_ | refine splNot ?_
               | ((first | refine splIn ?_ ?_ | refine splD ?_ ?_ | refine splE ?_ ?_ | refine splNE ?_ ?_) <;> intro hc <;> first | (exfalso; omega) | (exfalso; dsimp only at hc; omega) | skip)
             all_goals first | (exfalso; omega) | exact ⟨i + 1, ⟨by omega, hyes hok1 hlg⟩, by omega, Ent.weak rfl ⟨rfl, rfl, rfl, trivial⟩ ⟨rfl, trivial⟩ fun _ h => h⟩
        · have hVf : false = V := hno fun hh => hrn (by
           have h2 := hh.2
           simp only [lgB, Bool.and_eq_true, decide_eq_true_eq] at h2
           exact h2.1)
          cases vt
          all_goals skip
          repeat'
           conv => whnf
           first
            | refine zA ?_ | refine zB ?_ | refine zC ?_ | refine zD ?_ | refine zE ?_ | refine zF ?_ | refine zG ?_ | refine zH ?_ | refine zJ ?_ | refine zI ?_ | refine splT ?_ | refine splF ?_ | refine splNot ?_
            | ((first | refine splIn ?_ ?_ | refine splD ?_ ?_ | refine splE ?_ ?_ | refine splNE ?_ ?_) <;> intro hc <;> first | (exfalso; omega) | (exfalso; dsimp only at hc; omega) | skip)
            | refine Exists.intro (α := List Value) [.slice oo1 O1.length oc1, iv s11, iv s21, iv pay1, iv lot1, iv rent1, .slice ro1 R1.length rc1, iv cold1, iv cut1] ⟨⟨rfl, fun w' hw' => e1 w' hw'⟩, ?_⟩
            | ((with_reducible show CallEv _ _ 62 _ _ _ _ _); refine callE (k := 62) (fun β w' hbw => h62 w' hbw) ?_)
            | refine Exists.intro (α := List Value) [.slice ro' row.length rc'] ⟨⟨rfl, fun w' hw' => e2 w' hw'⟩, ?_⟩
          all_goals first | (exfalso; omega) | exact ⟨fun β => congrArg Value.bool hVf, fun w' h => h⟩
      · have hVf : false = V := hno fun hh => hok1 hh.1
        cases vt with
        | true => exact absurd (.inr rfl) hok1
        | false =>
         have hi0 : i ≠ 0 := fun e => hok1 (.inl e)
         repeat'
          conv => whnf
          first
           | refine zA ?_ | refine zB ?_ | refine zC ?_ | refine zD ?_ | refine zE ?_ | refine zF ?_ | refine zG ?_ | refine zH ?_ | refine zJ ?_ | refine zI ?_ | refine splT ?_ | refine splF ?_ | refine splNot ?_
           | ((first | refine splIn ?_ ?_ | refine splD ?_ ?_ | refine splE ?_ ?_ | refine splNE ?_ ?_) <;> intro hc <;> first | (exfalso; omega) | (exfalso; dsimp only at hc; omega) | skip)
           | refine Exists.intro (α := List Value) [.slice oo1 O1.length oc1, iv s11, iv s21, iv pay1, iv lot1, iv rent1, .slice ro1 R1.length rc1, iv cold1, iv cut1] ⟨⟨rfl, fun w' hw' => e1 w' hw'⟩, ?_⟩
           | ((with_reducible show CallEv _ _ 62 _ _ _ _ _); refine callE (k := 62) (fun β w' hbw => h62 w' hbw) ?_)
           | refine Exists.intro (α := List Value) [.slice ro' row.length rc'] ⟨⟨rfl, fun w' hw' => e2 w' hw'⟩, ?_⟩
         all_goals first | (exfalso; omega) | exact ⟨fun β => congrArg Value.bool hVf, fun w' h => h⟩
    · have hVt : true = V := (hiff.2 ⟨hA, hq0.2 rfl, fun k hk => hall k (by omega)⟩).symm
      repeat'
       conv => whnf
       first
        | refine zA ?_ | refine zB ?_ | refine zC ?_ | refine zD ?_ | refine zE ?_ | refine zF ?_ | refine zG ?_ | refine zH ?_ | refine zJ ?_ | refine zI ?_ | refine splT ?_ | refine splF ?_ | refine splNot ?_
        | ((first | refine splIn ?_ ?_ | refine splD ?_ ?_ | refine splE ?_ ?_ | refine splNE ?_ ?_) <;> intro hc <;> first | (exfalso; omega) | (exfalso; dsimp only at hc; omega) | skip)
      all_goals first | (exfalso; omega) | exact ⟨fun β => congrArg Value.bool hVt, fun w' h => h⟩
 · have hVf : false = V := by
    cases V with
    | false => rfl
    | true => exact absurd (hiff.1 rfl).1 hA
   repeat'
    conv => whnf
    first
     | refine zA ?_ | refine zB ?_ | refine zC ?_ | refine zD ?_ | refine zE ?_ | refine zF ?_ | refine zG ?_ | refine zH ?_ | refine zJ ?_ | refine zI ?_ | refine splT ?_ | refine splF ?_ | refine splNot ?_
     | ((first | refine splIn ?_ ?_ | refine splD ?_ ?_ | refine splE ?_ ?_ | refine splNE ?_ ?_) <;> intro hc <;> first | (exfalso; omega) | (exfalso; dsimp only at hc; omega) | skip)
     | ((with_reducible show CallEv _ _ 37 _ _ _ _ _); refine callE (k := 37) (fun β w' hbw => In_ok _ _ _ w') ?_)
   all_goals first | (exfalso; omega) | exact ⟨fun β => congrArg Value.bool hVf, fun w' h => h⟩
end Go.Proofs.Ythfabodamhdhaaa
namespace Go.Proofs.Ythfabodamhdhaaa
open Go Tx Go.RowKit
set_option linter.unusedSimpArgs false
set_option linter.unusedVariables false
def pfK (x : To) (S : List (Int × Int × Int)) : Nat → Int × Nat
 | 0 => (0, 0)
 | k + 1 => match S[k]? with
  | some (t, f, l) => ((pfK x S k).1 + (gnO x t.toNat f l - csO x (pfK x S k).2 t.toNat), t.toNat)
  | none => pfK x S k
def pfO (x : To) (S : List (Int × Int × Int)) : Int := (pfK x S S.length).1 - csO x (pfK x S S.length).2 0
def SpN (n : Nat) (S : List (Int × Int × Int)) : Prop := ∀ s ∈ S, ∃ k f l : Nat, s = ((k : Int), (f : Int), (l : Int)) ∧ (1 ≤ k ∧ k < n) ∧ (f ≤ l ∧ l < f + 10) ∧ l < 60
theorem pfK_bd {x : To} (hn : ToN x) {S : List (Int × Int × Int)} (hS : SpN x.T.length S) : ∀ k, k ≤ S.length → (-12000000 * (k : Int) ≤ (pfK x S k).1 ∧ (pfK x S k).1 ≤ 12000000 * (k : Int)) ∧ (pfK x S k).2 < x.T.length
 | 0, _ => by have := hn.n; simp [pfK]; omega
 | k + 1, hk => by
  obtain ⟨s, hs⟩ : ∃ s, S[k]? = some s := ⟨_, List.getElem?_eq_getElem (by omega)⟩
  obtain ⟨a, f, l, rfl, h1, h2, _⟩ := hS s (List.mem_of_getElem? hs)
  have ih := pfK_bd hn hS k (by omega)
  have hg := gn_bd hn (a := a) (d := f) (l := l) h1.1 h2
  have hc := hn.leg (pfK x S k).2 a
  simp only [pfK, hs, Int.toNat_natCast]
  unfold csO
  omega
theorem fstT_zero2 {x : To} {S : List (Int × Int × Int)} {i : Nat} {k f l : Int} (h : fltO x S i k f l 7 = 0) : ts1 x k = false ∧ ts2 x k = false ∧ ts3 x k f l = false ∧ ts4 x k f l = false ∧ ts5 S i k = false ∧ ts6 x S i k f = false ∧ ts7 x S i k l = false := by
 unfold fltO at h
 have := fstT_zero h
 simp only [tsA, List.take, List.mem_cons, List.not_mem_nil, or_false, forall_eq_or_imp, forall_eq] at this
 exact this
theorem fsP_nil {x : To} {S : List (Int × Int × Int)} : ∀ {m : Nat}, fsP x S m = [] → ∀ k, k < m → ∀ a f l, S[k]? = some (a, f, l) → fltO x S k a f l 7 = 0
 | 0, _, k, hk, _, _, _, _ => by omega
 | m + 1, h, k, hk, a, f, l, hs => by
  rcases (by omega : k < m ∨ k = m) with hk | rfl
  · refine fsP_nil (m := m) ?_ k hk a f l hs
    simp only [fsP] at h
    split at h
    · split at h
      · exact h
      · simp at h
    · exact h
  · simp only [fsP, hs] at h
    split at h
    · assumption
    · simp at h
theorem fs_spn {x : To} (hn : ToN x) {S : List (Int × Int × Int)} (h : fsO x S = []) : SpN x.T.length S := fun s hs => by
 obtain ⟨k, hk⟩ := List.mem_iff_getElem?.1 hs
 obtain ⟨a, f, l⟩ := s
 have hz := fstT_zero2 (fsP_nil (m := S.length) h k (List.getElem?_eq_some_iff.1 hk).1 a f l hk)
 obtain ⟨h1, _, h3, h4, _⟩ := hz
 simp only [ts1, Bool.not_eq_false', inB, Bool.and_eq_true, decide_eq_true_eq] at h1
 have hT := twN_of hn (a := a.toNat) (by omega) (by omega)
 have hto : twO x (a.toNat : Int) = twO x a := by rw [Int.toNat_of_nonneg (by omega)]
 rw [hto] at hT
 have hs2 := hT.s
 simp only [ts3, Bool.not_eq_false', fitB, inB, Bool.and_eq_true, decide_eq_true_eq] at h3
 simp only [ts4, Bool.not_eq_false', licB, List.any_eq_true, inB, Bool.and_eq_true, decide_eq_true_eq] at h4
 obtain ⟨r, hr, h5⟩ := h4
 obtain ⟨t, ht⟩ : ∃ t, x.T[a.toNat]? = some t := ⟨_, List.getElem?_eq_getElem (by omega)⟩
 have htw : twO x a = t := by simp [twO, ht]
 rw [htw] at hr
 have hb := hn.t a.toNat (by omega) t ht
 have hd := hn.d
 have hop : ∀ (O : List (Int × Int)) (last : Int), apB x.days last O = true → -1 ≤ last → ∀ r ∈ O, 0 ≤ r.1 ∧ r.2 ≤ x.days - 1 := by
  intro O
  induction O with
  | nil => intro _ _ _ r hr; cases hr
  | cons q O ih =>
   intro last h hl r hr
   simp only [apB, Bool.and_eq_true, decide_eq_true_eq] at h
   rcases List.mem_cons.1 hr with rfl | hr
   · omega
   · exact ih q.2 h.2 (by omega) r hr
 simp only [twB, Bool.and_eq_true] at hb
 have h6 := hop t.O (-1) hb.2.1 (by omega) r hr
 refine ⟨a.toNat, f.toNat, l.toNat, ?_, by omega, by omega, by omega⟩
 rw [Int.toNat_of_nonneg (by omega), Int.toNat_of_nonneg (by omega), Int.toNat_of_nonneg (by omega)]
set_option maxHeartbeats 4000000 in
set_option maxRecDepth 100000 in
theorem profit_ok (x : Tr) (o : Option Addr) (c : Nat) (S : List (Int × Int × Int)) (w : World) (h : TrIn x w) (hn : ToN x.d) (hr : Rd 3 spF (.slice o S.length c) S w) (hl : S.length ≤ 20) (hS : SpN x.T.length S) :
 Calls Try.prog 75 #[x.v, .slice o S.length c] w fun e w' => e = .returned (iv (pfO x.d S)) ∧ Below w.heap.size w w' := by
 have hlen : x.d.T.length = x.T.length := List.length_map ..
 have hbd := pfK_bd hn (S := S) (by rw [hlen]; exact hS)
 rw [hlen] at hbd
 have h101 := fun (k : Nat) (f l : Int) w' (hb : Below w.heap.size w w') => gain_ok x k f l w' (h.below hb) hn
 have hlg := hn.leg
 have hnT := hn.n
 have hlT := hn.l
 have hlr := hn.lr
 obtain ⟨days, shift, size, to, tc, T, lo, lc, L⟩ := x
 dsimp only [Tr.d] at hnT hlT hlr
 dsimp only at hS hbd
 simp only [List.length_map] at hnT hlT hlr
 obtain ⟨_, la, rfl, _⟩ := h.l.ptr (show 1 ≤ L.length by omega)
 have hrow : ∀ a, a < T.length → ∃ ra rc row, L[a]? = some ⟨some ra, rc, row⟩ ∧ row.length = T.length ∧ Rd 2 prF (.slice (some ra) row.length rc) row w := fun a ha => by
  obtain ⟨⟨ro, rc, row⟩, hr⟩ : ∃ r, L[a]? = some r := ⟨_, List.getElem?_eq_getElem (by omega)⟩
  have hrl := (hlr row (List.mem_of_getElem? (i := a) (by rw [List.getElem?_map, hr]; rfl))).1
  have h1 := h.li _ (List.mem_of_getElem? hr)
  dsimp only at h1
  obtain ⟨_, ra, rfl, _⟩ := h1.ptr (show 1 ≤ row.length by omega)
  exact ⟨ra, rc, row, hr, hrl, h1⟩
 have hlgo : ∀ a t ra rc row c, L[a]? = some ⟨some ra, rc, row⟩ → row[t]? = some c → lgO (Tr.d ⟨days, shift, size, to, tc, T, some la, lc, L⟩) a t = c := fun a t ra rc row c h1 h2 => by
  simp only [lgO, Tr.d, List.getElem?_map, h1, Option.map_some, Option.getD_some, h2]
 refine calls_val env mixed Try.func75 has75 Try.ntmps75 [.agg #[iv days, iv shift, iv size, .slice to T.length tc, .slice (some la) L.length lc], .slice o S.length c] (by simp) ?_
 repeat'
  conv => whnf
  first
   | refine zA ?_ | refine zB ?_ | refine zC ?_ | refine zD ?_ | refine zE ?_ | refine zF ?_ | refine zG ?_ | refine zH ?_ | refine zJ ?_ | refine zI ?_ | refine splT ?_ | refine splF ?_ | refine splNot ?_
   | ((first | refine splIn ?_ ?_ | refine splD ?_ ?_ | refine splE ?_ ?_ | refine splNE ?_ ?_) <;> intro hc <;> first | (exfalso; omega) | (exfalso; dsimp only at hc; omega) | skip)
 refine loopE (fun k : Nat => [(2, .ptr 0 0), (4, .v (iv (pfK (Tr.d ⟨days, shift, size, to, tc, T, some la, lc, L⟩) S k).1)), (5, .v (iv (pfK (Tr.d ⟨days, shift, size, to, tc, T, some la, lc, L⟩) S k).2)), (8, .v (.slice o S.length c)), (9, .v (iv S.length)), (10, .v (iv k))]) (fun _ => [(0, .cells [.v (iv days), .v (iv shift), .v (iv size), .v (.slice to T.length tc), .v (.slice (some la) L.length lc)] 35)])
  (fun k => k ≤ S.length) (fun k => S.length - k) 0 (Nat.zero_le _) ⟨rfl, rfl, rfl, rfl, rfl, rfl, trivial⟩ ⟨rfl, trivial⟩ (fun _ => ⟨rfl, rfl⟩) ?_
 intro k hk
 have hb := hbd k hk
 obtain ⟨ra, rc, row, hr1, hr2, hr3⟩ := hrow (pfK (Tr.d ⟨days, shift, size, to, tc, T, some la, lc, L⟩) S k).2 hb.2
 have e1 := fun (w' : World) hw' => rd_ati ((h.l).below (w' := w') hw') hr1
 rcases Nat.lt_or_ge k S.length with hkl | hkl
 · obtain ⟨s, hs⟩ : ∃ s, S[k]? = some s := ⟨_, List.getElem?_eq_getElem hkl⟩
   obtain ⟨t, f, l, rfl, g1, g2, g3⟩ := hS s (List.mem_of_getElem? hs)
   obtain ⟨_, ad, rfl, _⟩ := hr.ptr (by omega)
   have e0 := fun (w' : World) hw' => rd_ati (hr.below (w' := w') hw') hs
   obtain ⟨⟨p1, p2⟩, hp⟩ : ∃ p, row[t]? = some p := ⟨_, List.getElem?_eq_getElem (by omega)⟩
   have e2 := fun (w' : World) hw' => rd_fldz (hr3.below (w' := w') hw') hp ((t : Nat) : Int) rfl 1 (iv p2) rfl
   have hst : pfK (Tr.d ⟨days, shift, size, to, tc, T, some la, lc, L⟩) S (k + 1) = ((pfK (Tr.d ⟨days, shift, size, to, tc, T, some la, lc, L⟩) S k).1 + (gnO (Tr.d ⟨days, shift, size, to, tc, T, some la, lc, L⟩) t f l - p2), t) := by
    simp only [pfK, hs, Int.toNat_natCast, csO, hlgo _ _ _ _ _ _ hr1 hp]
   have hg := gn_bd hn (a := t) (d := f) (l := l) g1.1 g2
   have hcs := hlg (pfK (Tr.d ⟨days, shift, size, to, tc, T, some la, lc, L⟩) S k).2 t
   rw [hlgo _ _ _ _ _ _ hr1 hp] at hcs
   have h101' := fun w' hb => h101 t f l w' hb g1.1 (show t < T.length by omega) ⟨by omega, by omega, by omega, by omega⟩
   generalize gnO (Tr.d ⟨days, shift, size, to, tc, T, some la, lc, L⟩) t f l = G at *
   generalize pfK (Tr.d ⟨days, shift, size, to, tc, T, some la, lc, L⟩) S k = PK at *
   obtain ⟨P, a⟩ := PK
   dsimp only at hb hr1 e1 hst ⊢
   repeat'
    conv => whnf
    first
     | refine zA ?_ | refine zB ?_ | refine zC ?_ | refine zD ?_ | refine zE ?_ | refine zF ?_ | refine zG ?_ | refine zH ?_ | refine zJ ?_ | refine zI ?_ | refine splT ?_ | refine splF ?_ | refine splNot ?_
     | ((first | refine splIn ?_ ?_ | refine splD ?_ ?_ | refine splE ?_ ?_ | refine splNE ?_ ?_) <;> intro hc <;> first | (exfalso; omega) | (exfalso; dsimp only at hc; omega) | skip)
     | refine Exists.intro (α := List Value) [iv t, iv f, iv l] ⟨⟨rfl, fun w' hw' => e0 w' hw'⟩, ?_⟩
     | ((with_reducible show CallEv _ _ 101 _ _ _ _ _); refine callE (k := 101) (fun β w' hbw => h101' w' hbw) ?_)
     | refine Exists.intro (α := List Value) [.slice (some ra) row.length rc] ⟨⟨rfl, fun w' hw' => e1 w' hw'⟩, ?_⟩
     | refine Exists.intro (α := List Value) [iv p2] ⟨⟨rfl, fun w' hw' => e2 w' hw'⟩, ?_⟩
   all_goals first | (exfalso; omega) | exact ⟨k + 1, by omega, by omega, Ent.weak rfl ⟨rfl, by rw [hst]; rfl, by rw [hst]; rfl, rfl, rfl, rfl, trivial⟩ ⟨rfl, trivial⟩ fun _ h => h⟩
 · obtain rfl : k = S.length := by omega
   obtain ⟨⟨p1, p2⟩, hp⟩ : ∃ p, row[0]? = some p := ⟨_, List.getElem?_eq_getElem (by omega)⟩
   have e2 := fun (w' : World) hw' => rd_fldz (hr3.below (w' := w') hw') hp (0 : Int) rfl 1 (iv p2) rfl
   have hcs := hlg (pfK (Tr.d ⟨days, shift, size, to, tc, T, some la, lc, L⟩) S S.length).2 0
   rw [hlgo _ _ _ _ _ _ hr1 hp] at hcs
   have hpf : pfO (Tr.d ⟨days, shift, size, to, tc, T, some la, lc, L⟩) S = (pfK (Tr.d ⟨days, shift, size, to, tc, T, some la, lc, L⟩) S S.length).1 - p2 := by
    simp only [pfO, csO, hlgo _ _ _ _ _ _ hr1 hp]
   rw [hpf]
   generalize pfK (Tr.d ⟨days, shift, size, to, tc, T, some la, lc, L⟩) S S.length = PK at *
   obtain ⟨P, a⟩ := PK
   dsimp only at hb hr1 e1 ⊢
   repeat'
    conv => whnf
    first
     | refine zA ?_ | refine zB ?_ | refine zC ?_ | refine zD ?_ | refine zE ?_ | refine zF ?_ | refine zG ?_ | refine zH ?_ | refine zJ ?_ | refine zI ?_ | refine splT ?_ | refine splF ?_ | refine splNot ?_
     | ((first | refine splIn ?_ ?_ | refine splD ?_ ?_ | refine splE ?_ ?_ | refine splNE ?_ ?_) <;> intro hc <;> first | (exfalso; omega) | (exfalso; dsimp only at hc; omega) | skip)
     | refine Exists.intro (α := List Value) [.slice (some ra) row.length rc] ⟨⟨rfl, fun w' hw' => e1 w' hw'⟩, ?_⟩
     | refine Exists.intro (α := List Value) [iv p2] ⟨⟨rfl, fun w' hw' => e2 w' hw'⟩, ?_⟩
   all_goals first | (exfalso; omega) | exact ⟨fun β => rfl, fun w' h => h⟩
set_option maxHeartbeats 4000000 in
set_option maxRecDepth 100000 in
theorem Season_ok (L : List (Int × Int × Int)) (o : Option Addr) (c : Nat) (w : World) (hrd : Rd 3 spF (.slice o L.length c) L w) (hl : L.length ≤ 1000) :
 Calls Try.prog 41 #[.slice o L.length c] w fun e w' => ∃ y : Option Addr × Nat, e = .returned (sV L.length y) ∧ Below w.heap.size w w' ∧ St w.heap.size (fun w2 => Rd 3 spF (sV L.length y) L w2 ∧ L.length ≤ y.2) w' := by
 refine calls_fam env mixed Try.func41 has41 Try.ntmps41 [.slice o L.length c] (by simp) ?_
 repeat'
  conv => whnf
  first
   | refine zA ?_ | refine zB ?_ | refine zC ?_ | refine zD ?_ | refine zE ?_ | refine zF ?_ | refine zG ?_ | refine zH ?_ | refine zJ ?_ | refine zI ?_ | refine splT ?_ | refine splF ?_ | refine splNot ?_
   | ((first | refine splIn ?_ ?_ | refine splD ?_ ?_ | refine splE ?_ ?_ | refine splNE ?_ ?_) <;> intro hc <;> first | (exfalso; omega) | (exfalso; dsimp only at hc; omega) | skip)
 refine loopN 2 (fun k : Nat => [(0, .v (.slice o L.length c)), (3, oSV 0 1 (L.take k)), (4, .v (iv k))]) (fun k => oM 0 1 3 spF 96 (L.take k)) (fun k => k ≤ L.length) (fun k => L.length - k) 0 (Nat.zero_le _) ⟨rfl, rfl, rfl, trivial⟩ trivial (fun k _ => by cases L.take k <;> exact ⟨rfl, rfl⟩) ?_
 intro k hk
 rcases Nat.lt_or_ge k L.length with hkl | hkl
 · obtain ⟨⟨p1, p2, p3⟩, hx⟩ : ∃ b, L[k]? = some b := ⟨_, List.getElem?_eq_getElem hkl⟩
   obtain ⟨_, ad, rfl, _⟩ := hrd.ptr (by omega)
   have e0 := fun (w' : World) hw' => rd_fldz (hrd.below (w' := w') hw') hx _ rfl 0 (iv p1) rfl
   have e1 := fun (w' : World) hw' => rd_fldz (hrd.below (w' := w') hw') hx _ rfl 1 (iv p2) rfl
   have e2 := fun (w' : World) hw' => rd_fldz (hrd.below (w' := w') hw') hx _ rfl 2 (iv p3) rfl
   have ht : L.take (k + 1) = L.take k ++ [(p1, p2, p3)] := by rw [List.take_add_one, hx]; rfl
   have hlen : (L.take k).length = k := by rw [List.length_take]; omega
   generalize L.take k = D at *
   cases D with
   | nil =>
    repeat'
     conv => whnf
     first
      | refine zA ?_ | refine zB ?_ | refine zC ?_ | refine zD ?_ | refine zE ?_ | refine zF ?_ | refine zG ?_ | refine zH ?_ | refine zJ ?_ | refine zI ?_ | refine splT ?_ | refine splF ?_ | refine splNot ?_
      | ((first | refine splIn ?_ ?_ | refine splD ?_ ?_ | refine splE ?_ ?_ | refine splNE ?_ ?_) <;> intro hc <;> first | (exfalso; omega) | (exfalso; dsimp only at hc; omega) | skip)
      | refine Exists.intro (α := List Value) [iv p1] ⟨⟨rfl, fun w' hw' => e0 w' hw'⟩, ?_⟩
      | refine Exists.intro (α := List Value) [iv p2] ⟨⟨rfl, fun w' hw' => e1 w' hw'⟩, ?_⟩
      | refine Exists.intro (α := List Value) [iv p3] ⟨⟨rfl, fun w' hw' => e2 w' hw'⟩, ?_⟩
    all_goals first | (exfalso; omega) | exact ⟨k + 1, by omega, by omega, Ent.ren (rho [(0, 3), (1, 4)]) rfl (by rw [ht]; rfl) ⟨rfl, by rw [ht]; rfl, rfl, trivial⟩ (by rw [ht]; exact ⟨rfl, trivial⟩) fun _ h => h⟩
   | cons a D =>
    simp only [List.length_cons] at hlen
    repeat'
     conv => whnf
     first
      | refine zA ?_ | refine zB ?_ | refine zC ?_ | refine zD ?_ | refine zE ?_ | refine zF ?_ | refine zG ?_ | refine zH ?_ | refine zJ ?_ | refine zI ?_ | refine splT ?_ | refine splF ?_ | refine splNot ?_
      | ((first | refine splIn ?_ ?_ | refine splD ?_ ?_ | refine splE ?_ ?_ | refine splNE ?_ ?_) <;> intro hc <;> first | (exfalso; omega) | (exfalso; dsimp only at hc; omega) | skip)
      | refine Exists.intro (α := List Value) [iv p1] ⟨⟨rfl, fun w' hw' => e0 w' hw'⟩, ?_⟩
      | refine Exists.intro (α := List Value) [iv p2] ⟨⟨rfl, fun w' hw' => e1 w' hw'⟩, ?_⟩
      | refine Exists.intro (α := List Value) [iv p3] ⟨⟨rfl, fun w' hw' => e2 w' hw'⟩, ?_⟩
    all_goals first | (exfalso; omega) | exact ⟨k + 1, by omega, by omega, Ent.ren (rho [(0, 3), (1, 4)]) rfl (by rw [ht]; rfl) ⟨rfl, by rw [ht]; simp [oSV]; rfl, rfl, trivial⟩ (by rw [ht]; exact ⟨by simp [oM]; rfl, trivial⟩) fun _ h => h⟩
 · obtain rfl : k = L.length := by omega
   rw [List.take_length]
   cases L with
   | nil =>
    repeat'
     conv => whnf
     first
      | refine zA ?_ | refine zB ?_ | refine zC ?_ | refine zD ?_ | refine zE ?_ | refine zF ?_ | refine zG ?_ | refine zH ?_ | refine zJ ?_ | refine zI ?_ | refine splT ?_ | refine splF ?_ | refine splNot ?_
      | ((first | refine splIn ?_ ?_ | refine splD ?_ ?_ | refine splE ?_ ?_ | refine splNE ?_ ?_) <;> intro hc <;> first | (exfalso; omega) | (exfalso; dsimp only at hc; omega) | skip)
    exact ⟨fun w' h => h, fun β w' hB hblk => ⟨(none, 0), rfl, fun _ _ => ⟨.inl ⟨rfl, rfl⟩, Nat.le_refl _⟩⟩⟩
   | cons a D =>
    repeat'
     conv => whnf
     first
      | refine zA ?_ | refine zB ?_ | refine zC ?_ | refine zD ?_ | refine zE ?_ | refine zF ?_ | refine zG ?_ | refine zH ?_ | refine zJ ?_ | refine zI ?_ | refine splT ?_ | refine splF ?_ | refine splNot ?_
      | ((first | refine splIn ?_ ?_ | refine splD ?_ ?_ | refine splE ?_ ?_ | refine splNE ?_ ?_) <;> intro hc <;> first | (exfalso; omega) | (exfalso; dsimp only at hc; omega) | skip)
    exact ⟨fun w' h => h, fun β w' hB hblk => ⟨(some ⟨β 0, 0, none⟩, β 1), rfl, fun w2 k2 => ⟨Rd.of_owns (sz := 3) (f := spF) (fun _ => rfl) rfl rfl (hblk 0 _ rfl rfl w2 k2), by
     rcases (hblk 0 _ rfl rfl w2 k2).2 with ⟨h', _⟩ | ⟨g, cap, cur, q0, q1, q2, q3, _⟩
     · cases h'
     · simp only [Value.slice.injEq] at q0
       obtain ⟨_, _, rfl⟩ := q0
       exact q3⟩⟩⟩
end Go.Proofs.Ythfabodamhdhaaa
namespace Go.Proofs.Ythfabodamhdhaaa.Tx
open Go Go.RowKit
set_option linter.unusedSimpArgs false
set_option linter.unusedVariables false
theorem foldS_all' {L : List (Oper × Ef)} {σ : Sg} {listed : Array Bool} (hls : listed.size = L.length) (h : ∀ j, j < L.length → listed.getD j false = true) : foldS L listed.toList σ = fin L σ := by
 refine foldS_all L listed.toList σ (by simpa using hls) fun b hb => ?_
 obtain ⟨k, hk, rfl⟩ := List.mem_iff_getElem.1 hb
 have hk' : k < listed.size := by simpa using hk
 have := h k (by omega)
 simp only [Array.getD_eq_getD_getElem?, Array.getElem?_eq_getElem hk', Option.getD_some] at this
 simpa using this
section
variable {X : Cx} {F : Fence} {n : Nat} {P : Program} {ops : Array Oper} {Q : Exit → Act → World → Prop}
def GG (X : Cx) (F : Fence) (n : Nat) (P : Program) (ops : Array Oper) (Q : Exit → Act → World → Prop) (L : List (Oper × Ef)) (σ : Sg) (done todo : List Nat) : Prop :=
 ∀ (fuel : Nat) (listed : Array Bool) (a : Act) (w : World), listed.size = L.length → listed.toList.countP (! ·) = fuel →
  (∀ j, listed.getD j false = true → ∀ o, (L.map (·.1))[j]? = some o → ∀ e ∈ o.after, Region.binds .any e = true → listed.getD e.on false = true) →
  (∀ c ∈ done, listed.getD c false = true) → (∀ c ∈ todo, listed.getD c false = false) → Sat X (foldS L listed.toList σ) a w → wpAnyIn F n P .any ops Q fuel listed a w
theorem GG_end {L : List (Oper × Ef)} {σ : Sg} {done : List Nat} (hL : ops.toList = L.map (·.1)) (hd : DrawOK L σ) (hlink : ∀ i p, i ∉ done → L[i]? = some p → Link F n P ops p.1 (fin (L.take i) σ) p.2)
 (hq : ∀ a w, Sat X (fin L σ) a w → Q .normal a w) : GG X F n P ops Q L σ done [] := by
 have hget : ∀ i : Nat, ops[i]? = (L[i]?).map (fun p : Oper × Ef => p.1) := fun i => by rw [← List.getElem?_map, ← hL, Array.getElem?_toList]
 intro fuel
 induction fuel with
 | zero =>
  intro listed a w hls hc hdown hdone _ hsat
  have hall : ∀ j, j < L.length → listed.getD j false = true := fun j hj => by
   rw [List.countP_eq_zero] at hc
   have hj' : j < listed.size := by omega
   have := hc listed[j] (by simp)
   simp only [Array.getD_eq_getD_getElem?, Array.getElem?_eq_getElem hj', Option.getD_some]
   simpa using this
  have hnone : Region.ready .any ops listed = [] := by
   rw [List.eq_nil_iff_forall_not_mem]
   intro i hi
   obtain ⟨h0, o, ho, _⟩ := mem_ready.1 hi
   have hsz : ops.size = L.length := by have := congrArg List.length hL; simpa using this
   have hi2 := (Array.getElem?_eq_some_iff.1 ho).1
   have := hall i (by rw [← hsz]; exact hi2)
   rw [getD_tf (by omega), this] at h0
   cases h0
  exact ⟨hnone, hq a w (by rw [← foldS_all' hls hall]; exact hsat)⟩
 | succ fuel ih =>
  intro listed a w hls hc hdown hdone htodo hsat
  refine ⟨fun hr => hq a w (by rw [← foldS_all' hls (all_listed hL hd hls hr)]; exact hsat), fun i hi => ?_⟩
  obtain ⟨h0, o, ho, hall⟩ := mem_ready.1 hi
  have hiL : i < L.length := by
   have hsz : ops.size = L.length := by have := congrArg List.length hL; simpa using this
   rw [← hsz]; exact (Array.getElem?_eq_some_iff.1 ho).1
  obtain ⟨E, hE⟩ : ∃ E, L[i]? = some (o, E) := by
   have := hget i
   rw [ho, List.getElem?_eq_getElem hiL] at this
   simp only [Option.map_some, Option.some.injEq] at this
   exact ⟨(L[i]).2, by rw [List.getElem?_eq_getElem hiL, this]⟩
  have h0' : listed.getD i false = false := by rw [← getD_tf (by omega)]; exact h0
  have hnd : i ∉ done := fun h => by have := hdone i h; rw [h0'] at this; cases this
  unfold wpOpIn
  rw [ho]
  refine (any_norm (Q := Q) hL hd hls hdown h0' hall hE (hlink i _ hnd hE) hsat).mono fun a' w' hs' => ?_
  exact ih (listed.setIfInBounds i true) a' w' (by simpa using hls) (countP_next (by omega) h0' hc) (down_next (by simp [hE]) hdown hall) (fun c hc => getD_set_true (hdone c hc)) (fun c hc => by cases hc) hs'
theorem foldS_congr : ∀ (L L' : List (Oper × Ef)) (S : List Bool) (σ : Sg), L.length = L'.length → (∀ i : Nat, S[i]? = some true → L[i]? = L'[i]?) → foldS L S σ = foldS L' S σ
 | [], [], _, _, _, _ => rfl
 | [], q :: L', _, _, hl, _ => by simp at hl
 | p :: L, [], _, _, hl, _ => by simp at hl
 | p :: L, q :: L', [], σ, _, _ => by simp [foldS]
 | p :: L, q :: L', b :: S, σ, hl, h => by
  simp only [foldS]
  have ht := fun (i : Nat) (hi : S[i]? = some true) => h (i + 1) (by simpa using hi)
  cases b with
  | false => simpa using foldS_congr L L' S σ (by simpa using hl) (fun i hi => by simpa using ht i hi)
  | true =>
   have h0 := h 0 rfl
   simp only [List.getElem?_cons_zero, Option.some.injEq] at h0
   subst h0
   simpa using foldS_congr L L' S _ (by simpa using hl) (fun i hi => by simpa using ht i hi)
theorem app_h (σ : Sg) (d : Option Tmp) (E : Ef) (h : World → Prop) : ({σ with h := h} : Sg).app d E = {σ.app d E with h := h} := rfl
theorem foldS_h : ∀ (L : List (Oper × Ef)) (S : List Bool) (σ : Sg) (h : World → Prop), foldS L S {σ with h := h} = {foldS L S σ with h := h}
 | p :: L, b :: S, σ, h => by
  simp only [foldS]
  cases b with
  | false => simpa using foldS_h L S σ h
  | true =>
   simp only [if_true]
   rw [app_h]
   exact foldS_h L S _ h
 | [], _, σ, h => by simp [foldS]
 | _ :: _, [], σ, h => by simp [foldS]
theorem fin_h : ∀ (L : List (Oper × Ef)) (σ : Sg) (h : World → Prop), fin L {σ with h := h} = {fin L σ with h := h}
 | [], _, _ => rfl
 | p :: L, σ, h => by
  simp only [fin]
  rw [app_h]
  exact fin_h L _ h
theorem fin_nt (L : List (Oper × Ef)) (σ : Sg) : (fin L σ).nt = σ.nt := by
 induction L generalizing σ with
 | nil => rfl
 | cons p L ih => simp only [fin]; rw [ih]; rfl
def FamC (F : Fence) (n : Nat) (P : Program) (ops : Array Oper) (o : Oper) (σ : Sg) (E0 : Ef) {α : Type} (V : α → Value) (hx : α → World → Prop) : Prop :=
 ∀ (Q : Exit → Act → World → Prop) (β : Nat → Nat) (a : Act) (w : World) (K : Act → World → Prop), Sees σ E0 β a w → (∀ y w', Below w.heap.size w w' → St w.heap.size (hx y) w' → K (a.put o.dst (V y)) w') → StepB F n P ops Q o K a w
theorem GG_fam {α : Type} (LF : α → List (Oper × Ef)) (V : α → Value) (hx : α → World → Prop) (y0 : α) {σ : Sg} {done : List Nat} (c : Nat) (rest : List Nat) (oc : Oper)
 (hL : ∀ y, ops.toList = (LF y).map (·.1)) (hd : ∀ y, DrawOK (LF y) σ) (hEc0 : ∀ y, ∃ rs rb, (LF y)[c]? = some (oc, ⟨.v (V y), [], [], rs, rb⟩))
 (hind : ∀ y y' i, i ≠ c → ((bef ops.toList []).getD i 0).testBit c = false → (LF y)[i]? = (LF y')[i]?)
 (hlink : ∀ i p, i ∉ done → i ≠ c → ((bef ops.toList []).getD i 0).testBit c = false → (LF y0)[i]? = some p → Link F n P ops p.1 (fin ((LF y0).take i) σ) p.2)
 (hdst : ∀ d, oc.dst = some d → d < σ.nt) (hfam0 : ∀ rs rb, (LF y0)[c]? = some (oc, ⟨.v (V y0), [], [], rs, rb⟩) → FamC F n P ops oc (fin ((LF y0).take c) σ) ⟨.v (V y0), [], [], rs, rb⟩ V hx) (hrest : ∀ d ∈ rest, d ≠ c ∧ ((bef ops.toList []).getD d 0).testBit c = true)
 (hnext : ∀ y, GG X F n P ops Q (LF y) {σ with h := fun w => σ.h w ∧ hx y w} (c :: done) rest) : GG X F n P ops Q (LF y0) σ done (c :: rest) := by
 obtain ⟨rs0, rb0, hEc⟩ := hEc0 y0
 have hfam := hfam0 rs0 rb0 hEc
 have hlen : ∀ y, (LF y).length = (LF y0).length := fun y => by
  have h1 := congrArg List.length (hL y)
  have h2 := congrArg List.length (hL y0)
  simp only [List.length_map] at h1 h2
  omega
 have hget : ∀ i : Nat, ops[i]? = ((LF y0)[i]?).map (fun p : Oper × Ef => p.1) := fun i => by rw [← List.getElem?_map, ← hL y0, Array.getElem?_toList]
 have hcl : c < (LF y0).length := (List.getElem?_eq_some_iff.1 hEc).1
 intro fuel
 induction fuel with
 | zero =>
  intro listed a w hls hc hdown hdone htodo hsat
  exfalso
  rw [List.countP_eq_zero] at hc
  have hj' : c < listed.size := by omega
  have h1 := hc listed[c] (by simp)
  have h2 := htodo c List.mem_cons_self
  simp only [Array.getD_eq_getD_getElem?, Array.getElem?_eq_getElem hj', Option.getD_some] at h2
  rw [h2] at h1
  simp at h1
 | succ fuel ih =>
  intro listed a w hls hc hdown hdone htodo hsat
  have hc0 := htodo c List.mem_cons_self
  refine ⟨fun hr => ?_, fun i hi => ?_⟩
  · have := all_listed (hL y0) (hd y0) hls hr c hcl
    rw [hc0] at this; cases this
  obtain ⟨h0, o, ho, hall⟩ := mem_ready.1 hi
  have hiL : i < (LF y0).length := by
   have hsz : ops.size = (LF y0).length := by have := congrArg List.length (hL y0); simpa using this
   rw [← hsz]; exact (Array.getElem?_eq_some_iff.1 ho).1
  have h0' : listed.getD i false = false := by rw [← getD_tf (by omega)]; exact h0
  have hnodep : ∀ j, listed.getD j false = true → j < (LF y0).length → ((bef ops.toList []).getD j 0).testBit c = false := fun j hj hjl => by
   refine Classical.byContradiction fun hbit => ?_
   have hbit : ((bef ops.toList []).getD j 0).testBit c = true := by simpa using hbit
   rw [hL y0] at hbit
   have hjo : ((LF y0).map (·.1))[j]? = some ((LF y0)[j]).1 := by simp [List.getElem?_eq_getElem hjl]
   have := (bef_listed (hd y0).edges (fun j => listed.getD j false = true) hdown j j (Nat.le_refl _) _ hjo (hdown j hj _ hjo) c hbit).1
   rw [hc0] at this; cases this
  unfold wpOpIn
  rw [ho]
  by_cases hic : i = c
  · subst hic
    obtain ⟨β, Dm, hsat'⟩ := hsat
    have hoc : o = oc := by
     have := hget i
     rw [ho, hEc] at this
     simpa using this
    subst hoc
    have hwfE : ∀ (σ' : Sg) y rs rb, Ef.Wf ⟨.v (V y), [], [], rs, rb⟩ σ' := fun σ' y rs rb => ⟨fun i b h => (by cases h), fun i b b' h => (by cases h)⟩
    obtain ⟨hsees, _⟩ := any_core (hL y0) (hd y0) hls hdown h0' hall hEc (hwfE _ _ _ _) (fun i b h => by cases h) (fun d hd' => by rw [fin_nt]; exact hdst d hd') hsat'
    refine hfam Q β a w _ hsees fun y w' hb hst => ?_
    obtain ⟨rs, rb, hEy⟩ := hEc0 y
    have hmap : (LF y).map (·.1) = (LF y0).map (·.1) := by rw [← hL y, ← hL y0]
    have hfold : foldS (LF y) listed.toList σ = foldS (LF y0) listed.toList σ := foldS_congr _ _ _ _ (hlen y) fun j hj => by
     have hj' : j < listed.size := by have := (List.getElem?_eq_some_iff.1 hj).1; simpa using this
     have hjt : listed.getD j false = true := by
      simp only [Array.getD_eq_getD_getElem?, Array.getElem?_eq_getElem hj', Option.getD_some]
      rw [Array.getElem?_toList, Array.getElem?_eq_getElem hj', Option.some.injEq] at hj
      exact hj
     refine hind y y0 j (fun e => ?_) (hnodep j hjt (by omega))
     subst e
     rw [hc0] at hjt; cases hjt
    obtain ⟨_, hav, hwf, hnt, hD, _⟩ := any_core (hL y) (hd y) (by rw [hlen]; exact hls) (by rw [hmap]; exact hdown) h0' hall hEy (hwfE _ _ _ _) (fun i b h => by cases h) (fun d hd' => by rw [fin_nt]; exact hdst d hd') (by rw [hfold]; exact hsat')
    have hset : (listed.setIfInBounds i true).toList = listed.toList.set i true := by simp
    have hoL : ((LF y0).map (·.1))[i]? = some o := by simp [hEc]
    refine hnext y fuel (listed.setIfInBounds i true) _ w' (by rw [hlen]; simpa using hls) (countP_next (by omega) h0' hc) (by rw [hmap]; exact down_next hoL hdown hall) (fun d hd' => ?_) (fun d hd' => ?_) ?_
    · rcases List.mem_cons.1 hd' with rfl | hd'
      · have hj' : d < listed.size := by omega
        simp [Array.getD_eq_getD_getElem?, hj']
      · exact getD_set_true (hdone d hd')
    · have h1 := htodo d (List.mem_cons_of_mem _ hd')
      have hne := (hrest d hd').1
      refine getD_false fun h2 => ?_
      rw [getD_set_ne false (fun e => hne e.symm)] at h2
      rw [h1] at h2; cases h2
    · rw [foldS_h, hset]
      have hext := sat_ext (hx := hx y) (by rw [← hfold] at hsat'; exact hsat') hb hst
      obtain ⟨D2, hext⟩ : ∃ D2, Sat' X {foldS (LF y) listed.toList σ with h := fun w => (foldS (LF y) listed.toList σ).h w ∧ hx y w} β D2 a w' := ⟨_, hext⟩
      have happ := hext.app (E := ⟨.v (V y), [], [], rs, rb⟩) (dst := o.dst) ⟨hav.t, hav.g, hav.m⟩ (hwfE _ _ _ _) hnt (β' := β) (w' := w') ⟨fun _ _ => rfl, Chg.refl _ _, fun i b h => (by cases h), fun i h => (by cases h), fun i h => (by cases h)⟩
      refine ⟨β, D2, Sat'.congr (σ' := {foldS (LF y) (listed.toList.set i true) σ with h := fun w => σ.h w ∧ hx y w}) (σ := ({foldS (LF y) listed.toList σ with h := fun w => (foldS (LF y) listed.toList σ).h w ∧ hx y w} : Sg).app o.dst ⟨.v (V y), [], [], rs, rb⟩) (fun k => look_inl (hD (true, k))) (fun g => look_inr (hD (false, g))) ?_ ?_ ?_ happ⟩
      · show (foldS (LF y) (listed.toList.set i true) σ).nt = (foldS (LF y) listed.toList σ).nt
        rw [(foldS_meta _ _ σ).1]; exact ((foldS_meta (LF y) listed.toList σ).1).symm
      · show (fun w => σ.h w ∧ hx y w) = fun w => (foldS (LF y) listed.toList σ).h w ∧ hx y w
        rw [(foldS_meta (LF y) listed.toList σ).2]
      · show (foldS (LF y) (listed.toList.set i true) σ).z = (foldS (LF y) listed.toList σ).z
        rw [foldS_z]; exact (foldS_z (LF y) listed.toList σ).symm
  · have hnd : i ∉ done := fun h => by have := hdone i h; rw [h0'] at this; cases this
    obtain ⟨E, hE⟩ : ∃ E, (LF y0)[i]? = some (o, E) := by
     have := hget i
     rw [ho, List.getElem?_eq_getElem hiL] at this
     simp only [Option.map_some, Option.some.injEq] at this
     exact ⟨((LF y0)[i]).2, by rw [List.getElem?_eq_getElem hiL, this]⟩
    have hoL : ((LF y0).map (·.1))[i]? = some o := by simp [hE]
    have hdep : ((bef ops.toList []).getD i 0).testBit c = false := by
     refine Classical.byContradiction fun hbit => ?_
     have hbit : ((bef ops.toList []).getD i 0).testBit c = true := by simpa using hbit
     rw [hL y0] at hbit
     have := (bef_listed (hd y0).edges (fun j => listed.getD j false = true) hdown i i (Nat.le_refl _) _ hoL hall c hbit).1
     rw [hc0] at this; cases this
    refine (any_norm (Q := Q) (hL y0) (hd y0) hls hdown h0' hall hE (hlink i _ hnd hic hdep hE) hsat).mono fun a' w' hs' => ?_
    refine ih (listed.setIfInBounds i true) a' w' (by simpa using hls) (countP_next (by omega) h0' hc) (down_next hoL hdown hall) (fun d hd' => getD_set_true (hdone d hd')) (fun d hd' => ?_) hs'
    have h1 := htodo d hd'
    have hne : d ≠ i := fun e => by
     subst e
     rcases List.mem_cons.1 hd' with h | h
     · exact hic h
     · have := (hrest d h).2
       rw [hdep] at this; cases this
    refine getD_false fun h2 => ?_
    rw [getD_set_ne false (fun e => hne e.symm)] at h2
    rw [h1] at h2; cases h2
end
section
variable {P : Program} (T : Env P)
structure Fm where
 α : Type
 V : α → Value
 hx : α → World → Prop
 y : α
inductive FamEv (P : Program) (σ : Sg) (kn : World → Prop) (k : Nat) (l : List SV) (f : Fm) (K : List Nat → Prop) : Prop
 | mk (rb : List Nat) (h : ∀ β w, (∀ i ∈ rb, ∀ b, lk σ.m i = some b → b.ok β w (β i)) → kn w → Calls P k (SV.cs β l).toArray w fun e w' => ∃ x, e = .returned (f.V x) ∧ Below w.heap.size w w' ∧ St w.heap.size (f.hx x) w') (hK : K rb) : FamEv P σ kn k l f K
def famG (o : Oper) (σ : Sg) (kn : World → Prop) (f : Fm) (K : List Nat → List Nat → Prop) : Prop :=
 match o.op, o.guard with
 | .call ⟨.value fo, args, _⟩, none => (match gv σ fo with
  | some (.v (.func (.func k) first cap)) => (T.fn k = true ∧ first.toList = [] ∧ cap.toList = []) ∧ gvs σ args.toList fun l => normK l fun l' => FamEv P σ kn k l' f fun rb => K (os fo ++ oss args.toList) rb
  | _ => False)
 | _, _ => False
theorem fam_op {F : Fence} {n : Nat} {ops : Array Oper} {dst : Option Tmp} {fo : Operand} {args : Array Operand} {ts : Array TypeId} {ty : TypeId} {pos : String} {after : Array Edge} {σ : Sg} {kn : World → Prop} {k : Nat} {l : List SV} {f : Fm} {v0 : Value} {rb : List Nat} (hF : Wd F)
 (hf : gv σ fo = some (.v (.func (.func k) #[] #[]))) (hk : T.fn k = true) (hl : args.toList.map (gv σ) = l.map some)
 (h : ∀ β w, (∀ i ∈ rb, ∀ b, lk σ.m i = some b → b.ok β w (β i)) → kn w → Calls P k (SV.cs β l).toArray w fun e w' => ∃ x, e = .returned (f.V x) ∧ Below w.heap.size w w' ∧ St w.heap.size (f.hx x) w') :
 FamC F n P ops ⟨dst, .call ⟨.value fo, args, ts⟩, ty, pos, after, none⟩ {σ with h := kn} ⟨.v v0, [], [], os fo ++ oss args.toList, rb⟩ f.V f.hx := by
 intro Q β a w K hs hK
 have hs' : Sees σ ⟨.v v0, [], [], os fo ++ oss args.toList, rb⟩ β a { w with drawn := w.drawn } → True := fun _ => trivial
 unfold StepB
 rw [if_pos (show Region.wanted ⟨dst, .call ⟨.value fo, args, ts⟩, ty, pos, after, none⟩ (yielded ops a.tmps) = true from rfl)]
 refine ⟨fun f _ => hF.fn f, ?_⟩
 have hsem : Oper.semAt F.round a.eval ⟨dst, .call ⟨.value fo, args, ts⟩, ty, pos, after, none⟩ = execOp a.eval ⟨dst, .call ⟨.value fo, args, ts⟩, ty, pos, after, none⟩ := Oper.semAt_eq _ _ _ (fun c hc => by cases hc)
 rw [hsem]
 have e1 := gv_eval hs (show gv {σ with h := kn} fo = _ by cases fo <;> exact hf) (fun k hk => List.mem_append_left _ hk)
 have hl' : args.toList.map (gv {σ with h := kn}) = l.map some := by
  rw [← hl]
  exact List.map_congr_left fun x _ => by cases x <;> rfl
 have e2 := map_toArray (gvs_eval hs hl' (fun k hk => List.mem_append_right _ hk))
 have hrun : (execOp a.eval ⟨dst, .call ⟨.value fo, args, ts⟩, ty, pos, after, none⟩).run P w = .ok (.enter k (SV.cs β l).toArray) w := by
  simp only [execOp, resolve, e1, SV.c, e2, Deferred.ofValue, invoke, Sem.run_bind, Sem.run_pure, Result.andThen_ok, T.fok k hk]
  simp
 rw [hrun, Oper.uponIn_enter]
 refine ⟨fun hd => (by rw [hF.depth] at hd; cases hd), ?_⟩
 refine hF.calls ((h β w hs.m hs.h).mono fun e w' ⟨x, he, hb, hst⟩ => ?_)
 subst he
 exact hK x w' hb hst
def vX (fs : Nat → Option Fm) (L0 : List Oper) : List Oper → Nat → Sg → List (Oper × Ef) → (World → Prop) → (Sg → List (Oper × Ef) → Prop) → Prop
 | [], _, σ, acc, _, K => drawB acc = true ∧ K σ acc
 | o :: r, j, σ, acc, kn, K => match dstB o σ.nt with
  | true => (match fs j with
   | none => vO T L0 o σ (fun E => gSplit (isG L0 j) E fun E => appK σ o.dst E fun σ' => vX fs L0 r (j + 1) σ' (acc ++ [(o, E)]) kn K) none
   | some f => famG T o σ kn f fun rs rb => appK σ o.dst ⟨.v (f.V f.y), [], [], rs, rb⟩ fun σ' => vX fs L0 r (j + 1) σ' (acc ++ [(o, ⟨.v (f.V f.y), [], [], rs, rb⟩)]) (fun w => kn w ∧ f.hx f.y w) K)
  | false => False
def knF (fs : Nat → Option Fm) : Nat → Nat → (World → Prop) → (World → Prop)
 | _, 0, kn => kn
 | j, i + 1, kn => knF fs (j + 1) i (match fs j with | none => kn | some f => fun w => kn w ∧ f.hx f.y w)
theorem vX_spec {F : Fence} {n : Nat} {ops : Array Oper} {L0 : List Oper} {fs : Nat → Option Fm} (hF : Wd F) (hL : ops.toList = L0) : ∀ (l : List Oper) (j : Nat) (σ : Sg) (acc : List (Oper × Ef)) (kn : World → Prop) (K : Sg → List (Oper × Ef) → Prop), σ.Ok → vX T fs L0 l j σ acc kn K →
 ∃ L : List (Oper × Ef), l = L.map (·.1) ∧ (∀ i p, fs (j + i) = none → L[i]? = some p → Link F n P ops p.1 (fin (L.take i) σ) p.2) ∧
  (∀ i f, fs (j + i) = some f → i < L.length → ∃ oc rs rb, L[i]? = some (oc, ⟨.v (f.V f.y), [], [], rs, rb⟩) ∧ (∀ d, oc.dst = some d → d < σ.nt) ∧ FamC F n P ops oc {fin (L.take i) σ with h := knF fs j i kn} ⟨.v (f.V f.y), [], [], rs, rb⟩ f.V f.hx) ∧
  K (fin L σ) (acc ++ L) ∧ (fin L σ).Ok ∧ drawB (acc ++ L) = true ∧ (∀ p ∈ L, ∃ m, σ.nb ≤ m ∧ p.2.fr = List.range' m p.2.fr.length)
 | [], _, σ, acc, kn, K, hσ, h => ⟨[], rfl, fun i p _ h => by simp at h, fun i f _ hi => by simp at hi, by simpa [fin] using h.2, hσ, by simpa using h.1, fun p hp => (by cases hp)⟩
 | o :: r, j, σ, acc, kn, K, hσ, h => by
  simp only [vX] at h
  split at h
  case h_2 => exact h.elim
  rename_i hd0
  have hd := dstB_spec hd0
  split at h
  · rename_i hfs
    rcases vO_spec T (n := n) hF hL hσ h with ⟨E, h1, h2, h3⟩ | ⟨kf, hkf, _⟩
    case inr => cases hkf
    obtain ⟨E', h4, h5, h6⟩ := gSplit_spec h1 h2 h3
    obtain ⟨L, g1, g2, g3, g4, g5, g6, g7⟩ := vX_spec hF hL r (j + 1) _ _ kn K (hσ.app (o := o) h5 hd) (appK_spec h4)
    refine ⟨(o, E') :: L, by simp [g1], fun i p hfi hp => ?_, fun i f hfi hi => ?_, by simpa [fin] using g4, g5, by simpa using g6, fun p hp => ?_⟩
    · cases i with
      | zero =>
       simp only [List.getElem?_cons_zero, Option.some.injEq] at hp
       subst hp
       exact h5.link hσ.wf hd h6
      | succ i => exact g2 i p (by rw [← hfi]; congr 1; omega) (by simpa using hp)
    · cases i with
      | zero => rw [Nat.add_zero, hfs] at hfi; cases hfi
      | succ i =>
       obtain ⟨oc, rs, rb, q1, q2, q3⟩ := g3 i f (by rw [← hfi]; congr 1; omega) (by simpa using hi)
       refine ⟨oc, rs, rb, by simpa using q1, q2, ?_⟩
       have : knF fs j (i + 1) kn = knF fs (j + 1) i kn := by simp only [knF, hfs]
       rw [this]
       exact q3
    · rcases List.mem_cons.1 hp with rfl | hp
      · exact ⟨σ.nb, Nat.le_refl _, h5.fr⟩
      · obtain ⟨m, q1, q2⟩ := g7 p hp
        exact ⟨m, Nat.le_trans (Nat.le_add_right _ _) q1, q2⟩
  · rename_i f hfs
    obtain ⟨dst, op, ty, pos, after, gd⟩ := o
    unfold famG at h
    split at h
    case h_2 => exact h.elim
    rename_i fo args ts h1 h2
    dsimp only at h1 h2
    subst h1 h2
    have hd := dstB_spec hd0
    split at h
    case h_2 => exact h.elim
    rename_i k first cap hf
    obtain ⟨⟨hk, hfi, hca⟩, h⟩ := h
    obtain rfl : first = #[] := Array.toList_eq_nil_iff.1 hfi
    obtain rfl : cap = #[] := Array.toList_eq_nil_iff.1 hca
    obtain ⟨l, h3, h4⟩ := gvs_spec h
    obtain ⟨rb, hc, h5⟩ := normK_spec h3
    have hE : EfOK σ ⟨.v (f.V f.y), [], [], os fo ++ oss args.toList, rb⟩ := ⟨rfl, rfl, fun i b h => (by cases h), fun i b h => (by cases h), fun i b b' h => (by cases h)⟩
    obtain ⟨L, g1, g2, g3, g4, g5, g6, g7⟩ := vX_spec hF hL r (j + 1) _ _ _ K (hσ.app (o := ⟨dst, .call ⟨.value fo, args, ts⟩, ty, pos, after, none⟩) hE hd) (appK_spec h5)
    refine ⟨(⟨dst, .call ⟨.value fo, args, ts⟩, ty, pos, after, none⟩, ⟨.v (f.V f.y), [], [], os fo ++ oss args.toList, rb⟩) :: L, by simp [g1], fun i p hfi hp => ?_, fun i f' hfi hi => ?_, by simpa [fin] using g4, g5, by simpa using g6, fun p hp => ?_⟩
    · cases i with
      | zero => rw [Nat.add_zero, hfs] at hfi; cases hfi
      | succ i => exact g2 i p (by rw [← hfi]; congr 1; omega) (by simpa using hp)
    · cases i with
      | zero =>
       rw [Nat.add_zero, hfs, Option.some.injEq] at hfi
       subst hfi
       exact ⟨_, _, _, rfl, hd, fam_op T hF hf hk h4 hc⟩
      | succ i =>
       obtain ⟨oc, rs, rb', q1, q2, q3⟩ := g3 i f' (by rw [← hfi]; congr 1; omega) (by simpa using hi)
       refine ⟨oc, rs, rb', by simpa using q1, q2, ?_⟩
       have : knF fs j (i + 1) kn = knF fs (j + 1) i (fun w => kn w ∧ f.hx f.y w) := by simp only [knF, hfs]
       rw [this]
       exact q3
    · rcases List.mem_cons.1 hp with rfl | hp
      · exact ⟨σ.nb, Nat.le_refl _, rfl⟩
      · obtain ⟨m, q1, q2⟩ := g7 p hp
        exact ⟨m, Nat.le_trans (Nat.le_add_right _ _) q1, q2⟩
end
def indR (bs : List Nat) (c : Nat) : Nat → List (Oper × Ef) → List (Oper × Ef) → Prop
 | _, [], [] => True
 | i, p :: l, q :: r => ((Nat.beq i c || (bs.getD i 0).testBit c) = true ∨ p = q) ∧ indR bs c (i + 1) l r
 | _, _, _ => False
theorem indR_spec {bs : List Nat} {c : Nat} : ∀ {l r : List (Oper × Ef)} {j : Nat}, indR bs c j l r → ∀ i, j + i ≠ c → (bs.getD (j + i) 0).testBit c = false → l[i]? = r[i]?
 | [], [], _, _, i, _, _ => rfl
 | p :: l, q :: r, j, h, i, hne, hd => by
  cases i with
  | zero =>
   rcases h.1 with h1 | h1
   · rw [Nat.add_zero] at hne hd
     have : Nat.beq j c = false := by
      cases hb : Nat.beq j c with
      | false => rfl
      | true => exact absurd (Nat.eq_of_beq_eq_true hb) hne
     rw [this, hd] at h1
     cases h1
   · simp [h1]
  | succ i =>
   simpa using indR_spec h.2 i (by omega) (by rw [show j + 1 + i = j + (i + 1) from by omega]; exact hd)
 | [], q :: r, _, h, _, _, _ => h.elim
 | p :: l, [], _, h, _, _, _ => h.elim
theorem Link.more {F : Fence} {n : Nat} {P : Program} {ops : Array Oper} {o : Oper} {σ : Sg} {E : Ef} (h : Link F n P ops o σ E) {h' : World → Prop} (hh : ∀ w, h' w → σ.h w) : Link F n P ops o {σ with h := h'} E :=
 ⟨fun Q β a w K hs hK => h.ok Q β a w K ⟨hs.t, hs.m, hs.inj, hh _ hs.h, hs.size, fun w' hc => hh _ (hs.st w' hc)⟩ hK, ⟨h.wf.old, h.wf.once⟩, ⟨h.av.t, h.av.g, h.av.m⟩, h.rb, h.dst⟩
def hdO : Code → Array Oper | .seq (.region _ o _) _ => o | _ => #[]
theorem beq_ne {a b : Nat} (h : a ≠ b) : Nat.beq a b = false := by
 cases hb : Nat.beq a b with
 | false => rfl
 | true => exact absurd (Nat.eq_of_beq_eq_true hb) h
def fs2 {α1 α2 : Type} (c1 c2 : Nat) (V1 : α1 → Value) (x1 : α1 → World → Prop) (V2 : α2 → Value) (x2 : α2 → World → Prop) (y1 : α1) (y2 : α2) (j : Nat) : Option Fm :=
 bif Nat.beq j c1 then some ⟨α1, V1, x1, y1⟩ else bif Nat.beq j c2 then some ⟨α2, V2, x2, y2⟩ else none
theorem VC_reg2 {P : Program} (T : Env P) (hm : P.follows .mixedOrders = true) {id : Nat} {ops : Array Oper} {σ : Sg} {Φ : Exit → Sg → Prop} {α1 α2 : Type} (c1 c2 : Nat) (V1 : α1 → Value) (x1 : α1 → World → Prop) (V2 : α2 → Value) (x2 : α2 → World → Prop) (d1 : α1) (d2 : α2)
 (LF : α1 → α2 → List (Oper × Ef)) (h12 : c1 < c2) (h3 : c2 < ops.size)
 (hv : ∀ y1 y2, vX T (fs2 c1 c2 V1 x1 V2 x2 y1 y2) ops.toList ops.toList 0 σ [] σ.h (fun σ' acc => acc = LF y1 y2 ∧ Φ .normal {σ' with h := fun w => (σ.h w ∧ x1 y1 w) ∧ x2 y2 w}))
 (hk1 : ∀ y1 y2, knF (fs2 c1 c2 V1 x1 V2 x2 y1 y2) 0 c1 σ.h = σ.h) (hk2 : ∀ y1 y2, knF (fs2 c1 c2 V1 x1 V2 x2 y1 y2) 0 c2 σ.h = fun w => σ.h w ∧ x1 y1 w)
 (hi1 : ∀ y y' y2, indR (bef ops.toList []) c1 0 (LF y y2) (LF y' y2)) (hi2 : ∀ y1 y y', indR (bef ops.toList []) c2 0 (LF y1 y) (LF y1 y'))
 (hd12 : ((bef ops.toList []).getD c2 0).testBit c1 = true) : VC P (.region id ops true) σ Φ := by
 intro F n X a w hF hlp hok hsat
 have hS := fun y1 y2 => vX_spec T (F := F) (n := n) (ops := ops) hF rfl _ 0 σ [] _ _ hok (hv y1 y2)
 have f1 : ∀ y1 y2, fs2 c1 c2 V1 x1 V2 x2 y1 y2 c1 = some ⟨α1, V1, x1, y1⟩ := fun _ _ => by unfold fs2; rw [Nat.beq_refl]; rfl
 have f2 : ∀ y1 y2, fs2 c1 c2 V1 x1 V2 x2 y1 y2 c2 = some ⟨α2, V2, x2, y2⟩ := fun _ _ => by unfold fs2; rw [beq_ne (by omega), Nat.beq_refl]; rfl
 have f0 : ∀ y1 y2 i, i ≠ c1 → i ≠ c2 → fs2 c1 c2 V1 x1 V2 x2 y1 y2 i = none := fun _ _ i e1 e2 => by unfold fs2; rw [beq_ne e1, beq_ne e2]; rfl
 have hA : ∀ y1 y2, ops.toList = (LF y1 y2).map (·.1) ∧ (∀ i p, i ≠ c1 → i ≠ c2 → (LF y1 y2)[i]? = some p → Link F n P ops p.1 (fin ((LF y1 y2).take i) σ) p.2) ∧
  (∀ i f, fs2 c1 c2 V1 x1 V2 x2 y1 y2 i = some f → i < (LF y1 y2).length → ∃ oc rs rb, (LF y1 y2)[i]? = some (oc, ⟨.v (f.V f.y), [], [], rs, rb⟩) ∧ (∀ d, oc.dst = some d → d < σ.nt) ∧ FamC F n P ops oc {fin ((LF y1 y2).take i) σ with h := knF (fs2 c1 c2 V1 x1 V2 x2 y1 y2) 0 i σ.h} ⟨.v (f.V f.y), [], [], rs, rb⟩ f.V f.hx) ∧
  Φ .normal {fin (LF y1 y2) σ with h := fun w => (σ.h w ∧ x1 y1 w) ∧ x2 y2 w} ∧ (fin (LF y1 y2) σ).Ok ∧ DrawOK (LF y1 y2) σ := fun y1 y2 => by
  obtain ⟨L, g1, g2, g3, ⟨g4, g4'⟩, g5, g6, g7⟩ := hS y1 y2
  rw [List.nil_append] at g4 g6
  subst g4
  simp only [drawB, Bool.and_eq_true] at g6
  refine ⟨g1, fun i p e1 e2 hp => g2 i p (by rw [Nat.zero_add]; exact f0 y1 y2 i e1 e2) hp, fun i f hfi hi => g3 i f (by rw [Nat.zero_add]; exact hfi) hi, g4', g5, g6.1, g6.2, fun p hp => ?_⟩
  obtain ⟨m, q1, q2⟩ := g7 p hp
  exact hok.wf.av q1 q2
 have hsz : ∀ y1 y2, (LF y1 y2).length = ops.size := fun y1 y2 => by
  have := congrArg List.length (hA y1 y2).1
  simpa using this.symm
 have hdr : ∀ y1 y2 h', DrawOK (LF y1 y2) {σ with h := h'} := fun y1 y2 h' => by
  obtain ⟨_, _, _, _, _, hd⟩ := hA y1 y2
  exact ⟨hd.edges, hd.pairs, fun p hp => ⟨(hd.av p hp).t, (hd.av p hp).g, (hd.av p hp).m⟩⟩
 have hlk : ∀ y1 y2 i p (h' : World → Prop), (∀ w, h' w → σ.h w) → i ≠ c1 → i ≠ c2 → (LF y1 y2)[i]? = some p → Link F n P ops p.1 (fin ((LF y1 y2).take i) {σ with h := h'}) p.2 := fun y1 y2 i p h' hh e1 e2 hp => by
  rw [fin_h]
  exact ((hA y1 y2).2.1 i p e1 e2 hp).more (fun w hw => by
   have : ∀ (L : List (Oper × Ef)) (τ : Sg), (fin L τ).h = τ.h := fun L => by
    induction L with
    | nil => intro τ; rfl
    | cons p L ih => intro τ; simp only [fin]; rw [ih]; rfl
   rw [this]; exact hh w hw)
 have hfm : ∀ y1 y2 i f, fs2 c1 c2 V1 x1 V2 x2 y1 y2 i = some f → i < ops.size → ∃ oc rs rb, (LF y1 y2)[i]? = some (oc, ⟨.v (f.V f.y), [], [], rs, rb⟩) ∧ (∀ d, oc.dst = some d → d < σ.nt) ∧ FamC F n P ops oc (fin ((LF y1 y2).take i) {σ with h := knF (fs2 c1 c2 V1 x1 V2 x2 y1 y2) 0 i σ.h}) ⟨.v (f.V f.y), [], [], rs, rb⟩ f.V f.hx := fun y1 y2 i f hf hi => by
  rw [fin_h]
  exact (hA y1 y2).2.2.1 i f hf (by rw [hsz]; exact hi)
 have hops : ∀ y1 y2 (i : Nat) (p : Oper × Ef), (LF y1 y2)[i]? = some p → ops[i]? = some p.1 := fun y1 y2 i p hp => by
  rw [← Array.getElem?_toList, (hA y1 y2).1, List.getElem?_map, hp]; rfl
 have G2 : ∀ y1 y2, GG X F n P ops (QΦ X Φ) (LF y1 y2) {σ with h := fun w => (σ.h w ∧ x1 y1 w) ∧ x2 y2 w} [c2, c1] [] := fun y1 y2 => by
  refine GG_end (hA y1 y2).1 (hdr _ _ _) (fun i p hi hp => ?_) fun a w hs => ?_
  · simp only [List.mem_cons, List.not_mem_nil, or_false, not_or] at hi
    exact hlk y1 y2 i p _ (fun w hw => hw.1.1) hi.2 hi.1 hp
  · rw [fin_h] at hs
    obtain ⟨_, _, _, q1, q2, _⟩ := hA y1 y2
    exact ⟨_, q1, ⟨⟨q2.wf.t, q2.wf.g, q2.wf.m⟩, q2.lt⟩, hs⟩
 have G1 : ∀ y1, GG X F n P ops (QΦ X Φ) (LF y1 d2) {σ with h := fun w => σ.h w ∧ x1 y1 w} [c1] [c2] := fun y1 => by
  obtain ⟨oc, rs, rb, q1, q2, q3⟩ := hfm y1 d2 c2 _ (f2 y1 d2) h3
  have hoc := hops _ _ _ _ q1
  refine GG_fam (fun y => LF y1 y) V2 x2 d2 c2 [] oc (fun y => (hA y1 y).1) (fun y => hdr _ _ _) (fun y => ?_) (fun y y' i hi hdp => ?_) (fun i p hi hic hdp hp => ?_) q2 (fun rs' rb' hE => ?_) (fun d hd => by cases hd) (fun y => G2 y1 y)
  · obtain ⟨oc', rs', rb', p1, _, _⟩ := hfm y1 y c2 _ (f2 y1 y) h3
    have := hops _ _ _ _ p1
    rw [hoc, Option.some.injEq] at this
    have he : oc = oc' := this
    subst he
    exact ⟨rs', rb', p1⟩
  · have := indR_spec (hi2 y1 y y') i (by rw [Nat.zero_add]; exact hi) (by rw [Nat.zero_add]; exact hdp)
    exact this
  · simp only [List.mem_cons, List.not_mem_nil, or_false] at hi
    exact hlk y1 d2 i p _ (fun w hw => hw.1) hi hic hp
  · rw [q1] at hE
    simp only [Option.some.injEq, Prod.mk.injEq, Ef.mk.injEq, true_and] at hE
    obtain ⟨rfl, rfl⟩ := hE
    rw [hk2] at q3
    exact q3
 have G0 : GG X F n P ops (QΦ X Φ) (LF d1 d2) σ [] [c1, c2] := by
  obtain ⟨oc, rs, rb, q1, q2, q3⟩ := hfm d1 d2 c1 _ (f1 d1 d2) (by omega)
  have hoc := hops _ _ _ _ q1
  refine GG_fam (fun y => LF y d2) V1 x1 d1 c1 [c2] oc (fun y => (hA y d2).1) (fun y => hdr _ _ σ.h) (fun y => ?_) (fun y y' i hi hdp => ?_) (fun i p hi hic hdp hp => ?_) q2 (fun rs' rb' hE => ?_) (fun d hd => ?_) (fun y => G1 y)
  · obtain ⟨oc', rs', rb', p1, _, _⟩ := hfm y d2 c1 _ (f1 y d2) (by omega)
    have := hops _ _ _ _ p1
    rw [hoc, Option.some.injEq] at this
    have he : oc = oc' := this
    subst he
    exact ⟨rs', rb', p1⟩
  · have := indR_spec (hi1 y y' d2) i (by rw [Nat.zero_add]; exact hi) (by rw [Nat.zero_add]; exact hdp)
    exact this
  · refine hlk d1 d2 i p σ.h (fun w hw => hw) hic (fun e => ?_) hp
    subst e; rw [hd12] at hdp; cases hdp
  · rw [q1] at hE
    simp only [Option.some.injEq, Prod.mk.injEq, Ef.mk.injEq, true_and] at hE
    obtain ⟨rfl, rfl⟩ := hE
    rw [hk1] at q3
    exact q3
  · simp only [List.mem_cons, List.not_mem_nil, or_false] at hd
    subst hd
    exact ⟨by omega, hd12⟩
 refine wpIn_region_any hm ?_
 have hrep : ∀ j, (Array.replicate ops.size false).getD j false = false := fun j => by
  simp only [Array.getD_eq_getD_getElem?, Array.getElem?_replicate]
  split <;> rfl
 refine G0 ops.size (Array.replicate ops.size false) a _ (by simp [hsz]) (by simp [List.countP_replicate]) (fun j hj => by rw [hrep] at hj; cases hj) (fun c hc => by cases hc) (fun c _ => hrep c) ?_
 obtain ⟨β, Dm, hs⟩ := hsat
 refine ⟨β, Dm, ?_⟩
 rw [foldS_none]
 · exact hs.drawn _
 · intro b hb
   simp only [Array.toList_replicate, List.mem_replicate] at hb
   exact hb.2
end Go.Proofs.Ythfabodamhdhaaa.Tx
namespace Go.Proofs.Ythfabodamhdhaaa
open Go Tx Go.RowKit
set_option linter.unusedSimpArgs false
set_option linter.unusedVariables false
def smB (x : To) : Bool := x.T.all (fun t => decide (t.O.length ≤ 5) && decide (t.R.length ≤ 5)) && (x.L.all (fun r => decide (r.length ≤ 12)) && (decide (x.T.length ≤ 12) && decide (x.L.length ≤ 12)))
structure TrB (x : Tr) : Prop where
 t : ∀ t ∈ x.T, t.d.O.length ≤ 100 ∧ t.d.R.length ≤ 100
 l : ∀ r ∈ x.L, r.L.length ≤ 100
 tl : x.T.length ≤ 100
 ll : x.L.length ≤ 100
theorem TrI0.b {x : Tr} {w : World} (h : TrI0 x w) (hb : TrB x) : TrIn x w :=
 ⟨h.t, fun t ht => ⟨(h.ti t ht).o, (h.ti t ht).r, by have := hb.t t ht; omega, by have := hb.t t ht; omega⟩, h.l, h.li, by have := hb.tl; omega, by have := hb.ll; omega, fun r hr => by have := hb.l r hr; omega, h.tcap⟩
theorem toB_b {x : Tr} (h : toB x.d = true) : TrB x := by
 have hn := toB_n h
 obtain ⟨days, shift, size, to, tc, T, lo, lc, L⟩ := x
 have h0 := (toB_iff days shift size to tc T lo lc L).1 h
 have h9 := hn.n
 have hl := hn.l
 simp only [Tr.d, List.length_map] at h9 hl
 refine ⟨fun t ht => ?_, fun r hr => ?_, by show T.length ≤ 100; omega, by show L.length ≤ 100; omega⟩
 · obtain ⟨k, hk⟩ := List.mem_iff_getElem?.1 ht
   have hkl := (List.getElem?_eq_some_iff.1 hk).1
   rcases (h0.2.2 k hkl).1 with rfl | ⟨t', h1, h2⟩
   · obtain ⟨t', h1, h2⟩ := h0.2.1
     rw [hk, Option.some.injEq] at h1
     subst h1
     simp only [quB, Bool.and_eq_true, decide_eq_true_eq] at h2
     omega
   · rw [hk, Option.some.injEq] at h1
     subst h1
     simp only [twB, inB, Bool.and_eq_true, decide_eq_true_eq] at h2
     omega
 · have := hn.lr r.L (List.mem_map.2 ⟨r, hr, rfl⟩)
   have h3 := this.1
   simp only [Tr.d, List.length_map] at h3
   omega
set_option maxHeartbeats 4000000 in
set_option maxRecDepth 100000 in
theorem Small_ok (x : Tr) (w : World) (h : TrI0 x w) : Calls Try.prog 17 #[x.v] w fun e w' => e = .returned (.bool (smB x.d)) ∧ Below w.heap.size w w' := by
 obtain ⟨days, shift, size, to, tc, T, lo, lc, L⟩ := x
 obtain ⟨hT, hTi, hL, hLi, htl, hll, hlr, htc⟩ := h
 dsimp only at hT hTi hL hLi htl hll hlr htc ⊢
 have hsm : smB (Tr.d ⟨days, shift, size, to, tc, T, lo, lc, L⟩) = (T.all (fun t => decide (t.d.O.length ≤ 5) && decide (t.d.R.length ≤ 5)) && (L.all (fun r => decide (r.L.length ≤ 12)) && (decide ((T.length : Int) ≤ 12) && decide ((L.length : Int) ≤ 12)))) := by
  simp only [smB, Tr.d, List.length_map, List.all_map, Function.comp_def]
  congr 3
  · exact decide_eq_decide.2 (by omega)
  · exact decide_eq_decide.2 (by omega)
 rw [hsm]
 clear hsm
 refine calls_val env mixed Try.func17 has17 Try.ntmps17 [.agg #[iv days, iv shift, iv size, .slice to T.length tc, .slice lo L.length lc]] (by simp) ?_
 repeat'
  conv => whnf
  first
   | refine zA ?_ | refine zB ?_ | refine zC ?_ | refine zD ?_ | refine zE ?_ | refine zF ?_ | refine zG ?_ | refine zH ?_ | refine zJ ?_ | refine zI ?_ | refine splT ?_ | refine splF ?_ | refine splNot ?_
   | ((first | refine splIn ?_ ?_ | refine splD ?_ ?_ | refine splE ?_ ?_ | refine splNE ?_ ?_) <;> intro hc <;> first | (exfalso; omega) | (exfalso; dsimp only at hc; omega) | skip)
 refine loopE (fun i : Nat => [(1, .ptr 0 0), (3, .v (iv i))]) (fun _ => [(0, .cells [.v (iv days), .v (iv shift), .v (iv size), .v (.slice to T.length tc), .v (.slice lo L.length lc)] 25)])
  (fun i => i ≤ T.length ∧ (T.take i).all (fun t => decide (t.d.O.length ≤ 5) && decide (t.d.R.length ≤ 5)) = true) (fun i => T.length - i) 0 ⟨Nat.zero_le _, rfl⟩ ⟨rfl, rfl, trivial⟩ ⟨rfl, trivial⟩ (fun _ => ⟨rfl, rfl⟩) ?_
 intro i ⟨hi, hall⟩
 rcases Nat.lt_or_ge i T.length with hil | hil
 · obtain ⟨⟨oo, oc, ro, rc, O, s1, s2, pay, lot, rent, R, cold, cut⟩, ht⟩ : ∃ t, T[i]? = some t := ⟨_, List.getElem?_eq_getElem hil⟩
   obtain ⟨_, ad, rfl, _⟩ := hT.ptr (by omega)
   have e0 := fun (w' : World) hw' => rd_fldz (hT.below (w' := w') hw') ht _ rfl 0 (.slice oo O.length oc) rfl
   have e5 := fun (w' : World) hw' => rd_fldz (hT.below (w' := w') hw') ht _ rfl 6 (.slice ro R.length rc) rfl
   have hti := hTi _ (List.mem_of_getElem? ht)
   have hol := hti.ol
   have hrl := hti.rl
   dsimp only at hol hrl
   have hat := all_take (p := fun t : Tn => decide (t.d.O.length ≤ 5) && decide (t.d.R.length ≤ 5)) ht
   rw [hall, Bool.true_and] at hat
   have hno := all_no (p := fun t : Tn => decide (t.d.O.length ≤ 5) && decide (t.d.R.length ≤ 5)) ht
   by_cases hok : O.length ≤ 5 ∧ R.length ≤ 5
   · rw [show (decide (O.length ≤ 5) && decide (R.length ≤ 5)) = true from by simp; omega] at hat
     repeat'
      conv => whnf
      first
       | refine zA ?_ | refine zB ?_ | refine zC ?_ | refine zD ?_ | refine zE ?_ | refine zF ?_ | refine zG ?_ | refine zH ?_ | refine zJ ?_ | refine zI ?_ | refine splT ?_ | refine splF ?_ | refine splNot ?_
       | ((first | refine splIn ?_ ?_ | refine splD ?_ ?_ | refine splE ?_ ?_ | refine splNE ?_ ?_) <;> intro hc <;> first | (exfalso; omega) | (exfalso; dsimp only at hc; omega) | skip)
       | refine Exists.intro (α := List Value) [.slice oo O.length oc] ⟨⟨rfl, fun w' hw' => e0 w' hw'⟩, ?_⟩
       | refine Exists.intro (α := List Value) [.slice ro R.length rc] ⟨⟨rfl, fun w' hw' => e5 w' hw'⟩, ?_⟩
     all_goals first | (exfalso; omega) | exact ⟨i + 1, ⟨by omega, hat⟩, by omega, Ent.weak rfl ⟨rfl, rfl, trivial⟩ ⟨rfl, trivial⟩ fun _ h => h⟩
   · rw [hno (by (cases hb : (decide (O.length ≤ 5) && decide (R.length ≤ 5)) with | false => rfl | true => (simp at hb; exact absurd hb hok))), Bool.false_and]
     repeat'
      conv => whnf
      first
       | refine zA ?_ | refine zB ?_ | refine zC ?_ | refine zD ?_ | refine zE ?_ | refine zF ?_ | refine zG ?_ | refine zH ?_ | refine zJ ?_ | refine zI ?_ | refine splT ?_ | refine splF ?_ | refine splNot ?_
       | ((first | refine splIn ?_ ?_ | refine splD ?_ ?_ | refine splE ?_ ?_ | refine splNE ?_ ?_) <;> intro hc <;> first | (exfalso; omega) | (exfalso; dsimp only at hc; omega) | skip)
       | refine Exists.intro (α := List Value) [.slice oo O.length oc] ⟨⟨rfl, fun w' hw' => e0 w' hw'⟩, ?_⟩
       | refine Exists.intro (α := List Value) [.slice ro R.length rc] ⟨⟨rfl, fun w' hw' => e5 w' hw'⟩, ?_⟩
     all_goals first | (exfalso; omega) | exact ⟨fun β => rfl, fun w' h => h⟩
 · rw [List.take_of_length_le hil] at hall
   rw [hall, Bool.true_and]
   repeat'
    conv => whnf
    first
     | refine zA ?_ | refine zB ?_ | refine zC ?_ | refine zD ?_ | refine zE ?_ | refine zF ?_ | refine zG ?_ | refine zH ?_ | refine zJ ?_ | refine zI ?_ | refine splT ?_ | refine splF ?_ | refine splNot ?_
     | ((first | refine splIn ?_ ?_ | refine splD ?_ ?_ | refine splE ?_ ?_ | refine splNE ?_ ?_) <;> intro hc <;> first | (exfalso; omega) | (exfalso; dsimp only at hc; omega) | skip)
   all_goals first | (exfalso; omega) | skip
   refine loopE (fun i : Nat => [(1, .ptr 0 0), (4, .v (iv i))]) (fun _ => [(0, .cells [.v (iv days), .v (iv shift), .v (iv size), .v (.slice to T.length tc), .v (.slice lo L.length lc)] 25)])
    (fun i => i ≤ L.length ∧ (L.take i).all (fun r => decide (r.L.length ≤ 12)) = true) (fun i => L.length - i) 0 ⟨Nat.zero_le _, rfl⟩ ⟨rfl, rfl, trivial⟩ ⟨rfl, trivial⟩ (fun _ => ⟨rfl, rfl⟩) ?_
   intro j ⟨hj, hallj⟩
   rcases Nat.lt_or_ge j L.length with hjl | hjl
   · obtain ⟨⟨ro, rc, row⟩, hr⟩ : ∃ r, L[j]? = some r := ⟨_, List.getElem?_eq_getElem hjl⟩
     obtain ⟨_, al, rfl, _⟩ := hL.ptr (by omega)
     have e0 := fun (w' : World) hw' => rd_ati (hL.below (w' := w') hw') hr
     have hrl := hlr _ (List.mem_of_getElem? hr)
     dsimp only at hrl
     have hat := all_take (p := fun r : Lr => decide (r.L.length ≤ 12)) hr
     rw [hallj, Bool.true_and] at hat
     have hno := all_no (p := fun r : Lr => decide (r.L.length ≤ 12)) hr
     by_cases hok : row.length ≤ 12
     · rw [decide_eq_true hok] at hat
       repeat'
        conv => whnf
        first
         | refine zA ?_ | refine zB ?_ | refine zC ?_ | refine zD ?_ | refine zE ?_ | refine zF ?_ | refine zG ?_ | refine zH ?_ | refine zJ ?_ | refine zI ?_ | refine splT ?_ | refine splF ?_ | refine splNot ?_
         | ((first | refine splIn ?_ ?_ | refine splD ?_ ?_ | refine splE ?_ ?_ | refine splNE ?_ ?_) <;> intro hc <;> first | (exfalso; omega) | (exfalso; dsimp only at hc; omega) | skip)
         | refine Exists.intro (α := List Value) [.slice ro row.length rc] ⟨⟨rfl, fun w' hw' => e0 w' hw'⟩, ?_⟩
       all_goals first | (exfalso; omega) | exact ⟨j + 1, ⟨by omega, hat⟩, by omega, Ent.weak rfl ⟨rfl, rfl, trivial⟩ ⟨rfl, trivial⟩ fun _ h => h⟩
     · rw [hno (decide_eq_false hok), Bool.false_and]
       repeat'
        conv => whnf
        first
         | refine zA ?_ | refine zB ?_ | refine zC ?_ | refine zD ?_ | refine zE ?_ | refine zF ?_ | refine zG ?_ | refine zH ?_ | refine zJ ?_ | refine zI ?_ | refine splT ?_ | refine splF ?_ | refine splNot ?_
         | ((first | refine splIn ?_ ?_ | refine splD ?_ ?_ | refine splE ?_ ?_ | refine splNE ?_ ?_) <;> intro hc <;> first | (exfalso; omega) | (exfalso; dsimp only at hc; omega) | skip)
         | refine Exists.intro (α := List Value) [.slice ro row.length rc] ⟨⟨rfl, fun w' hw' => e0 w' hw'⟩, ?_⟩
       all_goals first | (exfalso; omega) | exact ⟨fun β => rfl, fun w' h => h⟩
   · rw [List.take_of_length_le hjl] at hallj
     rw [hallj, Bool.true_and]
     repeat'
      conv => whnf
      first
       | refine zA ?_ | refine zB ?_ | refine zC ?_ | refine zD ?_ | refine zE ?_ | refine zF ?_ | refine zG ?_ | refine zH ?_ | refine zJ ?_ | refine zI ?_ | refine splT ?_ | refine splF ?_ | refine splNot ?_
       | ((first | refine splIn ?_ ?_ | refine splD ?_ ?_ | refine splE ?_ ?_ | refine splNE ?_ ?_) <;> intro hc <;> first | (exfalso; omega) | (exfalso; dsimp only at hc; omega) | skip)
     all_goals first | (exfalso; omega) | exact ⟨fun β => congrArg Value.bool (by simp [*]), fun w' h => h⟩
set_option maxHeartbeats 4000000 in
set_option maxRecDepth 100000 in
theorem ranges_ok (L : List (Int × Int)) (o : Option Addr) (c : Nat) (w : World) (hrd : Rd 2 prF (.slice o L.length c) L w) (hl : L.length ≤ 1000) :
 Calls Try.prog 60 #[.slice o L.length c] w fun e w' => (L = [] → e = .returned (.slice none 0 0) ∧ Below w.heap.size w w') ∧ (L ≠ [] → ∃ b d, e = .returned (.slice (some ⟨b, 0, none⟩) L.length d) ∧ w.heap.size ≤ b ∧ Below w.heap.size w w' ∧ w'.ownsRow 0 55 2 (.slice (some ⟨b, 0, none⟩) L.length d) L.length (L.flatMap prF)) := by
 refine calls_fam2 env mixed Try.func60 has60 Try.ntmps60 [.slice o L.length c] (by simp) ?_
 repeat'
  conv => whnf
  first
   | refine zA ?_ | refine zB ?_ | refine zC ?_ | refine zD ?_ | refine zE ?_ | refine zF ?_ | refine zG ?_ | refine zH ?_ | refine zJ ?_ | refine zI ?_ | refine splT ?_ | refine splF ?_ | refine splNot ?_
   | ((first | refine splIn ?_ ?_ | refine splD ?_ ?_ | refine splE ?_ ?_ | refine splNE ?_ ?_) <;> intro hc <;> first | (exfalso; omega) | (exfalso; dsimp only at hc; omega) | skip)
 refine loopN 2 (fun k : Nat => [(0, .v (.slice o L.length c)), (3, oSV 0 1 (L.take k)), (4, .v (iv k))]) (fun k => oM 0 1 2 prF 55 (L.take k)) (fun k => k ≤ L.length) (fun k => L.length - k) 0 (Nat.zero_le _) ⟨rfl, rfl, rfl, trivial⟩ trivial (fun k _ => by cases L.take k <;> exact ⟨rfl, rfl⟩) ?_
 intro k hk
 rcases Nat.lt_or_ge k L.length with hkl | hkl
 · obtain ⟨⟨p1, p2⟩, hx⟩ : ∃ b, L[k]? = some b := ⟨_, List.getElem?_eq_getElem hkl⟩
   obtain ⟨_, ad, rfl, _⟩ := hrd.ptr (by omega)
   have e0 := fun (w' : World) hw' => rd_fldz (hrd.below (w' := w') hw') hx _ rfl 0 (iv p1) rfl
   have e1 := fun (w' : World) hw' => rd_fldz (hrd.below (w' := w') hw') hx _ rfl 1 (iv p2) rfl
   have ht : L.take (k + 1) = L.take k ++ [(p1, p2)] := by rw [List.take_add_one, hx]; rfl
   have hlen : (L.take k).length = k := by rw [List.length_take]; omega
   generalize L.take k = D at *
   cases D with
   | nil =>
    repeat'
     conv => whnf
     first
      | refine zA ?_ | refine zB ?_ | refine zC ?_ | refine zD ?_ | refine zE ?_ | refine zF ?_ | refine zG ?_ | refine zH ?_ | refine zJ ?_ | refine zI ?_ | refine splT ?_ | refine splF ?_ | refine splNot ?_
      | ((first | refine splIn ?_ ?_ | refine splD ?_ ?_ | refine splE ?_ ?_ | refine splNE ?_ ?_) <;> intro hc <;> first | (exfalso; omega) | (exfalso; dsimp only at hc; omega) | skip)
      | refine Exists.intro (α := List Value) [iv p1] ⟨⟨rfl, fun w' hw' => e0 w' hw'⟩, ?_⟩
      | refine Exists.intro (α := List Value) [iv p2] ⟨⟨rfl, fun w' hw' => e1 w' hw'⟩, ?_⟩
    all_goals first | (exfalso; omega) | exact ⟨k + 1, by omega, by omega, Ent.ren (rho [(0, 3), (1, 4)]) rfl (by rw [ht]; rfl) ⟨rfl, by rw [ht]; rfl, rfl, trivial⟩ (by rw [ht]; exact ⟨rfl, trivial⟩) fun _ h => h⟩
   | cons a D =>
    simp only [List.length_cons] at hlen
    repeat'
     conv => whnf
     first
      | refine zA ?_ | refine zB ?_ | refine zC ?_ | refine zD ?_ | refine zE ?_ | refine zF ?_ | refine zG ?_ | refine zH ?_ | refine zJ ?_ | refine zI ?_ | refine splT ?_ | refine splF ?_ | refine splNot ?_
      | ((first | refine splIn ?_ ?_ | refine splD ?_ ?_ | refine splE ?_ ?_ | refine splNE ?_ ?_) <;> intro hc <;> first | (exfalso; omega) | (exfalso; dsimp only at hc; omega) | skip)
      | refine Exists.intro (α := List Value) [iv p1] ⟨⟨rfl, fun w' hw' => e0 w' hw'⟩, ?_⟩
      | refine Exists.intro (α := List Value) [iv p2] ⟨⟨rfl, fun w' hw' => e1 w' hw'⟩, ?_⟩
    all_goals first | (exfalso; omega) | exact ⟨k + 1, by omega, by omega, Ent.ren (rho [(0, 3), (1, 4)]) rfl (by rw [ht]; rfl) ⟨rfl, by rw [ht]; simp [oSV]; rfl, rfl, trivial⟩ (by rw [ht]; exact ⟨by simp [oM]; rfl, trivial⟩) fun _ h => h⟩
 · obtain rfl : k = L.length := by omega
   rw [List.take_length]
   cases L with
   | nil =>
    repeat'
     conv => whnf
     first
      | refine zA ?_ | refine zB ?_ | refine zC ?_ | refine zD ?_ | refine zE ?_ | refine zF ?_ | refine zG ?_ | refine zH ?_ | refine zJ ?_ | refine zI ?_ | refine splT ?_ | refine splF ?_ | refine splNot ?_
      | ((first | refine splIn ?_ ?_ | refine splD ?_ ?_ | refine splE ?_ ?_ | refine splNE ?_ ?_) <;> intro hc <;> first | (exfalso; omega) | (exfalso; dsimp only at hc; omega) | skip)
    all_goals first | (exfalso; omega) | exact ⟨fun w' h => h, fun β w' hB hB2 hblk => ⟨fun _ => ⟨rfl, hB2⟩, fun h => absurd rfl h⟩⟩
   | cons a D =>
    repeat'
     conv => whnf
     first
      | refine zA ?_ | refine zB ?_ | refine zC ?_ | refine zD ?_ | refine zE ?_ | refine zF ?_ | refine zG ?_ | refine zH ?_ | refine zJ ?_ | refine zI ?_ | refine splT ?_ | refine splF ?_ | refine splNot ?_
      | ((first | refine splIn ?_ ?_ | refine splD ?_ ?_ | refine splE ?_ ?_ | refine splNE ?_ ?_) <;> intro hc <;> first | (exfalso; omega) | (exfalso; dsimp only at hc; omega) | skip)
    all_goals first | (exfalso; omega) | exact ⟨fun w' h => h, fun β w' hB hB2 hblk => ⟨(fun h => by cases h), fun _ => ⟨β 0, β 1, rfl, (hblk 0 _ rfl rfl).1, hB2, (hblk 0 _ rfl rfl).2⟩⟩⟩
end Go.Proofs.Ythfabodamhdhaaa
namespace Go.Proofs.Ythfabodamhdhaaa
open Go Tx Go.RowKit
set_option linter.unusedSimpArgs false
set_option linter.unusedVariables false
theorem rows_st {α : Type} {sz : Nat} {f : α → List Value} (hf : ∀ x, (f x).length = sz) {bs : List α} {w : World} {m b n ty c : Nat} {xs : List Value} (hn : n = bs.length) (hx : xs = bs.flatMap f) (hb : m ≤ b) (h : w.ownsRow 0 ty sz (.slice (some ⟨b, 0, none⟩) n c) n xs) :
 St m (Rd sz f (.slice (some ⟨b, 0, none⟩) n c) bs) w := fun w2 k => by
 obtain ⟨cur, hc⟩ := own_heap h
 exact Rd.of_owns (sz := sz) (f := f) hf hx hn (own_keep h (k.same b hb (Array.getElem?_eq_some_iff.1 hc).1))
theorem own_cap {w : World} {b n c sz ty : Nat} {xs : List Value} (h : w.ownsRow 0 ty sz (.slice (some ⟨b, 0, none⟩) n c) n xs) : n ≤ c := by
 rcases h.2 with ⟨h', _⟩ | ⟨g, cap, cur, q0, q1, q2, q3, _⟩
 · cases h'
 · simp only [Value.slice.injEq] at q0
   obtain ⟨_, _, rfl⟩ := q0
   exact q3
set_option maxHeartbeats 8000000 in
set_option maxRecDepth 100000 in
theorem Tour_ok (x : Tr) (w : World) (h : TrIn x w) (hB : TrB x) : Calls Try.prog 21 #[x.v] w fun e w' => ∃ y : Tr, e = .returned y.v ∧ Below w.heap.size w w' ∧ St w.heap.size (fun w2 => TrIn y w2 ∧ y.d = x.d) w' := by
 obtain ⟨days, shift, size, to, tc, T, lo, lc, L⟩ := x
 obtain ⟨hT, hTi, hL, hLi, -, -, -, htc⟩ := h
 obtain ⟨hBt, hBl, htl, hll⟩ := hB
 dsimp only at hT hTi hL hLi htc hBt hBl htl hll ⊢
 refine calls_famV env mixed Try.func21 has21 Try.ntmps21 [.agg #[iv days, iv shift, iv size, .slice to T.length tc, .slice lo L.length lc]] (by simp) ?_
 refine VC.cutD env mixed 3 3 (fun _ : (Option Addr × Nat) × List Tn => [(1, .ptr 0 0), (2, .ptr 1 0), (3, .ptr 2 0)]) (fun y => [(0, .cells [.v (iv days), .v (iv shift), .v (iv size), .v (.slice to T.length tc), .v (.slice lo L.length lc)] 25), (1, .cells [.v (iv 0), .v (iv 0), .v (iv 0), .v (.slice none 0 0), .v (.slice none 0 0)] 35), (2, .cells [.v (iv days), .v (iv shift), .v (iv size), .v (.slice y.1.1 T.length y.1.2), .v (.slice none 0 0)] 35)]) (fun y w2 => Below w.heap.size w w2 ∧ (St w.heap.size (Rd 9 Tn.cs (.slice y.1.1 T.length y.1.2) y.2) w2 ∧ ∀ t ∈ y.2, St w.heap.size (TnIn t) w2)) (fun y => y.2.map Tn.d = T.map Tn.d ∧ T.length ≤ y.1.2) (fun _ _ => ⟨rfl, rfl⟩) ?_ ?_
 · skip
   repeat'
    conv => whnf
    first
     | refine zA ?_ | refine zB ?_ | refine zC ?_ | refine zD ?_ | refine zE ?_ | refine zF ?_ | refine zG ?_ | refine zH ?_ | refine zJ ?_ | refine zI ?_ | refine splT ?_ | refine splF ?_ | refine splNot ?_
     | ((first | refine splIn ?_ ?_ | refine splD ?_ ?_ | refine splE ?_ ?_ | refine splNE ?_ ?_) <;> intro hc <;> first | (exfalso; omega) | (exfalso; dsimp only at hc; omega) | skip)
   all_goals first | (exfalso; omega) | skip
   refine loopD 5 (fun D : List Tn => [(1, .ptr 0 0), (2, .ptr 1 0), (3, .ptr 2 0), (4, .v (iv D.length))]) (fun D => (0, .cells [.v (iv days), .v (iv shift), .v (iv size), .v (.slice to T.length tc), .v (.slice lo L.length lc)] 25) :: (1, .cells [.v (iv 0), .v (iv 0), .v (iv 0), .v (.slice none 0 0), .v (.slice none 0 0)] 35) :: (2, .cells [.v (iv days), .v (iv shift), .v (iv size), oSV 3 4 D, .v (.slice none 0 0)] 35) :: oM 3 4 9 Tn.cs 57 D) (fun (D : List Tn) w' => Below w.heap.size w w' ∧ ∀ t ∈ D, St w.heap.size (TnIn t) w') (fun D => D.length ≤ T.length ∧ D.map Tn.d = (T.map Tn.d).take D.length) (fun D => T.length - D.length)
    (Dis.ent (x := []) ⟨Nat.zero_le _, rfl⟩ (Ent.weak rfl ⟨rfl, rfl, rfl, rfl, trivial⟩ ⟨rfl, rfl, rfl, trivial⟩ (fun w' h => ⟨h, fun p hp => by cases hp⟩))) (fun D _ => by cases D <;> exact ⟨rfl, rfl⟩) ?_
   intro D ⟨hk, hmap⟩
   rcases Nat.lt_or_ge D.length T.length with hkl | hkl
   · obtain ⟨⟨oo, oc, ro, rc, O, s1, s2, pay, lot, rent, R, cold, cut⟩, hx⟩ : ∃ b, T[D.length]? = some b := ⟨_, List.getElem?_eq_getElem hkl⟩
     obtain ⟨_, ad, rfl, _⟩ := hT.ptr (by omega)
     have e0 := fun (w' : World) hw' => rd_ati (hT.below (w' := w') hw') hx
     have hti := hTi _ (List.mem_of_getElem? hx)
     have hbt := hBt _ (List.mem_of_getElem? hx)
     obtain ⟨htO, htR, -, -⟩ := hti
     dsimp only at htO htR hbt
     have hO60 := fun w' (hb : Below w.heap.size w w') => ranges_ok O oo oc w' (htO.below hb) (by omega)
     have hR60 := fun w' (hb : Below w.heap.size w w') => ranges_ok R ro rc w' (htR.below hb) (by omega)
     have hm : (T.map Tn.d)[D.length]? = some ⟨O, s1, s2, pay, lot, rent, R, cold, cut⟩ := by rw [List.getElem?_map, hx]; rfl
     have hnew : ∀ t : Tn, t.d = ⟨O, s1, s2, pay, lot, rent, R, cold, cut⟩ → (D ++ [t]).map Tn.d = (T.map Tn.d).take (D ++ [t]).length := fun t ht => by
      rw [List.map_append, hmap, List.length_append, List.length_singleton, List.take_add_one, hm]
      show _ ++ [t.d] = _
      rw [ht]; rfl
     have hl2 : ∀ t : Tn, (D ++ [t]).length = D.length + 1 := fun t => by simp
     have hh : ∀ (t : Tn) w', (fun (D : List Tn) w' => Below w.heap.size w w' ∧ ∀ t ∈ D, St w.heap.size (TnIn t) w') D w' → t.d = ⟨O, s1, s2, pay, lot, rent, R, cold, cut⟩ → St w.heap.size (TnIn t) w' → (fun (D : List Tn) w' => Below w.heap.size w w' ∧ ∀ t ∈ D, St w.heap.size (TnIn t) w') (D ++ [t]) w' := fun t w' hw' _ ht => ⟨hw'.1, fun r hr => by
      rcases List.mem_append.1 hr with hr | hr
      · exact hw'.2 r hr
      · rw [List.mem_singleton] at hr; subst hr; exact ht⟩
     generalize hn : D.length = n at *
     by_cases hOn : O = []
     · subst hOn
       have hO1 := fun w' hb => (hO60 w' hb).mono fun e w2 h => h.1 rfl
       by_cases hRn : R = []
       · subst hRn
         have hR1 := fun w' hb => (hR60 w' hb).mono fun e w2 h => h.1 rfl
         clear hO60 hR60
         cases D with
         | nil =>
          repeat'
           conv => whnf
           first
            | refine zA ?_ | refine zB ?_ | refine zC ?_ | refine zD ?_ | refine zE ?_ | refine zF ?_ | refine zG ?_ | refine zH ?_ | refine zJ ?_ | refine zI ?_ | refine splT ?_ | refine splF ?_ | refine splNot ?_
            | ((first | refine splIn ?_ ?_ | refine splD ?_ ?_ | refine splE ?_ ?_ | refine splNE ?_ ?_) <;> intro hc <;> first | (exfalso; omega) | (exfalso; dsimp only at hc; omega) | skip)
            | refine Exists.intro (α := List Value) [.slice oo ([] : List (Int × Int)).length oc, iv s1, iv s2, iv pay, iv lot, iv rent, .slice ro ([] : List (Int × Int)).length rc, iv cold, iv cut] ⟨⟨rfl, fun w' hw' => e0 w' hw'.1⟩, ?_⟩
            | ((with_reducible show CallEv _ _ 60 [.v (.slice oo ([] : List (Int × Int)).length oc)] _ _ _ _); refine callE (k := 60) (fun β w' hbw => hO1 w' hbw.1) ?_)
            | ((with_reducible show CallEv _ _ 60 [.v (.slice ro ([] : List (Int × Int)).length rc)] _ _ _ _); refine callE (k := 60) (fun β w' hbw => hR1 w' hbw.1) ?_)
          all_goals first | (exfalso; omega) | skip
          exact Dis.mk5 (w0 := w) (rho [(3, 7), (4, 8)]) [] (by exact trivial) (fun i hi => by cases hi) (fun w' h => h.1) (fun β w1 hok hw1 hge hne hij => ⟨[] ++ [(⟨none, 0, none, 0, ⟨[], s1, s2, pay, lot, rent, [], cold, cut⟩⟩ : Tn)], ⟨⟨by (show 1 ≤ T.length); omega, hnew (⟨none, 0, none, 0, ⟨[], s1, s2, pay, lot, rent, [], cold, cut⟩⟩ : Tn) rfl⟩, by (have hn0 : n = 0 := hn.symm); (show T.length - 1 < T.length - n); omega⟩, ⟨⟨_, rfl, rfl⟩, ⟨_, rfl, rfl⟩, ⟨_, rfl, rfl⟩, ⟨_, rfl, by rw [← hn]; rfl⟩, trivial⟩,
           ⟨⟨rfl, _, rfl, fun _ => rfl, fun w2 y hy => hy⟩, ⟨rfl, _, rfl, fun _ => rfl, fun w2 y hy => hy⟩, ⟨rfl, _, rfl, fun _ => rfl, fun w2 y hy => hy⟩, ⟨rfl, _, rfl, fun _ => rfl, fun w2 y hy => hy⟩, trivial⟩, rfl, fun w2 hw2 hLo => hh (⟨none, 0, none, 0, ⟨[], s1, s2, pay, lot, rent, [], cold, cut⟩⟩ : Tn) w2 hw2 rfl (fun w3 k3 => ⟨.inl ⟨rfl, rfl⟩, .inl ⟨rfl, rfl⟩, by (show ([] : List (Int × Int)).length ≤ 1000000); omega, by (show ([] : List (Int × Int)).length ≤ 1000000); omega⟩)⟩)
         | cons a D =>
          simp only [List.length_cons] at hn
          have hl3 : ∀ t : Tn, (a :: D ++ [t]).length = D.length + 1 + 1 := fun t => by rw [hl2]; omega
          have hoS : ∀ t : Tn, oSV 3 4 (a :: D ++ [t]) = .os 3 4 (D.length + 1 + 1) := fun t => by simp [oSV]
          repeat'
           conv => whnf
           first
            | refine zA ?_ | refine zB ?_ | refine zC ?_ | refine zD ?_ | refine zE ?_ | refine zF ?_ | refine zG ?_ | refine zH ?_ | refine zJ ?_ | refine zI ?_ | refine splT ?_ | refine splF ?_ | refine splNot ?_
            | ((first | refine splIn ?_ ?_ | refine splD ?_ ?_ | refine splE ?_ ?_ | refine splNE ?_ ?_) <;> intro hc <;> first | (exfalso; omega) | (exfalso; dsimp only at hc; omega) | skip)
            | refine Exists.intro (α := List Value) [.slice oo ([] : List (Int × Int)).length oc, iv s1, iv s2, iv pay, iv lot, iv rent, .slice ro ([] : List (Int × Int)).length rc, iv cold, iv cut] ⟨⟨rfl, fun w' hw' => e0 w' hw'.1⟩, ?_⟩
            | ((with_reducible show CallEv _ _ 60 [.v (.slice oo ([] : List (Int × Int)).length oc)] _ _ _ _); refine callE (k := 60) (fun β w' hbw => hO1 w' hbw.1) ?_)
            | ((with_reducible show CallEv _ _ 60 [.v (.slice ro ([] : List (Int × Int)).length rc)] _ _ _ _); refine callE (k := 60) (fun β w' hbw => hR1 w' hbw.1) ?_)
          all_goals first | (exfalso; omega) | skip
          exact Dis.mk5 (w0 := w) (rho [(3, 7), (4, 8)]) [] (by exact trivial) (fun i hi => by cases hi) (fun w' h => h.1) (fun β w1 hok hw1 hge hne hij => ⟨a :: D ++ [(⟨none, 0, none, 0, ⟨[], s1, s2, pay, lot, rent, [], cold, cut⟩⟩ : Tn)], ⟨⟨by have := hl3 (⟨none, 0, none, 0, ⟨[], s1, s2, pay, lot, rent, [], cold, cut⟩⟩ : Tn); omega, hnew (⟨none, 0, none, 0, ⟨[], s1, s2, pay, lot, rent, [], cold, cut⟩⟩ : Tn) rfl⟩, by have := hl3 (⟨none, 0, none, 0, ⟨[], s1, s2, pay, lot, rent, [], cold, cut⟩⟩ : Tn); omega⟩, ⟨⟨_, rfl, rfl⟩, ⟨_, rfl, rfl⟩, ⟨_, rfl, rfl⟩, ⟨_, rfl, by rw [hl3 (⟨none, 0, none, 0, ⟨[], s1, s2, pay, lot, rent, [], cold, cut⟩⟩ : Tn), ← hn]; rfl⟩, trivial⟩,
           ⟨⟨rfl, _, rfl, fun _ => rfl, fun w2 y hy => hy⟩, ⟨rfl, _, rfl, fun _ => rfl, fun w2 y hy => hy⟩, ⟨rfl, _, rfl, fun _ => rfl, fun w2 y hy => by rw [hoS (⟨none, 0, none, 0, ⟨[], s1, s2, pay, lot, rent, [], cold, cut⟩⟩ : Tn)]; exact hy⟩, by simp [oM]; exact ⟨⟨rfl, _, rfl, fun _ => rfl, fun w2 y hy => by simp [Blk.ok] at hy ⊢; exact hy⟩, trivial⟩⟩, rfl, fun w2 hw2 hLo => hh (⟨none, 0, none, 0, ⟨[], s1, s2, pay, lot, rent, [], cold, cut⟩⟩ : Tn) w2 hw2 rfl (fun w3 k3 => ⟨.inl ⟨rfl, rfl⟩, .inl ⟨rfl, rfl⟩, by (show ([] : List (Int × Int)).length ≤ 1000000); omega, by (show ([] : List (Int × Int)).length ≤ 1000000); omega⟩)⟩)
       · have hR2 := fun w' hb => (hR60 w' hb).mono fun e w2 h => h.2 hRn
         clear hO60 hR60
         cases D with
         | nil =>
          repeat'
           conv => whnf
           first
            | refine zA ?_ | refine zB ?_ | refine zC ?_ | refine zD ?_ | refine zE ?_ | refine zF ?_ | refine zG ?_ | refine zH ?_ | refine zJ ?_ | refine zI ?_ | refine splT ?_ | refine splF ?_ | refine splNot ?_
            | ((first | refine splIn ?_ ?_ | refine splD ?_ ?_ | refine splE ?_ ?_ | refine splNE ?_ ?_) <;> intro hc <;> first | (exfalso; omega) | (exfalso; dsimp only at hc; omega) | skip)
            | refine Exists.intro (α := List Value) [.slice oo ([] : List (Int × Int)).length oc, iv s1, iv s2, iv pay, iv lot, iv rent, .slice ro R.length rc, iv cold, iv cut] ⟨⟨rfl, fun w' hw' => e0 w' hw'.1⟩, ?_⟩
            | ((with_reducible show CallEv _ _ 60 [.v (.slice oo ([] : List (Int × Int)).length oc)] _ _ _ _); refine callE (k := 60) (fun β w' hbw => hO1 w' hbw.1) ?_)
            | ((with_reducible show CallEv _ _ 60 [.v (.slice ro R.length rc)] _ _ _ _); refine callO 6 [] (.os 6 7 R.length) R.length 2 (R.flatMap prF) 55 rfl (fun β w' _ hbw => (hR2 w' hbw.1).mono fun _ _ ⟨b, c, h1, h2, h3, h4⟩ => ⟨b, c, h1, h2, h3, h4⟩) ?_)
            | refine appG env 8 1 1 [.v (.slice none 0 0), .v (iv s1), .v (iv s2), .v (iv pay), .v (iv lot), .v (iv rent), .os 6 7 R.length, .v (iv cold), .v (iv cut)] 57 0 [] [] rfl rfl rfl rfl rfl (by decide) rfl rfl rfl (fun _ => Nat.le_refl _) (by omega) (by decide) rfl (.inl ⟨rfl, rfl, rfl, rfl⟩) rfl ?_
          all_goals first | (exfalso; omega) | skip
          exact Dis.mk5 (w0 := w) (rho [(3, 9), (4, 10)]) [6] (by exact trivial) (fun i hi => by rw [List.mem_singleton] at hi; subst hi; exact ⟨_, rfl, rfl⟩) (fun w' h => h.1) (fun β w1 hok hw1 hge hne hij => ⟨[] ++ [(⟨none, 0, some ⟨β 6, 0, none⟩, β 7, ⟨[], s1, s2, pay, lot, rent, R, cold, cut⟩⟩ : Tn)], ⟨⟨by (show 1 ≤ T.length); omega, hnew (⟨none, 0, some ⟨β 6, 0, none⟩, β 7, ⟨[], s1, s2, pay, lot, rent, R, cold, cut⟩⟩ : Tn) rfl⟩, by (have hn0 : n = 0 := hn.symm); (show T.length - 1 < T.length - n); omega⟩, ⟨⟨_, rfl, rfl⟩, ⟨_, rfl, rfl⟩, ⟨_, rfl, rfl⟩, ⟨_, rfl, by rw [← hn]; rfl⟩, trivial⟩,
           ⟨⟨rfl, _, rfl, fun _ => rfl, fun w2 y hy => hy⟩, ⟨rfl, _, rfl, fun _ => rfl, fun w2 y hy => hy⟩, ⟨rfl, _, rfl, fun _ => rfl, fun w2 y hy => hy⟩, ⟨rfl, _, rfl, fun _ => rfl, fun w2 y hy => hy⟩, trivial⟩, rfl, fun w2 hw2 hLo => hh (⟨none, 0, some ⟨β 6, 0, none⟩, β 7, ⟨[], s1, s2, pay, lot, rent, R, cold, cut⟩⟩ : Tn) w2 hw2 rfl (fun w3 k3 => ⟨.inl ⟨rfl, rfl⟩, rows_st (f := prF) (fun _ => rfl) rfl rfl (hge 6 _ rfl rfl) (hLo 6 (by simp) _ rfl) w3 k3, by (show ([] : List (Int × Int)).length ≤ 1000000); omega, by (show R.length ≤ 1000000); omega⟩)⟩)
         | cons a D =>
          simp only [List.length_cons] at hn
          have hl3 : ∀ t : Tn, (a :: D ++ [t]).length = D.length + 1 + 1 := fun t => by rw [hl2]; omega
          have hoS : ∀ t : Tn, oSV 3 4 (a :: D ++ [t]) = .os 3 4 (D.length + 1 + 1) := fun t => by simp [oSV]
          repeat'
           conv => whnf
           first
            | refine zA ?_ | refine zB ?_ | refine zC ?_ | refine zD ?_ | refine zE ?_ | refine zF ?_ | refine zG ?_ | refine zH ?_ | refine zJ ?_ | refine zI ?_ | refine splT ?_ | refine splF ?_ | refine splNot ?_
            | ((first | refine splIn ?_ ?_ | refine splD ?_ ?_ | refine splE ?_ ?_ | refine splNE ?_ ?_) <;> intro hc <;> first | (exfalso; omega) | (exfalso; dsimp only at hc; omega) | skip)
            | refine Exists.intro (α := List Value) [.slice oo ([] : List (Int × Int)).length oc, iv s1, iv s2, iv pay, iv lot, iv rent, .slice ro R.length rc, iv cold, iv cut] ⟨⟨rfl, fun w' hw' => e0 w' hw'.1⟩, ?_⟩
            | ((with_reducible show CallEv _ _ 60 [.v (.slice oo ([] : List (Int × Int)).length oc)] _ _ _ _); refine callE (k := 60) (fun β w' hbw => hO1 w' hbw.1) ?_)
            | ((with_reducible show CallEv _ _ 60 [.v (.slice ro R.length rc)] _ _ _ _); refine callO 6 [] (.os 6 7 R.length) R.length 2 (R.flatMap prF) 55 rfl (fun β w' _ hbw => (hR2 w' hbw.1).mono fun _ _ ⟨b, c, h1, h2, h3, h4⟩ => ⟨b, c, h1, h2, h3, h4⟩) ?_)
            | refine appG env 8 1 1 [.v (.slice none 0 0), .v (iv s1), .v (iv s2), .v (iv pay), .v (iv lot), .v (iv rent), .os 6 7 R.length, .v (iv cold), .v (iv cut)] 57 (D.length + 1) ((a :: D).flatMap Tn.cs) [3] rfl rfl rfl rfl rfl (by decide) rfl rfl rfl (fun h => by cases h) (by omega) (by show (D.length + 1 + 1) * 104 ≤ 140737488355328; omega) rfl (.inr ⟨3, 4, rfl, rfl, rfl, (by show 3 < 9; decide)⟩) rfl ?_
          all_goals first | (exfalso; omega) | skip
          exact Dis.mk5 (w0 := w) (rho [(3, 9), (4, 10)]) [6] (by exact trivial) (fun i hi => by rw [List.mem_singleton] at hi; subst hi; exact ⟨_, rfl, rfl⟩) (fun w' h => h.1) (fun β w1 hok hw1 hge hne hij => ⟨a :: D ++ [(⟨none, 0, some ⟨β 6, 0, none⟩, β 7, ⟨[], s1, s2, pay, lot, rent, R, cold, cut⟩⟩ : Tn)], ⟨⟨by have := hl3 (⟨none, 0, some ⟨β 6, 0, none⟩, β 7, ⟨[], s1, s2, pay, lot, rent, R, cold, cut⟩⟩ : Tn); omega, hnew (⟨none, 0, some ⟨β 6, 0, none⟩, β 7, ⟨[], s1, s2, pay, lot, rent, R, cold, cut⟩⟩ : Tn) rfl⟩, by have := hl3 (⟨none, 0, some ⟨β 6, 0, none⟩, β 7, ⟨[], s1, s2, pay, lot, rent, R, cold, cut⟩⟩ : Tn); omega⟩, ⟨⟨_, rfl, rfl⟩, ⟨_, rfl, rfl⟩, ⟨_, rfl, rfl⟩, ⟨_, rfl, by rw [hl3 (⟨none, 0, some ⟨β 6, 0, none⟩, β 7, ⟨[], s1, s2, pay, lot, rent, R, cold, cut⟩⟩ : Tn), ← hn]; rfl⟩, trivial⟩,
           ⟨⟨rfl, _, rfl, fun _ => rfl, fun w2 y hy => hy⟩, ⟨rfl, _, rfl, fun _ => rfl, fun w2 y hy => hy⟩, ⟨rfl, _, rfl, fun _ => rfl, fun w2 y hy => by rw [hoS (⟨none, 0, some ⟨β 6, 0, none⟩, β 7, ⟨[], s1, s2, pay, lot, rent, R, cold, cut⟩⟩ : Tn)]; exact hy⟩, by simp [oM]; exact ⟨⟨rfl, _, rfl, fun _ => rfl, fun w2 y hy => by simp [Blk.ok] at hy ⊢; exact hy⟩, trivial⟩⟩, rfl, fun w2 hw2 hLo => hh (⟨none, 0, some ⟨β 6, 0, none⟩, β 7, ⟨[], s1, s2, pay, lot, rent, R, cold, cut⟩⟩ : Tn) w2 hw2 rfl (fun w3 k3 => ⟨.inl ⟨rfl, rfl⟩, rows_st (f := prF) (fun _ => rfl) rfl rfl (hge 6 _ rfl rfl) (hLo 6 (by simp) _ rfl) w3 k3, by (show ([] : List (Int × Int)).length ≤ 1000000); omega, by (show R.length ≤ 1000000); omega⟩)⟩)
     · have hO2 := fun w' hb => (hO60 w' hb).mono fun e w2 h => h.2 hOn
       by_cases hRn : R = []
       · subst hRn
         have hR1 := fun w' hb => (hR60 w' hb).mono fun e w2 h => h.1 rfl
         clear hO60 hR60
         cases D with
         | nil =>
          repeat'
           conv => whnf
           first
            | refine zA ?_ | refine zB ?_ | refine zC ?_ | refine zD ?_ | refine zE ?_ | refine zF ?_ | refine zG ?_ | refine zH ?_ | refine zJ ?_ | refine zI ?_ | refine splT ?_ | refine splF ?_ | refine splNot ?_
            | ((first | refine splIn ?_ ?_ | refine splD ?_ ?_ | refine splE ?_ ?_ | refine splNE ?_ ?_) <;> intro hc <;> first | (exfalso; omega) | (exfalso; dsimp only at hc; omega) | skip)
            | refine Exists.intro (α := List Value) [.slice oo O.length oc, iv s1, iv s2, iv pay, iv lot, iv rent, .slice ro ([] : List (Int × Int)).length rc, iv cold, iv cut] ⟨⟨rfl, fun w' hw' => e0 w' hw'.1⟩, ?_⟩
            | ((with_reducible show CallEv _ _ 60 [.v (.slice oo O.length oc)] _ _ _ _); refine callO 6 [] (.os 6 7 O.length) O.length 2 (O.flatMap prF) 55 rfl (fun β w' _ hbw => (hO2 w' hbw.1).mono fun _ _ ⟨b, c, h1, h2, h3, h4⟩ => ⟨b, c, h1, h2, h3, h4⟩) ?_)
            | ((with_reducible show CallEv _ _ 60 [.v (.slice ro ([] : List (Int × Int)).length rc)] _ _ _ _); refine callE (k := 60) (fun β w' hbw => hR1 w' hbw.1) ?_)
            | refine appG env 8 1 1 [.os 6 7 O.length, .v (iv s1), .v (iv s2), .v (iv pay), .v (iv lot), .v (iv rent), .v (.slice none 0 0), .v (iv cold), .v (iv cut)] 57 0 [] [] rfl rfl rfl rfl rfl (by decide) rfl rfl rfl (fun _ => Nat.le_refl _) (by omega) (by decide) rfl (.inl ⟨rfl, rfl, rfl, rfl⟩) rfl ?_
          all_goals first | (exfalso; omega) | skip
          exact Dis.mk5 (w0 := w) (rho [(3, 9), (4, 10)]) [6] (by exact trivial) (fun i hi => by rw [List.mem_singleton] at hi; subst hi; exact ⟨_, rfl, rfl⟩) (fun w' h => h.1) (fun β w1 hok hw1 hge hne hij => ⟨[] ++ [(⟨some ⟨β 6, 0, none⟩, β 7, none, 0, ⟨O, s1, s2, pay, lot, rent, [], cold, cut⟩⟩ : Tn)], ⟨⟨by (show 1 ≤ T.length); omega, hnew (⟨some ⟨β 6, 0, none⟩, β 7, none, 0, ⟨O, s1, s2, pay, lot, rent, [], cold, cut⟩⟩ : Tn) rfl⟩, by (have hn0 : n = 0 := hn.symm); (show T.length - 1 < T.length - n); omega⟩, ⟨⟨_, rfl, rfl⟩, ⟨_, rfl, rfl⟩, ⟨_, rfl, rfl⟩, ⟨_, rfl, by rw [← hn]; rfl⟩, trivial⟩,
           ⟨⟨rfl, _, rfl, fun _ => rfl, fun w2 y hy => hy⟩, ⟨rfl, _, rfl, fun _ => rfl, fun w2 y hy => hy⟩, ⟨rfl, _, rfl, fun _ => rfl, fun w2 y hy => hy⟩, ⟨rfl, _, rfl, fun _ => rfl, fun w2 y hy => hy⟩, trivial⟩, rfl, fun w2 hw2 hLo => hh (⟨some ⟨β 6, 0, none⟩, β 7, none, 0, ⟨O, s1, s2, pay, lot, rent, [], cold, cut⟩⟩ : Tn) w2 hw2 rfl (fun w3 k3 => ⟨rows_st (f := prF) (fun _ => rfl) rfl rfl (hge 6 _ rfl rfl) (hLo 6 (by simp) _ rfl) w3 k3, .inl ⟨rfl, rfl⟩, by (show O.length ≤ 1000000); omega, by (show ([] : List (Int × Int)).length ≤ 1000000); omega⟩)⟩)
         | cons a D =>
          simp only [List.length_cons] at hn
          have hl3 : ∀ t : Tn, (a :: D ++ [t]).length = D.length + 1 + 1 := fun t => by rw [hl2]; omega
          have hoS : ∀ t : Tn, oSV 3 4 (a :: D ++ [t]) = .os 3 4 (D.length + 1 + 1) := fun t => by simp [oSV]
          repeat'
           conv => whnf
           first
            | refine zA ?_ | refine zB ?_ | refine zC ?_ | refine zD ?_ | refine zE ?_ | refine zF ?_ | refine zG ?_ | refine zH ?_ | refine zJ ?_ | refine zI ?_ | refine splT ?_ | refine splF ?_ | refine splNot ?_
            | ((first | refine splIn ?_ ?_ | refine splD ?_ ?_ | refine splE ?_ ?_ | refine splNE ?_ ?_) <;> intro hc <;> first | (exfalso; omega) | (exfalso; dsimp only at hc; omega) | skip)
            | refine Exists.intro (α := List Value) [.slice oo O.length oc, iv s1, iv s2, iv pay, iv lot, iv rent, .slice ro ([] : List (Int × Int)).length rc, iv cold, iv cut] ⟨⟨rfl, fun w' hw' => e0 w' hw'.1⟩, ?_⟩
            | ((with_reducible show CallEv _ _ 60 [.v (.slice oo O.length oc)] _ _ _ _); refine callO 6 [] (.os 6 7 O.length) O.length 2 (O.flatMap prF) 55 rfl (fun β w' _ hbw => (hO2 w' hbw.1).mono fun _ _ ⟨b, c, h1, h2, h3, h4⟩ => ⟨b, c, h1, h2, h3, h4⟩) ?_)
            | ((with_reducible show CallEv _ _ 60 [.v (.slice ro ([] : List (Int × Int)).length rc)] _ _ _ _); refine callE (k := 60) (fun β w' hbw => hR1 w' hbw.1) ?_)
            | refine appG env 8 1 1 [.os 6 7 O.length, .v (iv s1), .v (iv s2), .v (iv pay), .v (iv lot), .v (iv rent), .v (.slice none 0 0), .v (iv cold), .v (iv cut)] 57 (D.length + 1) ((a :: D).flatMap Tn.cs) [3] rfl rfl rfl rfl rfl (by decide) rfl rfl rfl (fun h => by cases h) (by omega) (by show (D.length + 1 + 1) * 104 ≤ 140737488355328; omega) rfl (.inr ⟨3, 4, rfl, rfl, rfl, (by show 3 < 9; decide)⟩) rfl ?_
          all_goals first | (exfalso; omega) | skip
          exact Dis.mk5 (w0 := w) (rho [(3, 9), (4, 10)]) [6] (by exact trivial) (fun i hi => by rw [List.mem_singleton] at hi; subst hi; exact ⟨_, rfl, rfl⟩) (fun w' h => h.1) (fun β w1 hok hw1 hge hne hij => ⟨a :: D ++ [(⟨some ⟨β 6, 0, none⟩, β 7, none, 0, ⟨O, s1, s2, pay, lot, rent, [], cold, cut⟩⟩ : Tn)], ⟨⟨by have := hl3 (⟨some ⟨β 6, 0, none⟩, β 7, none, 0, ⟨O, s1, s2, pay, lot, rent, [], cold, cut⟩⟩ : Tn); omega, hnew (⟨some ⟨β 6, 0, none⟩, β 7, none, 0, ⟨O, s1, s2, pay, lot, rent, [], cold, cut⟩⟩ : Tn) rfl⟩, by have := hl3 (⟨some ⟨β 6, 0, none⟩, β 7, none, 0, ⟨O, s1, s2, pay, lot, rent, [], cold, cut⟩⟩ : Tn); omega⟩, ⟨⟨_, rfl, rfl⟩, ⟨_, rfl, rfl⟩, ⟨_, rfl, rfl⟩, ⟨_, rfl, by rw [hl3 (⟨some ⟨β 6, 0, none⟩, β 7, none, 0, ⟨O, s1, s2, pay, lot, rent, [], cold, cut⟩⟩ : Tn), ← hn]; rfl⟩, trivial⟩,
           ⟨⟨rfl, _, rfl, fun _ => rfl, fun w2 y hy => hy⟩, ⟨rfl, _, rfl, fun _ => rfl, fun w2 y hy => hy⟩, ⟨rfl, _, rfl, fun _ => rfl, fun w2 y hy => by rw [hoS (⟨some ⟨β 6, 0, none⟩, β 7, none, 0, ⟨O, s1, s2, pay, lot, rent, [], cold, cut⟩⟩ : Tn)]; exact hy⟩, by simp [oM]; exact ⟨⟨rfl, _, rfl, fun _ => rfl, fun w2 y hy => by simp [Blk.ok] at hy ⊢; exact hy⟩, trivial⟩⟩, rfl, fun w2 hw2 hLo => hh (⟨some ⟨β 6, 0, none⟩, β 7, none, 0, ⟨O, s1, s2, pay, lot, rent, [], cold, cut⟩⟩ : Tn) w2 hw2 rfl (fun w3 k3 => ⟨rows_st (f := prF) (fun _ => rfl) rfl rfl (hge 6 _ rfl rfl) (hLo 6 (by simp) _ rfl) w3 k3, .inl ⟨rfl, rfl⟩, by (show O.length ≤ 1000000); omega, by (show ([] : List (Int × Int)).length ≤ 1000000); omega⟩)⟩)
       · have hR2 := fun w' hb => (hR60 w' hb).mono fun e w2 h => h.2 hRn
         clear hO60 hR60
         cases D with
         | nil =>
          repeat'
           conv => whnf
           first
            | refine zA ?_ | refine zB ?_ | refine zC ?_ | refine zD ?_ | refine zE ?_ | refine zF ?_ | refine zG ?_ | refine zH ?_ | refine zJ ?_ | refine zI ?_ | refine splT ?_ | refine splF ?_ | refine splNot ?_
            | ((first | refine splIn ?_ ?_ | refine splD ?_ ?_ | refine splE ?_ ?_ | refine splNE ?_ ?_) <;> intro hc <;> first | (exfalso; omega) | (exfalso; dsimp only at hc; omega) | skip)
            | refine Exists.intro (α := List Value) [.slice oo O.length oc, iv s1, iv s2, iv pay, iv lot, iv rent, .slice ro R.length rc, iv cold, iv cut] ⟨⟨rfl, fun w' hw' => e0 w' hw'.1⟩, ?_⟩
            | ((with_reducible show CallEv _ _ 60 [.v (.slice oo O.length oc)] _ _ _ _); refine callO 6 [] (.os 6 7 O.length) O.length 2 (O.flatMap prF) 55 rfl (fun β w' _ hbw => (hO2 w' hbw.1).mono fun _ _ ⟨b, c, h1, h2, h3, h4⟩ => ⟨b, c, h1, h2, h3, h4⟩) ?_)
            | ((with_reducible show CallEv _ _ 60 [.v (.slice ro R.length rc)] _ _ _ _); refine callO 8 [] (.os 8 9 R.length) R.length 2 (R.flatMap prF) 55 rfl (fun β w' _ hbw => (hR2 w' hbw.1).mono fun _ _ ⟨b, c, h1, h2, h3, h4⟩ => ⟨b, c, h1, h2, h3, h4⟩) ?_)
            | refine appG env 10 1 1 [.os 6 7 O.length, .v (iv s1), .v (iv s2), .v (iv pay), .v (iv lot), .v (iv rent), .os 8 9 R.length, .v (iv cold), .v (iv cut)] 57 0 [] [] rfl rfl rfl rfl rfl (by decide) rfl rfl rfl (fun _ => Nat.le_refl _) (by omega) (by decide) rfl (.inl ⟨rfl, rfl, rfl, rfl⟩) rfl ?_
          all_goals first | (exfalso; omega) | skip
          exact Dis.mk5 (w0 := w) (rho [(3, 11), (4, 12)]) [6, 8] (by exact trivial) (fun i hi => by simp only [List.mem_cons, List.not_mem_nil, or_false] at hi; rcases hi with rfl | rfl <;> exact ⟨_, rfl, rfl⟩) (fun w' h => h.1) (fun β w1 hok hw1 hge hne hij => ⟨[] ++ [(⟨some ⟨β 6, 0, none⟩, β 7, some ⟨β 8, 0, none⟩, β 9, ⟨O, s1, s2, pay, lot, rent, R, cold, cut⟩⟩ : Tn)], ⟨⟨by (show 1 ≤ T.length); omega, hnew (⟨some ⟨β 6, 0, none⟩, β 7, some ⟨β 8, 0, none⟩, β 9, ⟨O, s1, s2, pay, lot, rent, R, cold, cut⟩⟩ : Tn) rfl⟩, by (have hn0 : n = 0 := hn.symm); (show T.length - 1 < T.length - n); omega⟩, ⟨⟨_, rfl, rfl⟩, ⟨_, rfl, rfl⟩, ⟨_, rfl, rfl⟩, ⟨_, rfl, by rw [← hn]; rfl⟩, trivial⟩,
           ⟨⟨rfl, _, rfl, fun _ => rfl, fun w2 y hy => hy⟩, ⟨rfl, _, rfl, fun _ => rfl, fun w2 y hy => hy⟩, ⟨rfl, _, rfl, fun _ => rfl, fun w2 y hy => hy⟩, ⟨rfl, _, rfl, fun _ => rfl, fun w2 y hy => hy⟩, trivial⟩, rfl, fun w2 hw2 hLo => hh (⟨some ⟨β 6, 0, none⟩, β 7, some ⟨β 8, 0, none⟩, β 9, ⟨O, s1, s2, pay, lot, rent, R, cold, cut⟩⟩ : Tn) w2 hw2 rfl (fun w3 k3 => ⟨rows_st (f := prF) (fun _ => rfl) rfl rfl (hge 6 _ rfl rfl) (hLo 6 (by simp) _ rfl) w3 k3, rows_st (f := prF) (fun _ => rfl) rfl rfl (hge 8 _ rfl rfl) (hLo 8 (by simp) _ rfl) w3 k3, by (show O.length ≤ 1000000); omega, by (show R.length ≤ 1000000); omega⟩)⟩)
         | cons a D =>
          simp only [List.length_cons] at hn
          have hl3 : ∀ t : Tn, (a :: D ++ [t]).length = D.length + 1 + 1 := fun t => by rw [hl2]; omega
          have hoS : ∀ t : Tn, oSV 3 4 (a :: D ++ [t]) = .os 3 4 (D.length + 1 + 1) := fun t => by simp [oSV]
          repeat'
           conv => whnf
           first
            | refine zA ?_ | refine zB ?_ | refine zC ?_ | refine zD ?_ | refine zE ?_ | refine zF ?_ | refine zG ?_ | refine zH ?_ | refine zJ ?_ | refine zI ?_ | refine splT ?_ | refine splF ?_ | refine splNot ?_
            | ((first | refine splIn ?_ ?_ | refine splD ?_ ?_ | refine splE ?_ ?_ | refine splNE ?_ ?_) <;> intro hc <;> first | (exfalso; omega) | (exfalso; dsimp only at hc; omega) | skip)
            | refine Exists.intro (α := List Value) [.slice oo O.length oc, iv s1, iv s2, iv pay, iv lot, iv rent, .slice ro R.length rc, iv cold, iv cut] ⟨⟨rfl, fun w' hw' => e0 w' hw'.1⟩, ?_⟩
            | ((with_reducible show CallEv _ _ 60 [.v (.slice oo O.length oc)] _ _ _ _); refine callO 6 [] (.os 6 7 O.length) O.length 2 (O.flatMap prF) 55 rfl (fun β w' _ hbw => (hO2 w' hbw.1).mono fun _ _ ⟨b, c, h1, h2, h3, h4⟩ => ⟨b, c, h1, h2, h3, h4⟩) ?_)
            | ((with_reducible show CallEv _ _ 60 [.v (.slice ro R.length rc)] _ _ _ _); refine callO 8 [] (.os 8 9 R.length) R.length 2 (R.flatMap prF) 55 rfl (fun β w' _ hbw => (hR2 w' hbw.1).mono fun _ _ ⟨b, c, h1, h2, h3, h4⟩ => ⟨b, c, h1, h2, h3, h4⟩) ?_)
            | refine appG env 10 1 1 [.os 6 7 O.length, .v (iv s1), .v (iv s2), .v (iv pay), .v (iv lot), .v (iv rent), .os 8 9 R.length, .v (iv cold), .v (iv cut)] 57 (D.length + 1) ((a :: D).flatMap Tn.cs) [3] rfl rfl rfl rfl rfl (by decide) rfl rfl rfl (fun h => by cases h) (by omega) (by show (D.length + 1 + 1) * 104 ≤ 140737488355328; omega) rfl (.inr ⟨3, 4, rfl, rfl, rfl, (by show 3 < 11; decide)⟩) rfl ?_
          all_goals first | (exfalso; omega) | skip
          exact Dis.mk5 (w0 := w) (rho [(3, 11), (4, 12)]) [6, 8] (by exact trivial) (fun i hi => by simp only [List.mem_cons, List.not_mem_nil, or_false] at hi; rcases hi with rfl | rfl <;> exact ⟨_, rfl, rfl⟩) (fun w' h => h.1) (fun β w1 hok hw1 hge hne hij => ⟨a :: D ++ [(⟨some ⟨β 6, 0, none⟩, β 7, some ⟨β 8, 0, none⟩, β 9, ⟨O, s1, s2, pay, lot, rent, R, cold, cut⟩⟩ : Tn)], ⟨⟨by have := hl3 (⟨some ⟨β 6, 0, none⟩, β 7, some ⟨β 8, 0, none⟩, β 9, ⟨O, s1, s2, pay, lot, rent, R, cold, cut⟩⟩ : Tn); omega, hnew (⟨some ⟨β 6, 0, none⟩, β 7, some ⟨β 8, 0, none⟩, β 9, ⟨O, s1, s2, pay, lot, rent, R, cold, cut⟩⟩ : Tn) rfl⟩, by have := hl3 (⟨some ⟨β 6, 0, none⟩, β 7, some ⟨β 8, 0, none⟩, β 9, ⟨O, s1, s2, pay, lot, rent, R, cold, cut⟩⟩ : Tn); omega⟩, ⟨⟨_, rfl, rfl⟩, ⟨_, rfl, rfl⟩, ⟨_, rfl, rfl⟩, ⟨_, rfl, by rw [hl3 (⟨some ⟨β 6, 0, none⟩, β 7, some ⟨β 8, 0, none⟩, β 9, ⟨O, s1, s2, pay, lot, rent, R, cold, cut⟩⟩ : Tn), ← hn]; rfl⟩, trivial⟩,
           ⟨⟨rfl, _, rfl, fun _ => rfl, fun w2 y hy => hy⟩, ⟨rfl, _, rfl, fun _ => rfl, fun w2 y hy => hy⟩, ⟨rfl, _, rfl, fun _ => rfl, fun w2 y hy => by rw [hoS (⟨some ⟨β 6, 0, none⟩, β 7, some ⟨β 8, 0, none⟩, β 9, ⟨O, s1, s2, pay, lot, rent, R, cold, cut⟩⟩ : Tn)]; exact hy⟩, by simp [oM]; exact ⟨⟨rfl, _, rfl, fun _ => rfl, fun w2 y hy => by simp [Blk.ok] at hy ⊢; exact hy⟩, trivial⟩⟩, rfl, fun w2 hw2 hLo => hh (⟨some ⟨β 6, 0, none⟩, β 7, some ⟨β 8, 0, none⟩, β 9, ⟨O, s1, s2, pay, lot, rent, R, cold, cut⟩⟩ : Tn) w2 hw2 rfl (fun w3 k3 => ⟨rows_st (f := prF) (fun _ => rfl) rfl rfl (hge 6 _ rfl rfl) (hLo 6 (by simp) _ rfl) w3 k3, rows_st (f := prF) (fun _ => rfl) rfl rfl (hge 8 _ rfl rfl) (hLo 8 (by simp) _ rfl) w3 k3, by (show O.length ≤ 1000000); omega, by (show R.length ≤ 1000000); omega⟩)⟩)
   · have hk2 : D.length = T.length := by omega
     rw [hk2, List.take_of_length_le (Nat.le_of_eq (List.length_map ..))] at hmap
     cases D with
     | nil =>
      have hT0 : T = [] := List.length_eq_zero_iff.1 hk2.symm
      subst hT0
      repeat'
       conv => whnf
       first
        | refine zA ?_ | refine zB ?_ | refine zC ?_ | refine zD ?_ | refine zE ?_ | refine zF ?_ | refine zG ?_ | refine zH ?_ | refine zJ ?_ | refine zI ?_ | refine splT ?_ | refine splF ?_ | refine splNot ?_
        | ((first | refine splIn ?_ ?_ | refine splD ?_ ?_ | refine splE ?_ ?_ | refine splNE ?_ ?_) <;> intro hc <;> first | (exfalso; omega) | (exfalso; dsimp only at hc; omega) | skip)
      all_goals first | (exfalso; omega) | skip
      exact ⟨rfl, Dis.ent (x := ((none, 0), [])) ⟨rfl, Nat.le_refl _⟩ (Ent.weak rfl ⟨rfl, rfl, rfl, trivial⟩ ⟨rfl, rfl, rfl, trivial⟩ fun w2 h => ⟨h.1, fun _ _ => .inl ⟨rfl, rfl⟩, fun t ht => by cases ht⟩)⟩
     | cons a D =>
      simp only [List.length_cons] at hk2
      repeat'
       conv => whnf
       first
        | refine zA ?_ | refine zB ?_ | refine zC ?_ | refine zD ?_ | refine zE ?_ | refine zF ?_ | refine zG ?_ | refine zH ?_ | refine zJ ?_ | refine zI ?_ | refine splT ?_ | refine splF ?_ | refine splNot ?_
        | ((first | refine splIn ?_ ?_ | refine splD ?_ ?_ | refine splE ?_ ?_ | refine splNE ?_ ?_) <;> intro hc <;> first | (exfalso; omega) | (exfalso; dsimp only at hc; omega) | skip)
      all_goals first | (exfalso; omega) | skip
      exact ⟨rfl, Dis.mk5 (w0 := w) id [3] (by exact trivial) (fun i hi => by rw [List.mem_singleton] at hi; subst hi; exact ⟨_, rfl, rfl⟩) (fun w' h => h.1) (fun β w1 hok hw1 hge hne hij => ⟨((some ⟨β 3, 0, none⟩, β 4), a :: D), ⟨hmap, by have := own_cap (hok 3 _ rfl); (show T.length ≤ β 4); omega⟩, ⟨⟨_, rfl, rfl⟩, ⟨_, rfl, rfl⟩, ⟨_, rfl, rfl⟩, trivial⟩, ⟨⟨rfl, _, rfl, fun _ => rfl, fun w2 y hy => hy⟩, ⟨rfl, _, rfl, fun _ => rfl, fun w2 y hy => hy⟩, ⟨rfl, _, rfl, fun _ => rfl, fun w2 y hy => by rw [← hk2]; exact hy⟩, trivial⟩, rfl, fun w2 hw2 hLo => ⟨hw2.1, by rw [← hk2]; exact rows_st (f := Tn.cs) (fun _ => rfl) rfl rfl (hge 3 _ rfl rfl) (hLo 3 (by simp) _ rfl), hw2.2⟩⟩)⟩
 · intro y ⟨hyd, hyc⟩
   have hyl : y.2.length = T.length := by have := congrArg List.length hyd; simpa using this
   refine VC.of env mixed ?_
   repeat'
    conv => whnf
    first
     | refine zA ?_ | refine zB ?_ | refine zC ?_ | refine zD ?_ | refine zE ?_ | refine zF ?_ | refine zG ?_ | refine zH ?_ | refine zJ ?_ | refine zI ?_ | refine splT ?_ | refine splF ?_ | refine splNot ?_
     | ((first | refine splIn ?_ ?_ | refine splD ?_ ?_ | refine splE ?_ ?_ | refine splNE ?_ ?_) <;> intro hc <;> first | (exfalso; omega) | (exfalso; dsimp only at hc; omega) | skip)
   all_goals first | (exfalso; omega) | skip
   refine loopD 5 (fun E : List Lr => [(1, .ptr 0 0), (2, .ptr 1 0), (3, .ptr 2 0), (6, .v (iv E.length))]) (fun E => (0, .cells [.v (iv days), .v (iv shift), .v (iv size), .v (.slice to T.length tc), .v (.slice lo L.length lc)] 25) :: (1, .cells [.v (iv 0), .v (iv 0), .v (iv 0), .v (.slice none 0 0), .v (.slice none 0 0)] 35) :: (2, .cells [.v (iv days), .v (iv shift), .v (iv size), .v (.slice y.1.1 T.length y.1.2), oSV 3 4 E] 35) :: (oM 3 4 1 Lr.cs 61 E)) (fun (E : List Lr) w' => (Below w.heap.size w w' ∧ (St w.heap.size (Rd 9 Tn.cs (.slice y.1.1 T.length y.1.2) y.2) w' ∧ ∀ t ∈ y.2, St w.heap.size (TnIn t) w')) ∧ ∀ r ∈ E, St w.heap.size (Rd 2 prF (.slice r.o r.L.length r.c) r.L) w') (fun E => E.length ≤ L.length ∧ E.map Lr.L = (L.map Lr.L).take E.length) (fun E => L.length - E.length)
    (Dis.ent (x := []) ⟨Nat.zero_le _, rfl⟩ (Ent.weak rfl ⟨rfl, rfl, rfl, rfl, trivial⟩ ⟨rfl, rfl, rfl, trivial⟩ (fun w' h => ⟨h, fun p hp => by cases hp⟩))) (fun E _ => by cases E <;> exact ⟨rfl, rfl⟩) ?_
   intro E ⟨hk, hmap⟩
   rcases Nat.lt_or_ge E.length L.length with hkl | hkl
   · obtain ⟨⟨ro, rc, row⟩, hx⟩ : ∃ b, L[E.length]? = some b := ⟨_, List.getElem?_eq_getElem hkl⟩
     obtain ⟨_, al, rfl, _⟩ := hL.ptr (by omega)
     have e0 := fun (w' : World) hw' => rd_ati (hL.below (w' := w') hw') hx
     have hrow := hLi _ (List.mem_of_getElem? hx)
     have hbl := hBl _ (List.mem_of_getElem? hx)
     dsimp only at hrow hbl
     have hm : (L.map Lr.L)[E.length]? = some row := by rw [List.getElem?_map, hx]; rfl
     have hnew : ∀ t : Lr, t.L = row → (E ++ [t]).map Lr.L = (L.map Lr.L).take (E ++ [t]).length := fun t ht => by
      rw [List.map_append, hmap, List.length_append, List.length_singleton, List.take_add_one, hm]
      show _ ++ [t.L] = _
      rw [ht]; rfl
     have hl2 : ∀ t : Lr, (E ++ [t]).length = E.length + 1 := fun t => by simp
     have hh : ∀ (t : Lr) w', (fun (E : List Lr) w' => (Below w.heap.size w w' ∧ (St w.heap.size (Rd 9 Tn.cs (.slice y.1.1 T.length y.1.2) y.2) w' ∧ ∀ t ∈ y.2, St w.heap.size (TnIn t) w')) ∧ ∀ r ∈ E, St w.heap.size (Rd 2 prF (.slice r.o r.L.length r.c) r.L) w') E w' → St w.heap.size (Rd 2 prF (.slice t.o t.L.length t.c) t.L) w' → (fun (E : List Lr) w' => (Below w.heap.size w w' ∧ (St w.heap.size (Rd 9 Tn.cs (.slice y.1.1 T.length y.1.2) y.2) w' ∧ ∀ t ∈ y.2, St w.heap.size (TnIn t) w')) ∧ ∀ r ∈ E, St w.heap.size (Rd 2 prF (.slice r.o r.L.length r.c) r.L) w') (E ++ [t]) w' := fun t w' hw' ht => ⟨hw'.1, fun r hr => by
      rcases List.mem_append.1 hr with hr | hr
      · exact hw'.2 r hr
      · rw [List.mem_singleton] at hr; subst hr; exact ht⟩
     generalize hn : E.length = n at *
     cases E with
     | nil =>
      repeat'
       conv => whnf
       first
        | refine zA ?_ | refine zB ?_ | refine zC ?_ | refine zD ?_ | refine zE ?_ | refine zF ?_ | refine zG ?_ | refine zH ?_ | refine zJ ?_ | refine zI ?_ | refine splT ?_ | refine splF ?_ | refine splNot ?_
        | ((first | refine splIn ?_ ?_ | refine splD ?_ ?_ | refine splE ?_ ?_ | refine splNE ?_ ?_) <;> intro hc <;> first | (exfalso; omega) | (exfalso; dsimp only at hc; omega) | skip)
        | refine Exists.intro (α := List Value) [.slice ro row.length rc] ⟨⟨rfl, fun w' hw' => e0 w' hw'.1.1⟩, ?_⟩
      all_goals first | (exfalso; omega) | skip
      refine loopN 7 (fun j : Nat => [(1, .ptr 0 0), (2, .ptr 1 0), (3, .ptr 2 0), (6, .v (iv n)), (7, oSV 5 6 (row.take j)), (8, .v (iv j))]) (fun j => (0, .cells [.v (iv days), .v (iv shift), .v (iv size), .v (.slice to T.length tc), .v (.slice (some al) L.length lc)] 25) :: (1, .cells [.v (iv 0), .v (iv 0), .v (iv 0), .v (.slice none 0 0), .v (.slice none 0 0)] 35) :: (2, .cells [.v (iv days), .v (iv shift), .v (iv size), .v (.slice y.1.1 T.length y.1.2), oSV 3 4 ([] : List Lr)] 35) :: (oM 3 4 1 Lr.cs 61 ([] : List Lr) ++ oM 5 6 2 prF 60 (row.take j))) (fun j => j ≤ row.length) (fun j => row.length - j) 0 (Nat.zero_le _) ⟨rfl, rfl, rfl, rfl, rfl, rfl, trivial⟩ ⟨rfl, rfl, rfl, trivial⟩ (fun j _ => by cases row.take j <;> exact ⟨rfl, rfl⟩) ?_
      intro j hj
      rcases Nat.lt_or_ge j row.length with hjl | hjl
      · obtain ⟨⟨p1, p2⟩, hp⟩ : ∃ p, row[j]? = some p := ⟨_, List.getElem?_eq_getElem hjl⟩
        obtain ⟨_, ar, rfl, _⟩ := hrow.ptr (by omega)
        have e1 := fun (w' : World) hw' => rd_fldz (hrow.below (w' := w') hw') hp _ rfl 0 (iv p1) rfl
        have e2 := fun (w' : World) hw' => rd_fldz (hrow.below (w' := w') hw') hp _ rfl 1 (iv p2) rfl
        have ht : row.take (j + 1) = row.take j ++ [(p1, p2)] := by rw [List.take_add_one, hp]; rfl
        have hlen : (row.take j).length = j := by rw [List.length_take]; omega
        generalize row.take j = P at *
        cases P with
        | nil =>
         repeat'
          conv => whnf
          first
           | refine zA ?_ | refine zB ?_ | refine zC ?_ | refine zD ?_ | refine zE ?_ | refine zF ?_ | refine zG ?_ | refine zH ?_ | refine zJ ?_ | refine zI ?_ | refine splT ?_ | refine splF ?_ | refine splNot ?_
           | ((first | refine splIn ?_ ?_ | refine splD ?_ ?_ | refine splE ?_ ?_ | refine splNE ?_ ?_) <;> intro hc <;> first | (exfalso; omega) | (exfalso; dsimp only at hc; omega) | skip)
           | refine Exists.intro (α := List Value) [.slice (some ar) row.length rc] ⟨⟨rfl, fun w' hw' => e0 w' hw'.1.1⟩, ?_⟩
           | refine Exists.intro (α := List Value) [iv p1] ⟨⟨rfl, fun w' hw' => e1 w' hw'.1.1⟩, ?_⟩
           | refine Exists.intro (α := List Value) [iv p2] ⟨⟨rfl, fun w' hw' => e2 w' hw'.1.1⟩, ?_⟩
         all_goals first | (exfalso; omega) | exact ⟨j + 1, by omega, by omega, Ent.ren (rho [(5, 8), (6, 9)]) rfl (by rw [ht]; rfl) ⟨rfl, rfl, rfl, rfl, by rw [ht]; rfl, rfl, trivial⟩ (by rw [ht]; exact ⟨rfl, rfl, rfl, rfl, trivial⟩) fun _ h => h⟩
        | cons q P =>
         simp only [List.length_cons] at hlen
         repeat'
          conv => whnf
          first
           | refine zA ?_ | refine zB ?_ | refine zC ?_ | refine zD ?_ | refine zE ?_ | refine zF ?_ | refine zG ?_ | refine zH ?_ | refine zJ ?_ | refine zI ?_ | refine splT ?_ | refine splF ?_ | refine splNot ?_
           | ((first | refine splIn ?_ ?_ | refine splD ?_ ?_ | refine splE ?_ ?_ | refine splNE ?_ ?_) <;> intro hc <;> first | (exfalso; omega) | (exfalso; dsimp only at hc; omega) | skip)
           | refine Exists.intro (α := List Value) [.slice (some ar) row.length rc] ⟨⟨rfl, fun w' hw' => e0 w' hw'.1.1⟩, ?_⟩
           | refine Exists.intro (α := List Value) [iv p1] ⟨⟨rfl, fun w' hw' => e1 w' hw'.1.1⟩, ?_⟩
           | refine Exists.intro (α := List Value) [iv p2] ⟨⟨rfl, fun w' hw' => e2 w' hw'.1.1⟩, ?_⟩
         all_goals first | (exfalso; omega) | exact ⟨j + 1, by omega, by omega, Ent.ren (rho [(5, 8), (6, 9)]) rfl (by rw [ht]; rfl) ⟨rfl, rfl, rfl, rfl, by rw [ht]; simp [oSV]; rfl, rfl, trivial⟩ (by rw [ht]; exact ⟨rfl, rfl, rfl, by simp [oM]; rfl, trivial⟩) fun _ h => h⟩
      · obtain rfl : j = row.length := by omega
        rw [List.take_length]
        cases row with
        | nil =>
         repeat'
          conv => whnf
          first
           | refine zA ?_ | refine zB ?_ | refine zC ?_ | refine zD ?_ | refine zE ?_ | refine zF ?_ | refine zG ?_ | refine zH ?_ | refine zJ ?_ | refine zI ?_ | refine splT ?_ | refine splF ?_ | refine splNot ?_
           | ((first | refine splIn ?_ ?_ | refine splD ?_ ?_ | refine splE ?_ ?_ | refine splNE ?_ ?_) <;> intro hc <;> first | (exfalso; omega) | (exfalso; dsimp only at hc; omega) | skip)
           | refine Exists.intro (α := List Value) [.slice ro ([] : List (Int × Int)).length rc] ⟨⟨rfl, fun w' hw' => e0 w' hw'.1.1⟩, ?_⟩
         all_goals first | (exfalso; omega) | skip
         exact Dis.ent (x := ([] : List Lr) ++ [(⟨none, 0, []⟩ : Lr)]) ⟨⟨by have := hl2 (⟨none, 0, []⟩ : Lr); omega, hnew (⟨none, 0, []⟩ : Lr) rfl⟩, by have := hl2 (⟨none, 0, []⟩ : Lr); omega⟩ (Ent.ren (rho [(3, 8), (4, 9)]) rfl rfl ⟨rfl, rfl, rfl, by rw [hl2 (⟨none, 0, []⟩ : Lr), ← hn]; rfl, trivial⟩ ⟨rfl, rfl, rfl, rfl, trivial⟩ fun w2 hw2 => hh (⟨none, 0, []⟩ : Lr) w2 hw2 fun _ _ => .inl ⟨rfl, rfl⟩)
        | cons p P =>
         repeat'
          conv => whnf
          first
           | refine zA ?_ | refine zB ?_ | refine zC ?_ | refine zD ?_ | refine zE ?_ | refine zF ?_ | refine zG ?_ | refine zH ?_ | refine zJ ?_ | refine zI ?_ | refine splT ?_ | refine splF ?_ | refine splNot ?_
           | ((first | refine splIn ?_ ?_ | refine splD ?_ ?_ | refine splE ?_ ?_ | refine splNE ?_ ?_) <;> intro hc <;> first | (exfalso; omega) | (exfalso; dsimp only at hc; omega) | skip)
           | refine Exists.intro (α := List Value) [.slice ro (p :: P).length rc] ⟨⟨rfl, fun w' hw' => e0 w' hw'.1.1⟩, ?_⟩
           | refine appG env 7 1 1 [.os 5 6 (P.length + 1)] 61 0 [] [] rfl rfl rfl rfl rfl (by decide) rfl rfl rfl (fun _ => Nat.le_refl _) (by omega) (by decide) rfl (.inl ⟨rfl, rfl, rfl, rfl⟩) rfl ?_
         all_goals first | (exfalso; omega) | skip
         exact Dis.mk5 (w0 := w) (rho [(3, 8), (4, 9)]) [5] (by exact trivial) (fun i hi => by rw [List.mem_singleton] at hi; subst hi; exact ⟨_, rfl, rfl⟩) (fun w' h => h.1.1) (fun β w1 hok hw1 hge hne hij => ⟨([] : List Lr) ++ [(⟨some ⟨β 5, 0, none⟩, β 6, p :: P⟩ : Lr)], ⟨⟨by have := hl2 (⟨some ⟨β 5, 0, none⟩, β 6, p :: P⟩ : Lr); omega, hnew (⟨some ⟨β 5, 0, none⟩, β 6, p :: P⟩ : Lr) rfl⟩, by have := hl2 (⟨some ⟨β 5, 0, none⟩, β 6, p :: P⟩ : Lr); omega⟩, ⟨⟨_, rfl, rfl⟩, ⟨_, rfl, rfl⟩, ⟨_, rfl, rfl⟩, ⟨_, rfl, by rw [hl2 (⟨some ⟨β 5, 0, none⟩, β 6, p :: P⟩ : Lr), ← hn]; rfl⟩, trivial⟩,
          ⟨⟨rfl, _, rfl, fun _ => rfl, fun w2 y hy => hy⟩, ⟨rfl, _, rfl, fun _ => rfl, fun w2 y hy => hy⟩, ⟨rfl, _, rfl, fun _ => rfl, fun w2 y hy => hy⟩, ⟨rfl, _, rfl, fun _ => rfl, fun w2 y hy => hy⟩, trivial⟩, rfl, fun w2 hw2 hLo => hh (⟨some ⟨β 5, 0, none⟩, β 6, p :: P⟩ : Lr) w2 hw2 (rows_st (f := prF) (fun _ => rfl) rfl rfl (hge 5 _ rfl rfl) (hLo 5 (by simp) _ rfl))⟩)
     | cons a E =>
      simp only [List.length_cons] at hn
      have hoS : ∀ t : Lr, oSV 3 4 (a :: E ++ [t]) = .os 3 4 (E.length + 1 + 1) := fun t => by simp [oSV]
      repeat'
       conv => whnf
       first
        | refine zA ?_ | refine zB ?_ | refine zC ?_ | refine zD ?_ | refine zE ?_ | refine zF ?_ | refine zG ?_ | refine zH ?_ | refine zJ ?_ | refine zI ?_ | refine splT ?_ | refine splF ?_ | refine splNot ?_
        | ((first | refine splIn ?_ ?_ | refine splD ?_ ?_ | refine splE ?_ ?_ | refine splNE ?_ ?_) <;> intro hc <;> first | (exfalso; omega) | (exfalso; dsimp only at hc; omega) | skip)
        | refine Exists.intro (α := List Value) [.slice ro row.length rc] ⟨⟨rfl, fun w' hw' => e0 w' hw'.1.1⟩, ?_⟩
      all_goals first | (exfalso; omega) | skip
      refine loopN 7 (fun j : Nat => [(1, .ptr 0 0), (2, .ptr 1 0), (3, .ptr 2 0), (6, .v (iv n)), (7, oSV 5 6 (row.take j)), (8, .v (iv j))]) (fun j => (0, .cells [.v (iv days), .v (iv shift), .v (iv size), .v (.slice to T.length tc), .v (.slice (some al) L.length lc)] 25) :: (1, .cells [.v (iv 0), .v (iv 0), .v (iv 0), .v (.slice none 0 0), .v (.slice none 0 0)] 35) :: (2, .cells [.v (iv days), .v (iv shift), .v (iv size), .v (.slice y.1.1 T.length y.1.2), oSV 3 4 (a :: E : List Lr)] 35) :: (oM 3 4 1 Lr.cs 61 (a :: E : List Lr) ++ oM 5 6 2 prF 60 (row.take j))) (fun j => j ≤ row.length) (fun j => row.length - j) 0 (Nat.zero_le _) ⟨rfl, rfl, rfl, rfl, rfl, rfl, trivial⟩ ⟨rfl, rfl, rfl, rfl, trivial⟩ (fun j _ => by cases row.take j <;> exact ⟨rfl, rfl⟩) ?_
      intro j hj
      rcases Nat.lt_or_ge j row.length with hjl | hjl
      · obtain ⟨⟨p1, p2⟩, hp⟩ : ∃ p, row[j]? = some p := ⟨_, List.getElem?_eq_getElem hjl⟩
        obtain ⟨_, ar, rfl, _⟩ := hrow.ptr (by omega)
        have e1 := fun (w' : World) hw' => rd_fldz (hrow.below (w' := w') hw') hp _ rfl 0 (iv p1) rfl
        have e2 := fun (w' : World) hw' => rd_fldz (hrow.below (w' := w') hw') hp _ rfl 1 (iv p2) rfl
        have ht : row.take (j + 1) = row.take j ++ [(p1, p2)] := by rw [List.take_add_one, hp]; rfl
        have hlen : (row.take j).length = j := by rw [List.length_take]; omega
        generalize row.take j = P at *
        cases P with
        | nil =>
         repeat'
          conv => whnf
          first
           | refine zA ?_ | refine zB ?_ | refine zC ?_ | refine zD ?_ | refine zE ?_ | refine zF ?_ | refine zG ?_ | refine zH ?_ | refine zJ ?_ | refine zI ?_ | refine splT ?_ | refine splF ?_ | refine splNot ?_
           | ((first | refine splIn ?_ ?_ | refine splD ?_ ?_ | refine splE ?_ ?_ | refine splNE ?_ ?_) <;> intro hc <;> first | (exfalso; omega) | (exfalso; dsimp only at hc; omega) | skip)
           | refine Exists.intro (α := List Value) [.slice (some ar) row.length rc] ⟨⟨rfl, fun w' hw' => e0 w' hw'.1.1⟩, ?_⟩
           | refine Exists.intro (α := List Value) [iv p1] ⟨⟨rfl, fun w' hw' => e1 w' hw'.1.1⟩, ?_⟩
           | refine Exists.intro (α := List Value) [iv p2] ⟨⟨rfl, fun w' hw' => e2 w' hw'.1.1⟩, ?_⟩
         all_goals first | (exfalso; omega) | exact ⟨j + 1, by omega, by omega, Ent.ren (rho [(5, 8), (6, 9)]) rfl (by rw [ht]; rfl) ⟨rfl, rfl, rfl, rfl, by rw [ht]; rfl, rfl, trivial⟩ (by rw [ht]; exact ⟨rfl, rfl, rfl, rfl, rfl, trivial⟩) fun _ h => h⟩
        | cons q P =>
         simp only [List.length_cons] at hlen
         repeat'
          conv => whnf
          first
           | refine zA ?_ | refine zB ?_ | refine zC ?_ | refine zD ?_ | refine zE ?_ | refine zF ?_ | refine zG ?_ | refine zH ?_ | refine zJ ?_ | refine zI ?_ | refine splT ?_ | refine splF ?_ | refine splNot ?_
           | ((first | refine splIn ?_ ?_ | refine splD ?_ ?_ | refine splE ?_ ?_ | refine splNE ?_ ?_) <;> intro hc <;> first | (exfalso; omega) | (exfalso; dsimp only at hc; omega) | skip)
           | refine Exists.intro (α := List Value) [.slice (some ar) row.length rc] ⟨⟨rfl, fun w' hw' => e0 w' hw'.1.1⟩, ?_⟩
           | refine Exists.intro (α := List Value) [iv p1] ⟨⟨rfl, fun w' hw' => e1 w' hw'.1.1⟩, ?_⟩
           | refine Exists.intro (α := List Value) [iv p2] ⟨⟨rfl, fun w' hw' => e2 w' hw'.1.1⟩, ?_⟩
         all_goals first | (exfalso; omega) | exact ⟨j + 1, by omega, by omega, Ent.ren (rho [(5, 8), (6, 9)]) rfl (by rw [ht]; rfl) ⟨rfl, rfl, rfl, rfl, by rw [ht]; simp [oSV]; rfl, rfl, trivial⟩ (by rw [ht]; exact ⟨rfl, rfl, rfl, rfl, by simp [oM]; rfl, trivial⟩) fun _ h => h⟩
      · obtain rfl : j = row.length := by omega
        rw [List.take_length]
        cases row with
        | nil =>
         repeat'
          conv => whnf
          first
           | refine zA ?_ | refine zB ?_ | refine zC ?_ | refine zD ?_ | refine zE ?_ | refine zF ?_ | refine zG ?_ | refine zH ?_ | refine zJ ?_ | refine zI ?_ | refine splT ?_ | refine splF ?_ | refine splNot ?_
           | ((first | refine splIn ?_ ?_ | refine splD ?_ ?_ | refine splE ?_ ?_ | refine splNE ?_ ?_) <;> intro hc <;> first | (exfalso; omega) | (exfalso; dsimp only at hc; omega) | skip)
           | refine Exists.intro (α := List Value) [.slice ro ([] : List (Int × Int)).length rc] ⟨⟨rfl, fun w' hw' => e0 w' hw'.1.1⟩, ?_⟩
         all_goals first | (exfalso; omega) | skip
         exact Dis.ent (x := a :: E ++ [(⟨none, 0, []⟩ : Lr)]) ⟨⟨by have := hl2 (⟨none, 0, []⟩ : Lr); omega, hnew (⟨none, 0, []⟩ : Lr) rfl⟩, by have := hl2 (⟨none, 0, []⟩ : Lr); omega⟩ (Ent.ren (rho [(3, 8), (4, 9)]) rfl rfl ⟨rfl, rfl, rfl, by rw [hl2 (⟨none, 0, []⟩ : Lr), ← hn]; rfl, trivial⟩ ⟨rfl, rfl, by rw [hoS (⟨none, 0, []⟩ : Lr)]; rfl, by simp [oM]; rfl, trivial⟩ fun w2 hw2 => hh (⟨none, 0, []⟩ : Lr) w2 hw2 fun _ _ => .inl ⟨rfl, rfl⟩)
        | cons p P =>
         repeat'
          conv => whnf
          first
           | refine zA ?_ | refine zB ?_ | refine zC ?_ | refine zD ?_ | refine zE ?_ | refine zF ?_ | refine zG ?_ | refine zH ?_ | refine zJ ?_ | refine zI ?_ | refine splT ?_ | refine splF ?_ | refine splNot ?_
           | ((first | refine splIn ?_ ?_ | refine splD ?_ ?_ | refine splE ?_ ?_ | refine splNE ?_ ?_) <;> intro hc <;> first | (exfalso; omega) | (exfalso; dsimp only at hc; omega) | skip)
           | refine Exists.intro (α := List Value) [.slice ro (p :: P).length rc] ⟨⟨rfl, fun w' hw' => e0 w' hw'.1.1⟩, ?_⟩
           | refine appG env 7 1 1 [.os 5 6 (P.length + 1)] 61 (E.length + 1) ((a :: E).flatMap Lr.cs) [3] rfl rfl rfl rfl rfl (by decide) rfl rfl rfl (fun h => by cases h) (by omega) (by show (E.length + 1 + 1) * 24 ≤ 140737488355328; omega) rfl (.inr ⟨3, 4, rfl, rfl, rfl, (by show 3 < 8; decide)⟩) rfl ?_
         all_goals first | (exfalso; omega) | skip
         exact Dis.mk5 (w0 := w) (rho [(3, 8), (4, 9)]) [5] (by exact trivial) (fun i hi => by rw [List.mem_singleton] at hi; subst hi; exact ⟨_, rfl, rfl⟩) (fun w' h => h.1.1) (fun β w1 hok hw1 hge hne hij => ⟨a :: E ++ [(⟨some ⟨β 5, 0, none⟩, β 6, p :: P⟩ : Lr)], ⟨⟨by have := hl2 (⟨some ⟨β 5, 0, none⟩, β 6, p :: P⟩ : Lr); omega, hnew (⟨some ⟨β 5, 0, none⟩, β 6, p :: P⟩ : Lr) rfl⟩, by have := hl2 (⟨some ⟨β 5, 0, none⟩, β 6, p :: P⟩ : Lr); omega⟩, ⟨⟨_, rfl, rfl⟩, ⟨_, rfl, rfl⟩, ⟨_, rfl, rfl⟩, ⟨_, rfl, by rw [hl2 (⟨some ⟨β 5, 0, none⟩, β 6, p :: P⟩ : Lr), ← hn]; rfl⟩, trivial⟩,
          ⟨⟨rfl, _, rfl, fun _ => rfl, fun w2 y hy => hy⟩, ⟨rfl, _, rfl, fun _ => rfl, fun w2 y hy => hy⟩, ⟨rfl, _, rfl, fun _ => rfl, fun w2 y hy => by rw [hoS (⟨some ⟨β 5, 0, none⟩, β 6, p :: P⟩ : Lr)]; exact hy⟩, by simp [oM]; exact ⟨⟨rfl, _, rfl, fun _ => rfl, fun w2 y hy => by simp [Blk.ok] at hy ⊢; exact hy⟩, trivial⟩⟩, rfl, fun w2 hw2 hLo => hh (⟨some ⟨β 5, 0, none⟩, β 6, p :: P⟩ : Lr) w2 hw2 (rows_st (f := prF) (fun _ => rfl) rfl rfl (hge 5 _ rfl rfl) (hLo 5 (by simp) _ rfl))⟩)
   · have hk2 : E.length = L.length := by omega
     rw [hk2, List.take_of_length_le (Nat.le_of_eq (List.length_map ..))] at hmap
     have hfin : ∀ (o : Option Addr) (c : Nat) w2, ((St w.heap.size (Rd 9 Tn.cs (.slice y.1.1 T.length y.1.2) y.2) w2 ∧ ∀ t ∈ y.2, St w.heap.size (TnIn t) w2) ∧ ∀ r ∈ E, St w.heap.size (Rd 2 prF (.slice r.o r.L.length r.c) r.L) w2) → Rd 1 Lr.cs (.slice o E.length c) E w2 → TrIn ⟨days, shift, size, y.1.1, y.1.2, y.2, o, c, E⟩ w2 := fun o c w2 hw2 hr =>
      ⟨by (show Rd 9 Tn.cs (.slice y.1.1 y.2.length y.1.2) y.2 w2); rw [hyl]; exact St.now hw2.1.1, fun t ht => St.now (hw2.1.2 t ht), hr, fun r hr => St.now (hw2.2 r hr), by (show y.2.length ≤ 1000000); omega, by (show E.length ≤ 1000000); omega, fun r hr => by
       have h1 : r.L ∈ L.map Lr.L := by rw [← hmap]; exact List.mem_map.2 ⟨r, hr, rfl⟩
       obtain ⟨r', h2, h3⟩ := List.mem_map.1 h1
       have := hBl r' h2
       rw [h3] at this
       omega, by (show y.2.length ≤ y.1.2); omega⟩
     have hkeep : ∀ w1 w2, (fun (E : List Lr) w' => (Below w.heap.size w w' ∧ (St w.heap.size (Rd 9 Tn.cs (.slice y.1.1 T.length y.1.2) y.2) w' ∧ ∀ t ∈ y.2, St w.heap.size (TnIn t) w')) ∧ ∀ r ∈ E, St w.heap.size (Rd 2 prF (.slice r.o r.L.length r.c) r.L) w') E w1 → Keep w.heap.size w1 w2 → ((St w.heap.size (Rd 9 Tn.cs (.slice y.1.1 T.length y.1.2) y.2) w2 ∧ ∀ t ∈ y.2, St w.heap.size (TnIn t) w2) ∧ ∀ r ∈ E, St w.heap.size (Rd 2 prF (.slice r.o r.L.length r.c) r.L) w2) := fun w1 w2 h k => ⟨⟨h.1.2.1.keep k, fun t ht => (h.1.2.2 t ht).keep k⟩, fun r hr => (h.2 r hr).keep k⟩
     have hyd2 : ∀ (o : Option Addr) (c : Nat), Tr.d ⟨days, shift, size, y.1.1, y.1.2, y.2, o, c, E⟩ = Tr.d ⟨days, shift, size, to, tc, T, lo, lc, L⟩ := fun o c => by simp only [Tr.d, hyd, hmap]
     have hval : ∀ (o : Option Addr) (c : Nat), Value.agg #[iv days, iv shift, iv size, .slice y.1.1 T.length y.1.2, .slice o E.length c] = Tr.v ⟨days, shift, size, y.1.1, y.1.2, y.2, o, c, E⟩ := fun o c => by simp only [Tr.v, hyl]
     cases E with
     | nil =>
      repeat'
       conv => whnf
       first
        | refine zA ?_ | refine zB ?_ | refine zC ?_ | refine zD ?_ | refine zE ?_ | refine zF ?_ | refine zG ?_ | refine zH ?_ | refine zJ ?_ | refine zI ?_ | refine splT ?_ | refine splF ?_ | refine splNot ?_
        | ((first | refine splIn ?_ ?_ | refine splD ?_ ?_ | refine splE ?_ ?_ | refine splNE ?_ ?_) <;> intro hc <;> first | (exfalso; omega) | (exfalso; dsimp only at hc; omega) | skip)
      all_goals first | (exfalso; omega) | skip
      exact ⟨fun w' h => h.1.1, fun β w' hw' hblk => ⟨⟨days, shift, size, y.1.1, y.1.2, y.2, none, 0, []⟩, hval none 0, fun w2 k2 => ⟨hfin none 0 w2 (hkeep w' w2 hw' k2) (.inl ⟨rfl, rfl⟩), hyd2 none 0⟩⟩⟩
     | cons a E =>
      repeat'
       conv => whnf
       first
        | refine zA ?_ | refine zB ?_ | refine zC ?_ | refine zD ?_ | refine zE ?_ | refine zF ?_ | refine zG ?_ | refine zH ?_ | refine zJ ?_ | refine zI ?_ | refine splT ?_ | refine splF ?_ | refine splNot ?_
        | ((first | refine splIn ?_ ?_ | refine splD ?_ ?_ | refine splE ?_ ?_ | refine splNE ?_ ?_) <;> intro hc <;> first | (exfalso; omega) | (exfalso; dsimp only at hc; omega) | skip)
      all_goals first | (exfalso; omega) | skip
      exact ⟨fun w' h => h.1.1, fun β w' hw' hblk => ⟨⟨days, shift, size, y.1.1, y.1.2, y.2, some ⟨β 3, 0, none⟩, β 4, a :: E⟩, hval (some ⟨β 3, 0, none⟩) (β 4), fun w2 k2 => ⟨hfin (some ⟨β 3, 0, none⟩) (β 4) w2 (hkeep w' w2 hw' k2) (Rd.of_owns (sz := 1) (f := Lr.cs) (fun _ => rfl) rfl rfl (hblk 3 _ rfl rfl w2 k2)), hyd2 (some ⟨β 3, 0, none⟩) (β 4)⟩⟩⟩
end Go.Proofs.Ythfabodamhdhaaa
namespace Go.Proofs.Ythfabodamhdhaaa
open Go Tx Go.RowKit
set_option linter.unusedSimpArgs false
set_option linter.unusedVariables false
abbrev Fnd := Option (List (Int × Int × Int) × Int)
def trR (x : To) (r : Fnd) (S : List (Int × Int × Int)) : Fnd :=
 if fsO x S = [] then (match r with
  | none => some (S, pfO x S)
  | some b => if b.2 < pfO x S then some (S, pfO x S) else some b) else r
def rpL (x : To) (S : List (Int × Int × Int)) (k t f : Nat) (r : Fnd) (ls : List Nat) : Fnd := ls.foldl (fun (r : Fnd) (l : Nat) => trR x r (S.set k ((t : Int), (f : Int), (l : Int)))) r
def rpF (x : To) (S : List (Int × Int × Int)) (k t : Nat) (r : Fnd) (n : Nat) : Fnd := (List.range n).foldl (fun r f => rpL x S k t f r (ALO x t f)) r
def rpT (x : To) (S : List (Int × Int × Int)) (k : Nat) (r : Fnd) (t : Nat) : Fnd := if (S[k]?).map (·.1) = some (t : Int) then r else rpF x S k t r x.days.toNat
def rpN (x : To) (S : List (Int × Int × Int)) (k n : Nat) : Fnd := (List.range n).foldl (fun r i => rpT x S k r (i + 1)) (trR x none (S.eraseIdx k))
def rpO (x : To) (S : List (Int × Int × Int)) (k : Nat) : Fnd := rpN x S k (x.T.length - 1)
theorem rpN_succ (x : To) (S : List (Int × Int × Int)) (k n : Nat) : rpN x S k (n + 1) = rpT x S k (rpN x S k n) (n + 1) := by
 unfold rpN
 rw [List.range_succ, List.foldl_append]
 rfl
theorem rpF_succ (x : To) (S : List (Int × Int × Int)) (k t : Nat) (r : Fnd) (n : Nat) : rpF x S k t r (n + 1) = rpL x S k t n (rpF x S k t r n) (ALO x t n) := by
 unfold rpF
 rw [List.range_succ, List.foldl_append]
 rfl
theorem rpL_snoc (x : To) (S : List (Int × Int × Int)) (k t f : Nat) (r : Fnd) (ls : List Nat) (l : Nat) : rpL x S k t f r (ls ++ [l]) = trR x (rpL x S k t f r ls) (S.set k ((t : Int), (f : Int), (l : Int))) := by
 unfold rpL
 rw [List.foldl_append]
 rfl
def FOk (x : To) (n : Nat) (r : Fnd) : Prop := ∀ b, r = some b → fsO x b.1 = [] ∧ b.2 = pfO x b.1 ∧ b.1.length ≤ n
theorem trR_ok {x : To} {n : Nat} {r : Fnd} {S : List (Int × Int × Int)} (h : FOk x n r) (hS : S.length ≤ n) : FOk x n (trR x r S) := fun b hb => by
 unfold trR at hb
 split at hb
 · rename_i h0
   cases r with
   | none =>
    simp only [Option.some.injEq] at hb
    subst hb
    exact ⟨h0, rfl, hS⟩
   | some q =>
    dsimp only at hb
    split at hb
    · simp only [Option.some.injEq] at hb
      subst hb
      exact ⟨h0, rfl, hS⟩
    · exact h b hb
 · exact h b hb
theorem fold_ok {x : To} {n : Nat} {α : Type} {g : Fnd → α → Fnd} (hg : ∀ r a, FOk x n r → FOk x n (g r a)) : ∀ (l : List α) (r : Fnd), FOk x n r → FOk x n (l.foldl g r)
 | [], _, h => h
 | a :: l, r, h => fold_ok hg l (g r a) (hg r a h)
theorem rpL_ok {x : To} {n : Nat} {S : List (Int × Int × Int)} {k t f : Nat} {r : Fnd} {ls : List Nat} (h : FOk x n r) (hS : S.length ≤ n) : FOk x n (rpL x S k t f r ls) := fold_ok (fun r l hr => trR_ok hr (by rw [List.length_set]; exact hS)) ls r h
theorem rpF_ok {x : To} {n m : Nat} {S : List (Int × Int × Int)} {k t : Nat} {r : Fnd} (h : FOk x n r) (hS : S.length ≤ n) : FOk x n (rpF x S k t r m) := fold_ok (fun r f hr => rpL_ok hr hS) _ r h
theorem rpT_ok {x : To} {n : Nat} {S : List (Int × Int × Int)} {k t : Nat} {r : Fnd} (h : FOk x n r) (hS : S.length ≤ n) : FOk x n (rpT x S k r t) := by
 unfold rpT
 split
 · exact h
 · exact rpF_ok h hS
theorem rpN_ok {x : To} {n m : Nat} {S : List (Int × Int × Int)} {k : Nat} (hS : S.length ≤ n) : FOk x n (rpN x S k m) := fold_ok (fun r i hr => rpT_ok hr hS) _ _ (trR_ok (fun b hb => by cases hb) (by rw [List.length_eraseIdx]; split <;> omega))
def rpV (x : To) (S : List (Int × Int × Int)) (k : Int) : List (Int × Int × Int) × Int × Int :=
 if toB x = true then (if S.length ≤ 20 then (if fsO x S = [] then (if 0 ≤ k ∧ k < S.length then (match rpO x S k.toNat with
  | some b => (b.1, b.2 - pfO x S, 0)
  | none => ([], 0, 7)) else ([], 0, 2)) else ([], 0, 9)) else ([], 0, 3)) else ([], 0, 1)
end Go.Proofs.Ythfabodamhdhaaa
namespace Go.Proofs.Ythfabodamhdhaaa
open Go Tx
noncomputable def body80 : Code := Try.f80.body.getD .skip
theorem has80 : Try.f80.body = some body80 := by kernel_rfl
noncomputable def body82 : Code := Try.f82.body.getD .skip
theorem has82 : Try.f82.body = some body82 := by kernel_rfl
end Go.Proofs.Ythfabodamhdhaaa
namespace Go.Proofs.Ythfabodamhdhaaa
open Go Tx Go.RowKit Go.Lib
set_option linter.unusedSimpArgs false
set_option linter.unusedVariables false
def dlC (cur : List Value) (n k : Nat) : List Value :=
 ((cur.take (k * 3) ++ (cur.drop ((k + 1) * 3)).take ((n - (k + 1)) * 3) ++ cur.drop (k * 3 + (n - (k + 1)) * 3)).take ((n - 1) * 3) ++ [iv 0, iv 0, iv 0] ++ (cur.take (k * 3) ++ (cur.drop ((k + 1) * 3)).take ((n - (k + 1)) * 3) ++ cur.drop (k * 3 + (n - (k + 1)) * 3)).drop ((n - 1) * 3 + 3))
theorem dlC_len {cur : List Value} {n k : Nat} (hk : k < n) (hn : n * 3 ≤ cur.length) : (dlC cur n k).length = cur.length := by
 unfold dlC
 simp only [List.length_append, List.length_take, List.length_drop, List.length_cons, List.length_nil]
 omega
theorem dlC_take {cur : List Value} {n k : Nat} (hk : k < n) (hn : n * 3 ≤ cur.length) : (dlC cur n k).take ((n - 1) * 3) = (cur.take (n * 3)).take (k * 3) ++ (cur.take (n * 3)).drop ((k + 1) * 3) := by
 have h1 : (cur.take (k * 3) ++ (cur.drop ((k + 1) * 3)).take ((n - (k + 1)) * 3)).length = (n - 1) * 3 := by
  simp only [List.length_append, List.length_take, List.length_drop]
  omega
 unfold dlC
 rw [List.append_assoc, List.take_append_of_le_length (by rw [List.length_take, List.length_append, h1]; simp only [List.length_drop]; omega), List.take_take, Nat.min_self, List.take_append_of_le_length (by omega), List.take_of_length_le (by omega)]
 congr 1
 · rw [List.take_take, Nat.min_eq_left (by omega)]
 · rw [List.drop_take]
   congr 1
   omega
set_option maxHeartbeats 4000000 in
set_option maxRecDepth 1000000 in
theorem Delete_raw (blk n cap k : Nat) (cur : Array Value) (w : World) (hw : w.heap[blk]? = some (.cells cur 96 (0, 0))) (hk : k < n) (hn : n ≤ cap) (hc : cap * 3 = cur.size) (hone : ∀ v ∈ cur.toList.take (n * 3), v.oneCell' = true) :
 Calls Try.prog 81 #[.slice (some ⟨blk, 0, none⟩) n cap, .int .i64 k, .int .i64 ((k + 1 : Nat) : Int)] w fun e w' => e = .returned (.slice (some ⟨blk, 0, none⟩) (n - 1) cap) ∧ w'.os = w.os ∧ w'.tape = w.tape ∧ w'.output = w.output ∧ w'.heap.size = w.heap.size ∧ (∀ b, b ≠ blk → w'.heap[b]? = w.heap[b]?) ∧ w'.heap[blk]? = some (.cells (dlC cur.toList n k).toArray 96 (0, 0)) := by
 obtain ⟨news, hnews⟩ : ∃ news, news = (cur.toList.drop ((k + 1) * 3)).take ((n - (k + 1)) * 3) := ⟨_, rfl⟩
 have hlen : news.length = (n - (k + 1)) * 3 := by rw [hnews, List.length_take, List.length_drop, Array.length_toList]; omega
 have hw1 : w.drew.heap[blk]? = some (.cells cur 96 (0, 0)) := hw
 have s2 : ∀ u ∈ news, u.oneCell' = true := by
  intro u hu
  have hx : (cur.toList.drop ((k + 1) * 3)).take ((n - (k + 1)) * 3) = (cur.toList.take (n * 3)).drop ((k + 1) * 3) := by
   rw [List.drop_take]; congr 1; omega
  rw [hnews, hx] at hu
  exact hone u (List.mem_of_mem_drop hu)
 obtain ⟨A, hA, hsrc⟩ : ∃ A : Addr, (if cap = k + 1 then (some (⟨blk, 0, none⟩ : Addr)) else some ⟨blk, (k + 1) * 3, none⟩) = some A ∧ (loadCellsFrom A 0 ((n - (k + 1)) * 3) #[]).run Try.prog w.drew = .ok news.toArray w.drew := by
  have key : ∀ A : Addr, (∀ t u, news[t]? = some u → w.drew.cell? (A.add t) = some u) → (loadCellsFrom A 0 ((n - (k + 1)) * 3) #[]).run Try.prog w.drew = .ok news.toArray w.drew := fun A h => by
   rw [← hlen]
   exact run_loadCells_list w.drew A news h
  by_cases h : cap = k + 1
  · refine ⟨⟨blk, 0, none⟩, by rw [if_pos h], key _ fun t u hu => ?_⟩
    have h0 : news.length = 0 := by rw [hlen]; omega
    rw [List.length_eq_zero_iff.1 h0] at hu
    simp at hu
  · refine ⟨⟨blk, (k + 1) * 3, none⟩, by rw [if_neg h], key _ fun t u hu => ?_⟩
    have ht : t < (n - (k + 1)) * 3 := by
     have := (List.getElem?_eq_some_iff.1 hu).1
     rwa [hlen] at this
    rw [own_add, cell_of_row _ blk _ _ 96 (0, 0) hw1, ← Array.getElem?_toList, ← List.getElem?_drop, ← hu, hnews, List.getElem?_take, if_pos ht]
 obtain ⟨W1, hW1⟩ : ∃ W1, W1 = w.drew.setRow blk (cur.toList.take (k * 3) ++ news ++ cur.toList.drop (k * 3 + news.length)).toArray := ⟨_, rfl⟩
 have hst1 : (storeCells ⟨blk, k * 3, none⟩ news).run Try.prog w.drew = .ok () W1 := by
  have := run_storeCells_at Try.prog blk (k * 3) 96 news 0 cur w.drew hw1 (by rw [hlen]; omega) s2
  rw [Nat.add_zero] at this
  rw [hW1]; exact this
 have hroom : k + (n - (k + 1)) ≤ cap := by omega
 have mixed' := mixed
 have hlo : (0 ≤ (k : Int) + 1 ∧ (k : Int) + 1 ≤ n) := by omega
 have hic : k ≤ cap := by omega
 have hjc : k + 1 ≤ cap := by omega
 have hk1 : k + (n - (k + 1)) = n - 1 := by omega
 have hc1 : n - (n - 1) = 1 := by omega
 obtain ⟨cu2, hcu2⟩ : ∃ cu2 : List Value, cu2 = cur.toList.take (k * 3) ++ news ++ cur.toList.drop (k * 3 + news.length) := ⟨_, rfl⟩
 have hl2 : cu2.length = cur.size := by
  rw [hcu2]
  simp only [List.length_append, List.length_take, List.length_drop, hlen, Array.length_toList]
  omega
 rw [← hcu2] at hW1
 have hg1 : W1.heap[blk]? = some (.cells cu2.toArray 96 (0, 0)) := by rw [hW1]; exact setRow_heap w.drew blk cur _ 96 (0, 0) hw1
 obtain ⟨W2, hW2⟩ : ∃ W2, W2 = W1.setRow blk (cu2.take ((n - 1) * 3) ++ [iv 0, iv 0, iv 0] ++ cu2.drop ((n - 1) * 3 + 3)).toArray := ⟨_, rfl⟩
 have hcl : (Builtin.clear_ #[28] 0 #[.slice (some ⟨blk, (k + (n - (k + 1))) * 3, none⟩) (n - (k + (n - (k + 1)))) (cap - (k + (n - (k + 1))))]).run Try.prog W1 = .ok (.tuple #[]) W2 := by
  have hst := run_storeCells_at Try.prog blk ((n - 1) * 3) 96 [iv 0, iv 0, iv 0] 0 cu2.toArray W1 hg1 (by simp only [List.size_toArray, List.length_cons, List.length_nil, hl2]; omega) (by simp [Value.oneCell'])
  simp only [Nat.add_zero, List.length_cons, List.length_nil] at hst
  rw [hk1, hc1, hW2]
  have hu := under_slice tok28 rfl
  obtain ⟨i0, z, q1, q2, q3, q4, q5⟩ := tok96.row
  have hzv : (zeroValue 96).run Try.prog W1 = .ok z W1 := by simp [zeroValue, typeInfo, q1, q3]
  have hzc : (Builtin.zeroCells z.cells 1).toList = [iv 0, iv 0, iv 0] := by
   rw [show ([iv 0, iv 0, iv 0] : List Value) = ti96.zero from rfl, ← q4]
   unfold Builtin.zeroCells
   apply List.ext_getElem
   · simp
   · intro j g1 g2
     simp at g1 g2
     simp [Nat.mod_eq_of_lt g1, g1]
  simp [Builtin.clear_, run_underlying hu, hzv, hzc, hst]
 have hfin : W2.os = w.os ∧ W2.tape = w.tape ∧ W2.output = w.output ∧ W2.heap.size = w.heap.size ∧ (∀ b, b ≠ blk → W2.heap[b]? = w.heap[b]?) ∧ W2.heap[blk]? = some (.cells (dlC cur.toList n k).toArray 96 (0, 0)) := by
  have hd : dlC cur.toList n k = cu2.take ((n - 1) * 3) ++ [iv 0, iv 0, iv 0] ++ cu2.drop ((n - 1) * 3 + 3) := by
   unfold dlC
   rw [hcu2, hlen, hnews]
  rw [hd, hW2]
  refine ⟨by rw [hW1]; rfl, by rw [hW1]; rfl, by rw [hW1]; rfl, by rw [hW1]; simp [World.setRow], fun b hb => ?_, setRow_heap W1 blk _ _ 96 (0, 0) hg1⟩
  rw [setRow_other W1 blk b _ hb, hW1, setRow_other w.drew blk b _ hb]
  rfl
 have hfin' : Hid _ := hfin
 have hk1' : Hid (k + (n - (k + 1)) = n - 1) := hk1
 clear hk1 hW1 hnews hlen hw hw1 hone hc hfin hW2 hg1 hcu2 hl2 hc1
 go_enter Try.func81, Try.ntmps81
 go_wp2_with fail
 go_region_law_o fail
 go_wp2
 go_ret
 refine ⟨?_, hfin'.out⟩
 rw [hk1'.out]
 rfl
end Go.Proofs.Ythfabodamhdhaaa
