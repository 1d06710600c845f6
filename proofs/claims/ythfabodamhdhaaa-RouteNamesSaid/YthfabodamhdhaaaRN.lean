/- What is wrong with a stop, with the stops of a season: what these functions return. -/
import Derived.Test.YthfabodamhdhaaaRM
namespace Go.Proofs.Ythfabodamhdhaaa.Tx
open Go Go.RowKit
set_option linter.unusedSimpArgs false
set_option linter.unusedVariables false
theorem beqF {a b : Nat} (h : a ≠ b) : Nat.beq a b = false := by
 cases hb : Nat.beq a b with
 | false => rfl
 | true => exact absurd (Nat.eq_of_beq_eq_true hb) h
theorem callN {P : Program} {σ : Sg} {k : Nat} {args : List SV} {rs : List Nat} {K : Ef → Prop} {KF : Option KT} (nb : Nat) (rb : List Nat) (V : SV) (l : List SV) (ty : TypeId)
 (hB : efB σ ⟨V, [nb], [(nb, .cells l ty)], [], rb⟩ = true)
 (h : ∀ β w, (∀ i ∈ rb, ∀ b, lk σ.m i = some b → b.ok β w (β i)) → σ.h w → Calls P k (SV.cs β args).toArray w fun e w' => ∃ b, e = .returned (V.c fun i => bif Nat.beq i nb then b else β i) ∧ w.heap.size ≤ b ∧ Below w.heap.size w w' ∧
  (Blk.cells l ty).ok (fun i => bif Nat.beq i nb then b else β i) w' b)
 (hK : K ⟨V, [nb], [(nb, .cells l ty)], rs, rb⟩) : CallEv P σ k args (efB σ) rs K KF :=
 .mk ⟨V, [nb], [(nb, .cells l ty)], [], rb⟩ hB (fun β w h1 _ hst => (h β w h1 (hst w (Chg.refl _ _))).mono fun e w' ⟨b, he, hb, hB, ho⟩ => by
  have e1 : Nat.beq nb nb = true := Nat.beq_refl nb
  refine ⟨_, he, ?_, ⟨hB.os, hB.tape, hB.output, hB.size, fun i hi _ => hB.block i hi⟩, ?_, ?_, ?_⟩
  · intro i hi
    have h1 : ¬ i = nb := fun e => hi (by simp [e])
    simp only [beqF h1, cond_false]
  · intro i bk hm
    simp only [List.mem_singleton, Prod.mk.injEq] at hm
    obtain ⟨rfl, rfl⟩ := hm
    simp only [e1, cond_true]
    exact ho
  · intro i hi hl
    obtain ⟨bk, hm, _⟩ := hl
    simp only [List.mem_singleton, Prod.mk.injEq] at hm
    obtain ⟨rfl, _⟩ := hm
    simp only [e1, cond_true]
    exact .inl hb
  · intro i hi j hj hl hl' hne
    obtain ⟨bk, hm, _⟩ := hl
    obtain ⟨bk', hm', _⟩ := hl'
    simp only [List.mem_singleton, Prod.mk.injEq] at hm hm'
    exact absurd (hm.1.trans hm'.1.symm) hne) hK
theorem slHiS {P : Program} (T : Env P) {dst : Option Tmp} {ty : TypeId} {pos : String} {after : Array Edge} {gd : Option (Nat × Bool)} {gs : List Nat} {σ : Sg} {K : Ef → Prop} {KF : Option KT} {t e n c z i o : Nat} {x hi : Operand} {k : IntKind}
 {sz : Nat} {zr : List Value} {by_ : Nat} {ti : TI} (hx : gv σ x = some (.sl i o n c)) (hl : gv σ hi = some (.v (.int k z))) (ht : T.ty t = some ⟨sz, zr, by_, .slice e⟩) (he : T.ty e = some ti) (hc : z ≤ c)
 (hB : efB σ ⟨.sl i o z c, [], [], gs ++ (os x ++ os hi), []⟩ = true) (hK : K ⟨.sl i o z c, [], [], gs ++ (os x ++ os hi), []⟩) : OpEvS P ⟨dst, .slice t x none (some hi) none, ty, pos, after, gd⟩ gs σ K KF := by
 refine .mk _ hB (fun k hk => by simp [hk]) rfl (runOK_pure fun β a w hss => ?_) hK
 have e1 := gv_eval hss hx (fun k hk => by simp [hk])
 have e2 := gv_eval hss hl (fun k hk => by simp [hk])
 have hu := under_slice (T.tok t _ ht) rfl
 have hel : P.elem t = e := by simp [Program.elem, hu]
 have hu' : P.underlying t = some (.slice (P.elem t)) := by rw [hel]; exact hu
 have hsz := (T.tok e ti he).run_sizeOf w
 simp only [execOp, Option.map_some, Option.map_none, e1, e2, SV.c, Sem.run_bind, Sem.run_pure, Result.andThen_ok]
 rw [run_sliceAt_slice w t _ _ _ _ hu', run_slice_h w t _ _ _ hu' _ _ (by omega) (by omega), hel, hsz]
 simp only [Result.andThen_ok, sliced, Int.toNat_natCast, Option.map_some, Nat.zero_mul, Nat.sub_zero]
 have h0 : (⟨β i, o, none⟩ : Addr).add 0 = ⟨β i, o, none⟩ := by simp [Addr.add]
 rw [h0, ite_self]
end Go.Proofs.Ythfabodamhdhaaa.Tx
namespace Go.Proofs.Ythfabodamhdhaaa
open Go Tx Go.RowKit
set_option linter.unusedSimpArgs false
set_option linter.unusedVariables false
abbrev tsF (p : Nat × Nat) : List Value := [.int .u8 p.1, .func (.func p.2) #[] #[]]
def TS : List (Nat × Nat) := [(1, 144), (2, 145), (3, 146), (4, 148), (5, 150), (6, 153), (7, 154)]
def tsA (x : To) (S : List (Int × Int × Int)) (i : Nat) (k f l : Int) : List Bool := [ts1 x k, ts2 x k, ts3 x k f l, ts4 x k f l, ts5 S i k, ts6 x S i k f, ts7 x S i k l]
def fstT : List Bool → Nat → Nat
 | [], _ => 0
 | b :: r, n => if b = true then n + 1 else fstT r (n + 1)
def fltO (x : To) (S : List (Int × Int × Int)) (i : Nat) (k f l : Int) (m : Nat) : Nat := fstT ((tsA x S i k f l).take m) 0
theorem fstT_yes : ∀ {L : List Bool} {j n : Nat}, (∀ i, i < j → L[i]? = some false) → L[j]? = some true → fstT L n = n + j + 1
 | b :: r, 0, n, _, h => by
  simp only [List.getElem?_cons_zero, Option.some.injEq] at h
  rw [fstT, if_pos h]
 | b :: r, j + 1, n, h1, h => by
  have h0 := h1 0 (by omega)
  simp only [List.getElem?_cons_zero, Option.some.injEq] at h0
  subst h0
  rw [fstT, if_neg (by decide), fstT_yes (j := j) (fun i hi => by simpa using h1 (i + 1) (by omega)) (by simpa using h)]
  omega
theorem fstT_no : ∀ {L : List Bool} {n : Nat}, (∀ i, i < L.length → L[i]? = some false) → fstT L n = 0
 | [], _, _ => rfl
 | b :: r, n, h1 => by
  have h0 := h1 0 (by simp)
  simp only [List.getElem?_cons_zero, Option.some.injEq] at h0
  subst h0
  rw [fstT, if_neg (by decide)]
  exact fstT_no fun i hi => by simpa using h1 (i + 1) (by simp; omega)
theorem fltO_le (x : To) (S : List (Int × Int × Int)) (i : Nat) (k f l : Int) (m : Nat) : fltO x S i k f l m ≤ 7 := by
 have : ∀ (L : List Bool) (n : Nat), fstT L n ≤ n + L.length := by
  intro L
  induction L with
  | nil => intro n; simp [fstT]
  | cons b r ih =>
   intro n
   have := ih (n + 1)
   rw [fstT]
   split <;> simp only [List.length_cons] <;> omega
 have h := this ((tsA x S i k f l).take m) 0
 have h2 : ((tsA x S i k f l).take m).length ≤ 7 := by rw [List.length_take]; exact Nat.min_le_right _ _
 unfold fltO; omega
theorem lic_bd {x : To} (hn : ToN x) {k f l : Int} (h1 : 1 ≤ k ∧ k < x.T.length) (h4 : ts4 x k f l = false) : (0 ≤ f ∧ f ≤ 59) ∧ 0 ≤ l ∧ l ≤ 59 := by
 simp only [ts4, Bool.not_eq_false', licB, List.any_eq_true, inB, Bool.and_eq_true, decide_eq_true_eq] at h4
 obtain ⟨r, hr, h5⟩ := h4
 obtain ⟨t, ht⟩ : ∃ t, x.T[k.toNat]? = some t := ⟨_, List.getElem?_eq_getElem (by omega)⟩
 have htw : twO x k = t := by simp [twO, ht]
 rw [htw] at hr
 have hb := hn.t k.toNat (by omega) t ht
 have hd := hn.d
 have hop : ∀ (O : List (Int × Int)) (last : Int), apB x.days last O = true → -1 ≤ last → ∀ r ∈ O, 0 ≤ r.1 ∧ r.2 ≤ x.days - 1 := by
  intro O
  induction O with
  | nil => intro _ _ _ r hr; cases hr
  | cons q O ih =>
   intro last h hl r hr
   simp only [apB, Bool.and_eq_true, decide_eq_true_eq] at h
   rcases List.mem_cons.1 hr with rfl | hr
   · omega
   · exact ih q.2 h.2 (by omega) r hr
 simp only [twB, Bool.and_eq_true] at hb
 have h6 := hop t.O (-1) hb.2.1 (by omega) r hr
 omega
set_option maxHeartbeats 4000000 in
set_option maxRecDepth 100000 in
theorem fault_ok (x : Tr) (o : Option Addr) (c : Nat) (S : List (Int × Int × Int)) (i : Nat) (k f l : Int) (ta : Addr) (tac m : Nat) (w : World) (h : TrIn x w) (hn : ToN x.d) (hS : SpIn o c S w) (hi : S[i]? = some (k, f, l)) (hm : m ≤ 7)
 (hr : ∀ j p, j < m → TS[j]? = some p → ∀ q v, (tsF p)[q]? = some v → w.cell? ((ta.add (j * 2)).add q) = some v) :
 Calls Try.prog 108 #[x.v, .slice o S.length c, iv i, .slice (some ta) m tac] w fun e w' => e = .returned (.int .u8 (fltO x.d S i k f l m)) ∧ Below w.heap.size w w' := by
 have hlen : x.d.T.length = x.T.length := List.length_map ..
 have e0 : ∀ (j a b : Nat), j < m → TS[j]? = some (a, b) → ∀ (w' : World), Below w.heap.size w w' → ∀ q v, [Value.int .u8 a, Value.func (.func b) #[] #[]][q]? = some v → w'.cell? ((ta.add ((j : Int).toNat * 2)).add q) = some v := fun j a b hj hp w' hb q v hv => by
  rw [Int.toNat_natCast]
  exact ext_below hb (hr j _ hj hp q v hv)
 refine calls_val env mixed Try.func108 has108 Try.ntmps108 [.agg #[iv x.days, iv x.shift, iv x.size, .slice x.to x.T.length x.tc, .slice x.lo x.L.length x.lc], .slice o S.length c, iv i, .slice (some ta) m tac] (by simp) ?_
 repeat'
  conv => whnf
  first
   | refine zA ?_ | refine zB ?_ | refine zC ?_ | refine zD ?_ | refine zE ?_ | refine zF ?_ | refine zG ?_ | refine zH ?_ | refine zJ ?_ | refine zI ?_ | refine splT ?_ | refine splF ?_ | refine splNot ?_
   | ((first | refine splIn ?_ ?_ | refine splD ?_ ?_ | refine splE ?_ ?_ | refine splNE ?_ ?_) <;> intro hc <;> first | (exfalso; omega) | (exfalso; dsimp only at hc; omega) | skip)
 refine loopE (fun j : Nat => [(1, .v (.slice o S.length c)), (2, .v (iv i)), (4, .ptr 0 0), (8, .v (.int .u8 0)), (11, .v (.slice (some ta) m tac)), (12, .v (iv m)), (13, .v (iv j))]) (fun _ => [(0, .cells [.v (iv x.days), .v (iv x.shift), .v (iv x.size), .v (.slice x.to x.T.length x.tc), .v (.slice x.lo x.L.length x.lc)] 35)]) (fun j => j ≤ m ∧ ∀ j', j' < j → (tsA x.d S i k f l)[j']? = some false) (fun j => m - j) 0 ⟨Nat.zero_le _, fun j' hj' => by omega⟩ ⟨rfl, rfl, rfl, rfl, rfl, rfl, rfl, trivial⟩ ⟨rfl, trivial⟩ (fun _ => ⟨rfl, rfl⟩) ?_
 intro j ⟨hj, hall⟩
 rcases Nat.lt_or_ge j m with hlt | hge
 · obtain rfl | rfl | rfl | rfl | rfl | rfl | rfl : j = 0 ∨ j = 1 ∨ j = 2 ∨ j = 3 ∨ j = 4 ∨ j = 5 ∨ j = 6 := by omega
   · -- test 1
     have e1 := fun w' hw' => e0 0 1 144 hlt rfl w' hw'
     have ht := fun w' hb => test1_ok x o c S i k f l w' (h.below hb) hn (hS.below hb) hi
     obtain ⟨b, hb0⟩ : ∃ b, ts1 x.d k = b := ⟨_, rfl⟩
     rw [hb0] at ht
     have hb : (tsA x.d S i k f l)[0]? = some b := by rw [← hb0]; rfl
     cases b with
     | false =>
      have hall' : ∀ j', j' < 0 + 1 → (tsA x.d S i k f l)[j']? = some false := fun j' hj' => by
       rcases (by omega : j' = 0 ∨ j' < 0) with rfl | h
       · exact hb
       · exact hall j' h
      clear hall hn
      obtain ⟨days, shift, size, to, tc, T, lo, lc, L⟩ := x
      repeat'
       conv => whnf
       first
        | refine zA ?_ | refine zB ?_ | refine zC ?_ | refine zD ?_ | refine zE ?_ | refine zF ?_ | refine zG ?_ | refine zH ?_ | refine zJ ?_ | refine zI ?_ | refine splT ?_ | refine splF ?_ | refine splNot ?_
        | ((first | refine splIn ?_ ?_ | refine splD ?_ ?_ | refine splE ?_ ?_ | refine splNE ?_ ?_) <;> intro hc <;> first | (exfalso; omega) | (exfalso; dsimp only at hc; omega) | skip)
        | refine Exists.intro (α := List Value) [.int .u8 (1 : Nat), .func (.func 144) #[] #[]] ⟨⟨rfl, fun w' hw' => e1 w' hw'⟩, ?_⟩
        | ((with_reducible show CallEv _ _ 144 _ _ _ _ _); refine callE (k := 144) (fun β w' hbw => ht _ hbw) ?_)
      all_goals first | (exfalso; omega) | exact ⟨0 + 1, ⟨by omega, hall'⟩, by omega, Ent.weak rfl ⟨rfl, rfl, rfl, rfl, rfl, rfl, rfl, trivial⟩ ⟨rfl, trivial⟩ fun _ h => h⟩
     | true =>
      have hv : fltO x.d S i k f l m = 1 := by
       unfold fltO
       rw [fstT_yes (j := 0) (fun i' hi' => by rw [List.getElem?_take, if_pos (by omega)]; exact hall i' hi') (by rw [List.getElem?_take, if_pos (by omega)]; exact hb)]
      rw [hv]
      clear hall hn hv
      obtain ⟨days, shift, size, to, tc, T, lo, lc, L⟩ := x
      repeat'
       conv => whnf
       first
        | refine zA ?_ | refine zB ?_ | refine zC ?_ | refine zD ?_ | refine zE ?_ | refine zF ?_ | refine zG ?_ | refine zH ?_ | refine zJ ?_ | refine zI ?_ | refine splT ?_ | refine splF ?_ | refine splNot ?_
        | ((first | refine splIn ?_ ?_ | refine splD ?_ ?_ | refine splE ?_ ?_ | refine splNE ?_ ?_) <;> intro hc <;> first | (exfalso; omega) | (exfalso; dsimp only at hc; omega) | skip)
        | refine Exists.intro (α := List Value) [.int .u8 (1 : Nat), .func (.func 144) #[] #[]] ⟨⟨rfl, fun w' hw' => e1 w' hw'⟩, ?_⟩
        | ((with_reducible show CallEv _ _ 144 _ _ _ _ _); refine callE (k := 144) (fun β w' hbw => ht _ hbw) ?_)
      all_goals first | (exfalso; omega) | exact ⟨fun β => rfl, fun w' h => h⟩
   · -- test 2
     have e1 := fun w' hw' => e0 1 2 145 hlt rfl w' hw'
     have hkk : 1 ≤ k ∧ k < x.T.length := by
      have h0 := hall 0 (by omega)
      simp only [tsA, List.getElem?_cons_zero, Option.some.injEq, ts1, hlen, inB, Bool.not_eq_false', Bool.and_eq_true, decide_eq_true_eq] at h0
      omega
     have ht := fun w' hb => test2_ok x o c S i k f l w' (h.below hb) hn (hS.below hb) hi hkk
     obtain ⟨b, hb0⟩ : ∃ b, ts2 x.d k = b := ⟨_, rfl⟩
     rw [hb0] at ht
     have hb : (tsA x.d S i k f l)[1]? = some b := by rw [← hb0]; rfl
     cases b with
     | false =>
      have hall' : ∀ j', j' < 1 + 1 → (tsA x.d S i k f l)[j']? = some false := fun j' hj' => by
       rcases (by omega : j' = 1 ∨ j' < 1) with rfl | h
       · exact hb
       · exact hall j' h
      clear hall hn
      obtain ⟨days, shift, size, to, tc, T, lo, lc, L⟩ := x
      repeat'
       conv => whnf
       first
        | refine zA ?_ | refine zB ?_ | refine zC ?_ | refine zD ?_ | refine zE ?_ | refine zF ?_ | refine zG ?_ | refine zH ?_ | refine zJ ?_ | refine zI ?_ | refine splT ?_ | refine splF ?_ | refine splNot ?_
        | ((first | refine splIn ?_ ?_ | refine splD ?_ ?_ | refine splE ?_ ?_ | refine splNE ?_ ?_) <;> intro hc <;> first | (exfalso; omega) | (exfalso; dsimp only at hc; omega) | skip)
        | refine Exists.intro (α := List Value) [.int .u8 (2 : Nat), .func (.func 145) #[] #[]] ⟨⟨rfl, fun w' hw' => e1 w' hw'⟩, ?_⟩
        | ((with_reducible show CallEv _ _ 145 _ _ _ _ _); refine callE (k := 145) (fun β w' hbw => ht _ hbw) ?_)
      all_goals first | (exfalso; omega) | exact ⟨1 + 1, ⟨by omega, hall'⟩, by omega, Ent.weak rfl ⟨rfl, rfl, rfl, rfl, rfl, rfl, rfl, trivial⟩ ⟨rfl, trivial⟩ fun _ h => h⟩
     | true =>
      have hv : fltO x.d S i k f l m = 2 := by
       unfold fltO
       rw [fstT_yes (j := 1) (fun i' hi' => by rw [List.getElem?_take, if_pos (by omega)]; exact hall i' hi') (by rw [List.getElem?_take, if_pos (by omega)]; exact hb)]
      rw [hv]
      clear hall hn hv
      obtain ⟨days, shift, size, to, tc, T, lo, lc, L⟩ := x
      repeat'
       conv => whnf
       first
        | refine zA ?_ | refine zB ?_ | refine zC ?_ | refine zD ?_ | refine zE ?_ | refine zF ?_ | refine zG ?_ | refine zH ?_ | refine zJ ?_ | refine zI ?_ | refine splT ?_ | refine splF ?_ | refine splNot ?_
        | ((first | refine splIn ?_ ?_ | refine splD ?_ ?_ | refine splE ?_ ?_ | refine splNE ?_ ?_) <;> intro hc <;> first | (exfalso; omega) | (exfalso; dsimp only at hc; omega) | skip)
        | refine Exists.intro (α := List Value) [.int .u8 (2 : Nat), .func (.func 145) #[] #[]] ⟨⟨rfl, fun w' hw' => e1 w' hw'⟩, ?_⟩
        | ((with_reducible show CallEv _ _ 145 _ _ _ _ _); refine callE (k := 145) (fun β w' hbw => ht _ hbw) ?_)
      all_goals first | (exfalso; omega) | exact ⟨fun β => rfl, fun w' h => h⟩
   · -- test 3
     have e1 := fun w' hw' => e0 2 3 146 hlt rfl w' hw'
     have hkk : 1 ≤ k ∧ k < x.T.length := by
      have h0 := hall 0 (by omega)
      simp only [tsA, List.getElem?_cons_zero, Option.some.injEq, ts1, hlen, inB, Bool.not_eq_false', Bool.and_eq_true, decide_eq_true_eq] at h0
      omega
     have ht := fun w' hb => test3_ok x o c S i k f l w' (h.below hb) hn (hS.below hb) hi hkk
     obtain ⟨b, hb0⟩ : ∃ b, ts3 x.d k f l = b := ⟨_, rfl⟩
     rw [hb0] at ht
     have hb : (tsA x.d S i k f l)[2]? = some b := by rw [← hb0]; rfl
     cases b with
     | false =>
      have hall' : ∀ j', j' < 2 + 1 → (tsA x.d S i k f l)[j']? = some false := fun j' hj' => by
       rcases (by omega : j' = 2 ∨ j' < 2) with rfl | h
       · exact hb
       · exact hall j' h
      clear hall hn
      obtain ⟨days, shift, size, to, tc, T, lo, lc, L⟩ := x
      repeat'
       conv => whnf
       first
        | refine zA ?_ | refine zB ?_ | refine zC ?_ | refine zD ?_ | refine zE ?_ | refine zF ?_ | refine zG ?_ | refine zH ?_ | refine zJ ?_ | refine zI ?_ | refine splT ?_ | refine splF ?_ | refine splNot ?_
        | ((first | refine splIn ?_ ?_ | refine splD ?_ ?_ | refine splE ?_ ?_ | refine splNE ?_ ?_) <;> intro hc <;> first | (exfalso; omega) | (exfalso; dsimp only at hc; omega) | skip)
        | refine Exists.intro (α := List Value) [.int .u8 (3 : Nat), .func (.func 146) #[] #[]] ⟨⟨rfl, fun w' hw' => e1 w' hw'⟩, ?_⟩
        | ((with_reducible show CallEv _ _ 146 _ _ _ _ _); refine callE (k := 146) (fun β w' hbw => ht _ hbw) ?_)
      all_goals first | (exfalso; omega) | exact ⟨2 + 1, ⟨by omega, hall'⟩, by omega, Ent.weak rfl ⟨rfl, rfl, rfl, rfl, rfl, rfl, rfl, trivial⟩ ⟨rfl, trivial⟩ fun _ h => h⟩
     | true =>
      have hv : fltO x.d S i k f l m = 3 := by
       unfold fltO
       rw [fstT_yes (j := 2) (fun i' hi' => by rw [List.getElem?_take, if_pos (by omega)]; exact hall i' hi') (by rw [List.getElem?_take, if_pos (by omega)]; exact hb)]
      rw [hv]
      clear hall hn hv
      obtain ⟨days, shift, size, to, tc, T, lo, lc, L⟩ := x
      repeat'
       conv => whnf
       first
        | refine zA ?_ | refine zB ?_ | refine zC ?_ | refine zD ?_ | refine zE ?_ | refine zF ?_ | refine zG ?_ | refine zH ?_ | refine zJ ?_ | refine zI ?_ | refine splT ?_ | refine splF ?_ | refine splNot ?_
        | ((first | refine splIn ?_ ?_ | refine splD ?_ ?_ | refine splE ?_ ?_ | refine splNE ?_ ?_) <;> intro hc <;> first | (exfalso; omega) | (exfalso; dsimp only at hc; omega) | skip)
        | refine Exists.intro (α := List Value) [.int .u8 (3 : Nat), .func (.func 146) #[] #[]] ⟨⟨rfl, fun w' hw' => e1 w' hw'⟩, ?_⟩
        | ((with_reducible show CallEv _ _ 146 _ _ _ _ _); refine callE (k := 146) (fun β w' hbw => ht _ hbw) ?_)
      all_goals first | (exfalso; omega) | exact ⟨fun β => rfl, fun w' h => h⟩
   · -- test 4
     have e1 := fun w' hw' => e0 3 4 148 hlt rfl w' hw'
     have hkk : 1 ≤ k ∧ k < x.T.length := by
      have h0 := hall 0 (by omega)
      simp only [tsA, List.getElem?_cons_zero, Option.some.injEq, ts1, hlen, inB, Bool.not_eq_false', Bool.and_eq_true, decide_eq_true_eq] at h0
      omega
     have ht := fun w' hb => test4_ok x o c S i k f l w' (h.below hb) hn (hS.below hb) hi hkk
     obtain ⟨b, hb0⟩ : ∃ b, ts4 x.d k f l = b := ⟨_, rfl⟩
     rw [hb0] at ht
     have hb : (tsA x.d S i k f l)[3]? = some b := by rw [← hb0]; rfl
     cases b with
     | false =>
      have hall' : ∀ j', j' < 3 + 1 → (tsA x.d S i k f l)[j']? = some false := fun j' hj' => by
       rcases (by omega : j' = 3 ∨ j' < 3) with rfl | h
       · exact hb
       · exact hall j' h
      clear hall hn
      obtain ⟨days, shift, size, to, tc, T, lo, lc, L⟩ := x
      repeat'
       conv => whnf
       first
        | refine zA ?_ | refine zB ?_ | refine zC ?_ | refine zD ?_ | refine zE ?_ | refine zF ?_ | refine zG ?_ | refine zH ?_ | refine zJ ?_ | refine zI ?_ | refine splT ?_ | refine splF ?_ | refine splNot ?_
        | ((first | refine splIn ?_ ?_ | refine splD ?_ ?_ | refine splE ?_ ?_ | refine splNE ?_ ?_) <;> intro hc <;> first | (exfalso; omega) | (exfalso; dsimp only at hc; omega) | skip)
        | refine Exists.intro (α := List Value) [.int .u8 (4 : Nat), .func (.func 148) #[] #[]] ⟨⟨rfl, fun w' hw' => e1 w' hw'⟩, ?_⟩
        | ((with_reducible show CallEv _ _ 148 _ _ _ _ _); refine callE (k := 148) (fun β w' hbw => ht _ hbw) ?_)
      all_goals first | (exfalso; omega) | exact ⟨3 + 1, ⟨by omega, hall'⟩, by omega, Ent.weak rfl ⟨rfl, rfl, rfl, rfl, rfl, rfl, rfl, trivial⟩ ⟨rfl, trivial⟩ fun _ h => h⟩
     | true =>
      have hv : fltO x.d S i k f l m = 4 := by
       unfold fltO
       rw [fstT_yes (j := 3) (fun i' hi' => by rw [List.getElem?_take, if_pos (by omega)]; exact hall i' hi') (by rw [List.getElem?_take, if_pos (by omega)]; exact hb)]
      rw [hv]
      clear hall hn hv
      obtain ⟨days, shift, size, to, tc, T, lo, lc, L⟩ := x
      repeat'
       conv => whnf
       first
        | refine zA ?_ | refine zB ?_ | refine zC ?_ | refine zD ?_ | refine zE ?_ | refine zF ?_ | refine zG ?_ | refine zH ?_ | refine zJ ?_ | refine zI ?_ | refine splT ?_ | refine splF ?_ | refine splNot ?_
        | ((first | refine splIn ?_ ?_ | refine splD ?_ ?_ | refine splE ?_ ?_ | refine splNE ?_ ?_) <;> intro hc <;> first | (exfalso; omega) | (exfalso; dsimp only at hc; omega) | skip)
        | refine Exists.intro (α := List Value) [.int .u8 (4 : Nat), .func (.func 148) #[] #[]] ⟨⟨rfl, fun w' hw' => e1 w' hw'⟩, ?_⟩
        | ((with_reducible show CallEv _ _ 148 _ _ _ _ _); refine callE (k := 148) (fun β w' hbw => ht _ hbw) ?_)
      all_goals first | (exfalso; omega) | exact ⟨fun β => rfl, fun w' h => h⟩
   · -- test 5
     have e1 := fun w' hw' => e0 4 5 150 hlt rfl w' hw'
     have hkk : 1 ≤ k ∧ k < x.T.length := by
      have h0 := hall 0 (by omega)
      simp only [tsA, List.getElem?_cons_zero, Option.some.injEq, ts1, hlen, inB, Bool.not_eq_false', Bool.and_eq_true, decide_eq_true_eq] at h0
      omega
     have ht := fun w' hb => test5_ok x o c S i k f l w' (h.below hb) hn (hS.below hb) hi
     obtain ⟨b, hb0⟩ : ∃ b, ts5 S i k = b := ⟨_, rfl⟩
     rw [hb0] at ht
     have hb : (tsA x.d S i k f l)[4]? = some b := by rw [← hb0]; rfl
     cases b with
     | false =>
      have hall' : ∀ j', j' < 4 + 1 → (tsA x.d S i k f l)[j']? = some false := fun j' hj' => by
       rcases (by omega : j' = 4 ∨ j' < 4) with rfl | h
       · exact hb
       · exact hall j' h
      clear hall hn
      obtain ⟨days, shift, size, to, tc, T, lo, lc, L⟩ := x
      repeat'
       conv => whnf
       first
        | refine zA ?_ | refine zB ?_ | refine zC ?_ | refine zD ?_ | refine zE ?_ | refine zF ?_ | refine zG ?_ | refine zH ?_ | refine zJ ?_ | refine zI ?_ | refine splT ?_ | refine splF ?_ | refine splNot ?_
        | ((first | refine splIn ?_ ?_ | refine splD ?_ ?_ | refine splE ?_ ?_ | refine splNE ?_ ?_) <;> intro hc <;> first | (exfalso; omega) | (exfalso; dsimp only at hc; omega) | skip)
        | refine Exists.intro (α := List Value) [.int .u8 (5 : Nat), .func (.func 150) #[] #[]] ⟨⟨rfl, fun w' hw' => e1 w' hw'⟩, ?_⟩
        | ((with_reducible show CallEv _ _ 150 _ _ _ _ _); refine callE (k := 150) (fun β w' hbw => ht _ hbw) ?_)
      all_goals first | (exfalso; omega) | exact ⟨4 + 1, ⟨by omega, hall'⟩, by omega, Ent.weak rfl ⟨rfl, rfl, rfl, rfl, rfl, rfl, rfl, trivial⟩ ⟨rfl, trivial⟩ fun _ h => h⟩
     | true =>
      have hv : fltO x.d S i k f l m = 5 := by
       unfold fltO
       rw [fstT_yes (j := 4) (fun i' hi' => by rw [List.getElem?_take, if_pos (by omega)]; exact hall i' hi') (by rw [List.getElem?_take, if_pos (by omega)]; exact hb)]
      rw [hv]
      clear hall hn hv
      obtain ⟨days, shift, size, to, tc, T, lo, lc, L⟩ := x
      repeat'
       conv => whnf
       first
        | refine zA ?_ | refine zB ?_ | refine zC ?_ | refine zD ?_ | refine zE ?_ | refine zF ?_ | refine zG ?_ | refine zH ?_ | refine zJ ?_ | refine zI ?_ | refine splT ?_ | refine splF ?_ | refine splNot ?_
        | ((first | refine splIn ?_ ?_ | refine splD ?_ ?_ | refine splE ?_ ?_ | refine splNE ?_ ?_) <;> intro hc <;> first | (exfalso; omega) | (exfalso; dsimp only at hc; omega) | skip)
        | refine Exists.intro (α := List Value) [.int .u8 (5 : Nat), .func (.func 150) #[] #[]] ⟨⟨rfl, fun w' hw' => e1 w' hw'⟩, ?_⟩
        | ((with_reducible show CallEv _ _ 150 _ _ _ _ _); refine callE (k := 150) (fun β w' hbw => ht _ hbw) ?_)
      all_goals first | (exfalso; omega) | exact ⟨fun β => rfl, fun w' h => h⟩
   · -- test 6
     have e1 := fun w' hw' => e0 5 6 153 hlt rfl w' hw'
     have hkk : 1 ≤ k ∧ k < x.T.length := by
      have h0 := hall 0 (by omega)
      simp only [tsA, List.getElem?_cons_zero, Option.some.injEq, ts1, hlen, inB, Bool.not_eq_false', Bool.and_eq_true, decide_eq_true_eq] at h0
      omega
     have hlb := lic_bd hn (k := k) (f := f) (l := l) (by rw [hlen]; exact hkk) (by
      have h3 := hall 3 (by omega)
      simp only [tsA, List.getElem?_cons_succ, List.getElem?_cons_zero, Option.some.injEq] at h3
      exact h3)
     have ht := fun w' hb => test6_ok x o c S i k f l w' (h.below hb) hn (hS.below hb) hi hkk hlb.1
     obtain ⟨b, hb0⟩ : ∃ b, ts6 x.d S i k f = b := ⟨_, rfl⟩
     rw [hb0] at ht
     have hb : (tsA x.d S i k f l)[5]? = some b := by rw [← hb0]; rfl
     cases b with
     | false =>
      have hall' : ∀ j', j' < 5 + 1 → (tsA x.d S i k f l)[j']? = some false := fun j' hj' => by
       rcases (by omega : j' = 5 ∨ j' < 5) with rfl | h
       · exact hb
       · exact hall j' h
      clear hall hn
      obtain ⟨days, shift, size, to, tc, T, lo, lc, L⟩ := x
      repeat'
       conv => whnf
       first
        | refine zA ?_ | refine zB ?_ | refine zC ?_ | refine zD ?_ | refine zE ?_ | refine zF ?_ | refine zG ?_ | refine zH ?_ | refine zJ ?_ | refine zI ?_ | refine splT ?_ | refine splF ?_ | refine splNot ?_
        | ((first | refine splIn ?_ ?_ | refine splD ?_ ?_ | refine splE ?_ ?_ | refine splNE ?_ ?_) <;> intro hc <;> first | (exfalso; omega) | (exfalso; dsimp only at hc; omega) | skip)
        | refine Exists.intro (α := List Value) [.int .u8 (6 : Nat), .func (.func 153) #[] #[]] ⟨⟨rfl, fun w' hw' => e1 w' hw'⟩, ?_⟩
        | ((with_reducible show CallEv _ _ 153 _ _ _ _ _); refine callE (k := 153) (fun β w' hbw => ht _ hbw) ?_)
      all_goals first | (exfalso; omega) | exact ⟨5 + 1, ⟨by omega, hall'⟩, by omega, Ent.weak rfl ⟨rfl, rfl, rfl, rfl, rfl, rfl, rfl, trivial⟩ ⟨rfl, trivial⟩ fun _ h => h⟩
     | true =>
      have hv : fltO x.d S i k f l m = 6 := by
       unfold fltO
       rw [fstT_yes (j := 5) (fun i' hi' => by rw [List.getElem?_take, if_pos (by omega)]; exact hall i' hi') (by rw [List.getElem?_take, if_pos (by omega)]; exact hb)]
      rw [hv]
      clear hall hn hv
      obtain ⟨days, shift, size, to, tc, T, lo, lc, L⟩ := x
      repeat'
       conv => whnf
       first
        | refine zA ?_ | refine zB ?_ | refine zC ?_ | refine zD ?_ | refine zE ?_ | refine zF ?_ | refine zG ?_ | refine zH ?_ | refine zJ ?_ | refine zI ?_ | refine splT ?_ | refine splF ?_ | refine splNot ?_
        | ((first | refine splIn ?_ ?_ | refine splD ?_ ?_ | refine splE ?_ ?_ | refine splNE ?_ ?_) <;> intro hc <;> first | (exfalso; omega) | (exfalso; dsimp only at hc; omega) | skip)
        | refine Exists.intro (α := List Value) [.int .u8 (6 : Nat), .func (.func 153) #[] #[]] ⟨⟨rfl, fun w' hw' => e1 w' hw'⟩, ?_⟩
        | ((with_reducible show CallEv _ _ 153 _ _ _ _ _); refine callE (k := 153) (fun β w' hbw => ht _ hbw) ?_)
      all_goals first | (exfalso; omega) | exact ⟨fun β => rfl, fun w' h => h⟩
   · -- test 7
     have e1 := fun w' hw' => e0 6 7 154 hlt rfl w' hw'
     have hkk : 1 ≤ k ∧ k < x.T.length := by
      have h0 := hall 0 (by omega)
      simp only [tsA, List.getElem?_cons_zero, Option.some.injEq, ts1, hlen, inB, Bool.not_eq_false', Bool.and_eq_true, decide_eq_true_eq] at h0
      omega
     have hlb := lic_bd hn (k := k) (f := f) (l := l) (by rw [hlen]; exact hkk) (by
      have h3 := hall 3 (by omega)
      simp only [tsA, List.getElem?_cons_succ, List.getElem?_cons_zero, Option.some.injEq] at h3
      exact h3)
     have ht := fun w' hb => test7_ok x o c S i k f l w' (h.below hb) hn (hS.below hb) hi hkk hlb.2
     obtain ⟨b, hb0⟩ : ∃ b, ts7 x.d S i k l = b := ⟨_, rfl⟩
     rw [hb0] at ht
     have hb : (tsA x.d S i k f l)[6]? = some b := by rw [← hb0]; rfl
     cases b with
     | false =>
      have hall' : ∀ j', j' < 6 + 1 → (tsA x.d S i k f l)[j']? = some false := fun j' hj' => by
       rcases (by omega : j' = 6 ∨ j' < 6) with rfl | h
       · exact hb
       · exact hall j' h
      clear hall hn
      obtain ⟨days, shift, size, to, tc, T, lo, lc, L⟩ := x
      repeat'
       conv => whnf
       first
        | refine zA ?_ | refine zB ?_ | refine zC ?_ | refine zD ?_ | refine zE ?_ | refine zF ?_ | refine zG ?_ | refine zH ?_ | refine zJ ?_ | refine zI ?_ | refine splT ?_ | refine splF ?_ | refine splNot ?_
        | ((first | refine splIn ?_ ?_ | refine splD ?_ ?_ | refine splE ?_ ?_ | refine splNE ?_ ?_) <;> intro hc <;> first | (exfalso; omega) | (exfalso; dsimp only at hc; omega) | skip)
        | refine Exists.intro (α := List Value) [.int .u8 (7 : Nat), .func (.func 154) #[] #[]] ⟨⟨rfl, fun w' hw' => e1 w' hw'⟩, ?_⟩
        | ((with_reducible show CallEv _ _ 154 _ _ _ _ _); refine callE (k := 154) (fun β w' hbw => ht _ hbw) ?_)
      all_goals first | (exfalso; omega) | exact ⟨6 + 1, ⟨by omega, hall'⟩, by omega, Ent.weak rfl ⟨rfl, rfl, rfl, rfl, rfl, rfl, rfl, trivial⟩ ⟨rfl, trivial⟩ fun _ h => h⟩
     | true =>
      have hv : fltO x.d S i k f l m = 7 := by
       unfold fltO
       rw [fstT_yes (j := 6) (fun i' hi' => by rw [List.getElem?_take, if_pos (by omega)]; exact hall i' hi') (by rw [List.getElem?_take, if_pos (by omega)]; exact hb)]
      rw [hv]
      clear hall hn hv
      obtain ⟨days, shift, size, to, tc, T, lo, lc, L⟩ := x
      repeat'
       conv => whnf
       first
        | refine zA ?_ | refine zB ?_ | refine zC ?_ | refine zD ?_ | refine zE ?_ | refine zF ?_ | refine zG ?_ | refine zH ?_ | refine zJ ?_ | refine zI ?_ | refine splT ?_ | refine splF ?_ | refine splNot ?_
        | ((first | refine splIn ?_ ?_ | refine splD ?_ ?_ | refine splE ?_ ?_ | refine splNE ?_ ?_) <;> intro hc <;> first | (exfalso; omega) | (exfalso; dsimp only at hc; omega) | skip)
        | refine Exists.intro (α := List Value) [.int .u8 (7 : Nat), .func (.func 154) #[] #[]] ⟨⟨rfl, fun w' hw' => e1 w' hw'⟩, ?_⟩
        | ((with_reducible show CallEv _ _ 154 _ _ _ _ _); refine callE (k := 154) (fun β w' hbw => ht _ hbw) ?_)
      all_goals first | (exfalso; omega) | exact ⟨fun β => rfl, fun w' h => h⟩
 · obtain rfl : j = m := by omega
   have hv : fltO x.d S i k f l j = 0 := by
    unfold fltO
    refine fstT_no fun i' hi' => ?_
    rw [List.length_take] at hi'
    rw [List.getElem?_take, if_pos (by omega)]
    exact hall i' (by omega)
   rw [hv]
   clear hall hn hv
   obtain ⟨days, shift, size, to, tc, T, lo, lc, L⟩ := x
   repeat'
    conv => whnf
    first
     | refine zA ?_ | refine zB ?_ | refine zC ?_ | refine zD ?_ | refine zE ?_ | refine zF ?_ | refine zG ?_ | refine zH ?_ | refine zJ ?_ | refine zI ?_ | refine splT ?_ | refine splF ?_ | refine splNot ?_
     | ((first | refine splIn ?_ ?_ | refine splD ?_ ?_ | refine splE ?_ ?_ | refine splNE ?_ ?_) <;> intro hc <;> first | (exfalso; omega) | (exfalso; dsimp only at hc; omega) | skip)
   all_goals first | (exfalso; omega) | exact ⟨fun β => rfl, fun w' h => h⟩
abbrev tsL : List SV := [.v (.int .u8 1), .v (.func (.func 144) #[] #[]), .v (.int .u8 2), .v (.func (.func 145) #[] #[]), .v (.int .u8 3), .v (.func (.func 146) #[] #[]), .v (.int .u8 4), .v (.func (.func 148) #[] #[]), .v (.int .u8 5), .v (.func (.func 150) #[] #[]), .v (.int .u8 6), .v (.func (.func 153) #[] #[]), .v (.int .u8 7), .v (.func (.func 154) #[] #[])]
theorem tests_ok (w : World) : Calls Try.prog 109 #[] w fun e w' => ∃ b, e = .returned (.slice (some ⟨b, 0, none⟩) 7 7) ∧ w.heap.size ≤ b ∧ Below w.heap.size w w' ∧ ∀ β, (Blk.cells tsL 192).ok β w' b := by
 refine calls_fam2 env mixed Try.func109 has109 Try.ntmps109 [] (by simp) ?_
 repeat'
  conv => whnf
  first
   | refine zA ?_ | refine zB ?_ | refine zC ?_ | refine zD ?_ | refine zE ?_ | refine zF ?_ | refine zG ?_ | refine zH ?_ | refine zJ ?_ | refine zI ?_ | refine splT ?_ | refine splF ?_ | refine splNot ?_
   | ((first | refine splIn ?_ ?_ | refine splD ?_ ?_ | refine splE ?_ ?_ | refine splNE ?_ ?_) <;> intro hc <;> first | (exfalso; omega) | (exfalso; dsimp only at hc; omega) | skip)
 exact ⟨fun w' h => h, fun β w' hB hB2 hblk => ⟨β 0, rfl, (hblk 0 _ rfl rfl).1, hB2, fun _ => (hblk 0 _ rfl rfl).2⟩⟩
theorem ts_hr {b m : Nat} {β : Nat → Nat} {w : World} (h : (Blk.cells tsL 192).ok β w b) : ∀ j p, j < m → TS[j]? = some p → ∀ q v, (tsF p)[q]? = some v → w.cell? (((⟨b, 0, none⟩ : Addr).add (j * 2)).add q) = some v := fun j p _ hp => by
 have h2 : w.heap[b]? = some (.cells (TS.flatMap tsF).toArray 192 (0, 0)) := h
 exact rd_at (Rd.of_cells (f := tsF) (sz := 2) (c := 7) (fun _ => rfl) rfl h2) hp
set_option maxHeartbeats 1000000 in
set_option maxRecDepth 100000 in
theorem alone_ok (x : Tr) (k f l : Int) (w : World) (h : TrIn x w) (hn : ToN x.d) (hb : (-1000000000 ≤ f ∧ f ≤ 1000000000) ∧ -1000000000 ≤ l ∧ l ≤ 1000000000) :
 Calls Try.prog 115 #[x.v, .agg #[iv k, iv f, iv l]] w fun e w' => e = .returned (.bool (decide (fltO x.d [(k, f, l)] 0 k f l 4 = 0))) ∧ Below w.heap.size w w' := by
 have hfl := fltO_le x.d [(k, f, l)] 0 k f l 4
 have h108 := fun (w' : World) (hw' : Below w.heap.size w w') (so bt : Nat) (h1 : w'.heap[so]? = some (.cells [iv k, iv f, iv l].toArray 96 (0, 0))) (β : Nat → Nat) (h2 : (Blk.cells tsL 192).ok β w' bt) =>
  fault_ok x (some ⟨so, 0, none⟩) 1 [(k, f, l)] 0 k f l ⟨bt, 0, none⟩ 7 4 w' (h.below hw') hn ⟨Rd.of_cells (f := spF) (sz := 3) (bs := [(k, f, l)]) (c := 1) (fun _ => rfl) rfl h1, by simp, by simp, fun s hs => by rw [List.mem_singleton.1 hs]; dsimp only; omega⟩ rfl (by decide) (ts_hr h2)
 generalize fltO x.d [(k, f, l)] 0 k f l 4 = F at *
 refine calls_val env mixed Try.func115 has115 Try.ntmps115 [.agg #[iv x.days, iv x.shift, iv x.size, .slice x.to x.T.length x.tc, .slice x.lo x.L.length x.lc], .agg #[iv k, iv f, iv l]] (by simp) ?_
 clear hn h
 obtain ⟨days, shift, size, to, tc, T, lo, lc, L⟩ := x
 repeat'
  conv => whnf
  first
   | refine zA ?_ | refine zB ?_ | refine zC ?_ | refine zD ?_ | refine zE ?_ | refine zF ?_ | refine zG ?_ | refine zH ?_ | refine zJ ?_ | refine zI ?_ | refine splT ?_ | refine splF ?_ | refine splNot ?_
   | ((first | refine splIn ?_ ?_ | refine splD ?_ ?_ | refine splE ?_ ?_ | refine splNE ?_ ?_) <;> intro hc <;> first | (exfalso; omega) | (exfalso; dsimp only at hc; omega) | skip)
   | ((with_reducible show CallEv _ _ 109 _ _ _ _ _); refine callN 3 [] (.sl 3 0 7 7) tsL 192 rfl (fun β w' _ hbw => (tests_ok w').mono fun e w2 ⟨b, h1, h2, h3, h4⟩ => ⟨b, h1, h2, h3, h4 _⟩) ?_)
   | refine slHiS env (z := 4) rfl rfl rfl rfl (by omega) rfl ?_
   | ((with_reducible show CallEv _ _ 108 _ _ _ _ _); refine callM [2, 3] (fun β w' hbk hbw => h108 w' hbw (β 2) (β 3) (hbk 2 (by simp) _ rfl) β (hbk 3 (by simp) _ rfl)) ?_)
 all_goals first | (exfalso; omega) | exact ⟨fun β => congrArg Value.bool (by rw [Bool.eq_iff_iff, beq_iff_eq, decide_eq_true_eq]; omega), fun w' h => h⟩
end Go.Proofs.Ythfabodamhdhaaa
