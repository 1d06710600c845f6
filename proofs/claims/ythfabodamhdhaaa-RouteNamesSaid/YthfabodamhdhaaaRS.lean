/- The next stop of a best season: what step returns. -/
import Derived.Test.YthfabodamhdhaaaRR
namespace Go.Proofs.Ythfabodamhdhaaa.Tx
open Go Go.RowKit
set_option linter.unusedSimpArgs false
set_option linter.unusedVariables false
theorem calls_WSV {P : Program} (T : Env P) (hm : P.follows .mixedOrders = true) {k : Nat} {fn : Func} {c : Code} (hfn : P.funcs[k]? = some fn) (hb : fn.body = some c) {nt : Nat} (hnt : fn.ntmps = nt) (args : List SV) (m0 m1 : List (Nat × Blk)) (nb0 : Nat) (v : Value)
 (hlen : args.length ≤ nt) (hargs : SV.lts nb0 args = true) (hm0 : mB nb0 m0 = true) (hm1 : mB nb0 m1 = true) (hlive : ∀ i b, lk m0 i = some b → b.live = true)
 {Hp : World → Prop} (hvc : ∀ h : World → Prop, (∀ w', h w' → Hp w') → VC P c ⟨nt, slotsOf 0 args, m0, nb0, h, ⟨pinG nb0, [], 0⟩⟩ (endΦ T fn fun s σ => (∀ β, s.c β = v) ∧ MSub σ.m m1 ∧ (∀ w', σ.h w' → h w') ∧ σ.z.g = pinG nb0))
 {β : Nat → Nat} {w : World} (hok : ∀ i b, lk m0 i = some b → b.ok β w (β i)) (hinj : ∀ i j bi bj, lk m0 i = some bi → lk m0 j = some bj → i ≠ j → β i ≠ β j) (hst : ∀ w', Chg (fun b => ∃ i bk, lk m0 i = some bk ∧ β i = b) w w' → Hp w') :
 Calls P k (SV.cs β args).toArray w fun e w' => e = .returned v ∧ Chg (fun b => ∃ i bk, lk m0 i = some bk ∧ β i = b) w w' ∧ ∀ i b, lk m1 i = some b → b.ok β w' (β i) := by
 have hmk := okB (nt := 0) (t := []) (m := m0) (nb := nb0) (h := fun _ => True) (z := ⟨[], [], 0⟩) rfl hm0 rfl
 have hm1k := okB (nt := 0) (t := []) (m := m1) (nb := nb0) (h := fun _ => True) (z := ⟨[], [], 0⟩) rfl hm1 rfl
 let D : Nat → Prop := fun b => b < w.heap.size ∧ ¬ ∃ i bk, lk m0 i = some bk ∧ β i = b
 let h0 : World → Prop := fun w' => Chg (fun b => ∃ i bk, lk m0 i = some bk ∧ β i = b) w w'
 let X : Cx := ⟨fun k => .pointer (some ⟨β k, 0, none⟩), [], []⟩
 have hmem : Mem ⟨nt, slotsOf 0 args, m0, nb0, h0, ⟨pinG nb0, [], 0⟩⟩ β D w :=
  ⟨hok, fun i j bi bj h1 h2 _ _ hne => hinj i j bi bj h1 h2 hne, fun i b hi _ hD => hD.2 ⟨i, b, hi, rfl⟩, fun b hD => hD.1,
   fun w' hc => ⟨hc.os, hc.tape, hc.output, hc.size, fun b hb hX => hc.same b hb (fun hD => hD ⟨hb, hX⟩)⟩⟩
 have hamb : Amb X ⟨pinG nb0, [], 0⟩ β D w :=
  ⟨fun k s hk => by rw [(pinG_all hk).2]; rfl, fun p hp => (by cases hp), fun i e hi => (by simp [lk] at hi), rfl, List.nodup_nil, fun d hd => (by cases hd)⟩
 have hg0 : ∀ k s, lk (pinG nb0) k = some s → s.lt nb0 = true := fun k s hk => by
  obtain ⟨h1, h2⟩ := pinG_all hk
  subst h2
  simp only [SV.lt, Nat.blt_eq]; exact h1
 refine (calls_VC T hm hfn hb hnt (args := args) (m0 := m0) (nb0 := nb0) (h := h0) (z0 := ⟨pinG nb0, [], 0⟩) hlen hargs hmk.wf.m hg0 (hvc h0 hst) X hamb hmem).mono fun e w' ⟨s, σ', β', D', he, ⟨h1, h2, h3, h4⟩, h5, h6, h7, h8⟩ => ?_
 have hpin : ∀ i, i < nb0 → β' i = β i := fun i hi => by
  have := h8.g i (.ptr i 0) (by rw [h4]; exact pinG_lk hi)
  simp only [X, SV.c, Value.pointer.injEq, Option.some.injEq, Addr.mk.injEq] at this
  exact this.1.symm
 refine ⟨by rw [he, h1], h3 w' (h7.h w' (Chg.refl _ _)), fun i b hi => ?_⟩
 obtain ⟨q1, q2⟩ := hm1k.wf.m i b hi
 have := h7.m i b (h2.get i b hi)
 rw [hpin i q1] at this
 exact Blk.ok_nm (fun j hj => (hpin j hj).symm) b q2 this
end Go.Proofs.Ythfabodamhdhaaa.Tx
namespace Go.Proofs.Ythfabodamhdhaaa
open Go Tx Go.RowKit
set_option linter.unusedSimpArgs false
set_option linter.unusedVariables false
def spI (x : To) (S a : Nat) (tot : Int) (t f l : Nat) : Bool := decide (gnO x t f l - csO x a t + hmO x (ALO x) (S ||| 2 ^ t) t (l + 1) = tot)
def spE (x : To) (S a d : Nat) (tot : Int) : Bool := (decide (S = 0) && decide (tot = 0)) || (decide (S ≠ 0) && (decide (lsO x a 0 + d ≤ x.days) && decide (tot = -csO x a 0)))
def spT (x : To) (S a d : Nat) (tot : Int) (t : Nat) : Option (Nat × Nat × Nat) := if S.testBit t = true then none else
 (List.range (x.days.toNat - (d + lsN x a t))).findSome? fun q => ((ALO x t (d + lsN x a t + q)).find? (spI x S a tot t (d + lsN x a t + q))).map fun l => (t, d + lsN x a t + q, l)
def spO (x : To) (S a d : Nat) : Option (Nat × Nat × Nat) := if spE x S a d (hmO x (ALO x) S a d) = true then none else (List.range (x.T.length - 1)).findSome? fun i => spT x S a d (hmO x (ALO x) S a d) (i + 1)
def spV : Option (Nat × Nat × Nat) → Value
 | some s => .tuple #[.agg #[iv s.1, iv s.2.1, iv s.2.2], .bool true]
 | none => .tuple #[.agg #[iv 0, iv 0, iv 0], .bool false]
theorem fs_yes {α : Type} {g : Nat → Option α} {n k : Nat} {v : α} (h : ∀ i, i < k → g i = none) (hk : k < n) (hv : g k = some v) : (List.range n).findSome? g = some v := by
 obtain ⟨m, rfl⟩ : ∃ m, n = k + (m + 1) := ⟨n - k - 1, by omega⟩
 rw [List.range_add, List.findSome?_append]
 have h1 : (List.range k).findSome? g = none := List.findSome?_eq_none_iff.2 fun i hi => h i (List.mem_range.1 hi)
 rw [h1, Option.none_or, List.range_succ_eq_map, List.map_cons, List.findSome?_cons, Nat.add_zero, hv]
theorem fs_no {α : Type} {g : Nat → Option α} {n : Nat} (h : ∀ i, i < n → g i = none) : (List.range n).findSome? g = none := List.findSome?_eq_none_iff.2 fun i hi => h i (List.mem_range.1 hi)
theorem ALp_pre (x : To) (a d : Nat) {j : Nat} : ∀ m, ∃ r, ALp x a d (j + m) = ALp x a d j ++ r
 | 0 => ⟨[], by simp⟩
 | m + 1 => by
  obtain ⟨r, h⟩ := ALp_pre x a d (j := j) m
  show ∃ r, ALp x a d (j + m + 1) = _
  simp only [ALp]
  split
  · exact ⟨r ++ [((d : Int) + ((twO x a).s1 + (j + m : Nat)) - 1).toNat], by rw [h, List.append_assoc]⟩
  · exact ⟨r, h⟩
theorem find_yes {x : To} {a d j N l : Nat} {p : Nat → Bool} (h0 : (ALp x a d j).find? p = none) (hs : ALp x a d (j + 1) = ALp x a d j ++ [l]) (hj : j < N) (hp : p l = true) : (ALp x a d N).find? p = some l := by
 obtain ⟨r, hr⟩ := ALp_pre x a d (j := j + 1) (N - (j + 1))
 rw [show j + 1 + (N - (j + 1)) = N from by omega] at hr
 rw [hr, hs, List.append_assoc, List.find?_append, h0, Option.none_or]
 simp [hp]
section
variable {x : Tr} {AL : Nat → Nat → List Nat} {aa : Alp} {an ac b1 b2 : Nat}
theorem calls_PV {k : Nat} {fn : Func} {c : Code} (hfn : Try.prog.funcs[k]? = some fn) (hb : fn.body = some c) {nt : Nat} (hnt : fn.ntmps = nt) (args : List SV) (v : Value) (hlen : args.length ≤ nt) (hargs : SV.lts 6 args = true)
 (hvc : ∀ h : World → Prop, (∀ w', h w' → Hp x AL aa w') → VC Try.prog c ⟨nt, slotsOf 0 args, MB x AL aa an ac b1 b2, 6, h, ⟨pinG 6, [], 0⟩⟩ (endΦ env fn fun s σ => (∀ β, s.c β = v) ∧ MSub σ.m (MB x AL aa an ac b1 b2) ∧ (∀ w', σ.h w' → h w') ∧ σ.z.g = pinG 6))
 {β : Nat → Nat} {w : World} (hp : PS x AL aa an ac b1 b2 β w) (hst : ∀ w', Chg (fun b => ∃ i, i < 6 ∧ β i = b) w w' → Hp x AL aa w') :
 Calls Try.prog k (SV.cs β args).toArray w fun e w' => e = .returned v ∧ Chg (fun b => b = b1 ∨ b = b2) w w' ∧ PS x AL aa an ac b1 b2 β w' := by
 refine (calls_WSV env mixed hfn hb hnt args (MB x AL aa an ac b1 b2) (MB x AL aa an ac b1 b2) 6 v hlen hargs rfl rfl (fun i b h => (lkMB h).2) (Hp := Hp x AL aa) hvc hp.o (fun i j bi bj hi hj hne => hp.inj i j (lkMB hi).1 (lkMB hj).1 hne) (fun w' hc => hst w' ⟨hc.os, hc.tape, hc.output, hc.size, fun b hbl hn => hc.same b hbl fun ⟨i, bk, h1, h2⟩ => hn ⟨i, (lkMB h1).1, h2⟩⟩)).mono
  fun e w' ⟨h1, h2, h3⟩ => ⟨h1, ⟨h2.os, h2.tape, h2.output, h2.size, fun b hbl hn => ?_⟩, ⟨h3, hp.inj⟩⟩
 by_cases hex : ∃ i bk, lk (MB x AL aa an ac b1 b2) i = some bk ∧ β i = b
 · obtain ⟨i, bk, hi, rfl⟩ := hex
   have q1 := hp.o i bk hi
   have q2 := h3 i bk hi
   have hm := lk_mem hi
   simp only [MB, List.mem_cons, Prod.mk.injEq, List.not_mem_nil, or_false] at hm
   rcases hm with ⟨rfl, rfl⟩ | ⟨rfl, rfl⟩ | ⟨rfl, rfl⟩ | ⟨rfl, rfl⟩ | ⟨rfl, rfl⟩ | ⟨rfl, rfl⟩
   · exact absurd (.inl q1.1) hn
   · exact absurd (.inr q1.1) hn
   all_goals (simp only [Blk.ok] at q1 q2; rw [q1, q2])
 · exact h2.same b hbl hex
end
set_option maxHeartbeats 4000000 in
set_option maxRecDepth 100000 in
theorem step_ok (x : Tr) (aa : Alp) (an ac b1 b2 : Nat) (S a d : Nat) (han : an = x.T.length) (hn : ToN x.d) (hS : S < 512) (ha : a < x.T.length) (hd : d ≤ 100) (β : Nat → Nat) (w : World) (hp : PS x (ALO x.d) aa an ac b1 b2 β w)
 (hst : ∀ w', Chg (fun b => ∃ i, i < 6 ∧ β i = b) w w' → Hp x (ALO x.d) aa w') :
 Calls Try.prog 58 #[.pointer (some ⟨β 2, 0, none⟩), stK S a d] w fun e w' => e = .returned (spV (spO x.d S a d)) ∧ Chg (fun b => b = b1 ∨ b = b2) w w' ∧ PS x (ALO x.d) aa an ac b1 b2 β w' := by
 have hw0 := hst w (Chg.refl _ _)
 have hA := ALO_ok hn
 have hPA := plan_all (x := x) (AL := ALO x.d) (aa := aa) (ac := ac) (b1 := b1) (b2 := b2) han hn hA (ALO_len hn)
 have hH0 := (hPA _ S hS rfl).1 a d ha hd
 have hbd0 := hmO_bd hn hA S a d
 have h72 := fun w' (h : Hp x (ALO x.d) aa w') => lost_ok x a 0 w' h.1 hn ha (by have := hn.n; simp [Tr.d] at this; omega)
 have hls := hn.lost a
 have hlg := hn.leg a
 have hday := hn.d
 have hnT := hn.n
 have hlT := hn.l
 have hlr := hn.lr
 have hmS : (x.d.T.length) = x.T.length := List.length_map ..
 obtain ⟨days, shift, size, to, tc, T, lo, lc, L⟩ := x
 dsimp only [Tr.d] at hnT hlT hlr hday
 dsimp only at ha han
 simp only [List.length_map] at hnT hlT hlr
 have hrowL : ∃ ra rc row, L[a]? = some ⟨some ra, rc, row⟩ ∧ row.length = T.length ∧ lo ≠ none ∧ to ≠ none ∧ ∀ w', Hp ⟨days, shift, size, to, tc, T, lo, lc, L⟩ (ALO (Tr.d ⟨days, shift, size, to, tc, T, lo, lc, L⟩)) aa w' → Rd 2 prF (.slice (some ra) T.length rc) row w' := by
  obtain ⟨⟨ro, rc, row⟩, hr⟩ : ∃ r, L[a]? = some r := ⟨_, List.getElem?_eq_getElem (by omega)⟩
  have hrl := (hlr row (List.mem_of_getElem? (i := a) (by rw [List.getElem?_map, hr]; rfl))).1
  have h1 := hw0.1.li _ (List.mem_of_getElem? hr)
  dsimp only at h1
  obtain ⟨_, ra, rfl, _⟩ := h1.ptr (show 1 ≤ row.length by omega)
  obtain ⟨_, la, rfl, _⟩ := hw0.1.l.ptr (show 1 ≤ L.length by omega)
  obtain ⟨_, ta, rfl, _⟩ := hw0.1.t.ptr (show 1 ≤ T.length by omega)
  refine ⟨ra, rc, row, hr, hrl, by simp, by simp, fun w' h => ?_⟩
  have := h.1.li _ (List.mem_of_getElem? hr)
  dsimp only at this
  rwa [hrl] at this
 obtain ⟨ra, rc, row, hrow, hrl, hlo, hto, hrd⟩ := hrowL
 obtain ⟨la, rfl⟩ := Option.ne_none_iff_exists'.1 hlo
 obtain ⟨ta, rfl⟩ := Option.ne_none_iff_exists'.1 hto
 have eL : ∀ w', Hp ⟨days, shift, size, some ta, tc, T, some la, lc, L⟩ (ALO (Tr.d ⟨days, shift, size, some ta, tc, T, some la, lc, L⟩)) aa w' → ∀ j v, [Value.slice (some ra) T.length rc][j]? = some v → w'.cell? ((la.add ((a : Int).toNat * 1)).add j) = some v := fun w' h => by
  have := rd_ati h.1.l hrow
  rw [show Lr.cs (⟨some ra, rc, row⟩ : Lr) = [Value.slice (some ra) T.length rc] from by show [Value.slice _ row.length _] = _; rw [hrl]] at this
  exact this
 have ec : ∀ (t : Nat), t < T.length → ∃ c, row[t]? = some c ∧ lgO (Tr.d ⟨days, shift, size, some ta, tc, T, some la, lc, L⟩) a t = c := fun t ht => by
  obtain ⟨c, hc⟩ : ∃ c, row[t]? = some c := ⟨_, List.getElem?_eq_getElem (by omega)⟩
  exact ⟨c, hc, by simp only [lgO, Tr.d, List.getElem?_map, hrow, Option.map_some, Option.getD_some, hc]⟩
 obtain ⟨⟨q1, q2⟩, hq, hq0⟩ := ec 0 (by omega)
 have hlq := hlg 0
 rw [hq0] at hlq
 have hcq : csO (Tr.d ⟨days, shift, size, some ta, tc, T, some la, lc, L⟩) a 0 = q2 := by unfold csO; rw [hq0]
 have eq0 : ∀ w', Hp ⟨days, shift, size, some ta, tc, T, some la, lc, L⟩ (ALO (Tr.d ⟨days, shift, size, some ta, tc, T, some la, lc, L⟩)) aa w' → ∀ j v, [iv q2][j]? = some v → w'.cell? (((ra.add ((0 : Int).toNat * 2)).add 1).add j) = some v := fun w' h => rd_fldz (hrd w' h) hq 0 rfl 1 (iv q2) rfl
 have hsE : spE (Tr.d ⟨days, shift, size, some ta, tc, T, some la, lc, L⟩) S a d (hmO (Tr.d ⟨days, shift, size, some ta, tc, T, some la, lc, L⟩) (ALO (Tr.d ⟨days, shift, size, some ta, tc, T, some la, lc, L⟩)) S a d) = ((decide (S = 0) && decide (hmO (Tr.d ⟨days, shift, size, some ta, tc, T, some la, lc, L⟩) (ALO (Tr.d ⟨days, shift, size, some ta, tc, T, some la, lc, L⟩)) S a d = 0)) || (decide (S ≠ 0) && (decide (lsO (Tr.d ⟨days, shift, size, some ta, tc, T, some la, lc, L⟩) a 0 + d ≤ days) && decide (hmO (Tr.d ⟨days, shift, size, some ta, tc, T, some la, lc, L⟩) (ALO (Tr.d ⟨days, shift, size, some ta, tc, T, some la, lc, L⟩)) S a d = -q2)))) := by unfold spE; rw [hcq]
 have hspO : spO (Tr.d ⟨days, shift, size, some ta, tc, T, some la, lc, L⟩) S a d = if spE (Tr.d ⟨days, shift, size, some ta, tc, T, some la, lc, L⟩) S a d (hmO (Tr.d ⟨days, shift, size, some ta, tc, T, some la, lc, L⟩) (ALO (Tr.d ⟨days, shift, size, some ta, tc, T, some la, lc, L⟩)) S a d) = true then none else (List.range (T.length - 1)).findSome? fun i => spT (Tr.d ⟨days, shift, size, some ta, tc, T, some la, lc, L⟩) S a d (hmO (Tr.d ⟨days, shift, size, some ta, tc, T, some la, lc, L⟩) (ALO (Tr.d ⟨days, shift, size, some ta, tc, T, some la, lc, L⟩)) S a d) (i + 1) := by unfold spO; rw [hmS]
 rw [hspO]
 clear hspO
 obtain ⟨tot, htot⟩ : ∃ tot, hmO (Tr.d ⟨days, shift, size, some ta, tc, T, some la, lc, L⟩) (ALO (Tr.d ⟨days, shift, size, some ta, tc, T, some la, lc, L⟩)) S a d = tot := ⟨_, rfl⟩
 have hl0 := hls 0
 generalize hg0 : lsO (Tr.d ⟨days, shift, size, some ta, tc, T, some la, lc, L⟩) a 0 = g0 at *
 refine calls_PV Try.func58 has58 Try.ntmps58 [.ptr 2 0, .v (stK S a d)] _ (by simp) rfl (fun h hh => ?_) hp hst
 have hH0t := hH0
 unfold HomeC at hH0t
 rw [htot] at hH0t
 unfold MB
 dsimp only
 rw [htot] at hsE hbd0 ⊢
 refine VC.cutE env mixed 3 11 (fun _ : Unit => [(2, .ptr 6 0), (3, .ptr 7 0), (4, .ptr 8 0), (5, .ptr 9 0), (6, .ptr 10 0)]) (fun _ => [(4, .obj b1 (MpOk Try.prog 118 (stD (hmO (Tr.d ⟨days, shift, size, some ta, tc, T, some la, lc, L⟩) (ALO (Tr.d ⟨days, shift, size, some ta, tc, T, some la, lc, L⟩)))))), (5, .obj b2 (MpOk Try.prog 118 (stD (bgO (Tr.d ⟨days, shift, size, some ta, tc, T, some la, lc, L⟩) (ALO (Tr.d ⟨days, shift, size, some ta, tc, T, some la, lc, L⟩)))))), (0, .cells [.ptr 2 0] 114), (1, .cells [.v (.map (some b1))] 169), (2, .cells [.v (iv days), .v (iv shift), .v (iv size), .v (.slice (some ta) T.length tc), .v (.slice (some la) L.length lc), .v (.slice (some aa.aa) an ac), .fn (.func 97) [.ptr 1 0, .ptr 0 0], .fn (.func 100) [.ptr 0 0, .ptr 3 0]] 122), (3, .cells [.v (.map (some b2))] 169), (6, .cells [.ptr 2 0] 114), (7, .cells [.v (.int .u64 S), .v (iv a), .v (iv d)] 118), (8, .cells [.v (iv 0), .v (iv 0), .v (iv 0)] 96), (9, .cells [.v (.bool false)] 4), (10, .cells [.v (iv tot)] 3)]) (fun _ => spE (Tr.d ⟨days, shift, size, some ta, tc, T, some la, lc, L⟩) S a d tot = false) (fun _ _ => ⟨rfl, rfl⟩) ?_ ?_
 · by_cases hE : spE (Tr.d ⟨days, shift, size, some ta, tc, T, some la, lc, L⟩) S a d tot = true
   · rw [if_pos hE]
     have hE2 : (S = 0 ∧ tot = 0) ∨ (S ≠ 0 ∧ (g0 + d ≤ days ∧ tot = -q2)) := by
      rw [hsE] at hE
      simp only [Bool.or_eq_true, Bool.and_eq_true, decide_eq_true_eq] at hE
      exact hE
     repeat'
      conv => whnf
      first
       | refine zA ?_ | refine zB ?_ | refine zC ?_ | refine zD ?_ | refine zE ?_ | refine zF ?_ | refine zG ?_ | refine zH ?_ | refine zJ ?_ | refine zI ?_ | refine splT ?_ | refine splF ?_ | refine splNot ?_
       | ((first | refine splIn ?_ ?_ | refine splD ?_ ?_ | refine splE ?_ ?_ | refine splNE ?_ ?_) <;> intro hc <;> first | (exfalso; omega) | (exfalso; dsimp only at hc; omega) | skip)
       | refine nilE rfl rfl ?_
       | ((with_reducible show CallEv _ _ 97 _ _ _ _ _); refine callWR [0, 1, 2, 3, 4, 5] [(4, .obj b1 (MpOk Try.prog 118 (stD (hmO (Tr.d ⟨days, shift, size, some ta, tc, T, some la, lc, L⟩) (ALO (Tr.d ⟨days, shift, size, some ta, tc, T, some la, lc, L⟩)))))), (5, .obj b2 (MpOk Try.prog 118 (stD (bgO (Tr.d ⟨days, shift, size, some ta, tc, T, some la, lc, L⟩) (ALO (Tr.d ⟨days, shift, size, some ta, tc, T, some la, lc, L⟩))))))] (iv tot) rfl (fun β w' h1 h2 hs2 => (hH0t β w' (PS.of (x := ⟨days, shift, size, some ta, tc, T, some la, lc, L⟩) (AL := (ALO (Tr.d ⟨days, shift, size, some ta, tc, T, some la, lc, L⟩))) (aa := aa) (an := an) (ac := ac) (b1 := b1) (b2 := b2) (six rfl rfl rfl rfl rfl rfl) h1 h2) (fun w2 hc => hh w2 (hs2 w2 (chg_six (x := ⟨days, shift, size, some ta, tc, T, some la, lc, L⟩) (AL := (ALO (Tr.d ⟨days, shift, size, some ta, tc, T, some la, lc, L⟩))) (aa := aa) (an := an) (ac := ac) (b1 := b1) (b2 := b2) (six rfl rfl rfl rfl rfl rfl) hc)))).mono fun e w2 ⟨e1, e2, e3⟩ => ⟨e1, (PS.of (x := ⟨days, shift, size, some ta, tc, T, some la, lc, L⟩) (AL := (ALO (Tr.d ⟨days, shift, size, some ta, tc, T, some la, lc, L⟩))) (aa := aa) (an := an) (ac := ac) (b1 := b1) (b2 := b2) (six rfl rfl rfl rfl rfl rfl) h1 h2).chg e2, e3.out⟩) ?_)
       | ((with_reducible show CallEv _ _ 72 _ _ _ _ _); refine callE (k := 72) (fun β w' hbw => h72 w' (hh w' hbw)) ?_)
       | refine Exists.intro (α := List Value) [.slice (some ra) T.length rc] ⟨⟨rfl, fun w' hw' => eL w' (hh w' hw')⟩, ?_⟩
       | refine Exists.intro (α := List Value) [iv q2] ⟨⟨rfl, fun w' hw' => eq0 w' (hh w' hw')⟩, ?_⟩
     all_goals first | (exfalso; omega) | exact ⟨fun β => rfl, ⟨rfl, rfl, rfl, rfl, rfl, rfl, trivial⟩, fun w' h => h, rfl⟩
   · have hE2 : ¬ ((S = 0 ∧ tot = 0) ∨ (S ≠ 0 ∧ (g0 + d ≤ days ∧ tot = -q2))) := fun hc => hE (by
      rw [hsE]
      simp only [Bool.or_eq_true, Bool.and_eq_true, decide_eq_true_eq]
      exact hc)
     rw [if_neg hE]
     repeat'
      conv => whnf
      first
       | refine zA ?_ | refine zB ?_ | refine zC ?_ | refine zD ?_ | refine zE ?_ | refine zF ?_ | refine zG ?_ | refine zH ?_ | refine zJ ?_ | refine zI ?_ | refine splT ?_ | refine splF ?_ | refine splNot ?_
       | ((first | refine splIn ?_ ?_ | refine splD ?_ ?_ | refine splE ?_ ?_ | refine splNE ?_ ?_) <;> intro hc <;> first | (exfalso; omega) | (exfalso; dsimp only at hc; omega) | skip)
       | refine nilE rfl rfl ?_
       | ((with_reducible show CallEv _ _ 97 _ _ _ _ _); refine callWR [0, 1, 2, 3, 4, 5] [(4, .obj b1 (MpOk Try.prog 118 (stD (hmO (Tr.d ⟨days, shift, size, some ta, tc, T, some la, lc, L⟩) (ALO (Tr.d ⟨days, shift, size, some ta, tc, T, some la, lc, L⟩)))))), (5, .obj b2 (MpOk Try.prog 118 (stD (bgO (Tr.d ⟨days, shift, size, some ta, tc, T, some la, lc, L⟩) (ALO (Tr.d ⟨days, shift, size, some ta, tc, T, some la, lc, L⟩))))))] (iv tot) rfl (fun β w' h1 h2 hs2 => (hH0t β w' (PS.of (x := ⟨days, shift, size, some ta, tc, T, some la, lc, L⟩) (AL := (ALO (Tr.d ⟨days, shift, size, some ta, tc, T, some la, lc, L⟩))) (aa := aa) (an := an) (ac := ac) (b1 := b1) (b2 := b2) (six rfl rfl rfl rfl rfl rfl) h1 h2) (fun w2 hc => hh w2 (hs2 w2 (chg_six (x := ⟨days, shift, size, some ta, tc, T, some la, lc, L⟩) (AL := (ALO (Tr.d ⟨days, shift, size, some ta, tc, T, some la, lc, L⟩))) (aa := aa) (an := an) (ac := ac) (b1 := b1) (b2 := b2) (six rfl rfl rfl rfl rfl rfl) hc)))).mono fun e w2 ⟨e1, e2, e3⟩ => ⟨e1, (PS.of (x := ⟨days, shift, size, some ta, tc, T, some la, lc, L⟩) (AL := (ALO (Tr.d ⟨days, shift, size, some ta, tc, T, some la, lc, L⟩))) (aa := aa) (an := an) (ac := ac) (b1 := b1) (b2 := b2) (six rfl rfl rfl rfl rfl rfl) h1 h2).chg e2, e3.out⟩) ?_)
       | ((with_reducible show CallEv _ _ 72 _ _ _ _ _); refine callE (k := 72) (fun β w' hbw => h72 w' (hh w' hbw)) ?_)
       | refine Exists.intro (α := List Value) [.slice (some ra) T.length rc] ⟨⟨rfl, fun w' hw' => eL w' (hh w' hw')⟩, ?_⟩
       | refine Exists.intro (α := List Value) [iv q2] ⟨⟨rfl, fun w' hw' => eq0 w' (hh w' hw')⟩, ?_⟩
     all_goals first | (exfalso; omega) | exact ⟨rfl, (), Bool.eq_false_iff.2 hE, Ent.weak rfl ⟨rfl, rfl, rfl, rfl, rfl, trivial⟩ ⟨rfl, rfl, rfl, rfl, rfl, rfl, rfl, rfl, rfl, rfl, rfl, trivial⟩ fun _ h => h⟩
 · intro _ hE
   rw [if_neg (by rw [hE]; decide)]
   refine VC.of env mixed ?_
   have hgb := fun (t f l : Nat) (h1 : 1 ≤ t) (hl : f ≤ l ∧ l < f + 10) => gn_bd hn (a := t) (d := f) (l := l) h1 hl
   have h99 := fun t ht w' b (h : Hp ⟨days, shift, size, some ta, tc, T, some la, lc, L⟩ (ALO (Tr.d ⟨days, shift, size, some ta, tc, T, some la, lc, L⟩)) aa w') hc => next_ok ⟨days, shift, size, some ta, tc, T, some la, lc, L⟩ S a d t b w' h.1 hn ha ht (by omega) hc
   have hTi := fun w' (h : Hp ⟨days, shift, size, some ta, tc, T, some la, lc, L⟩ (ALO (Tr.d ⟨days, shift, size, some ta, tc, T, some la, lc, L⟩)) aa w') => h.1.t
   repeat'
    conv => whnf
    first
     | refine zA ?_ | refine zB ?_ | refine zC ?_ | refine zD ?_ | refine zE ?_ | refine zF ?_ | refine zG ?_ | refine zH ?_ | refine zJ ?_ | refine zI ?_ | refine splT ?_ | refine splF ?_ | refine splNot ?_
     | ((first | refine splIn ?_ ?_ | refine splD ?_ ?_ | refine splE ?_ ?_ | refine splNE ?_ ?_) <;> intro hc <;> first | (exfalso; omega) | (exfalso; dsimp only at hc; omega) | skip)
   all_goals first | (exfalso; omega) | skip
   refine loopN 12 (fun i : Nat => [(2, .ptr 6 0), (3, .ptr 7 0), (4, .ptr 8 0), (5, .ptr 9 0), (6, .ptr 10 0), (7, .ptr 11 0)]) (fun i => [(4, .obj b1 (MpOk Try.prog 118 (stD (hmO (Tr.d ⟨days, shift, size, some ta, tc, T, some la, lc, L⟩) (ALO (Tr.d ⟨days, shift, size, some ta, tc, T, some la, lc, L⟩)))))), (5, .obj b2 (MpOk Try.prog 118 (stD (bgO (Tr.d ⟨days, shift, size, some ta, tc, T, some la, lc, L⟩) (ALO (Tr.d ⟨days, shift, size, some ta, tc, T, some la, lc, L⟩)))))), (0, .cells [.ptr 2 0] 114), (1, .cells [.v (.map (some b1))] 169), (2, .cells [.v (iv days), .v (iv shift), .v (iv size), .v (.slice (some ta) T.length tc), .v (.slice (some la) L.length lc), .v (.slice (some aa.aa) an ac), .fn (.func 97) [.ptr 1 0, .ptr 0 0], .fn (.func 100) [.ptr 0 0, .ptr 3 0]] 122), (3, .cells [.v (.map (some b2))] 169), (6, .cells [.ptr 2 0] 114), (7, .cells [.v (.int .u64 S), .v (iv a), .v (iv d)] 118), (8, .cells [.v (iv 0), .v (iv 0), .v (iv 0)] 96), (9, .cells [.v (.bool false)] 4), (10, .cells [.v (iv tot)] 3), (11, .cells [.v (iv (i + 1 : Nat))] 3)]) (fun i => i ≤ T.length - 1 ∧ ∀ i', i' < i → spT (Tr.d ⟨days, shift, size, some ta, tc, T, some la, lc, L⟩) S a d tot (i' + 1) = none) (fun i => T.length - 1 - i) 0 ⟨Nat.zero_le _, fun i' h => by omega⟩ ⟨rfl, rfl, rfl, rfl, rfl, rfl, trivial⟩ ⟨rfl, rfl, rfl, rfl, rfl, rfl, rfl, rfl, rfl, rfl, rfl, rfl, trivial⟩ (fun _ _ => ⟨rfl, rfl⟩) ?_
   intro i ⟨hi, hall⟩
   rcases Nat.lt_or_ge i (T.length - 1) with hil | hil
   · have hsr := sh_r (t := i + 1) hS (by omega)
     have hal := and_l (t := i + 1) hS
     cases hbt : S.testBit (i + 1) with
     | true =>
      have hno : spT (Tr.d ⟨days, shift, size, some ta, tc, T, some la, lc, L⟩) S a d tot (i + 1) = none := by unfold spT; rw [if_pos hbt]
      rw [show btI S (i + 1) = 1 from by unfold btI; rw [hbt]; rfl] at hal
      generalize ((S >>> (i + 1) : Nat) : Int) = SH at *
      repeat'
       conv => whnf
       first
        | refine zA ?_ | refine zB ?_ | refine zC ?_ | refine zD ?_ | refine zE ?_ | refine zF ?_ | refine zG ?_ | refine zH ?_ | refine zJ ?_ | refine zI ?_ | refine splT ?_ | refine splF ?_ | refine splNot ?_
        | ((first | refine splIn ?_ ?_ | refine splD ?_ ?_ | refine splE ?_ ?_ | refine splNE ?_ ?_) <;> intro hc <;> first | (exfalso; omega) | (exfalso; dsimp only at hc; omega) | skip)
        | refine Exists.intro (α := Value) (.int .u64 (i + 1 : Nat)) ⟨cvU (i + 1) (by omega), ?_⟩
        | refine Exists.intro (α := Int) SH ⟨⟨by omega, hsr.symm⟩, ?_⟩
        | refine Exists.intro (α := Int) 1 ⟨hal.symm, ?_⟩
        | refine nilE rfl rfl ?_
      all_goals first | (exfalso; omega) | exact ⟨i + 1, ⟨by omega, fun i' h => by rcases (by omega : i' < i ∨ i' = i) with h | rfl; exact hall i' h; exact hno⟩, by omega, Ent.ren (rho [(11, 12)]) rfl rfl ⟨rfl, rfl, rfl, rfl, rfl, rfl, trivial⟩ ⟨rfl, rfl, rfl, rfl, rfl, rfl, rfl, rfl, rfl, rfl, rfl, rfl, trivial⟩ fun _ h => h⟩
     | false =>
      rw [show btI S (i + 1) = 0 from by unfold btI; rw [hbt]; rfl] at hal
      obtain ⟨⟨p1, p2⟩, hpr, hpl⟩ := ec (i + 1) (by omega)
      have hlp := hlg (i + 1)
      rw [hpl] at hlp
      have hcp : csO (Tr.d ⟨days, shift, size, some ta, tc, T, some la, lc, L⟩) a (i + 1) = p2 := by unfold csO; rw [hpl]
      have ep : ∀ w', Hp ⟨days, shift, size, some ta, tc, T, some la, lc, L⟩ (ALO (Tr.d ⟨days, shift, size, some ta, tc, T, some la, lc, L⟩)) aa w' → ∀ j v, [iv p2][j]? = some v → w'.cell? (((ra.add (((i + 1 : Nat) : Int).toNat * 2)).add 1).add j) = some v := fun w' h => rd_fldz (hrd w' h) hpr _ rfl 1 (iv p2) rfl
      have hlsn := lsN_le hn a (i + 1)
      have hspT : spT (Tr.d ⟨days, shift, size, some ta, tc, T, some la, lc, L⟩) S a d tot (i + 1) = (List.range (days.toNat - (d + lsN (Tr.d ⟨days, shift, size, some ta, tc, T, some la, lc, L⟩) a (i + 1)))).findSome? fun q => ((ALO (Tr.d ⟨days, shift, size, some ta, tc, T, some la, lc, L⟩) (i + 1) (d + lsN (Tr.d ⟨days, shift, size, some ta, tc, T, some la, lc, L⟩) a (i + 1) + q)).find? (spI (Tr.d ⟨days, shift, size, some ta, tc, T, some la, lc, L⟩) S a tot (i + 1) (d + lsN (Tr.d ⟨days, shift, size, some ta, tc, T, some la, lc, L⟩) a (i + 1) + q))).map fun l => (i + 1, d + lsN (Tr.d ⟨days, shift, size, some ta, tc, T, some la, lc, L⟩) a (i + 1) + q, l) := by unfold spT; rw [if_neg (by rw [hbt]; decide)]
      obtain ⟨f0, hf0⟩ : ∃ f0, d + lsN (Tr.d ⟨days, shift, size, some ta, tc, T, some la, lc, L⟩) a (i + 1) = f0 := ⟨_, rfl⟩
      have h99t := fun w' b h hc => h99 (i + 1) (show i + 1 < T.length by omega) w' b h hc
      rw [hf0] at hspT h99t
      have hf0b : f0 ≤ 300 := by omega
      have hmx : imax 0 (f0 : Int) = f0 := by rw [imax_eq]; omega
      obtain ⟨tn, htn⟩ : ∃ t, T[i + 1]? = some t := ⟨_, List.getElem?_eq_getElem (by omega)⟩
      have htw : twO (Tr.d ⟨days, shift, size, some ta, tc, T, some la, lc, L⟩) ((i + 1 : Nat) : Int) = tn.d := twO_eq (x := ⟨days, shift, size, some ta, tc, T, some la, lc, L⟩) (k := ((i + 1 : Nat) : Int)) htn
      have htN := twN_of hn (a := i + 1) (by omega) (by simp only [Tr.d, List.length_map]; omega)
      have hAL0 : ∀ f, ALO (Tr.d ⟨days, shift, size, some ta, tc, T, some la, lc, L⟩) (i + 1) f = ALp (Tr.d ⟨days, shift, size, some ta, tc, T, some la, lc, L⟩) (i + 1) f ((twO (Tr.d ⟨days, shift, size, some ta, tc, T, some la, lc, L⟩) ((i + 1 : Nat) : Int)).s2 - (twO (Tr.d ⟨days, shift, size, some ta, tc, T, some la, lc, L⟩) ((i + 1 : Nat) : Int)).s1 + 1).toNat := fun f => by unfold ALO; rw [if_neg (by omega)]
      have hALs : ∀ f j, ALp (Tr.d ⟨days, shift, size, some ta, tc, T, some la, lc, L⟩) (i + 1) f (j + 1) = if aloB (Tr.d ⟨days, shift, size, some ta, tc, T, some la, lc, L⟩) ((i + 1 : Nat) : Int) f ((f : Int) + ((twO (Tr.d ⟨days, shift, size, some ta, tc, T, some la, lc, L⟩) ((i + 1 : Nat) : Int)).s1 + j) - 1) = true then ALp (Tr.d ⟨days, shift, size, some ta, tc, T, some la, lc, L⟩) (i + 1) f j ++ [((f : Int) + ((twO (Tr.d ⟨days, shift, size, some ta, tc, T, some la, lc, L⟩) ((i + 1 : Nat) : Int)).s1 + j) - 1).toNat] else ALp (Tr.d ⟨days, shift, size, some ta, tc, T, some la, lc, L⟩) (i + 1) f j := fun f j => rfl
      rw [htw] at hAL0 hALs htN
      obtain ⟨oo, oc, ro, rc', O, s1, s2, pay, lot, rent, R, cold, cut⟩ := tn
      have hs := htN.s
      dsimp only at hs hAL0 hALs
      have e3 := fun (w' : World) (hw' : Hp ⟨days, shift, size, some ta, tc, T, some la, lc, L⟩ (ALO (Tr.d ⟨days, shift, size, some ta, tc, T, some la, lc, L⟩)) aa w') => rd_flds (hTi w' hw') htn ((i + 1 : Nat) : Int) rfl 1 [iv s1, iv s2] (fun j v hj => by
       match j, hj with
       | 0, hj => exact hj
       | 1, hj => exact hj)
      generalize ((S >>> (i + 1) : Nat) : Int) = SH at *
      repeat'
       conv => whnf
       first
        | refine zA ?_ | refine zB ?_ | refine zC ?_ | refine zD ?_ | refine zE ?_ | refine zF ?_ | refine zG ?_ | refine zH ?_ | refine zJ ?_ | refine zI ?_ | refine splT ?_ | refine splF ?_ | refine splNot ?_
        | ((first | refine splIn ?_ ?_ | refine splD ?_ ?_ | refine splE ?_ ?_ | refine splNE ?_ ?_) <;> intro hc <;> first | (exfalso; omega) | (exfalso; dsimp only at hc; omega) | skip)
        | refine Exists.intro (α := Value) (.int .u64 (i + 1 : Nat)) ⟨cvU (i + 1) (by omega), ?_⟩
        | refine Exists.intro (α := Int) SH ⟨⟨by omega, hsr.symm⟩, ?_⟩
        | refine Exists.intro (α := Int) 0 ⟨hal.symm, ?_⟩
        | refine nilE rfl rfl ?_
        | ((with_reducible show CallEv _ _ 99 _ _ _ _ _); refine callM [2] (fun β w' hbk hbw => h99t w' (β 2) (hh w' hbw) (pl_at (x := ⟨days, shift, size, some ta, tc, T, some la, lc, L⟩) (r := [.slice (some aa.aa) an ac, (SV.fn (.func 97) [.ptr 1 0, .ptr 0 0]).c β, (SV.fn (.func 100) [.ptr 0 0, .ptr 3 0]).c β]) (hbk 2 (by simp) _ rfl))) ?_)
        | ((with_reducible show CallEv _ _ 83 _ _ _ _ _); refine callR [12, 13, 14] [] (stB ⟨days, shift, size, some ta, tc, T, some la, lc, L⟩ (i + 1 : Nat) f0 12) (.fn (.func 114) [.ptr 12 0, .ptr 13 0, .ptr 14 0]) rfl (fun i b hm => by simp only [stB, List.mem_cons, Prod.mk.injEq, List.not_mem_nil, or_false] at hm ⊢; omega) (fun β w' _ hbw => stops_R ⟨days, shift, size, some ta, tc, T, some la, lc, L⟩ (i + 1 : Nat) f0 12 β w') ?_)
      all_goals first | (exfalso; omega) | skip
      refine rf_inline env mixed 1000 [2, 3, 4, 5, 6, 7] Try.func114 has114 Try.ntmps114 rfl rfl (by decide) rfl rfl ?_
      intro lp asg bdy hasg hbdy
      repeat'
       conv => whnf
       first
        | refine zA ?_ | refine zB ?_ | refine zC ?_ | refine zD ?_ | refine zE ?_ | refine zF ?_ | refine zG ?_ | refine zH ?_ | refine zJ ?_ | refine zI ?_ | refine splT ?_ | refine splF ?_ | refine splNot ?_
        | ((first | refine splIn ?_ ?_ | refine splD ?_ ?_ | refine splE ?_ ?_ | refine splNE ?_ ?_) <;> intro hc <;> first | (exfalso; omega) | (exfalso; dsimp only at hc; omega) | skip)
        | refine Exists.intro (α := List Value) [iv s1, iv s2] ⟨⟨rfl, fun w' hw' => e3 w' (hh w' hw')⟩, ?_⟩
      all_goals first | (exfalso; omega) | skip
      obtain ⟨Q, hQ⟩ : ∃ Q, days.toNat - f0 = Q := ⟨_, rfl⟩
      rw [hQ] at hspT
      refine loopN 16 (fun q : Nat => [(0, .v (.func (.yield lp) #[] #[])), (1, .ptr 12 0), (2, .ptr 13 0), (5, .ptr 15 0), (6, .v (iv ((f0 + q : Nat) : Int)))]) (fun _ => [(4, .obj b1 (MpOk Try.prog 118 (stD (hmO (Tr.d ⟨days, shift, size, some ta, tc, T, some la, lc, L⟩) (ALO (Tr.d ⟨days, shift, size, some ta, tc, T, some la, lc, L⟩)))))), (5, .obj b2 (MpOk Try.prog 118 (stD (bgO (Tr.d ⟨days, shift, size, some ta, tc, T, some la, lc, L⟩) (ALO (Tr.d ⟨days, shift, size, some ta, tc, T, some la, lc, L⟩)))))), (0, .cells [.ptr 2 0] 114), (1, .cells [.v (.map (some b1))] 169), (2, .cells [.v (iv days), .v (iv shift), .v (iv size), .v (.slice (some ta) T.length tc), .v (.slice (some la) L.length lc), .v (.slice (some aa.aa) an ac), .fn (.func 97) [.ptr 1 0, .ptr 0 0], .fn (.func 100) [.ptr 0 0, .ptr 3 0]] 122), (3, .cells [.v (.map (some b2))] 169), (6, .cells [.ptr 2 0] 114), (7, .cells [.v (.int .u64 S), .v (iv a), .v (iv d)] 118), (8, .cells [.v (iv 0), .v (iv 0), .v (iv 0)] 96), (9, .cells [.v (.bool false)] 4), (10, .cells [.v (iv tot)] 3), (11, .cells [.v (iv (i + 1 : Nat))] 3), (12, .cells [.v (iv days), .v (iv shift), .v (iv size), .v (.slice (some ta) T.length tc), .v (.slice (some la) L.length lc)] 35), (13, .cells [.v (iv (i + 1 : Nat))] 3), (14, .cells [.v (iv f0)] 3), (15, .cells [.v (iv s1), .v (iv s2)] 55)]) (fun q => q ≤ Q ∧ ∀ q', q' < q → (ALO (Tr.d ⟨days, shift, size, some ta, tc, T, some la, lc, L⟩) (i + 1) (f0 + q')).find? (spI (Tr.d ⟨days, shift, size, some ta, tc, T, some la, lc, L⟩) S a tot (i + 1) (f0 + q')) = none) (fun q => Q - q) 0 ⟨Nat.zero_le _, fun q' h => by omega⟩ ⟨rfl, rfl, rfl, rfl, (by (show some (SV.v (iv (imax 0 (f0 : Int)))) = some (SV.v (iv ((f0 + 0 : Nat) : Int)))); rw [hmx]; rfl), trivial⟩ ⟨rfl, rfl, rfl, rfl, rfl, rfl, rfl, rfl, rfl, rfl, rfl, rfl, rfl, rfl, rfl, rfl, trivial⟩ (fun _ _ => ⟨rfl, rfl⟩) ?_
      intro q ⟨hq', hqn⟩
      rcases Nat.lt_or_ge q Q with hql | hql
      · obtain ⟨N, hN⟩ : ∃ N, (s2 - s1 + 1).toNat = N := ⟨_, rfl⟩
        have hAE := hAL0 (f0 + q)
        have hAs := hALs (f0 + q)
        rw [hN] at hAE
        repeat'
         conv => whnf
         first
          | refine zA ?_ | refine zB ?_ | refine zC ?_ | refine zD ?_ | refine zE ?_ | refine zF ?_ | refine zG ?_ | refine zH ?_ | refine zJ ?_ | refine zI ?_ | refine splT ?_ | refine splF ?_ | refine splNot ?_
          | ((first | refine splIn ?_ ?_ | refine splD ?_ ?_ | refine splE ?_ ?_ | refine splNE ?_ ?_) <;> intro hc <;> first | (exfalso; omega) | (exfalso; dsimp only at hc; omega) | skip)
        all_goals first | (exfalso; omega) | skip
        refine loopN 16 (fun j : Nat => [(0, .v (.func (.yield lp) #[] #[])), (1, .ptr 12 0), (2, .ptr 13 0), (5, .ptr 15 0), (6, .v (iv ((f0 + q : Nat) : Int))), (7, .v (iv (s1 + (j : Nat))))]) (fun _ => [(4, .obj b1 (MpOk Try.prog 118 (stD (hmO (Tr.d ⟨days, shift, size, some ta, tc, T, some la, lc, L⟩) (ALO (Tr.d ⟨days, shift, size, some ta, tc, T, some la, lc, L⟩)))))), (5, .obj b2 (MpOk Try.prog 118 (stD (bgO (Tr.d ⟨days, shift, size, some ta, tc, T, some la, lc, L⟩) (ALO (Tr.d ⟨days, shift, size, some ta, tc, T, some la, lc, L⟩)))))), (0, .cells [.ptr 2 0] 114), (1, .cells [.v (.map (some b1))] 169), (2, .cells [.v (iv days), .v (iv shift), .v (iv size), .v (.slice (some ta) T.length tc), .v (.slice (some la) L.length lc), .v (.slice (some aa.aa) an ac), .fn (.func 97) [.ptr 1 0, .ptr 0 0], .fn (.func 100) [.ptr 0 0, .ptr 3 0]] 122), (3, .cells [.v (.map (some b2))] 169), (6, .cells [.ptr 2 0] 114), (7, .cells [.v (.int .u64 S), .v (iv a), .v (iv d)] 118), (8, .cells [.v (iv 0), .v (iv 0), .v (iv 0)] 96), (9, .cells [.v (.bool false)] 4), (10, .cells [.v (iv tot)] 3), (11, .cells [.v (iv (i + 1 : Nat))] 3), (12, .cells [.v (iv days), .v (iv shift), .v (iv size), .v (.slice (some ta) T.length tc), .v (.slice (some la) L.length lc)] 35), (13, .cells [.v (iv (i + 1 : Nat))] 3), (14, .cells [.v (iv f0)] 3), (15, .cells [.v (iv s1), .v (iv s2)] 55)]) (fun j => j ≤ N ∧ (ALp (Tr.d ⟨days, shift, size, some ta, tc, T, some la, lc, L⟩) (i + 1) (f0 + q) j).find? (spI (Tr.d ⟨days, shift, size, some ta, tc, T, some la, lc, L⟩) S a tot (i + 1) (f0 + q)) = none) (fun j => N - j) 0 ⟨Nat.zero_le _, rfl⟩ ⟨rfl, rfl, rfl, rfl, rfl, by rw [Int.natCast_zero, Int.add_zero]; rfl, trivial⟩ ⟨rfl, rfl, rfl, rfl, rfl, rfl, rfl, rfl, rfl, rfl, rfl, rfl, rfl, rfl, rfl, rfl, trivial⟩ (fun _ _ => ⟨rfl, rfl⟩) ?_
        intro j ⟨hj, hjn⟩
        rcases Nat.lt_or_ge j N with hjN | hjN
        · have hCn := hAs j
          have hsj : s1 + ((j + 1 : Nat) : Int) = s1 + (j : Int) + 1 := by omega
          obtain ⟨lN, hlN⟩ : ∃ lN : Nat, ((f0 + q : Nat) : Int) + (s1 + (j : Int)) - 1 = lN := ⟨(((f0 + q : Nat) : Int) + (s1 + (j : Int)) - 1).toNat, by omega⟩
          have h115 := fun w' (h : Hp ⟨days, shift, size, some ta, tc, T, some la, lc, L⟩ (ALO (Tr.d ⟨days, shift, size, some ta, tc, T, some la, lc, L⟩)) aa w') => alone_ok ⟨days, shift, size, some ta, tc, T, some la, lc, L⟩ ((i + 1 : Nat) : Int) ((f0 + q : Nat) : Int) (((f0 + q : Nat) : Int) + (s1 + (j : Int)) - 1) w' h.1 hn ⟨by omega, by omega⟩
          have hba : decide (fltO (Tr.d ⟨days, shift, size, some ta, tc, T, some la, lc, L⟩) [(((i + 1 : Nat) : Int), ((f0 + q : Nat) : Int), ((f0 + q : Nat) : Int) + (s1 + (j : Int)) - 1)] 0 ((i + 1 : Nat) : Int) ((f0 + q : Nat) : Int) (((f0 + q : Nat) : Int) + (s1 + (j : Int)) - 1) 4 = 0) = aloB (Tr.d ⟨days, shift, size, some ta, tc, T, some la, lc, L⟩) ((i + 1 : Nat) : Int) ((f0 + q : Nat) : Int) (((f0 + q : Nat) : Int) + (s1 + (j : Int)) - 1) := rfl
          obtain ⟨b, hb⟩ : ∃ b, aloB (Tr.d ⟨days, shift, size, some ta, tc, T, some la, lc, L⟩) ((i + 1 : Nat) : Int) ((f0 + q : Nat) : Int) (((f0 + q : Nat) : Int) + (s1 + (j : Int)) - 1) = b := ⟨_, rfl⟩
          rw [hb] at hCn hba
          simp only [hba] at h115
          cases b with
          | false =>
           rw [if_neg (by decide)] at hCn
           repeat'
            conv => whnf
            first
             | refine zA ?_ | refine zB ?_ | refine zC ?_ | refine zD ?_ | refine zE ?_ | refine zF ?_ | refine zG ?_ | refine zH ?_ | refine zJ ?_ | refine zI ?_ | refine splT ?_ | refine splF ?_ | refine splNot ?_
             | ((first | refine splIn ?_ ?_ | refine splD ?_ ?_ | refine splE ?_ ?_ | refine splNE ?_ ?_) <;> intro hc <;> first | (exfalso; omega) | (exfalso; dsimp only at hc; omega) | skip)
             | ((with_reducible show CallEv _ _ 115 _ _ _ _ _); refine callE (k := 115) (fun β w' hbw => h115 w' (hh w' hbw)) ?_)
           all_goals first | (exfalso; omega) | exact ⟨j + 1, ⟨by omega, by rw [hCn]; exact hjn⟩, by omega, Ent.weak rfl ⟨rfl, rfl, rfl, rfl, rfl, by rw [hsj]; rfl, trivial⟩ ⟨rfl, rfl, rfl, rfl, rfl, rfl, rfl, rfl, rfl, rfl, rfl, rfl, rfl, rfl, rfl, rfl, trivial⟩ fun _ h => h⟩
          | true =>
           have hlt0 : (((f0 + q : Nat) : Int) + (s1 + (j : Int)) - 1).toNat = lN := by omega
           rw [if_pos rfl, hlt0] at hCn
           obtain ⟨G, hG⟩ : ∃ G, gnO (Tr.d ⟨days, shift, size, some ta, tc, T, some la, lc, L⟩) (i + 1) ((f0 + q : Nat) : Int) (lN : Int) = G := ⟨_, rfl⟩
           obtain ⟨HM, hHM⟩ : ∃ HM, hmO (Tr.d ⟨days, shift, size, some ta, tc, T, some la, lc, L⟩) (ALO (Tr.d ⟨days, shift, size, some ta, tc, T, some la, lc, L⟩)) (S ||| 2 ^ (i + 1)) (i + 1) (lN + 1) = HM := ⟨_, rfl⟩
           have hGb := hgb (i + 1) (f0 + q) lN (by omega) ⟨by omega, by omega⟩
           have hHb := hmO_bd hn hA (S ||| 2 ^ (i + 1)) (i + 1) (lN + 1)
           have h101 := fun w' (h : Hp ⟨days, shift, size, some ta, tc, T, some la, lc, L⟩ (ALO (Tr.d ⟨days, shift, size, some ta, tc, T, some la, lc, L⟩)) aa w') => gain_ok ⟨days, shift, size, some ta, tc, T, some la, lc, L⟩ (i + 1) ((f0 + q : Nat) : Int) (((f0 + q : Nat) : Int) + (s1 + (j : Int)) - 1) w' h.1 hn (by omega) (show i + 1 < T.length by omega) ⟨by omega, by omega, by omega, by omega⟩
           have h59 := fun w' => after_ok S a d (i + 1) (f0 + q) lN w' hS (by omega) (by omega)
           have h97 := (hPA _ (S ||| 2 ^ (i + 1)) (or_512 hS (by omega)) rfl).1 (i + 1) (lN + 1) (show i + 1 < T.length by omega) (by omega)
           unfold HomeC at h97
           have hP : spI (Tr.d ⟨days, shift, size, some ta, tc, T, some la, lc, L⟩) S a tot (i + 1) (f0 + q) lN = decide (G - p2 + HM = tot) := by unfold spI; rw [hG, hHM, hcp]
           rw [hG] at hGb
           rw [hHM] at hHb h97
           rw [hlN, hG, ← hlN] at h101
           rw [← hlN] at h59
           by_cases hPt : G - p2 + HM = tot
           · have hfd : ((List.range (T.length - 1)).findSome? fun i => spT (Tr.d ⟨days, shift, size, some ta, tc, T, some la, lc, L⟩) S a d tot (i + 1)) = some (i + 1, f0 + q, lN) := by
              refine fs_yes hall hil ?_
              show spT (Tr.d ⟨days, shift, size, some ta, tc, T, some la, lc, L⟩) S a d tot (i + 1) = _
              rw [hspT]
              refine fs_yes (k := q) (fun q' h => by rw [hqn q' h]; rfl) hql ?_
              rw [hAE, find_yes hjn hCn hjN (by rw [hP]; exact decide_eq_true hPt)]
              rfl
             rw [hfd]
             repeat'
              conv => whnf
              first
               | refine zA ?_ | refine zB ?_ | refine zC ?_ | refine zD ?_ | refine zE ?_ | refine zF ?_ | refine zG ?_ | refine zH ?_ | refine zJ ?_ | refine zI ?_ | refine splT ?_ | refine splF ?_ | refine splNot ?_
               | ((first | refine splIn ?_ ?_ | refine splD ?_ ?_ | refine splE ?_ ?_ | refine splNE ?_ ?_) <;> intro hc <;> first | (exfalso; omega) | (exfalso; dsimp only at hc; omega) | skip)
               | ((with_reducible show CallEv _ _ 115 _ _ _ _ _); refine callE (k := 115) (fun β w' hbw => h115 w' (hh w' hbw)) ?_)
               | refine And.intro (a := (_ : List _) = [] ∧ (_ : List _) = []) ⟨rfl, rfl⟩ ?_
               | refine yield_inline env mixed 0 2000 [2, 3, 4, 5, 6, 7] [0, 1, 2, 5, 6, 7, 41] rfl rfl rfl rfl rfl rfl rfl ?_
               | refine vc_eq env hasg ?_
               | refine vc_eq env hbdy ?_
               | refine nilE rfl rfl ?_
               | ((with_reducible show CallEv _ _ 101 _ _ _ _ _); refine callE (k := 101) (fun β w' hbw => h101 w' (hh w' hbw)) ?_)
               | ((with_reducible show CallEv _ _ 59 _ _ _ _ _); refine callE (k := 59) (fun β w' hbw => h59 w') ?_)
               | ((with_reducible show CallEv _ _ 97 _ _ _ _ _); refine callWR [0, 1, 2, 3, 4, 5] [(4, .obj b1 (MpOk Try.prog 118 (stD (hmO (Tr.d ⟨days, shift, size, some ta, tc, T, some la, lc, L⟩) (ALO (Tr.d ⟨days, shift, size, some ta, tc, T, some la, lc, L⟩)))))), (5, .obj b2 (MpOk Try.prog 118 (stD (bgO (Tr.d ⟨days, shift, size, some ta, tc, T, some la, lc, L⟩) (ALO (Tr.d ⟨days, shift, size, some ta, tc, T, some la, lc, L⟩))))))] (iv HM) rfl (fun β w' h1 h2 hs2 => (h97 β w' (PS.of (x := ⟨days, shift, size, some ta, tc, T, some la, lc, L⟩) (AL := (ALO (Tr.d ⟨days, shift, size, some ta, tc, T, some la, lc, L⟩))) (aa := aa) (an := an) (ac := ac) (b1 := b1) (b2 := b2) (six rfl rfl rfl rfl rfl rfl) h1 h2) (fun w2 hc => hh w2 (hs2 w2 (chg_six (x := ⟨days, shift, size, some ta, tc, T, some la, lc, L⟩) (AL := (ALO (Tr.d ⟨days, shift, size, some ta, tc, T, some la, lc, L⟩))) (aa := aa) (an := an) (ac := ac) (b1 := b1) (b2 := b2) (six rfl rfl rfl rfl rfl rfl) hc)))).mono fun e w2 ⟨e1, e2, e3⟩ => ⟨e1, (PS.of (x := ⟨days, shift, size, some ta, tc, T, some la, lc, L⟩) (AL := (ALO (Tr.d ⟨days, shift, size, some ta, tc, T, some la, lc, L⟩))) (aa := aa) (an := an) (ac := ac) (b1 := b1) (b2 := b2) (six rfl rfl rfl rfl rfl rfl) h1 h2).chg e2, e3.out⟩) ?_)
               | refine Exists.intro (α := List Value) [.slice (some ra) T.length rc] ⟨⟨rfl, fun w' hw' => eL w' (hh w' hw')⟩, ?_⟩
               | refine Exists.intro (α := List Value) [iv p2] ⟨⟨rfl, fun w' hw' => ep w' (hh w' hw')⟩, ?_⟩
             all_goals first | (exfalso; omega) | exact ⟨fun β => by (show Value.tuple #[.agg #[iv ((i + 1 : Nat) : Int), iv ((f0 + q : Nat) : Int), iv (((f0 + q : Nat) : Int) + (s1 + (j : Int)) - 1)], .bool true] = _); rw [hlN]; rfl, ⟨rfl, rfl, rfl, rfl, rfl, rfl, trivial⟩, fun w' h => h, rfl⟩
           · have hnx : (ALp (Tr.d ⟨days, shift, size, some ta, tc, T, some la, lc, L⟩) (i + 1) (f0 + q) (j + 1)).find? (spI (Tr.d ⟨days, shift, size, some ta, tc, T, some la, lc, L⟩) S a tot (i + 1) (f0 + q)) = none := by
              rw [hCn, List.find?_append, hjn, Option.none_or, List.find?_cons, hP, decide_eq_false hPt]; rfl
             repeat'
              conv => whnf
              first
               | refine zA ?_ | refine zB ?_ | refine zC ?_ | refine zD ?_ | refine zE ?_ | refine zF ?_ | refine zG ?_ | refine zH ?_ | refine zJ ?_ | refine zI ?_ | refine splT ?_ | refine splF ?_ | refine splNot ?_
               | ((first | refine splIn ?_ ?_ | refine splD ?_ ?_ | refine splE ?_ ?_ | refine splNE ?_ ?_) <;> intro hc <;> first | (exfalso; omega) | (exfalso; dsimp only at hc; omega) | skip)
               | ((with_reducible show CallEv _ _ 115 _ _ _ _ _); refine callE (k := 115) (fun β w' hbw => h115 w' (hh w' hbw)) ?_)
               | refine And.intro (a := (_ : List _) = [] ∧ (_ : List _) = []) ⟨rfl, rfl⟩ ?_
               | refine yield_inline env mixed 0 2000 [2, 3, 4, 5, 6, 7] [0, 1, 2, 5, 6, 7, 41] rfl rfl rfl rfl rfl rfl rfl ?_
               | refine vc_eq env hasg ?_
               | refine vc_eq env hbdy ?_
               | refine nilE rfl rfl ?_
               | ((with_reducible show CallEv _ _ 101 _ _ _ _ _); refine callE (k := 101) (fun β w' hbw => h101 w' (hh w' hbw)) ?_)
               | ((with_reducible show CallEv _ _ 59 _ _ _ _ _); refine callE (k := 59) (fun β w' hbw => h59 w') ?_)
               | ((with_reducible show CallEv _ _ 97 _ _ _ _ _); refine callWR [0, 1, 2, 3, 4, 5] [(4, .obj b1 (MpOk Try.prog 118 (stD (hmO (Tr.d ⟨days, shift, size, some ta, tc, T, some la, lc, L⟩) (ALO (Tr.d ⟨days, shift, size, some ta, tc, T, some la, lc, L⟩)))))), (5, .obj b2 (MpOk Try.prog 118 (stD (bgO (Tr.d ⟨days, shift, size, some ta, tc, T, some la, lc, L⟩) (ALO (Tr.d ⟨days, shift, size, some ta, tc, T, some la, lc, L⟩))))))] (iv HM) rfl (fun β w' h1 h2 hs2 => (h97 β w' (PS.of (x := ⟨days, shift, size, some ta, tc, T, some la, lc, L⟩) (AL := (ALO (Tr.d ⟨days, shift, size, some ta, tc, T, some la, lc, L⟩))) (aa := aa) (an := an) (ac := ac) (b1 := b1) (b2 := b2) (six rfl rfl rfl rfl rfl rfl) h1 h2) (fun w2 hc => hh w2 (hs2 w2 (chg_six (x := ⟨days, shift, size, some ta, tc, T, some la, lc, L⟩) (AL := (ALO (Tr.d ⟨days, shift, size, some ta, tc, T, some la, lc, L⟩))) (aa := aa) (an := an) (ac := ac) (b1 := b1) (b2 := b2) (six rfl rfl rfl rfl rfl rfl) hc)))).mono fun e w2 ⟨e1, e2, e3⟩ => ⟨e1, (PS.of (x := ⟨days, shift, size, some ta, tc, T, some la, lc, L⟩) (AL := (ALO (Tr.d ⟨days, shift, size, some ta, tc, T, some la, lc, L⟩))) (aa := aa) (an := an) (ac := ac) (b1 := b1) (b2 := b2) (six rfl rfl rfl rfl rfl rfl) h1 h2).chg e2, e3.out⟩) ?_)
               | refine Exists.intro (α := List Value) [.slice (some ra) T.length rc] ⟨⟨rfl, fun w' hw' => eL w' (hh w' hw')⟩, ?_⟩
               | refine Exists.intro (α := List Value) [iv p2] ⟨⟨rfl, fun w' hw' => ep w' (hh w' hw')⟩, ?_⟩
             all_goals first | (exfalso; omega) | exact ⟨j + 1, ⟨by omega, hnx⟩, by omega, Ent.ren (rho []) rfl rfl ⟨rfl, rfl, rfl, rfl, rfl, by rw [hsj]; rfl, trivial⟩ ⟨rfl, rfl, rfl, rfl, rfl, rfl, rfl, rfl, rfl, rfl, rfl, rfl, rfl, rfl, rfl, rfl, trivial⟩ fun _ h => h⟩
        · obtain rfl : j = N := by omega
          rw [← hAE] at hjn
          repeat'
           conv => whnf
           first
            | refine zA ?_ | refine zB ?_ | refine zC ?_ | refine zD ?_ | refine zE ?_ | refine zF ?_ | refine zG ?_ | refine zH ?_ | refine zJ ?_ | refine zI ?_ | refine splT ?_ | refine splF ?_ | refine splNot ?_
            | ((first | refine splIn ?_ ?_ | refine splD ?_ ?_ | refine splE ?_ ?_ | refine splNE ?_ ?_) <;> intro hc <;> first | (exfalso; omega) | (exfalso; dsimp only at hc; omega) | skip)
          all_goals first | (exfalso; omega) | exact ⟨q + 1, ⟨by omega, fun q' h => by rcases (by omega : q' < q ∨ q' = q) with h | rfl; exact hqn q' h; exact hjn⟩, by omega, Ent.weak rfl ⟨rfl, rfl, rfl, rfl, rfl, trivial⟩ ⟨rfl, rfl, rfl, rfl, rfl, rfl, rfl, rfl, rfl, rfl, rfl, rfl, rfl, rfl, rfl, rfl, trivial⟩ fun _ h => h⟩
      · have hno : spT (Tr.d ⟨days, shift, size, some ta, tc, T, some la, lc, L⟩) S a d tot (i + 1) = none := by
         rw [hspT]
         exact fs_no fun q' h => by rw [hqn q' (by omega)]; rfl
        repeat'
         conv => whnf
         first
          | refine zA ?_ | refine zB ?_ | refine zC ?_ | refine zD ?_ | refine zE ?_ | refine zF ?_ | refine zG ?_ | refine zH ?_ | refine zJ ?_ | refine zI ?_ | refine splT ?_ | refine splF ?_ | refine splNot ?_
          | ((first | refine splIn ?_ ?_ | refine splD ?_ ?_ | refine splE ?_ ?_ | refine splNE ?_ ?_) <;> intro hc <;> first | (exfalso; omega) | (exfalso; dsimp only at hc; omega) | skip)
        all_goals first | (exfalso; omega) | exact ⟨i + 1, ⟨by omega, fun i' h => by rcases (by omega : i' < i ∨ i' = i) with h | rfl; exact hall i' h; exact hno⟩, by omega, Ent.ren (rho [(11, 16)]) rfl rfl ⟨rfl, rfl, rfl, rfl, rfl, rfl, trivial⟩ ⟨rfl, rfl, rfl, rfl, rfl, rfl, rfl, rfl, rfl, rfl, rfl, rfl, trivial⟩ fun _ h => h⟩
   · obtain rfl : i = T.length - 1 := by omega
     rw [fs_no hall]
     repeat'
      conv => whnf
      first
       | refine zA ?_ | refine zB ?_ | refine zC ?_ | refine zD ?_ | refine zE ?_ | refine zF ?_ | refine zG ?_ | refine zH ?_ | refine zJ ?_ | refine zI ?_ | refine splT ?_ | refine splF ?_ | refine splNot ?_
       | ((first | refine splIn ?_ ?_ | refine splD ?_ ?_ | refine splE ?_ ?_ | refine splNE ?_ ?_) <;> intro hc <;> first | (exfalso; omega) | (exfalso; dsimp only at hc; omega) | skip)
       | refine nilE rfl rfl ?_
     all_goals first | (exfalso; omega) | exact ⟨fun β => rfl, ⟨rfl, rfl, rfl, rfl, rfl, rfl, trivial⟩, fun w' h => h, rfl⟩
end Go.Proofs.Ythfabodamhdhaaa
