/- A planner and its memory: what home and begin do, said as contracts; the greatest of two; the state in which a stop may begin. -/
import Derived.Test.YthfabodamhdhaaaRC
namespace Go.Proofs.Ythfabodamhdhaaa.Tx
open Go Go.RowKit
set_option linter.unusedSimpArgs false
set_option linter.unusedVariables false
theorem callWR {P : Program} {σ : Sg} {k : Nat} {args : List SV} {rs : List Nat} {K : Ef → Prop} {KF : Option KT} (rb : List Nat) (m1 : List (Nat × Blk)) (v : Value)
 (hB : efB σ ⟨.v v, [], m1, [], rb⟩ = true)
 (h : ∀ β w, (∀ i ∈ rb, ∀ b, lk σ.m i = some b → b.ok β w (β i)) → (∀ i ∈ rb, ∀ j ∈ rb, ∀ bi bj, lk σ.m i = some bi → lk σ.m j = some bj → bi.live = true → bj.live = true → i ≠ j → β i ≠ β j) →
  (∀ w', Chg (fun b => ∃ i ∈ rb, (∃ bk, lk σ.m i = some bk ∧ bk.live = true) ∧ β i = b) w w' → σ.h w') →
  Calls P k (SV.cs β args).toArray w fun e w' => e = .returned v ∧ Chg (fun b => ∃ i bk, (i, bk) ∈ m1 ∧ β i = b) w w' ∧ ∀ i b, (i, b) ∈ m1 → b.ok β w' (β i))
 (hK : K ⟨.v v, [], m1, rs, rb⟩) : CallEv P σ k args (efB σ) rs K KF :=
 .mk ⟨.v v, [], m1, [], rb⟩ hB (fun β w h1 h2 hst => (h β w h1 h2 hst).mono fun e w' ⟨he, hc, ho⟩ =>
  ⟨β, he, fun _ _ => rfl, ⟨hc.os, hc.tape, hc.output, hc.size, fun b hb hX => hc.same b hb fun ⟨i, bk, hm, hib⟩ => hX ⟨i, bk, hm, by simp, hib⟩⟩, ho, fun i hi => (by cases hi), fun i hi => (by cases hi)⟩) hK
end Go.Proofs.Ythfabodamhdhaaa.Tx
namespace Go.Proofs.Ythfabodamhdhaaa
open Go Tx Go.RowKit
set_option linter.unusedSimpArgs false
set_option linter.unusedVariables false
theorem zero3 (w : World) : (zeroValue 3).run Try.prog w = .ok (iv 0) w := by
 have h : (Try.prog.info? 3).map (fun i => i.zero) = some (some (iv 0)) := by kernel_rfl
 cases hi : Try.prog.info? 3 with
 | none => rw [hi] at h; cases h
 | some i =>
  rw [hi] at h
  simp only [Option.map_some, Option.some.injEq] at h
  simp [zeroValue, typeInfo, hi, h]
theorem max2_ok (p q : Int) (b c : Nat) (w : World) (h : Rd 1 iF (.slice (some ⟨b, 0, none⟩) 2 c) [p, q] w) :
 Calls Try.prog 98 #[.slice (some ⟨b, 0, none⟩) 2 c] w fun e w' => e = .returned (iv (imax p q)) ∧ Below w.heap.size w w' := by
 refine calls_val env mixed Try.func98 has98 Try.ntmps98 [.slice (some ⟨b, 0, none⟩) 2 c] (by simp) ?_
 have e0 := fun (w' : World) hw' => rd_atz (h.below (w' := w') hw') (k := 0) (b := p) rfl (0 : Int) rfl
 have e1 := fun (w' : World) hw' => rd_atz (h.below (w' := w') hw') (k := 1) (b := q) rfl (1 : Int) rfl
 repeat'
  conv => whnf
  first
   | refine zA ?_ | refine zB ?_ | refine zC ?_ | refine zD ?_ | refine zE ?_ | refine zF ?_ | refine zG ?_ | refine zH ?_ | refine zJ ?_ | refine zI ?_ | refine splT ?_ | refine splF ?_ | refine splNot ?_
   | ((first | refine splIn ?_ ?_ | refine splD ?_ ?_ | refine splE ?_ ?_ | refine splNE ?_ ?_) <;> intro hc <;> first | (exfalso; omega) | (exfalso; dsimp only at hc; omega) | skip)
   | ((with_reducible show CallEv _ _ 142 _ _ _ _ _); refine callI env mixed 1000 [] Try.func142 has142 Try.ntmps142 (Nat.le_of_ble_eq_true rfl) rfl rfl rfl ?_)
   | refine Exists.intro (α := List Value) [iv p] ⟨⟨rfl, fun w' hw' => e0 w' hw'⟩, ?_⟩
 all_goals first | (exfalso; omega) | skip
 refine loopE (fun k : Nat => [(0, .v (.slice (some ⟨b, 0, none⟩) 2 c)), (3, .v (iv (match k with | 0 => p | _ + 1 => imax p q))), (4, .v (iv ((k : Int) + 1)))]) (fun _ => []) (fun k => k ≤ 1) (fun k => 1 - k) 0 (Nat.zero_le _) ⟨rfl, rfl, rfl, trivial⟩ trivial (fun _ => ⟨rfl, rfl⟩) ?_
 intro k hk
 obtain rfl | rfl : k = 0 ∨ k = 1 := by omega
 · skip
   repeat'
    conv => whnf
    first
     | refine zA ?_ | refine zB ?_ | refine zC ?_ | refine zD ?_ | refine zE ?_ | refine zF ?_ | refine zG ?_ | refine zH ?_ | refine zJ ?_ | refine zI ?_ | refine splT ?_ | refine splF ?_ | refine splNot ?_
     | ((first | refine splIn ?_ ?_ | refine splD ?_ ?_ | refine splE ?_ ?_ | refine splNE ?_ ?_) <;> intro hc <;> first | (exfalso; omega) | (exfalso; dsimp only at hc; omega) | skip)
     | refine Exists.intro (α := List Value) [iv q] ⟨⟨rfl, fun w' hw' => e1 w' hw'⟩, ?_⟩
   all_goals first | (exfalso; omega) | exact ⟨1, by omega, by omega, Ent.weak rfl ⟨rfl, rfl, rfl, trivial⟩ trivial fun _ h => h⟩
 · skip
   repeat'
    conv => whnf
    first
     | refine zA ?_ | refine zB ?_ | refine zC ?_ | refine zD ?_ | refine zE ?_ | refine zF ?_ | refine zG ?_ | refine zH ?_ | refine zJ ?_ | refine zI ?_ | refine splT ?_ | refine splF ?_ | refine splNot ?_
     | ((first | refine splIn ?_ ?_ | refine splD ?_ ?_ | refine splE ?_ ?_ | refine splNE ?_ ?_) <;> intro hc <;> first | (exfalso; omega) | (exfalso; dsimp only at hc; omega) | skip)
   all_goals first | (exfalso; omega) | exact ⟨fun β => rfl, fun w' h => h⟩
theorem lsN_eq {x : To} (h : ToN x) (f t : Nat) : lsO x f t = (lsN x f t : Int) := by
 have := h.lost f t
 unfold lsN; omega
theorem lsN_le {x : To} (h : ToN x) (f t : Nat) : lsN x f t ≤ 200 := by
 have := h.lost f t
 unfold lsN; omega
set_option maxRecDepth 100000 in
theorem next_ok (x : Tr) (S a d t : Nat) (b : Nat) (w : World) (h : TrIn x w) (hn : ToN x.d) (ha : a < x.T.length) (ht : t < x.T.length) (hd : d ≤ 1000) (hc : ∀ j v, x.cs[j]? = some v → w.cell? ⟨b, j, none⟩ = some v) :
 Calls Try.prog 99 #[.pointer (some ⟨b, 0, none⟩), .agg #[.int .u64 S, iv a, iv d], iv t] w fun e w' => e = .returned (stK S t ((d + lsN x.d a t : Nat) : Int)) ∧ Below w.heap.size w w' := by
 have h72 := fun w' hb => lost_ok x a t w' (h.below hb) hn ha ht
 have hl := lsN_le hn a t
 rw [lsN_eq hn] at h72
 have he : ∀ w', Below w.heap.size w w' → ∀ j v, x.cs[j]? = some v → w'.cell? (((⟨b, 0, none⟩ : Addr).add 0).add j) = some v := fun w' hb j v hj => by
  rw [own_add, own_add, Nat.zero_add]
  exact ext_below hb (hc j v hj)
 generalize lsN x.d a t = g at *
 obtain ⟨days, shift, size, to, tc, T, lo, lc, L⟩ := x
 refine calls_val env mixed Try.func99 has99 Try.ntmps99 [.pointer (some ⟨b, 0, none⟩), .agg #[.int .u64 S, iv a, iv d], iv t] (by simp) ?_
 repeat'
  conv => whnf
  first
   | refine zA ?_ | refine zB ?_ | refine zC ?_ | refine zD ?_ | refine zE ?_ | refine zF ?_ | refine zG ?_ | refine zH ?_ | refine zJ ?_ | refine zI ?_ | refine splT ?_ | refine splF ?_ | refine splNot ?_
   | ((first | refine splIn ?_ ?_ | refine splD ?_ ?_ | refine splE ?_ ?_ | refine splNE ?_ ?_) <;> intro hc <;> first | (exfalso; omega) | (exfalso; dsimp only at hc; omega) | skip)
   | refine nilX rfl rfl ?_
   | refine Exists.intro (α := List Value) [iv days, iv shift, iv size, .slice to T.length tc, .slice lo L.length lc] ⟨⟨rfl, fun w' hw' => he w' hw'⟩, ?_⟩
   | ((with_reducible show CallEv _ _ 72 _ _ _ _ _); refine callE (k := 72) (fun β w' hbw => h72 w' hbw) ?_)
 all_goals first | (exfalso; omega) | exact ⟨fun β => by rw [Int.natCast_add]; rfl, fun w' h => h⟩
def stD (f : Nat → Nat → Nat → Int) : Value → Value
 | .agg c => match c.toList with
  | [.int _ s, .int _ a, .int _ d] => iv (f s.toNat a.toNat d.toNat)
  | _ => undef
 | _ => undef
theorem stD_at (f : Nat → Nat → Nat → Int) (S a d : Nat) : stD f (stK S a d) = iv (f S a d) := rfl
abbrev slF (a d l : Nat) : List Value := [iv a, iv d, iv l]
structure Alp where
 aa : Addr
 ra : Nat → Addr × Nat
 so : Nat → Nat → Option Addr × Nat
def AlIn (x : To) (AL : Nat → Nat → List Nat) (p : Alp) (w : World) : Prop := ∀ a, 1 ≤ a → a < x.T.length → w.cell? (p.aa.add (a * 1)) = some (.slice (some (p.ra a).1) x.days.toNat (p.ra a).2) ∧
 ∀ d, d < x.days.toNat → w.cell? ((p.ra a).1.add (d * 1)) = some (.slice (p.so a d).1 (AL a d).length (p.so a d).2) ∧ Rd 3 (slF a d) (.slice (p.so a d).1 (AL a d).length (p.so a d).2) (AL a d) w
section
variable (x : Tr) (AL : Nat → Nat → List Nat) (aa : Alp) (an ac b1 b2 : Nat)
abbrev MB : List (Nat × Blk) := [(4, .obj b1 (MpOk Try.prog 118 (stD (hmO x.d AL)))), (5, .obj b2 (MpOk Try.prog 118 (stD (bgO x.d AL)))), (0, .cells [.ptr 2 0] 114), (1, .cells [.v (.map (some b1))] 169),
 (2, .cells [.v (iv x.days), .v (iv x.shift), .v (iv x.size), .v (.slice x.to x.T.length x.tc), .v (.slice x.lo x.L.length x.lc), .v (.slice (some aa.aa) an ac), .fn (.func 97) [.ptr 1 0, .ptr 0 0], .fn (.func 100) [.ptr 0 0, .ptr 3 0]] 122), (3, .cells [.v (.map (some b2))] 169)]
abbrev Hp (w : World) : Prop := TrIn x w ∧ AlIn x.d AL aa w
structure PS (β : Nat → Nat) (w : World) : Prop where
 o : ∀ i b, lk (MB x AL aa an ac b1 b2) i = some b → b.ok β w (β i)
 inj : ∀ i j, i < 6 → j < 6 → i ≠ j → β i ≠ β j
def HomeC (S a d : Nat) : Prop := ∀ (β : Nat → Nat) (w : World), PS x AL aa an ac b1 b2 β w → (∀ w', Chg (fun b => ∃ i, i < 6 ∧ β i = b) w w' → Hp x AL aa w') →
 Calls Try.prog 97 #[stK S a d, .pointer (some ⟨β 1, 0, none⟩), .pointer (some ⟨β 0, 0, none⟩)] w fun e w' => e = .returned (iv (hmO x.d AL S a d)) ∧ Chg (fun b => b = b1 ∨ b = b2) w w' ∧ PS x AL aa an ac b1 b2 β w'
def BeginC (S a d : Nat) : Prop := ∀ (β : Nat → Nat) (w : World), PS x AL aa an ac b1 b2 β w → (∀ w', Chg (fun b => ∃ i, i < 6 ∧ β i = b) w w' → Hp x AL aa w') →
 Calls Try.prog 100 #[stK S a d, .pointer (some ⟨β 0, 0, none⟩), .pointer (some ⟨β 3, 0, none⟩)] w fun e w' => e = .returned (iv (bgO x.d AL S a d)) ∧ Chg (fun b => b = b1 ∨ b = b2) w w' ∧ PS x AL aa an ac b1 b2 β w'
end
section
variable {x : Tr} {AL : Nat → Nat → List Nat} {aa : Alp} {an ac b1 b2 : Nat}
theorem lkMB {i : Nat} {b : Blk} (h : lk (MB x AL aa an ac b1 b2) i = some b) : i < 6 ∧ b.live = true := by
 have hm := lk_mem h
 simp only [MB, List.mem_cons, Prod.mk.injEq, List.not_mem_nil, or_false] at hm
 rcases hm with ⟨rfl, rfl⟩ | ⟨rfl, rfl⟩ | ⟨rfl, rfl⟩ | ⟨rfl, rfl⟩ | ⟨rfl, rfl⟩ | ⟨rfl, rfl⟩ <;> exact ⟨by decide, rfl⟩
theorem MB_some {i : Nat} (h : i < 6) : ∃ b, lk (MB x AL aa an ac b1 b2) i = some b := by
 rcases (by omega : i = 0 ∨ i = 1 ∨ i = 2 ∨ i = 3 ∨ i = 4 ∨ i = 5) with rfl | rfl | rfl | rfl | rfl | rfl <;> exact ⟨_, rfl⟩
theorem calls_P {k : Nat} {fn : Func} {c : Code} (hfn : Try.prog.funcs[k]? = some fn) (hb : fn.body = some c) {nt : Nat} (hnt : fn.ntmps = nt) (args : List SV) (v : Value) (hlen : args.length ≤ nt) (hargs : SV.lts 6 args = true)
 (hvc : ∀ h : World → Prop, (∀ w', h w' → Hp x AL aa w') → vc env c ⟨nt, slotsOf 0 args, MB x AL aa an ac b1 b2, 6, h, ⟨pinG 6, [], 0⟩⟩ (endΦ env fn fun s σ => (∀ β, s.c β = v) ∧ MSub σ.m (MB x AL aa an ac b1 b2) ∧ (∀ w', σ.h w' → h w') ∧ σ.z.g = pinG 6))
 {β : Nat → Nat} {w : World} (hp : PS x AL aa an ac b1 b2 β w) (hst : ∀ w', Chg (fun b => ∃ i, i < 6 ∧ β i = b) w w' → Hp x AL aa w') :
 Calls Try.prog k (SV.cs β args).toArray w fun e w' => e = .returned v ∧ Chg (fun b => b = b1 ∨ b = b2) w w' ∧ PS x AL aa an ac b1 b2 β w' := by
 refine (calls_WS env mixed hfn hb hnt args (MB x AL aa an ac b1 b2) (MB x AL aa an ac b1 b2) 6 v hlen hargs rfl rfl (fun i b h => (lkMB h).2) (Hp := Hp x AL aa) hvc hp.o (fun i j bi bj hi hj hne => hp.inj i j (lkMB hi).1 (lkMB hj).1 hne) (fun w' hc => hst w' ⟨hc.os, hc.tape, hc.output, hc.size, fun b hbl hn => hc.same b hbl fun ⟨i, bk, h1, h2⟩ => hn ⟨i, (lkMB h1).1, h2⟩⟩)).mono
  fun e w' ⟨h1, h2, h3⟩ => ⟨h1, ⟨h2.os, h2.tape, h2.output, h2.size, fun b hbl hn => ?_⟩, ⟨h3, hp.inj⟩⟩
 by_cases hex : ∃ i bk, lk (MB x AL aa an ac b1 b2) i = some bk ∧ β i = b
 · obtain ⟨i, bk, hi, rfl⟩ := hex
   have q1 := hp.o i bk hi
   have q2 := h3 i bk hi
   have hm := lk_mem hi
   simp only [MB, List.mem_cons, Prod.mk.injEq, List.not_mem_nil, or_false] at hm
   rcases hm with ⟨rfl, rfl⟩ | ⟨rfl, rfl⟩ | ⟨rfl, rfl⟩ | ⟨rfl, rfl⟩ | ⟨rfl, rfl⟩ | ⟨rfl, rfl⟩
   · exact absurd (.inl q1.1) hn
   · exact absurd (.inr q1.1) hn
   all_goals (simp only [Blk.ok] at q1 q2; rw [q1, q2])
 · exact h2.same b hbl hex
theorem PS.chg {β : Nat → Nat} {w w' : World} (h : PS x AL aa an ac b1 b2 β w) (hc : Chg (fun b => b = b1 ∨ b = b2) w w') : Chg (fun b => ∃ i bk, (i, bk) ∈ [(4, Blk.obj b1 (MpOk Try.prog 118 (stD (hmO x.d AL)))), (5, Blk.obj b2 (MpOk Try.prog 118 (stD (bgO x.d AL))))] ∧ β i = b) w w' :=
 ⟨hc.os, hc.tape, hc.output, hc.size, fun b hb hn => hc.same b hb fun h2 => hn (by
  rcases h2 with rfl | rfl
  · exact ⟨4, _, List.mem_cons_self .., (h.o 4 _ rfl).1⟩
  · exact ⟨5, _, List.mem_cons_of_mem _ (List.mem_cons_self ..), (h.o 5 _ rfl).1⟩)⟩
theorem PS.out {β : Nat → Nat} {w : World} (h : PS x AL aa an ac b1 b2 β w) : ∀ i b, (i, b) ∈ [(4, Blk.obj b1 (MpOk Try.prog 118 (stD (hmO x.d AL)))), (5, Blk.obj b2 (MpOk Try.prog 118 (stD (bgO x.d AL))))] → b.ok β w (β i) := fun i b hm => by
 simp only [List.mem_cons, Prod.mk.injEq, List.not_mem_nil, or_false] at hm
 rcases hm with ⟨rfl, rfl⟩ | ⟨rfl, rfl⟩
 · exact h.o 4 _ rfl
 · exact h.o 5 _ rfl
theorem PS.of {σ : Sg} {β : Nat → Nat} {w : World} (hm : ∀ i, i < 6 → lk σ.m i = lk (MB x AL aa an ac b1 b2) i) (h1 : ∀ i ∈ [0, 1, 2, 3, 4, 5], ∀ b, lk σ.m i = some b → b.ok β w (β i))
 (h2 : ∀ i ∈ [0, 1, 2, 3, 4, 5], ∀ j ∈ [0, 1, 2, 3, 4, 5], ∀ bi bj, lk σ.m i = some bi → lk σ.m j = some bj → bi.live = true → bj.live = true → i ≠ j → β i ≠ β j) : PS x AL aa an ac b1 b2 β w := by
 have hmem : ∀ i, i < 6 → i ∈ [0, 1, 2, 3, 4, 5] := fun i hi => by simp; omega
 refine ⟨fun i b hi => h1 i (hmem i (lkMB hi).1) b (by rw [hm i (lkMB hi).1]; exact hi), fun i j hi hj hne => ?_⟩
 obtain ⟨bi, ei⟩ := MB_some (x := x) (AL := AL) (aa := aa) (an := an) (ac := ac) (b1 := b1) (b2 := b2) hi
 obtain ⟨bj, ej⟩ := MB_some (x := x) (AL := AL) (aa := aa) (an := an) (ac := ac) (b1 := b1) (b2 := b2) hj
 exact h2 i (hmem i hi) j (hmem j hj) bi bj (by rw [hm i hi]; exact ei) (by rw [hm j hj]; exact ej) (lkMB ei).2 (lkMB ej).2 hne
theorem six {p : Nat → Prop} (h0 : p 0) (h1 : p 1) (h2 : p 2) (h3 : p 3) (h4 : p 4) (h5 : p 5) : ∀ i, i < 6 → p i := fun i hi => by
 rcases (by omega : i = 0 ∨ i = 1 ∨ i = 2 ∨ i = 3 ∨ i = 4 ∨ i = 5) with rfl | rfl | rfl | rfl | rfl | rfl <;> assumption
theorem chg_six {σ : Sg} {β : Nat → Nat} {w w' : World} (hm : ∀ i, i < 6 → lk σ.m i = lk (MB x AL aa an ac b1 b2) i) (hc : Chg (fun b => ∃ i, i < 6 ∧ β i = b) w w') : Chg (fun b => ∃ i ∈ [0, 1, 2, 3, 4, 5], (∃ bk, lk σ.m i = some bk ∧ bk.live = true) ∧ β i = b) w w' :=
 ⟨hc.os, hc.tape, hc.output, hc.size, fun b hb hn => hc.same b hb fun ⟨i, hi, hib⟩ => hn (by
  obtain ⟨bi, ei⟩ := MB_some (x := x) (AL := AL) (aa := aa) (an := an) (ac := ac) (b1 := b1) (b2 := b2) hi
  exact ⟨i, by simp; omega, ⟨bi, by rw [hm i hi]; exact ei, (lkMB ei).2⟩, hib⟩)⟩
end
end Go.Proofs.Ythfabodamhdhaaa
