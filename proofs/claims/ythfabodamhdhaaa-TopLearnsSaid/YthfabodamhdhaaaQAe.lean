/- Part 5 of the proof: texts merged. -/
import Derived.Test.YthfabodamhdhaaaQAd
namespace Go.Proofs.Ythfabodamhdhaaa.Tx
open Go Go.RowKit
theorem zM {t : List (Nat × Blk)} {L : List Nat} {β : Nat → Nat} {k : Nat} {b : Blk} (h : nin (id k) L = true) (h' : lk t (id k) = some b) : nin (id k) L = true ∧ ∃ b', lk t (id k) = some b' ∧ (b.live = true → b'.live = true) ∧ ∀ w x, b'.ok β w x → b.ok (fun i => β (id i)) w x := ⟨h, b, h', fun h => h, fun _ _ h => h⟩
theorem callQ {P : Program} {σ : Sg} {k : Nat} {args : List SV} {rs : List Nat} {K : Ef → Prop} {KF : Option KT} (rb : List Nat) (m1 : List (Nat × Blk)) (V : SV)
 (hB : efB σ ⟨V, [], m1, [], rb⟩ = true)
 (h : ∀ β w, (∀ i ∈ rb, ∀ b, lk σ.m i = some b → b.ok β w (β i)) → (∀ i ∈ rb, ∀ j ∈ rb, ∀ bi bj, lk σ.m i = some bi → lk σ.m j = some bj → bi.live = true → bj.live = true → i ≠ j → β i ≠ β j) →
  (∀ w', Chg (fun b => ∃ i ∈ rb, (∃ bk, lk σ.m i = some bk ∧ bk.live = true) ∧ β i = b) w w' → σ.h w') →
  Calls P k (SV.cs β args).toArray w fun e w' => e = .returned (V.c β) ∧ Chg (fun b => ∃ i bk, (i, bk) ∈ m1 ∧ β i = b) w w' ∧ ∀ i b, (i, b) ∈ m1 → b.ok β w' (β i))
 (hK : K ⟨V, [], m1, rs, rb⟩) : CallEv P σ k args (efB σ) rs K KF :=
 .mk ⟨V, [], m1, [], rb⟩ hB (fun β w h1 h2 hst => (h β w h1 h2 hst).mono fun e w' ⟨he, hc, ho⟩ =>
  ⟨β, he, fun _ _ => rfl, ⟨hc.os, hc.tape, hc.output, hc.size, fun b hb hX => hc.same b hb fun ⟨i, bk, hm, hib⟩ => hX ⟨i, bk, hm, by simp, hib⟩⟩, ho, fun i hi => (by cases hi), fun i hi => (by cases hi)⟩) hK
end Go.Proofs.Ythfabodamhdhaaa.Tx
namespace Go.Proofs.Ythfabodamhdhaaa
open Go Tx Go.RowKit
set_option linter.unusedSimpArgs false
set_option linter.unusedVariables false
theorem spl3 : ∀ L : List (Int × Int × Int), (L.flatMap spF).length = L.length * 3
 | [] => rfl
 | a :: L => by rw [List.flatMap_cons, List.length_append, spl3 L, List.length_cons]; simp only [spF, List.length_cons, List.length_nil]; omega
theorem sp1 (L : List (Int × Int × Int)) : ∀ v ∈ L.flatMap spF, v.oneCell' = true := fun v hv => by
 obtain ⟨s, _, h⟩ := List.mem_flatMap.1 hv
 simp only [spF, List.mem_cons, List.not_mem_nil, or_false] at h
 rcases h with rfl | rfl | rfl <;> rfl
theorem onS : ∀ S : List (Int × Int × Int), oneV (S.flatMap spF) = true
 | [] => rfl
 | a :: S => by rw [List.flatMap_cons]; exact onS S
theorem eqlS28 {o : Option Addr} {n c : Nat} {x y : Operand} {K : Value → Prop} (h : K (.bool o.isNone)) : ∃ v, (∀ _ : Nat → Nat, RunIs Try.prog (do eqGuard .eql 28 x y (.slice o n c) (.slice none 0 0); binOp .eql 28 (.slice o n c) (.slice none 0 0)) v) ∧ K v :=
 ⟨_, fun _ w => by simp [eqGuard, binOp, Op.equal, Op.maxDepth, Lib.run_equalIn_slice_nil w 9999 28 96 o n c 0 0 (under_slice tok28 rfl)], h⟩
theorem sp1' {X : List Value} (h : oneV X = true) : ∀ v ∈ X, v.oneCell' = true := oneV_iff h
set_option maxHeartbeats 1000000 in
set_option maxRecDepth 100000 in
theorem sclone_own (S : List (Int × Int × Int)) (o : Option Addr) (c : Nat) (w : World) (hrd : Rd 3 spF (.slice o S.length c) S w) (h0 : 1 ≤ S.length) (hl : S.length ≤ 1000000) :
 Calls Try.prog 82 #[.slice o S.length c] w fun e w' => ∃ b d, e = .returned (.slice (some ⟨b, 0, none⟩) S.length d) ∧ w.heap.size ≤ b ∧ Below w.heap.size w w' ∧ w'.ownsRow 0 96 3 (.slice (some ⟨b, 0, none⟩) S.length d) S.length (S.flatMap spF) := by
 refine calls_fam2 env mixed Try.func82 has82 Try.ntmps82 [.slice o S.length c] (by simp) ?_
 obtain ⟨_, ad, rfl, _⟩ := hrd.ptr h0
 have he := fun (w' : World) (hb : Below w.heap.size w w') => Rd.ext (f := spF) (sz := 3) (fun _ => rfl) (hrd.below hb)
 have hln := spl3 S
 have hon : oneV (S.flatMap spF) = true := by
  exact onS S
 generalize S.flatMap spF = X at *
 generalize S.length = n at *
 repeat'
  conv => whnf
  first
   | refine zA ?_ | refine zB ?_ | refine zC ?_ | refine zD ?_ | refine zE ?_ | refine zF ?_ | refine zG ?_ | refine zH ?_ | refine zJ ?_ | refine zI ?_ | refine splT ?_ | refine splF ?_ | refine splNot ?_
   | ((first | refine splIn ?_ ?_ | refine splD ?_ ?_ | refine splE ?_ ?_ | refine splNE ?_ ?_) <;> intro hc <;> first | (exfalso; omega) | (exfalso; dsimp only at hc; omega) | skip)
   | refine eqlS28 ?_
   | refine Exists.intro (α := List Value) X ⟨⟨hln, fun w' hw' => he w' hw', sp1' hon⟩, ?_⟩
 have hz : 0 + n = n := Nat.zero_add n
 exact ⟨fun w' h => h, fun β w' hB hB2 hblk => ⟨β 1, β 2, congrArg (fun z => Ending.returned (.slice (some ⟨β 1, 0, none⟩) z (β 2))) hz, (hblk 1 _ rfl rfl).1, hB2, by have := (hblk 1 _ rfl rfl).2; simp only [Blk.ok, List.nil_append, hz] at this; exact this⟩⟩
theorem sdel_own (S : List (Int × Int × Int)) (b c k : Nat) (w : World) (hk : k < S.length) (h : w.ownsRow 0 96 3 (.slice (some ⟨b, 0, none⟩) S.length c) S.length (S.flatMap spF)) :
 Calls Try.prog 81 #[.slice (some ⟨b, 0, none⟩) S.length c, iv k, iv ((k + 1 : Nat) : Int)] w fun e w' => e = .returned (.slice (some ⟨b, 0, none⟩) (S.length - 1) c) ∧ Chg (fun x => x = b) w w' ∧
  w'.ownsRow 0 96 3 (.slice (some ⟨b, 0, none⟩) (S.length - 1) c) (S.length - 1) ((S.eraseIdx k).flatMap spF) := by
 have hl := h.1
 have h3 := spl3 S
 rcases h.2 with ⟨h', _⟩ | ⟨g, cap, cur, q0, q1, q2, q3, q4, q5, q6⟩
 · cases h'
 simp only [Value.slice.injEq, Option.some.injEq, Addr.mk.injEq, and_true, true_and] at q0
 obtain ⟨rfl, rfl⟩ := q0
 have hcl : S.length * 3 ≤ cur.toList.length := by
  have := Array.length_toList (xs := cur)
  omega
 have hd := Delete_raw b S.length c k cur w q2 hk (by omega) (by omega) (by rw [q6]; exact sp1 S)
 refine hd.mono fun e w' ⟨g1, g2, g3, g4, g5, g6, g7⟩ => ⟨g1, ⟨g2, g3, g4, by omega, fun x hx hn => g6 x hn⟩, ?_, .inr ⟨b, c, (dlC cur.toList S.length k).toArray, rfl, q1, g7, by omega, q4, by rw [List.size_toArray, dlC_len hk hcl, Array.length_toList]; exact q5, ?_⟩⟩
 · rw [spl3, List.length_eraseIdx, if_pos hk]
 · show (dlC cur.toList S.length k).take _ = _
   rw [dlC_take hk hcl, q6, List.eraseIdx_eq_take_drop_succ, List.flatMap_append]
   have key : ∀ (S : List (Int × Int × Int)) (j : Nat), (S.take j).flatMap spF = (S.flatMap spF).take (j * 3) ∧ (S.drop j).flatMap spF = (S.flatMap spF).drop (j * 3) := fun S j => by
    induction S generalizing j with
    | nil => simp
    | cons a S ih =>
     cases j with
     | zero => simp
     | succ j =>
      obtain ⟨i1, i2⟩ := ih j
      rw [List.take_succ_cons, List.drop_succ_cons, List.flatMap_cons, List.flatMap_cons, i1, i2, show (j + 1) * 3 = j * 3 + 1 + 1 + 1 from by omega]
      constructor
      · simp only [spF, List.cons_append, List.nil_append, List.take_succ_cons]
      · simp only [spF, List.cons_append, List.nil_append, List.drop_succ_cons]
   rw [(key S k).1, (key S (k + 1)).2]
def tkV (r : Fnd) (S : List (Int × Int × Int)) (x : To) : Bool := decide (fsO x S = []) && (match r with | none => true | some b => decide (b.2 < pfO x S))
theorem tr_take {x : To} {r : Fnd} {S : List (Int × Int × Int)} : trR x r S = if tkV r S x = true then some (S, pfO x S) else r := by
 unfold trR tkV
 by_cases h : fsO x S = []
 · rw [if_pos h, decide_eq_true h, Bool.true_and]
   cases r with
   | none => rfl
   | some b =>
    dsimp only
    by_cases h2 : b.2 < pfO x S
    · simp [h2]
    · simp [h2]
 · rw [if_neg h, decide_eq_false h, Bool.false_and, if_neg (by decide)]
set_option maxHeartbeats 4000000 in
set_option maxRecDepth 100000 in
theorem try_ok (x : Tr) (tb fb mb ob rb c : Nat) (S : List (Int × Int × Int)) (r : Fnd) (m : Int) (v0 : Value) (w : World) (hn : ToN x.d) (hl : S.length ≤ 20) (hS : ∀ s ∈ S, (-9223372036854775808 ≤ s.2.1 ∧ s.2.1 ≤ 9223372036854775807) ∧ -9223372036854775808 ≤ s.2.2 ∧ s.2.2 ≤ 9223372036854775807)
 (hm : ∀ b, r = some b → b.2 = m) (h1 : w.heap[tb]? = some (.cells (SV.cs (fun _ => 0) x.l).toArray 35 (0, 0))) (h2 : w.heap[fb]? = some (.cells #[.bool r.isSome] 4 (0, 0))) (h3 : w.heap[mb]? = some (.cells #[iv m] 3 (0, 0))) (h4 : w.heap[ob]? = some (.cells #[v0] 28 (0, 0)))
 (h5 : w.ownsRow 0 96 3 (.slice (some ⟨rb, 0, none⟩) S.length c) S.length (S.flatMap spF)) (hne : tb ≠ fb ∧ tb ≠ mb ∧ tb ≠ ob ∧ tb ≠ rb ∧ fb ≠ mb ∧ fb ≠ ob ∧ fb ≠ rb ∧ mb ≠ ob ∧ mb ≠ rb ∧ ob ≠ rb)
 (hst : ∀ w', Chg (fun b => b = tb ∨ b = fb ∨ b = mb ∨ b = ob ∨ b = rb) w w' → TrIn x w') :
 Calls Try.prog 80 #[.slice (some ⟨rb, 0, none⟩) S.length c, .pointer (some ⟨tb, 0, none⟩), .pointer (some ⟨fb, 0, none⟩), .pointer (some ⟨mb, 0, none⟩), .pointer (some ⟨ob, 0, none⟩)] w fun e w' => e = .returned (.tuple #[]) ∧ Chg (fun b => b = fb ∨ b = mb ∨ b = ob ∨ b = rb) w w' ∧ w'.ownsRow 0 96 3 (.slice (some ⟨rb, 0, none⟩) S.length c) S.length (S.flatMap spF) ∧
  w'.heap[fb]? = some (.cells #[.bool (trR x.d r S).isSome] 4 (0, 0)) ∧ w'.heap[mb]? = some (.cells #[iv (if tkV r S x.d = true then pfO x.d S else m)] 3 (0, 0)) ∧ w'.heap[ob]? = some (.cells #[if tkV r S x.d = true then .slice (some ⟨rb, 0, none⟩) S.length c else v0] 28 (0, 0)) := by
 let β : Nat → Nat := fun i => match i with | 0 => tb | 1 => fb | 2 => mb | 3 => ob | 4 => rb | _ => c
 have hsp := fun (β : Nat → Nat) (w' : World) (h : (Blk.own 5 S.length 3 (S.flatMap spF) 96).ok β w' (β 4)) => (show SpIn (some ⟨β 4, 0, none⟩) (β 5) S w' from by
  have h' : w'.ownsRow 0 96 3 (.slice (some ⟨β 4, 0, none⟩) S.length (β 5)) S.length (S.flatMap spF) := h
  refine ⟨Rd.of_owns (sz := 3) (f := spF) (fun _ => rfl) rfl rfl h', by omega, ?_, hS⟩
  rcases h'.2 with ⟨h', _⟩ | ⟨g, cap, cur, q0, q1, q2, q3, _⟩
  · cases h'
  · simp only [Value.slice.injEq] at q0
    obtain ⟨_, _, rfl⟩ := q0
    exact q3)
 have hMB : ∀ i b, lk [(0, Blk.cells x.l 35), (1, .cells [.v (.bool r.isSome)] 4), (2, .cells [.v (iv m)] 3), (3, .cells [.v v0] 28), (4, .own 5 S.length 3 (S.flatMap spF) 96)] i = some b → b.live = true ∧ (b.ok β w (β i)) ∧ i < 5 := fun i b h => by
  have := lk_mem h
  simp only [List.mem_cons, Prod.mk.injEq, List.not_mem_nil, or_false] at this
  rcases this with ⟨rfl, rfl⟩ | ⟨rfl, rfl⟩ | ⟨rfl, rfl⟩ | ⟨rfl, rfl⟩ | ⟨rfl, rfl⟩
  · exact ⟨rfl, h1, by omega⟩
  · exact ⟨rfl, h2, by omega⟩
  · exact ⟨rfl, h3, by omega⟩
  · exact ⟨rfl, h4, by omega⟩
  · exact ⟨rfl, h5, by omega⟩
 have hinj : ∀ i j, i < 5 → j < 5 → i ≠ j → β i ≠ β j := fun i j hi hj hne' => by
  rcases (by omega : i = 0 ∨ i = 1 ∨ i = 2 ∨ i = 3 ∨ i = 4) with rfl | rfl | rfl | rfl | rfl <;> rcases (by omega : j = 0 ∨ j = 1 ∨ j = 2 ∨ j = 3 ∨ j = 4) with rfl | rfl | rfl | rfl | rfl <;> first | exact absurd rfl hne' | (show _ ≠ _; simp only [β]; omega)
 have hst' : ∀ w', Chg (fun b => ∃ i bk, lk [(0, Blk.cells x.l 35), (1, .cells [.v (.bool r.isSome)] 4), (2, .cells [.v (iv m)] 3), (3, .cells [.v v0] 28), (4, .own 5 S.length 3 (S.flatMap spF) 96)] i = some bk ∧ β i = b) w w' → TrIn x w' := fun w' hc => hst w' ⟨hc.os, hc.tape, hc.output, hc.size, fun b hb hX => hc.same b hb fun ⟨i, bk, h1, h2⟩ => hX (by
  rcases (by have := (hMB i bk h1).2.2; omega : i = 0 ∨ i = 1 ∨ i = 2 ∨ i = 3 ∨ i = 4) with rfl | rfl | rfl | rfl | rfl <;> simp only [β] at h2 <;> simp [h2])⟩
 have hr := tr_take (x := x.d) (r := r) (S := S)
 have key : ∀ (q1 : Bool) (q2 : Int) (q3 : SV), SV.lt 6 q3 = true → (∀ h : World → Prop, (∀ w', h w' → TrIn x w') → VC Try.prog body80 ⟨Try.f80.ntmps, slotsOf 0 [.os 4 5 S.length, .ptr 0 0, .ptr 1 0, .ptr 2 0, .ptr 3 0], [(0, Blk.cells x.l 35), (1, .cells [.v (.bool r.isSome)] 4), (2, .cells [.v (iv m)] 3), (3, .cells [.v v0] 28), (4, .own 5 S.length 3 (S.flatMap spF) 96)], 6, h, ⟨pinG 6, [], 0⟩⟩
  (endΦ env Try.f80 fun s σ => (∀ β, s.c β = .tuple #[]) ∧ MSub σ.m [(0, Blk.cells x.l 35), (1, .cells [.v (.bool q1)] 4), (2, .cells [.v (iv q2)] 3), (3, .cells [q3] 28), (4, .own 5 S.length 3 (S.flatMap spF) 96)] ∧ (∀ w', σ.h w' → h w') ∧ σ.z.g = pinG 6)) →
  Calls Try.prog 80 #[.slice (some ⟨rb, 0, none⟩) S.length c, .pointer (some ⟨tb, 0, none⟩), .pointer (some ⟨fb, 0, none⟩), .pointer (some ⟨mb, 0, none⟩), .pointer (some ⟨ob, 0, none⟩)] w fun e w' => e = .returned (.tuple #[]) ∧ Chg (fun b => b = fb ∨ b = mb ∨ b = ob ∨ b = rb) w w' ∧ w'.ownsRow 0 96 3 (.slice (some ⟨rb, 0, none⟩) S.length c) S.length (S.flatMap spF) ∧
  w'.heap[fb]? = some (.cells #[.bool q1] 4 (0, 0)) ∧ w'.heap[mb]? = some (.cells #[iv q2] 3 (0, 0)) ∧ w'.heap[ob]? = some (.cells #[q3.c β] 28 (0, 0)) := fun q1 q2 q3 hq3 hvc => by
  have key := calls_WSV env mixed Try.func80 has80 (nt := Try.f80.ntmps) rfl [.os 4 5 S.length, .ptr 0 0, .ptr 1 0, .ptr 2 0, .ptr 3 0] [(0, Blk.cells x.l 35), (1, .cells [.v (.bool r.isSome)] 4), (2, .cells [.v (iv m)] 3), (3, .cells [.v v0] 28), (4, .own 5 S.length 3 (S.flatMap spF) 96)] [(0, Blk.cells x.l 35), (1, .cells [.v (.bool q1)] 4), (2, .cells [.v (iv q2)] 3), (3, .cells [q3] 28), (4, .own 5 S.length 3 (S.flatMap spF) 96)] 6 (.tuple #[]) (by rw [Try.ntmps80]; simp) rfl rfl (by simp only [mB, Blk.lt, SV.lts, hq3]; rfl) (fun i b h => (hMB i b h).1) (Hp := TrIn x) hvc (β := β) (w := w) (fun i b h => (hMB i b h).2.1) (fun i j bi bj hi hj hne' => hinj i j (hMB i bi hi).2.2 (hMB j bj hj).2.2 hne') hst'
  refine key.mono fun e w' ⟨g1, g2, g3⟩ => ⟨g1, ⟨g2.os, g2.tape, g2.output, g2.size, fun b hb hX => ?_⟩, g3 4 _ rfl, g3 1 _ rfl, g3 2 _ rfl, g3 3 _ rfl⟩
  by_cases ht : b = tb
  · subst ht
    have := g3 0 _ rfl
    rw [h1]; exact this
  · refine g2.same b hb fun ⟨i, bk, h1, h2⟩ => ?_
    rcases (by have := (hMB i bk h1).2.2; omega : i = 0 ∨ i = 1 ∨ i = 2 ∨ i = 3 ∨ i = 4) with rfl | rfl | rfl | rfl | rfl <;> simp only [β] at h2
    · exact ht h2.symm
    · exact hX (.inl h2.symm)
    · exact hX (.inr (.inl h2.symm))
    · exact hX (.inr (.inr (.inl h2.symm)))
    · exact hX (.inr (.inr (.inr h2.symm)))
 have h74 := fun (β : Nat → Nat) w' (hw : TrIn x w') (ho : (Blk.own 5 S.length 3 (S.flatMap spF) 96).ok β w' (β 4)) => faults_ok x (some ⟨β 4, 0, none⟩) (β 5) S w' hw hn (hsp β w' ho)
 by_cases hf : fsO x.d S = []
 · have hsn := fs_spn hn hf
   have hlen : x.d.T.length = x.T.length := List.length_map ..
   rw [hlen] at hsn
   have h75 := fun (β : Nat → Nat) w' (hw : TrIn x w') (ho : (Blk.own 5 S.length 3 (S.flatMap spF) 96).ok β w' (β 4)) => profit_ok x (some ⟨β 4, 0, none⟩) (β 5) S w' hw hn (hsp β w' ho).r hl hsn
   rw [hf] at h74
   have hmc : ∀ b, r = some b → (decide (b.2 < pfO x.d S)) = decide (m < pfO x.d S) := fun b hb => by rw [hm b hb]
   have hst1 : trR x.d r S = if tkV r S x.d = true then some (S, pfO x.d S) else r := hr
   clear hr
   cases hr0 : r with
   | none =>
    have htk : tkV none S x.d = true := by unfold tkV; rw [decide_eq_true hf]; rfl
    rw [hr0, htk, if_pos rfl] at hst1
    rw [htk, hst1]
    subst hr0
    refine key true (pfO x.d S) (.os 4 5 S.length) rfl fun h hh => VC.of env mixed ?_
    generalize pfO x.d S = P at *
    clear hst1 hf hsp hMB key hst hst' h5 h4 h3 h2 h1 hn hS htk hsn hlen hmc hm
    obtain ⟨days, shift, size, to, tc, T, lo, lc, L⟩ := x
    repeat'
     conv => whnf
     first
      | refine zA ?_ | refine zB ?_ | refine zC ?_ | refine zD ?_ | refine zE ?_ | refine zF ?_ | refine zG ?_ | refine zH ?_ | refine zJ ?_ | refine zI ?_ | refine splT ?_ | refine splF ?_ | refine splNot ?_
      | ((first | refine splIn ?_ ?_ | refine splD ?_ ?_ | refine splE ?_ ?_ | refine splNE ?_ ?_) <;> intro hc <;> first | (exfalso; omega) | (exfalso; dsimp only at hc; omega) | skip)
      | ((with_reducible show CallEv _ _ 74 _ _ _ _ _); refine callF [4] (fun y : Option Addr × Nat => sV 0 y) (fun _ _ => True) (fun β' w' hbk hbw => (h74 β' w' (hh w' hbw) (hbk 4 (by simp) _ rfl)).mono fun e w2 ⟨y, h1, h2, _⟩ => ⟨y, h1, h2, fun _ _ => trivial⟩) ?_; intro y)
      | ((with_reducible show CallEv _ _ 75 _ _ _ _ _); refine callM [4] (fun β' w' hbk hbw => h75 β' w' (hh w' hbw.1) (hbk 4 (by simp) _ rfl)) ?_)
    all_goals first | (exfalso; omega) | exact ⟨fun β => rfl, ⟨rfl, rfl, rfl, rfl, rfl, trivial⟩, fun w' h => h.1, rfl⟩
   | some b =>
    have hbm := hm b hr0
    by_cases hlt : m < pfO x.d S
    · have htk : tkV (some b) S x.d = true := by unfold tkV; rw [decide_eq_true hf]; simp [hbm, hlt]
      rw [hr0, htk, if_pos rfl] at hst1
      rw [htk, hst1]
      subst hr0
      refine key true (pfO x.d S) (.os 4 5 S.length) rfl fun h hh => VC.of env mixed ?_
      generalize pfO x.d S = P at *
      clear hst1 hf hsp hMB key hst hst' h5 h4 h3 h2 h1 hn hS htk hsn hlen hmc hm
      obtain ⟨days, shift, size, to, tc, T, lo, lc, L⟩ := x
      repeat'
       conv => whnf
       first
        | refine zA ?_ | refine zB ?_ | refine zC ?_ | refine zD ?_ | refine zE ?_ | refine zF ?_ | refine zG ?_ | refine zH ?_ | refine zJ ?_ | refine zI ?_ | refine splT ?_ | refine splF ?_ | refine splNot ?_
        | ((first | refine splIn ?_ ?_ | refine splD ?_ ?_ | refine splE ?_ ?_ | refine splNE ?_ ?_) <;> intro hc <;> first | (exfalso; omega) | (exfalso; dsimp only at hc; omega) | skip)
        | ((with_reducible show CallEv _ _ 74 _ _ _ _ _); refine callF [4] (fun y : Option Addr × Nat => sV 0 y) (fun _ _ => True) (fun β' w' hbk hbw => (h74 β' w' (hh w' hbw) (hbk 4 (by simp) _ rfl)).mono fun e w2 ⟨y, h1, h2, _⟩ => ⟨y, h1, h2, fun _ _ => trivial⟩) ?_; intro y)
        | ((with_reducible show CallEv _ _ 75 _ _ _ _ _); refine callM [4] (fun β' w' hbk hbw => h75 β' w' (hh w' hbw.1) (hbk 4 (by simp) _ rfl)) ?_)
      all_goals first | (exfalso; omega) | exact ⟨fun β => rfl, ⟨rfl, rfl, rfl, rfl, rfl, trivial⟩, fun w' h => h.1, rfl⟩
    · have htk : tkV (some b) S x.d = false := by unfold tkV; rw [decide_eq_true hf]; simp [hbm]; omega
      rw [hr0, htk, if_neg (by decide)] at hst1
      rw [htk, hst1]
      subst hr0
      refine key true m (.v v0) rfl fun h hh => VC.of env mixed ?_
      generalize pfO x.d S = P at *
      clear hst1 hf hsp hMB key hst hst' h5 h4 h3 h2 h1 hn hS htk hsn hlen hmc hm
      obtain ⟨days, shift, size, to, tc, T, lo, lc, L⟩ := x
      repeat'
       conv => whnf
       first
        | refine zA ?_ | refine zB ?_ | refine zC ?_ | refine zD ?_ | refine zE ?_ | refine zF ?_ | refine zG ?_ | refine zH ?_ | refine zJ ?_ | refine zI ?_ | refine splT ?_ | refine splF ?_ | refine splNot ?_
        | ((first | refine splIn ?_ ?_ | refine splD ?_ ?_ | refine splE ?_ ?_ | refine splNE ?_ ?_) <;> intro hc <;> first | (exfalso; omega) | (exfalso; dsimp only at hc; omega) | skip)
        | ((with_reducible show CallEv _ _ 74 _ _ _ _ _); refine callF [4] (fun y : Option Addr × Nat => sV 0 y) (fun _ _ => True) (fun β' w' hbk hbw => (h74 β' w' (hh w' hbw) (hbk 4 (by simp) _ rfl)).mono fun e w2 ⟨y, h1, h2, _⟩ => ⟨y, h1, h2, fun _ _ => trivial⟩) ?_; intro y)
        | ((with_reducible show CallEv _ _ 75 _ _ _ _ _); refine callM [4] (fun β' w' hbk hbw => h75 β' w' (hh w' hbw.1) (hbk 4 (by simp) _ rfl)) ?_)
      all_goals first | (exfalso; omega) | exact ⟨fun β => rfl, ⟨rfl, rfl, rfl, rfl, rfl, trivial⟩, fun w' h => h.1, rfl⟩
 · have hfl : 1 ≤ (fsO x.d S).length := by
    cases hc : fsO x.d S with
    | nil => exact absurd hc hf
    | cons a l => simp
   have hfl2 := fsP_len x.d S S.length
   change (fsO x.d S).length ≤ _ at hfl2
   have htk : tkV r S x.d = false := by unfold tkV; rw [decide_eq_false hf, Bool.false_and]
   rw [htk] at hr ⊢
   rw [if_neg (by decide)] at hr
   rw [hr]
   refine key r.isSome m (.v v0) rfl fun h hh => VC.of env mixed ?_
   generalize fsO x.d S = F at *
   clear hr hf hsp hMB key hst hst' h5 h4 h3 h2 h1 hn hS
   obtain ⟨days, shift, size, to, tc, T, lo, lc, L⟩ := x
   repeat'
    conv => whnf
    first
     | refine zA ?_ | refine zB ?_ | refine zC ?_ | refine zD ?_ | refine zE ?_ | refine zF ?_ | refine zG ?_ | refine zH ?_ | refine zJ ?_ | refine zI ?_ | refine splT ?_ | refine splF ?_ | refine splNot ?_
     | ((first | refine splIn ?_ ?_ | refine splD ?_ ?_ | refine splE ?_ ?_ | refine splNE ?_ ?_) <;> intro hc <;> first | (exfalso; omega) | (exfalso; dsimp only at hc; omega) | skip)
     | ((with_reducible show CallEv _ _ 74 _ _ _ _ _); refine callF [4] (fun y : Option Addr × Nat => sV F.length y) (fun _ _ => True) (fun β' w' hbk hbw => (h74 β' w' (hh w' hbw) (hbk 4 (by simp) _ rfl)).mono fun e w2 ⟨y, h1, h2, _⟩ => ⟨y, h1, h2, fun _ _ => trivial⟩) ?_; intro y)
   all_goals first | (exfalso; omega) | exact ⟨fun β => rfl, ⟨rfl, rfl, rfl, rfl, rfl, trivial⟩, fun w' h => h.1, rfl⟩
end Go.Proofs.Ythfabodamhdhaaa
namespace Go.Proofs.Ythfabodamhdhaaa.Tx
open Go Go.RowKit
set_option linter.unusedVariables false
theorem Dis.mk6 {α : Type} {nt nb nb' : Nat} {t : List (Nat × SV)} {m : List (Nat × Blk)} {h : World → Prop} {z z' : Gz} (ρ : Nat → Nat) (L : List Nat) {t' : α → List (Nat × SV)} {m' : α → List (Nat × Blk)} {h' : α → World → Prop} {pre : α → Prop} {w0 : World}
 (hZ : ZSub z z') (hz : GEqR ρ z'.g) (hL : ∀ i ∈ L, ∃ b, lk m i = some b ∧ b.live = true) (hbel : ∀ w, h w → Below w0.heap.size w0 w)
 (hx : ∀ β w, (∀ i b, lk m i = some b → b.ok β w (β i)) → h w → (∀ i b, lk m i = some b → b.live = true → w0.heap.size ≤ β i) →
  ∃ x, pre x ∧ TEqR ρ β t (t' x) ∧ MEqR ρ L β m (m' x) ∧ injR ρ (m' x) = true ∧ ∀ w2, h w2 → (∀ i ∈ L, ∀ b, lk m i = some b → b.ok β w2 (β i)) → h' x w2) :
 Dis ⟨nt, t, m, nb, h, z⟩ (fun x => ⟨nt, t' x, m' x, nb', h' x, z'⟩) pre := by
 have h4 := Dis.mk4 (nt := nt) (nb := nb) (nb' := nb') (t := t) (z := z') (w0 := w0) (pre := pre) ρ L hz hL hbel hx
 unfold Dis at h4 ⊢
 rintro X a w ⟨β, D, hs⟩
 exact h4 X a w ⟨β, D, hs.defers, hs.size, hs.t, hs.m, hs.inj, hs.out, hs.dlt, hs.h, hs.amb.sub hZ⟩
end Go.Proofs.Ythfabodamhdhaaa.Tx
namespace Go.Proofs.Ythfabodamhdhaaa
open Go Tx Go.RowKit
set_option linter.unusedSimpArgs false
set_option linter.unusedVariables false
def FS (r : Fnd) (y : Option Addr × Nat) (w : World) : Prop := match r with | none => True | some b => Rd 3 spF (sV b.1.length y) b.1 w ∧ b.1.length ≤ y.2
def fvV (r : Fnd) (y : Option Addr × Nat) : Value := match r with | none => .slice none 0 0 | some b => sV b.1.length y
def fvM (r : Fnd) : Int := match r with | none => 0 | some b => b.2
theorem try_B (x : Tr) (S : List (Int × Int × Int)) (n : Nat) (hN : S.length = n) (r : Fnd) (v0 : Value) (β : Nat → Nat) (w : World) (i0 i5 i4 i3 q qm : Nat) (hn : ToN x.d) (hl : n ≤ 20) (hS : ∀ s ∈ S, (-9223372036854775808 ≤ s.2.1 ∧ s.2.1 ≤ 9223372036854775807) ∧ -9223372036854775808 ≤ s.2.2 ∧ s.2.2 ≤ 9223372036854775807)
 (h0 : (Blk.cells x.l 35).ok β w (β i0)) (h5 : (Blk.cells [.v (.bool r.isSome)] 4).ok β w (β i5)) (h4 : (Blk.cells [.v (iv (fvM r))] 3).ok β w (β i4)) (h3 : (Blk.cells [.v v0] 28).ok β w (β i3)) (hq : (Blk.own qm n 3 (S.flatMap spF) 96).ok β w (β q))
 (hne : β i0 ≠ β i5 ∧ β i0 ≠ β i4 ∧ β i0 ≠ β i3 ∧ β i0 ≠ β q ∧ β i5 ≠ β i4 ∧ β i5 ≠ β i3 ∧ β i5 ≠ β q ∧ β i4 ≠ β i3 ∧ β i4 ≠ β q ∧ β i3 ≠ β q)
 (hst : ∀ w', Chg (fun b => b = β i0 ∨ b = β i5 ∨ b = β i4 ∨ b = β i3 ∨ b = β q) w w' → TrIn x w')
 (q1 : Bool) (q2 : Int) (q3 : SV) (e1 : (trR x.d r S).isSome = q1) (e2 : fvM (trR x.d r S) = q2) (e3 : (if tkV r S x.d = true then SV.os q qm n else .v v0) = q3) :
 Calls Try.prog 80 (SV.cs β [.os q qm n, .ptr i0 0, .ptr i5 0, .ptr i4 0, .ptr i3 0]).toArray w fun e w' => e = .returned ((SV.v (.tuple #[])).c β) ∧ Chg (fun b => ∃ i bk, (i, bk) ∈ [(i5, Blk.cells [.v (.bool q1)] 4), (i4, .cells [.v (iv q2)] 3), (i3, .cells [q3] 28), (q, .own qm n 3 (S.flatMap spF) 96)] ∧ β i = b) w w' ∧
  ∀ i b, (i, b) ∈ [(i5, Blk.cells [.v (.bool q1)] 4), (i4, .cells [.v (iv q2)] 3), (i3, .cells [q3] 28), (q, .own qm n 3 (S.flatMap spF) 96)] → b.ok β w' (β i) := by
 subst hN e1 e2 e3
 have h := try_ok x (β i0) (β i5) (β i4) (β i3) (β q) (β qm) S r (fvM r) v0 w hn hl hS (fun b hb => by rw [hb]; rfl) h0 h5 h4 h3 hq hne hst
 have hr := tr_take (x := x.d) (r := r) (S := S)
 refine h.mono fun e w' ⟨g1, g2, g3, g4, g5, g6⟩ => ⟨g1, ⟨g2.os, g2.tape, g2.output, g2.size, fun b hb hX => g2.same b hb fun hc => hX ?_⟩, fun i b hm => ?_⟩
 · rcases hc with rfl | rfl | rfl | rfl
   · exact ⟨i5, _, List.mem_cons_self .., rfl⟩
   · exact ⟨i4, _, List.mem_cons_of_mem _ (List.mem_cons_self ..), rfl⟩
   · exact ⟨i3, _, List.mem_cons_of_mem _ (List.mem_cons_of_mem _ (List.mem_cons_self ..)), rfl⟩
   · exact ⟨q, _, List.mem_cons_of_mem _ (List.mem_cons_of_mem _ (List.mem_cons_of_mem _ (List.mem_cons_self ..))), rfl⟩
 · simp only [List.mem_cons, Prod.mk.injEq, List.not_mem_nil, or_false] at hm
   rcases hm with ⟨rfl, rfl⟩ | ⟨rfl, rfl⟩ | ⟨rfl, rfl⟩ | ⟨rfl, rfl⟩
   · exact g4
   · have : fvM (trR x.d r S) = if tkV r S x.d = true then pfO x.d S else fvM r := by
      rw [hr]; split <;> rfl
     rw [this]; exact g5
   · cases hb : tkV r S x.d
     · rw [hb] at g6; exact g6
     · rw [hb] at g6; exact g6
   · exact g3
theorem del_B (S : List (Int × Int × Int)) (n k : Nat) (hN : S.length = n) (hk : k < n) (β : Nat → Nat) (w : World) (q qm : Nat) (hq : (Blk.own qm n 3 (S.flatMap spF) 96).ok β w (β q)) :
 Calls Try.prog 81 (SV.cs β [.os q qm n, .v (iv k), .v (iv ((k : Int) + 1))]).toArray w fun e w' => e = .returned ((SV.os q qm (n - 1)).c β) ∧ Chg (fun b => ∃ i bk, (i, bk) ∈ [(q, Blk.own qm (n - 1) 3 ((S.eraseIdx k).flatMap spF) 96)] ∧ β i = b) w w' ∧
  ∀ i b, (i, b) ∈ [(q, Blk.own qm (n - 1) 3 ((S.eraseIdx k).flatMap spF) 96)] → b.ok β w' (β i) := by
 subst hN
 refine (sdel_own S (β q) (β qm) k w hk hq).mono fun e w' ⟨g1, g2, g3⟩ => ⟨g1, ⟨g2.os, g2.tape, g2.output, g2.size, fun b hb hX => g2.same b hb fun hc => hX ⟨q, _, List.mem_singleton.2 rfl, hc.symm⟩⟩, fun i b hm => ?_⟩
 rw [List.mem_singleton, Prod.mk.injEq] at hm
 obtain ⟨rfl, rfl⟩ := hm
 exact g3
theorem set_flat (S : List (Int × Int × Int)) (k : Nat) (s : Int × Int × Int) (hk : k < S.length) : (S.flatMap spF).take (k * 3) ++ spF s ++ (S.flatMap spF).drop (k * 3 + 3) = (S.set k s).flatMap spF := by
 induction S generalizing k with
 | nil => simp at hk
 | cons a S ih =>
  cases k with
  | zero => simp [spF]
  | succ k =>
   have := ih k (by simpa using hk)
   rw [List.set_cons_succ, List.flatMap_cons, List.flatMap_cons, ← this, show (k + 1) * 3 = k * 3 + 1 + 1 + 1 from by omega, show k * 3 + 1 + 1 + 1 + 3 = k * 3 + 3 + 1 + 1 + 1 from by omega]
   simp only [spF, List.cons_append, List.nil_append, List.take_succ_cons, List.drop_succ_cons]
theorem fs_own {w : World} {β : Nat → Nat} {q qm n : Nat} {S : List (Int × Int × Int)} {m : Int} {w2 : World} (hge : w.heap.size ≤ β q) (hlen : S.length = n) (h : (Blk.own qm n 3 (S.flatMap spF) 96).ok β w2 (β q)) : St w.heap.size (FS (some (S, m)) (some ⟨β q, 0, none⟩, β qm)) w2 := fun w3 hk => by
 subst hlen
 have h' := Blk.keep rfl h hge hk
 have h2 : w3.ownsRow 0 96 3 (.slice (some ⟨β q, 0, none⟩) S.length (β qm)) S.length (S.flatMap spF) := h'
 refine ⟨Rd.of_owns (sz := 3) (f := spF) (fun _ => rfl) rfl rfl h2, ?_⟩
 rcases h2.2 with ⟨h', _⟩ | ⟨g, cap, cur, q0, q1, q2, q3, _⟩
 · cases h'
 · simp only [Value.slice.injEq] at q0
   obtain ⟨_, _, q0⟩ := q0
   show S.length ≤ β qm
   omega
set_option maxHeartbeats 4000000 in
set_option maxRecDepth 100000 in
theorem Rp5 (days shift size : Int) (to : Option Addr) (tc : Nat) (T : List Tn) (lo : Option Addr) (lc : Nat) (L : List Lr) (x : Tr) (ad : Addr) (c : Nat) (S : List (Int × Int × Int)) (k : Nat) (w : World) (h : TrIn x w) (hn : ToN x.d) (hS : SpIn (some ad) c S w) (hl : S.length ≤ 20) (hk : k < S.length) (hB : toB x.d = true) (hF : fsO x.d S = []) (hx : ⟨days, shift, size, to, tc, T, lo, lc, L⟩ = x)
 (h6 : ∀ y : Option Addr × Nat, VC Try.prog (rest 6 body46) ⟨78, [(3, .ptr 0 0), (4, .ptr 1 0), (5, .ptr 2 0), (6, .ptr 3 0), (7, .ptr 4 0), (10, .ptr 5 0), (11, .ptr 6 0)], [(0, .cells (Tr.l ⟨days, shift, size, to, tc, T, lo, lc, L⟩) 35), (1, .cells [.v (.slice (some ad) S.length c)] 28), (2, .cells [.v (iv k)] 3), (3, .cells [.v (fvV (trR (Tr.d ⟨days, shift, size, to, tc, T, lo, lc, L⟩) none (S.eraseIdx k)) y)] 28), (4, .cells [.v (iv (fvM (trR (Tr.d ⟨days, shift, size, to, tc, T, lo, lc, L⟩) none (S.eraseIdx k))))] 3), (5, .cells [.v (.bool (trR (Tr.d ⟨days, shift, size, to, tc, T, lo, lc, L⟩) none (S.eraseIdx k)).isSome)] 4), (6, .cells [.fn (.func 80) [.ptr 0 0, .ptr 5 0, .ptr 4 0, .ptr 3 0]] 143)], 7, fun w' => Below w.heap.size w w' ∧ St w.heap.size (FS (trR (Tr.d ⟨days, shift, size, to, tc, T, lo, lc, L⟩) none (S.eraseIdx k)) y) w', z0⟩ (endΦ env Try.f46 fun s σ => (∀ w', σ.h w' → Below w.heap.size w w') ∧ ∀ β w', σ.h w' → (∀ i b, lk σ.m i = some b → b.live = true → St w.heap.size (fun w2 => b.ok β w2 (β i)) w') → ∃ y : Option Addr × Nat, s.c β = .tuple #[sV (rpV (Tr.d ⟨days, shift, size, to, tc, T, lo, lc, L⟩) S k).1.length y, iv (rpV (Tr.d ⟨days, shift, size, to, tc, T, lo, lc, L⟩) S k).2.1, iv (rpV (Tr.d ⟨days, shift, size, to, tc, T, lo, lc, L⟩) S k).2.2] ∧ St w.heap.size (fun w2 => Rd 3 spF (sV (rpV (Tr.d ⟨days, shift, size, to, tc, T, lo, lc, L⟩) S k).1.length y) (rpV (Tr.d ⟨days, shift, size, to, tc, T, lo, lc, L⟩) S k).1 w2 ∧ (rpV (Tr.d ⟨days, shift, size, to, tc, T, lo, lc, L⟩) S k).1.length ≤ y.2) w')) :
 VC Try.prog body46 ⟨78, slotsOf 0 ([.agg #[iv days, iv shift, iv size, .slice to T.length tc, .slice lo L.length lc], .slice (some ad) S.length c, iv k].map SV.v), [], 0, Below w.heap.size w, z0⟩ (endΦ env Try.f46 fun s σ => (∀ w', σ.h w' → Below w.heap.size w w') ∧ ∀ β w', σ.h w' → (∀ i b, lk σ.m i = some b → b.live = true → St w.heap.size (fun w2 => b.ok β w2 (β i)) w') → ∃ y : Option Addr × Nat, s.c β = .tuple #[sV (rpV (Tr.d ⟨days, shift, size, to, tc, T, lo, lc, L⟩) S k).1.length y, iv (rpV (Tr.d ⟨days, shift, size, to, tc, T, lo, lc, L⟩) S k).2.1, iv (rpV (Tr.d ⟨days, shift, size, to, tc, T, lo, lc, L⟩) S k).2.2] ∧ St w.heap.size (fun w2 => Rd 3 spF (sV (rpV (Tr.d ⟨days, shift, size, to, tc, T, lo, lc, L⟩) S k).1.length y) (rpV (Tr.d ⟨days, shift, size, to, tc, T, lo, lc, L⟩) S k).1 w2 ∧ (rpV (Tr.d ⟨days, shift, size, to, tc, T, lo, lc, L⟩) S k).1.length ≤ y.2) w') := by
 subst hx
 have h73 := fun w' hb => check_ok ⟨days, shift, size, to, tc, T, lo, lc, L⟩ (some ad) c S w' (h.below hb) hS.l
 rw [hB, if_pos rfl, if_pos hl] at h73
 have h74 := fun w' (hb : Below w.heap.size w w') => (faults_ok ⟨days, shift, size, to, tc, T, lo, lc, L⟩ (some ad) c S w' (h.below hb) hn (hS.below hb)).mono (R' := fun e w2 => ∃ y : Option Addr × Nat, e = .returned (sV (fsO (Tr.d ⟨days, shift, size, to, tc, T, lo, lc, L⟩) S).length y) ∧ Below w'.heap.size w' w2 ∧ St w'.heap.size (fun _ => True) w2) fun e w2 ⟨y, h1, h2, h3⟩ => ⟨y, h1, h2, fun _ _ => trivial⟩
 rw [hF] at h74
 have hSr := fun w' (hb : Below w.heap.size w w') => hS.r.below hb
 have hbel := fun w' (hb : Below w.heap.size w w') => h.below hb
 have hlE : (S.eraseIdx k).length = S.length - 1 := by rw [List.length_eraseIdx, if_pos hk]
 have hbE : ∀ s ∈ S.eraseIdx k, (-9223372036854775808 ≤ s.2.1 ∧ s.2.1 ≤ 9223372036854775807) ∧ -9223372036854775808 ≤ s.2.2 ∧ s.2.2 ≤ 9223372036854775807 := fun s hs => hS.n s (List.mem_of_mem_eraseIdx hs)
 refine VC.cutD env mixed 6 7 (fun y : Option Addr × Nat => [(3, .ptr 0 0), (4, .ptr 1 0), (5, .ptr 2 0), (6, .ptr 3 0), (7, .ptr 4 0), (10, .ptr 5 0), (11, .ptr 6 0)]) (fun y => [(0, .cells (Tr.l ⟨days, shift, size, to, tc, T, lo, lc, L⟩) 35), (1, .cells [.v (.slice (some ad) S.length c)] 28), (2, .cells [.v (iv k)] 3), (3, .cells [.v (fvV (trR (Tr.d ⟨days, shift, size, to, tc, T, lo, lc, L⟩) none (S.eraseIdx k)) y)] 28), (4, .cells [.v (iv (fvM (trR (Tr.d ⟨days, shift, size, to, tc, T, lo, lc, L⟩) none (S.eraseIdx k))))] 3), (5, .cells [.v (.bool (trR (Tr.d ⟨days, shift, size, to, tc, T, lo, lc, L⟩) none (S.eraseIdx k)).isSome)] 4), (6, .cells [.fn (.func 80) [.ptr 0 0, .ptr 5 0, .ptr 4 0, .ptr 3 0]] 143)]) (fun y w' => Below w.heap.size w w' ∧ St w.heap.size (FS (trR (Tr.d ⟨days, shift, size, to, tc, T, lo, lc, L⟩) none (S.eraseIdx k)) y) w') (fun _ => True) (fun y _ => ⟨rfl, rfl⟩) ?_ (fun y _ => h6 y)
 clear h6
 have hq0 : ∀ b, tkV none (S.eraseIdx k) (Tr.d ⟨days, shift, size, to, tc, T, lo, lc, L⟩) = b → trR (Tr.d ⟨days, shift, size, to, tc, T, lo, lc, L⟩) none (S.eraseIdx k) = if b = true then some (S.eraseIdx k, pfO (Tr.d ⟨days, shift, size, to, tc, T, lo, lc, L⟩) (S.eraseIdx k)) else none := fun b hb => by rw [← hb]; exact tr_take
 cases htk : tkV none (S.eraseIdx k) (Tr.d ⟨days, shift, size, to, tc, T, lo, lc, L⟩) with
 | false =>
  have hR := hq0 false htk
  rw [if_neg (by decide)] at hR
  have hq1 : (trR (Tr.d ⟨days, shift, size, to, tc, T, lo, lc, L⟩) none (S.eraseIdx k)).isSome = false := by rw [hR]; rfl
  have hq2 : fvM (trR (Tr.d ⟨days, shift, size, to, tc, T, lo, lc, L⟩) none (S.eraseIdx k)) = 0 := by rw [hR]; rfl
  have hq3 : (if tkV none (S.eraseIdx k) (Tr.d ⟨days, shift, size, to, tc, T, lo, lc, L⟩) = true then SV.os 7 8 (S.length - 1) else .v (.slice none 0 0)) = .v (.slice none 0 0) := by rw [htk]; rfl
  skip
  repeat'
   conv => whnf
   first
    | refine zA ?_ | refine zB ?_ | refine zC ?_ | refine zD ?_ | refine zE ?_ | refine zF ?_ | refine zG ?_ | refine zH ?_ | refine zJ ?_ | refine zI ?_ | refine splT ?_ | refine splF ?_ | refine splNot ?_
    | ((first | refine splIn ?_ ?_ | refine splD ?_ ?_ | refine splE ?_ ?_ | refine splNE ?_ ?_) <;> intro hc <;> first | (exfalso; omega) | (exfalso; dsimp only at hc; omega) | skip)
    | ((with_reducible show CallEv _ _ 73 _ _ _ _ _); refine callE (k := 73) (fun β w' hbw => h73 w' (by repeat (first | exact hbw | replace hbw := hbw.1))) ?_)
    | ((with_reducible show CallEv _ _ 74 _ _ _ _ _); refine callF [] (fun y : Option Addr × Nat => sV 0 y) (fun _ _ => True) (fun β w' _ hbw => h74 w' (by repeat (first | exact hbw | replace hbw := hbw.1))) ?_; intro y0)
    | ((with_reducible show CallEv _ _ 70 _ _ _ _ _); refine callE (k := 70) (fun β w' hbw => within_ok _ _ _ w') ?_)
    | ((with_reducible show CallEv _ _ 82 _ _ _ _ _); refine callO 7 [] (.os 7 8 S.length) S.length 3 (S.flatMap spF) 96 rfl (fun β w' _ hbw => (sclone_own S (some ad) c w' (hSr w' (by repeat (first | exact hbw | replace hbw := hbw.1))) (by omega) (by omega)).mono fun e w2 ⟨b, d, g1, g2, g3, g4⟩ => ⟨b, d, g1, g2, g3, g4⟩) ?_)
    | ((with_reducible show CallEv _ _ 81 _ _ _ _ _); refine callQ [7] [(7, .own 8 (S.length - 1) 3 ((S.eraseIdx k).flatMap spF) 96)] (.os 7 8 (S.length - 1)) rfl (fun β w' hbk hinj hst => del_B S S.length k rfl hk β w' 7 8 (hbk 7 (by simp) _ rfl)) ?_)
    | ((with_reducible show CallEv _ _ 80 _ _ _ _ _); refine callQ [0, 5, 4, 3, 7] [(5, .cells [.v (.bool false)] 4), (4, .cells [.v (iv 0)] 3), (3, .cells [(.v (.slice none 0 0))] 28), (7, .own 8 (S.length - 1) 3 ((S.eraseIdx k).flatMap spF) 96)] (.v (.tuple #[])) rfl (fun β w' hbk hinj hst => try_B ⟨days, shift, size, to, tc, T, lo, lc, L⟩ (S.eraseIdx k) (S.length - 1) hlE none (.slice none 0 0) β w' 0 5 4 3 7 8 hn (by omega) hbE (hbk 0 (by simp) _ rfl) (hbk 5 (by simp) _ rfl) (hbk 4 (by simp) _ rfl) (hbk 3 (by simp) _ rfl) (hbk 7 (by simp) _ rfl) ⟨hinj 0 (by simp) 5 (by simp) _ _ rfl rfl rfl rfl (by decide), hinj 0 (by simp) 4 (by simp) _ _ rfl rfl rfl rfl (by decide), hinj 0 (by simp) 3 (by simp) _ _ rfl rfl rfl rfl (by decide), hinj 0 (by simp) 7 (by simp) _ _ rfl rfl rfl rfl (by decide), hinj 5 (by simp) 4 (by simp) _ _ rfl rfl rfl rfl (by decide), hinj 5 (by simp) 3 (by simp) _ _ rfl rfl rfl rfl (by decide), hinj 5 (by simp) 7 (by simp) _ _ rfl rfl rfl rfl (by decide), hinj 4 (by simp) 3 (by simp) _ _ rfl rfl rfl rfl (by decide), hinj 4 (by simp) 7 (by simp) _ _ rfl rfl rfl rfl (by decide), hinj 3 (by simp) 7 (by simp) _ _ rfl rfl rfl rfl (by decide)⟩ (fun w2 hc => hbel w2 (by have hbw := (hst w2 ⟨hc.os, hc.tape, hc.output, hc.size, fun b hb hX => hc.same b hb fun hq => hX (by rcases hq with rfl | rfl | rfl | rfl | rfl; exact ⟨0, by simp, ⟨_, rfl, rfl⟩, rfl⟩; exact ⟨5, by simp, ⟨_, rfl, rfl⟩, rfl⟩; exact ⟨4, by simp, ⟨_, rfl, rfl⟩, rfl⟩; exact ⟨3, by simp, ⟨_, rfl, rfl⟩, rfl⟩; exact ⟨7, by simp, ⟨_, rfl, rfl⟩, rfl⟩)⟩); repeat (first | exact hbw | replace hbw := hbw.1))) false 0 (.v (.slice none 0 0)) hq1 hq2 hq3) ?_)
  all_goals first | (exfalso; omega) | skip
  refine ⟨rfl, Dis.mk3 (w0 := w) id [7] rfl (fun i hi => by rw [List.mem_singleton] at hi; subst hi; exact ⟨_, rfl, rfl⟩) (fun w' h => (by repeat (first | exact h | replace h := h.1))) (fun β w1 hok hw1 hge => ⟨(none, 0), trivial, ⟨⟨_, rfl, rfl⟩, ⟨_, rfl, rfl⟩, ⟨_, rfl, rfl⟩, ⟨_, rfl, rfl⟩, ⟨_, rfl, rfl⟩, ⟨_, rfl, rfl⟩, ⟨_, rfl, rfl⟩, trivial⟩, ⟨zM rfl rfl, zM rfl rfl, zM rfl rfl, ⟨rfl, _, rfl, fun _ => rfl, fun w2 y hy => by rw [hR]; exact hy⟩, ⟨rfl, _, rfl, fun _ => rfl, fun w2 y hy => by rw [hR]; exact hy⟩, ⟨rfl, _, rfl, fun _ => rfl, fun w2 y hy => by rw [hR]; exact hy⟩, zM rfl rfl, trivial⟩, rfl, fun w2 hw2 hLo => ⟨(by have h := hw2; repeat (first | exact h | replace h := h.1)), by rw [hR]; exact fun _ _ => trivial⟩⟩)⟩
 | true =>
  have hR := hq0 true htk
  rw [if_pos rfl] at hR
  obtain ⟨P, hP⟩ : ∃ P, pfO (Tr.d ⟨days, shift, size, to, tc, T, lo, lc, L⟩) (S.eraseIdx k) = P := ⟨_, rfl⟩
  rw [hP] at hR
  have hq1 : (trR (Tr.d ⟨days, shift, size, to, tc, T, lo, lc, L⟩) none (S.eraseIdx k)).isSome = true := by rw [hR]; rfl
  have hq2 : fvM (trR (Tr.d ⟨days, shift, size, to, tc, T, lo, lc, L⟩) none (S.eraseIdx k)) = P := by rw [hR]; rfl
  have hq3 : (if tkV none (S.eraseIdx k) (Tr.d ⟨days, shift, size, to, tc, T, lo, lc, L⟩) = true then SV.os 7 8 (S.length - 1) else .v (.slice none 0 0)) = .os 7 8 (S.length - 1) := by rw [htk]; rfl
  skip
  repeat'
   conv => whnf
   first
    | refine zA ?_ | refine zB ?_ | refine zC ?_ | refine zD ?_ | refine zE ?_ | refine zF ?_ | refine zG ?_ | refine zH ?_ | refine zJ ?_ | refine zI ?_ | refine splT ?_ | refine splF ?_ | refine splNot ?_
    | ((first | refine splIn ?_ ?_ | refine splD ?_ ?_ | refine splE ?_ ?_ | refine splNE ?_ ?_) <;> intro hc <;> first | (exfalso; omega) | (exfalso; dsimp only at hc; omega) | skip)
    | ((with_reducible show CallEv _ _ 73 _ _ _ _ _); refine callE (k := 73) (fun β w' hbw => h73 w' (by repeat (first | exact hbw | replace hbw := hbw.1))) ?_)
    | ((with_reducible show CallEv _ _ 74 _ _ _ _ _); refine callF [] (fun y : Option Addr × Nat => sV 0 y) (fun _ _ => True) (fun β w' _ hbw => h74 w' (by repeat (first | exact hbw | replace hbw := hbw.1))) ?_; intro y0)
    | ((with_reducible show CallEv _ _ 70 _ _ _ _ _); refine callE (k := 70) (fun β w' hbw => within_ok _ _ _ w') ?_)
    | ((with_reducible show CallEv _ _ 82 _ _ _ _ _); refine callO 7 [] (.os 7 8 S.length) S.length 3 (S.flatMap spF) 96 rfl (fun β w' _ hbw => (sclone_own S (some ad) c w' (hSr w' (by repeat (first | exact hbw | replace hbw := hbw.1))) (by omega) (by omega)).mono fun e w2 ⟨b, d, g1, g2, g3, g4⟩ => ⟨b, d, g1, g2, g3, g4⟩) ?_)
    | ((with_reducible show CallEv _ _ 81 _ _ _ _ _); refine callQ [7] [(7, .own 8 (S.length - 1) 3 ((S.eraseIdx k).flatMap spF) 96)] (.os 7 8 (S.length - 1)) rfl (fun β w' hbk hinj hst => del_B S S.length k rfl hk β w' 7 8 (hbk 7 (by simp) _ rfl)) ?_)
    | ((with_reducible show CallEv _ _ 80 _ _ _ _ _); refine callQ [0, 5, 4, 3, 7] [(5, .cells [.v (.bool true)] 4), (4, .cells [.v (iv P)] 3), (3, .cells [(.os 7 8 (S.length - 1))] 28), (7, .own 8 (S.length - 1) 3 ((S.eraseIdx k).flatMap spF) 96)] (.v (.tuple #[])) rfl (fun β w' hbk hinj hst => try_B ⟨days, shift, size, to, tc, T, lo, lc, L⟩ (S.eraseIdx k) (S.length - 1) hlE none (.slice none 0 0) β w' 0 5 4 3 7 8 hn (by omega) hbE (hbk 0 (by simp) _ rfl) (hbk 5 (by simp) _ rfl) (hbk 4 (by simp) _ rfl) (hbk 3 (by simp) _ rfl) (hbk 7 (by simp) _ rfl) ⟨hinj 0 (by simp) 5 (by simp) _ _ rfl rfl rfl rfl (by decide), hinj 0 (by simp) 4 (by simp) _ _ rfl rfl rfl rfl (by decide), hinj 0 (by simp) 3 (by simp) _ _ rfl rfl rfl rfl (by decide), hinj 0 (by simp) 7 (by simp) _ _ rfl rfl rfl rfl (by decide), hinj 5 (by simp) 4 (by simp) _ _ rfl rfl rfl rfl (by decide), hinj 5 (by simp) 3 (by simp) _ _ rfl rfl rfl rfl (by decide), hinj 5 (by simp) 7 (by simp) _ _ rfl rfl rfl rfl (by decide), hinj 4 (by simp) 3 (by simp) _ _ rfl rfl rfl rfl (by decide), hinj 4 (by simp) 7 (by simp) _ _ rfl rfl rfl rfl (by decide), hinj 3 (by simp) 7 (by simp) _ _ rfl rfl rfl rfl (by decide)⟩ (fun w2 hc => hbel w2 (by have hbw := (hst w2 ⟨hc.os, hc.tape, hc.output, hc.size, fun b hb hX => hc.same b hb fun hq => hX (by rcases hq with rfl | rfl | rfl | rfl | rfl; exact ⟨0, by simp, ⟨_, rfl, rfl⟩, rfl⟩; exact ⟨5, by simp, ⟨_, rfl, rfl⟩, rfl⟩; exact ⟨4, by simp, ⟨_, rfl, rfl⟩, rfl⟩; exact ⟨3, by simp, ⟨_, rfl, rfl⟩, rfl⟩; exact ⟨7, by simp, ⟨_, rfl, rfl⟩, rfl⟩)⟩); repeat (first | exact hbw | replace hbw := hbw.1))) true P (.os 7 8 (S.length - 1)) hq1 hq2 hq3) ?_)
  all_goals first | (exfalso; omega) | skip
  refine ⟨rfl, Dis.mk3 (w0 := w) id [7] rfl (fun i hi => by rw [List.mem_singleton] at hi; subst hi; exact ⟨_, rfl, rfl⟩) (fun w' h => (by repeat (first | exact h | replace h := h.1))) (fun β w1 hok hw1 hge => ⟨(some ⟨β 7, 0, none⟩, β 8), trivial, ⟨⟨_, rfl, rfl⟩, ⟨_, rfl, rfl⟩, ⟨_, rfl, rfl⟩, ⟨_, rfl, rfl⟩, ⟨_, rfl, rfl⟩, ⟨_, rfl, rfl⟩, ⟨_, rfl, rfl⟩, trivial⟩, ⟨zM rfl rfl, zM rfl rfl, zM rfl rfl, ⟨rfl, _, rfl, fun _ => rfl, fun w2 y hy => by rw [hR]; simp only [fvV, hlE]; exact hy⟩, ⟨rfl, _, rfl, fun _ => rfl, fun w2 y hy => by rw [hR]; exact hy⟩, ⟨rfl, _, rfl, fun _ => rfl, fun w2 y hy => by rw [hR]; exact hy⟩, zM rfl rfl, trivial⟩, rfl, fun w2 hw2 hLo => ⟨(by have h := hw2; repeat (first | exact h | replace h := h.1)), by rw [hR]; exact fs_own (hge 7 _ rfl rfl) hlE (hLo 7 (by simp) _ rfl)⟩⟩)⟩
set_option maxHeartbeats 4000000 in
set_option maxRecDepth 100000 in
theorem Rp6 (days shift size : Int) (to : Option Addr) (tc : Nat) (T : List Tn) (lo : Option Addr) (lc : Nat) (L : List Lr) (x : Tr) (ad : Addr) (c : Nat) (S : List (Int × Int × Int)) (k : Nat) (w : World) (h : TrIn x w) (hn : ToN (Tr.d ⟨days, shift, size, to, tc, T, lo, lc, L⟩)) (hS : SpIn (some ad) c S w) (hl : S.length ≤ 20) (hk : k < S.length) (hB : toB (Tr.d ⟨days, shift, size, to, tc, T, lo, lc, L⟩) = true) (hF : fsO (Tr.d ⟨days, shift, size, to, tc, T, lo, lc, L⟩) S = []) (hx : ⟨days, shift, size, to, tc, T, lo, lc, L⟩ = x) (y0 : Option Addr × Nat)
 (h7 : ∀ y : Option Addr × Nat, VC Try.prog (rest 1 (rest 6 body46)) ⟨78, [(3, .ptr 0 0), (4, .ptr 1 0), (5, .ptr 2 0), (6, .ptr 3 0), (7, .ptr 4 0), (10, .ptr 5 0), (11, .ptr 6 0)], [(0, .cells (Tr.l ⟨days, shift, size, to, tc, T, lo, lc, L⟩) 35), (1, .cells [.v (.slice (some ad) S.length c)] 28), (2, .cells [.v (iv k)] 3), (3, .cells [.v (fvV (rpO (Tr.d ⟨days, shift, size, to, tc, T, lo, lc, L⟩) S k) y)] 28), (4, .cells [.v (iv (fvM (rpO (Tr.d ⟨days, shift, size, to, tc, T, lo, lc, L⟩) S k)))] 3), (5, .cells [.v (.bool (rpO (Tr.d ⟨days, shift, size, to, tc, T, lo, lc, L⟩) S k).isSome)] 4), (6, .cells [.fn (.func 80) [.ptr 0 0, .ptr 5 0, .ptr 4 0, .ptr 3 0]] 143)], 7, fun w' => Below w.heap.size w w' ∧ St w.heap.size (FS (rpO (Tr.d ⟨days, shift, size, to, tc, T, lo, lc, L⟩) S k) y) w', z0⟩ (endΦ env Try.f46 fun s σ => (∀ w', σ.h w' → Below w.heap.size w w') ∧ ∀ β w', σ.h w' → (∀ i b, lk σ.m i = some b → b.live = true → St w.heap.size (fun w2 => b.ok β w2 (β i)) w') → ∃ y : Option Addr × Nat, s.c β = .tuple #[sV (rpV (Tr.d ⟨days, shift, size, to, tc, T, lo, lc, L⟩) S k).1.length y, iv (rpV (Tr.d ⟨days, shift, size, to, tc, T, lo, lc, L⟩) S k).2.1, iv (rpV (Tr.d ⟨days, shift, size, to, tc, T, lo, lc, L⟩) S k).2.2] ∧ St w.heap.size (fun w2 => Rd 3 spF (sV (rpV (Tr.d ⟨days, shift, size, to, tc, T, lo, lc, L⟩) S k).1.length y) (rpV (Tr.d ⟨days, shift, size, to, tc, T, lo, lc, L⟩) S k).1 w2 ∧ (rpV (Tr.d ⟨days, shift, size, to, tc, T, lo, lc, L⟩) S k).1.length ≤ y.2) w')) :
 VC Try.prog (rest 6 body46) ⟨78, [(3, .ptr 0 0), (4, .ptr 1 0), (5, .ptr 2 0), (6, .ptr 3 0), (7, .ptr 4 0), (10, .ptr 5 0), (11, .ptr 6 0)], [(0, .cells (Tr.l ⟨days, shift, size, to, tc, T, lo, lc, L⟩) 35), (1, .cells [.v (.slice (some ad) S.length c)] 28), (2, .cells [.v (iv k)] 3), (3, .cells [.v (fvV (trR (Tr.d ⟨days, shift, size, to, tc, T, lo, lc, L⟩) none (S.eraseIdx k)) y0)] 28), (4, .cells [.v (iv (fvM (trR (Tr.d ⟨days, shift, size, to, tc, T, lo, lc, L⟩) none (S.eraseIdx k))))] 3), (5, .cells [.v (.bool (trR (Tr.d ⟨days, shift, size, to, tc, T, lo, lc, L⟩) none (S.eraseIdx k)).isSome)] 4), (6, .cells [.fn (.func 80) [.ptr 0 0, .ptr 5 0, .ptr 4 0, .ptr 3 0]] 143)], 7, fun w' => Below w.heap.size w w' ∧ St w.heap.size (FS (trR (Tr.d ⟨days, shift, size, to, tc, T, lo, lc, L⟩) none (S.eraseIdx k)) y0) w', z0⟩ (endΦ env Try.f46 fun s σ => (∀ w', σ.h w' → Below w.heap.size w w') ∧ ∀ β w', σ.h w' → (∀ i b, lk σ.m i = some b → b.live = true → St w.heap.size (fun w2 => b.ok β w2 (β i)) w') → ∃ y : Option Addr × Nat, s.c β = .tuple #[sV (rpV (Tr.d ⟨days, shift, size, to, tc, T, lo, lc, L⟩) S k).1.length y, iv (rpV (Tr.d ⟨days, shift, size, to, tc, T, lo, lc, L⟩) S k).2.1, iv (rpV (Tr.d ⟨days, shift, size, to, tc, T, lo, lc, L⟩) S k).2.2] ∧ St w.heap.size (fun w2 => Rd 3 spF (sV (rpV (Tr.d ⟨days, shift, size, to, tc, T, lo, lc, L⟩) S k).1.length y) (rpV (Tr.d ⟨days, shift, size, to, tc, T, lo, lc, L⟩) S k).1 w2 ∧ (rpV (Tr.d ⟨days, shift, size, to, tc, T, lo, lc, L⟩) S k).1.length ≤ y.2) w') := by
 subst hx
 have hnT := hn.n
 have hday := hn.d
 simp only [Tr.d, List.length_map] at hnT hday
 have hlT : (Tr.d ⟨days, shift, size, to, tc, T, lo, lc, L⟩).T.length = T.length := List.length_map ..
 have hSr := fun w' (hb : Below w.heap.size w w') => hS.r.below hb
 have hbel := fun w' (hb : Below w.heap.size w w') => h.below hb
 obtain ⟨⟨a, f0, l0⟩, hs⟩ : ∃ s, S[k]? = some s := ⟨_, List.getElem?_eq_getElem hk⟩
 have e0 := fun (w' : World) hw' => rd_fldz (hSr w' hw') hs ((k : Nat) : Int) rfl 0 (iv a) rfl
 have hrO : rpO (Tr.d ⟨days, shift, size, to, tc, T, lo, lc, L⟩) S k = rpN (Tr.d ⟨days, shift, size, to, tc, T, lo, lc, L⟩) S k (T.length - 1) := by unfold rpO; rw [hlT]
 have hrT : ∀ i, (rpN (Tr.d ⟨days, shift, size, to, tc, T, lo, lc, L⟩) S k (i + 1)) = if a = ((i + 1 : Nat) : Int) then (rpN (Tr.d ⟨days, shift, size, to, tc, T, lo, lc, L⟩) S k i) else rpF (Tr.d ⟨days, shift, size, to, tc, T, lo, lc, L⟩) S k (i + 1) (rpN (Tr.d ⟨days, shift, size, to, tc, T, lo, lc, L⟩) S k i) days.toNat := fun i => by
  rw [rpN_succ]; unfold rpT; rw [hs]; simp only [Option.map_some, Option.some.injEq]
 refine VC.cutD env mixed 1 7 (fun y : Option Addr × Nat => [(3, .ptr 0 0), (4, .ptr 1 0), (5, .ptr 2 0), (6, .ptr 3 0), (7, .ptr 4 0), (10, .ptr 5 0), (11, .ptr 6 0)]) (fun y => [(0, .cells (Tr.l ⟨days, shift, size, to, tc, T, lo, lc, L⟩) 35), (1, .cells [.v (.slice (some ad) S.length c)] 28), (2, .cells [.v (iv k)] 3), (3, .cells [.v (fvV (rpO (Tr.d ⟨days, shift, size, to, tc, T, lo, lc, L⟩) S k) y)] 28), (4, .cells [.v (iv (fvM (rpO (Tr.d ⟨days, shift, size, to, tc, T, lo, lc, L⟩) S k)))] 3), (5, .cells [.v (.bool ((rpO (Tr.d ⟨days, shift, size, to, tc, T, lo, lc, L⟩) S k)).isSome)] 4), (6, .cells [.fn (.func 80) [.ptr 0 0, .ptr 5 0, .ptr 4 0, .ptr 3 0]] 143)]) (fun y w' => Below w.heap.size w w' ∧ St w.heap.size (FS (rpO (Tr.d ⟨days, shift, size, to, tc, T, lo, lc, L⟩) S k) y) w') (fun _ => True) (fun y _ => ⟨rfl, rfl⟩) ?_ (fun y _ => h7 y)
 clear h7
 repeat'
  conv => whnf
  first
   | refine zA ?_ | refine zB ?_ | refine zC ?_ | refine zD ?_ | refine zE ?_ | refine zF ?_ | refine zG ?_ | refine zH ?_ | refine zJ ?_ | refine zI ?_ | refine splT ?_ | refine splF ?_ | refine splNot ?_
   | ((first | refine splIn ?_ ?_ | refine splD ?_ ?_ | refine splE ?_ ?_ | refine splNE ?_ ?_) <;> intro hc <;> first | (exfalso; omega) | (exfalso; dsimp only at hc; omega) | skip)
 refine loopD 7 (fun p : Nat × (Option Addr × Nat) => [(3, .ptr 0 0), (4, .ptr 1 0), (5, .ptr 2 0), (6, .ptr 3 0), (7, .ptr 4 0), (10, .ptr 5 0), (11, .ptr 6 0), (12, .v (iv (p.1 + 1 : Nat)))]) (fun p => [(0, .cells (Tr.l ⟨days, shift, size, to, tc, T, lo, lc, L⟩) 35), (1, .cells [.v (.slice (some ad) S.length c)] 28), (2, .cells [.v (iv k)] 3), (3, .cells [.v (fvV (rpN (Tr.d ⟨days, shift, size, to, tc, T, lo, lc, L⟩) S k p.1) p.2)] 28), (4, .cells [.v (iv (fvM (rpN (Tr.d ⟨days, shift, size, to, tc, T, lo, lc, L⟩) S k p.1)))] 3), (5, .cells [.v (.bool ((rpN (Tr.d ⟨days, shift, size, to, tc, T, lo, lc, L⟩) S k p.1)).isSome)] 4), (6, .cells [.fn (.func 80) [.ptr 0 0, .ptr 5 0, .ptr 4 0, .ptr 3 0]] 143)]) (fun p w' => Below w.heap.size w w' ∧ St w.heap.size (FS (rpN (Tr.d ⟨days, shift, size, to, tc, T, lo, lc, L⟩) S k p.1) p.2) w') (fun p => p.1 ≤ T.length - 1) (fun p => T.length - 1 - p.1)
  (Dis.mk3 (w0 := w) id [] rfl (fun i hi => by cases hi) (fun w' h => h.1) (fun β w1 hok hw1 hge => ⟨(0, y0), Nat.zero_le _, ⟨⟨_, rfl, rfl⟩, ⟨_, rfl, rfl⟩, ⟨_, rfl, rfl⟩, ⟨_, rfl, rfl⟩, ⟨_, rfl, rfl⟩, ⟨_, rfl, rfl⟩, ⟨_, rfl, rfl⟩, ⟨_, rfl, rfl⟩, trivial⟩, ⟨zM rfl rfl, zM rfl rfl, zM rfl rfl, zM rfl rfl, zM rfl rfl, zM rfl rfl, zM rfl rfl, trivial⟩, rfl, fun w2 hw2 _ => hw2⟩)) (fun p _ => ⟨rfl, rfl⟩) ?_
 intro ⟨i, y⟩ hi
 dsimp only at hi ⊢
 rcases Nat.lt_or_ge i (T.length - 1) with hil | hil
 · have hRi := hrT i
   by_cases hai : a = ((i + 1 : Nat) : Int)
   · rw [if_pos hai] at hRi
     subst hai
     repeat'
      conv => whnf
      first
       | refine zA ?_ | refine zB ?_ | refine zC ?_ | refine zD ?_ | refine zE ?_ | refine zF ?_ | refine zG ?_ | refine zH ?_ | refine zJ ?_ | refine zI ?_ | refine splT ?_ | refine splF ?_ | refine splNot ?_
       | ((first | refine splIn ?_ ?_ | refine splD ?_ ?_ | refine splE ?_ ?_ | refine splNE ?_ ?_) <;> intro hc <;> first | (exfalso; omega) | (exfalso; dsimp only at hc; omega) | skip)
       | refine Exists.intro (α := List Value) [iv ((i + 1 : Nat) : Int)] ⟨⟨rfl, fun w' hw' => e0 w' hw'.1⟩, ?_⟩
     all_goals first | (exfalso; omega) | skip
     refine Dis.mk3 (w0 := w) id [] rfl (fun i hi => by cases hi) (fun w' h => h.1) (fun β w1 hok hw1 hge => ⟨(i + 1, y), ⟨by (show i + 1 ≤ _); omega, by (show _ - (i + 1) < _); omega⟩, ⟨⟨_, rfl, rfl⟩, ⟨_, rfl, rfl⟩, ⟨_, rfl, rfl⟩, ⟨_, rfl, rfl⟩, ⟨_, rfl, rfl⟩, ⟨_, rfl, rfl⟩, ⟨_, rfl, rfl⟩, ⟨_, rfl, rfl⟩, trivial⟩, ⟨zM rfl rfl, zM rfl rfl, zM rfl rfl, ⟨rfl, _, rfl, fun _ => rfl, fun w2 y hy => by rw [hRi]; exact hy⟩, ⟨rfl, _, rfl, fun _ => rfl, fun w2 y hy => by rw [hRi]; exact hy⟩, ⟨rfl, _, rfl, fun _ => rfl, fun w2 y hy => by rw [hRi]; exact hy⟩, zM rfl rfl, trivial⟩, rfl, fun w2 hw2 _ => by rw [hRi]; exact hw2⟩)
   · rw [if_neg hai] at hRi
     obtain ⟨t, ht⟩ : ∃ t, T[i + 1]? = some t := ⟨_, List.getElem?_eq_getElem (by omega)⟩
     have htw : twO (Tr.d ⟨days, shift, size, to, tc, T, lo, lc, L⟩) ((i + 1 : Nat) : Int) = t.d := twO_eq (x := ⟨days, shift, size, to, tc, T, lo, lc, L⟩) (k := ((i + 1 : Nat) : Int)) ht
     have htn := twN_of hn (a := i + 1) (by omega) (by simp only [Tr.d, List.length_map]; omega)
     have hT := h.t
     dsimp only at hT
     obtain ⟨_, ta, rfl, _⟩ := hT.ptr (by omega)
     have hAL0 : ∀ f, ALO (Tr.d ⟨days, shift, size, some ta, tc, T, lo, lc, L⟩) (i + 1) f = ALp (Tr.d ⟨days, shift, size, some ta, tc, T, lo, lc, L⟩) (i + 1) f ((twO (Tr.d ⟨days, shift, size, some ta, tc, T, lo, lc, L⟩) ((i + 1 : Nat) : Int)).s2 - (twO (Tr.d ⟨days, shift, size, some ta, tc, T, lo, lc, L⟩) ((i + 1 : Nat) : Int)).s1 + 1).toNat := fun f => by unfold ALO; rw [if_neg (by omega)]
     have hALs : ∀ f j, ALp (Tr.d ⟨days, shift, size, some ta, tc, T, lo, lc, L⟩) (i + 1) f (j + 1) = if aloB (Tr.d ⟨days, shift, size, some ta, tc, T, lo, lc, L⟩) ((i + 1 : Nat) : Int) f ((f : Int) + ((twO (Tr.d ⟨days, shift, size, some ta, tc, T, lo, lc, L⟩) ((i + 1 : Nat) : Int)).s1 + j) - 1) = true then ALp (Tr.d ⟨days, shift, size, some ta, tc, T, lo, lc, L⟩) (i + 1) f j ++ [((f : Int) + ((twO (Tr.d ⟨days, shift, size, some ta, tc, T, lo, lc, L⟩) ((i + 1 : Nat) : Int)).s1 + j) - 1).toNat] else ALp (Tr.d ⟨days, shift, size, some ta, tc, T, lo, lc, L⟩) (i + 1) f j := fun f j => rfl
     rw [htw] at hAL0 hALs htn
     have hRq := fun q => rpF_succ (Tr.d ⟨days, shift, size, some ta, tc, T, lo, lc, L⟩) S k (i + 1) (rpN (Tr.d ⟨days, shift, size, some ta, tc, T, lo, lc, L⟩) S k i) q
     obtain ⟨oo, oc, ro, rc, O, s1, s2, pay, lot, rent, R, cold, cut⟩ := t
     have hs12 := htn.s
     dsimp only at hs12 hAL0 hALs
     have e3 := fun (w' : World) (hw' : Below w.heap.size w w') => rd_flds (hT.below (w' := w') hw') ht ((i + 1 : Nat) : Int) rfl 1 [iv s1, iv s2] (fun j v hj => by
      match j, hj with
      | 0, hj => exact hj
      | 1, hj => exact hj)
     repeat'
      conv => whnf
      first
       | refine zA ?_ | refine zB ?_ | refine zC ?_ | refine zD ?_ | refine zE ?_ | refine zF ?_ | refine zG ?_ | refine zH ?_ | refine zJ ?_ | refine zI ?_ | refine splT ?_ | refine splF ?_ | refine splNot ?_
       | ((first | refine splIn ?_ ?_ | refine splD ?_ ?_ | refine splE ?_ ?_ | refine splNE ?_ ?_) <;> intro hc <;> first | (exfalso; omega) | (exfalso; dsimp only at hc; omega) | skip)
       | refine Exists.intro (α := List Value) [iv a] ⟨⟨rfl, fun w' hw' => e0 w' hw'.1⟩, ?_⟩
       | ((with_reducible show CallEv _ _ 83 _ _ _ _ _); refine callR [7, 8, 9] [] (stB ⟨days, shift, size, some ta, tc, T, lo, lc, L⟩ (i + 1 : Nat) 0 7) (.fn (.func 114) [.ptr 7 0, .ptr 8 0, .ptr 9 0]) rfl (fun i b hm => by simp only [stB, List.mem_cons, Prod.mk.injEq, List.not_mem_nil, or_false] at hm ⊢; omega) (fun β w' _ hbw => stops_R ⟨days, shift, size, some ta, tc, T, lo, lc, L⟩ (i + 1 : Nat) 0 7 β w') ?_)
     all_goals first | (exfalso; omega) | skip
     refine rf_inline env mixed 1000 [3, 4, 5, 6, 7, 10, 11, 12] Try.func114 has114 Try.ntmps114 rfl rfl (by decide) rfl rfl ?_
     intro lp asg bdy hasg hbdy
     repeat'
      conv => whnf
      first
       | refine zA ?_ | refine zB ?_ | refine zC ?_ | refine zD ?_ | refine zE ?_ | refine zF ?_ | refine zG ?_ | refine zH ?_ | refine zJ ?_ | refine zI ?_ | refine splT ?_ | refine splF ?_ | refine splNot ?_
       | ((first | refine splIn ?_ ?_ | refine splD ?_ ?_ | refine splE ?_ ?_ | refine splNE ?_ ?_) <;> intro hc <;> first | (exfalso; omega) | (exfalso; dsimp only at hc; omega) | skip)
       | refine Exists.intro (α := List Value) [iv s1, iv s2] ⟨⟨rfl, fun w' hw' => e3 w' hw'.1⟩, ?_⟩
     all_goals first | (exfalso; omega) | skip
     refine loopD 11 (fun p : Nat × (Option Addr × Nat) => [(0, .v (.func (.yield lp) #[] #[])), (1, .ptr 7 0), (2, .ptr 8 0), (5, .ptr 10 0), (6, .v (iv (p.1 : Nat)))]) (fun p => [(0, .cells (Tr.l ⟨days, shift, size, some ta, tc, T, lo, lc, L⟩) 35), (1, .cells [.v (.slice (some ad) S.length c)] 28), (2, .cells [.v (iv k)] 3), (3, .cells [.v (fvV (rpF (Tr.d ⟨days, shift, size, some ta, tc, T, lo, lc, L⟩) S k (i + 1) (rpN (Tr.d ⟨days, shift, size, some ta, tc, T, lo, lc, L⟩) S k i) p.1) p.2)] 28), (4, .cells [.v (iv (fvM (rpF (Tr.d ⟨days, shift, size, some ta, tc, T, lo, lc, L⟩) S k (i + 1) (rpN (Tr.d ⟨days, shift, size, some ta, tc, T, lo, lc, L⟩) S k i) p.1)))] 3), (5, .cells [.v (.bool ((rpF (Tr.d ⟨days, shift, size, some ta, tc, T, lo, lc, L⟩) S k (i + 1) (rpN (Tr.d ⟨days, shift, size, some ta, tc, T, lo, lc, L⟩) S k i) p.1)).isSome)] 4), (6, .cells [.fn (.func 80) [.ptr 0 0, .ptr 5 0, .ptr 4 0, .ptr 3 0]] 143), (7, .cells (Tr.l ⟨days, shift, size, some ta, tc, T, lo, lc, L⟩) 35), (8, .cells [.v (iv (i + 1 : Nat))] 3), (9, .cells [.v (iv 0)] 3), (10, .cells [.v (iv s1), .v (iv s2)] 55)]) (fun p w' => Below w.heap.size w w' ∧ St w.heap.size (FS (rpF (Tr.d ⟨days, shift, size, some ta, tc, T, lo, lc, L⟩) S k (i + 1) (rpN (Tr.d ⟨days, shift, size, some ta, tc, T, lo, lc, L⟩) S k i) p.1) p.2) w') (fun p => p.1 ≤ days.toNat) (fun p => days.toNat - p.1)
      (Dis.mk4 (w0 := w) id [] ⟨fun β => rfl, fun β => rfl, fun β => rfl, fun β => rfl, fun β => rfl, fun β => rfl, fun β => rfl, fun β => rfl, trivial⟩ (fun i hi => by cases hi) (fun w' h => h.1) (fun β w1 hok hw1 hge => ⟨(0, y), Nat.zero_le _, ⟨⟨_, rfl, rfl⟩, ⟨_, rfl, rfl⟩, ⟨_, rfl, rfl⟩, ⟨_, rfl, rfl⟩, ⟨_, rfl, rfl⟩, trivial⟩, ⟨zM rfl rfl, zM rfl rfl, zM rfl rfl, zM rfl rfl, zM rfl rfl, zM rfl rfl, zM rfl rfl, zM rfl rfl, zM rfl rfl, zM rfl rfl, zM rfl rfl, trivial⟩, rfl, fun w2 hw2 _ => hw2⟩)) (fun p _ => ⟨rfl, rfl⟩) ?_
     intro ⟨q, y⟩ hq
     dsimp only at hq ⊢
     rcases Nat.lt_or_ge q days.toNat with hql | hql
     · have hAE := hAL0 q
       have hAs := hALs q
       have hRn := hRq q
       obtain ⟨N, hN⟩ : ∃ N, (s2 - s1 + 1).toNat = N := ⟨_, rfl⟩
       rw [hN] at hAE
       repeat'
        conv => whnf
        first
         | refine zA ?_ | refine zB ?_ | refine zC ?_ | refine zD ?_ | refine zE ?_ | refine zF ?_ | refine zG ?_ | refine zH ?_ | refine zJ ?_ | refine zI ?_ | refine splT ?_ | refine splF ?_ | refine splNot ?_
         | ((first | refine splIn ?_ ?_ | refine splD ?_ ?_ | refine splE ?_ ?_ | refine splNE ?_ ?_) <;> intro hc <;> first | (exfalso; omega) | (exfalso; dsimp only at hc; omega) | skip)
       all_goals first | (exfalso; omega) | skip
       refine loopD 11 (fun p : Nat × (Option Addr × Nat) => [(0, .v (.func (.yield lp) #[] #[])), (1, .ptr 7 0), (2, .ptr 8 0), (5, .ptr 10 0), (6, .v (iv (q : Nat))), (7, .v (iv (s1 + (p.1 : Nat))))]) (fun p => [(0, .cells (Tr.l ⟨days, shift, size, some ta, tc, T, lo, lc, L⟩) 35), (1, .cells [.v (.slice (some ad) S.length c)] 28), (2, .cells [.v (iv k)] 3), (3, .cells [.v (fvV (rpL (Tr.d ⟨days, shift, size, some ta, tc, T, lo, lc, L⟩) S k (i + 1) q (rpF (Tr.d ⟨days, shift, size, some ta, tc, T, lo, lc, L⟩) S k (i + 1) (rpN (Tr.d ⟨days, shift, size, some ta, tc, T, lo, lc, L⟩) S k i) q) (ALp (Tr.d ⟨days, shift, size, some ta, tc, T, lo, lc, L⟩) (i + 1) q p.1)) p.2)] 28), (4, .cells [.v (iv (fvM (rpL (Tr.d ⟨days, shift, size, some ta, tc, T, lo, lc, L⟩) S k (i + 1) q (rpF (Tr.d ⟨days, shift, size, some ta, tc, T, lo, lc, L⟩) S k (i + 1) (rpN (Tr.d ⟨days, shift, size, some ta, tc, T, lo, lc, L⟩) S k i) q) (ALp (Tr.d ⟨days, shift, size, some ta, tc, T, lo, lc, L⟩) (i + 1) q p.1))))] 3), (5, .cells [.v (.bool ((rpL (Tr.d ⟨days, shift, size, some ta, tc, T, lo, lc, L⟩) S k (i + 1) q (rpF (Tr.d ⟨days, shift, size, some ta, tc, T, lo, lc, L⟩) S k (i + 1) (rpN (Tr.d ⟨days, shift, size, some ta, tc, T, lo, lc, L⟩) S k i) q) (ALp (Tr.d ⟨days, shift, size, some ta, tc, T, lo, lc, L⟩) (i + 1) q p.1))).isSome)] 4), (6, .cells [.fn (.func 80) [.ptr 0 0, .ptr 5 0, .ptr 4 0, .ptr 3 0]] 143), (7, .cells (Tr.l ⟨days, shift, size, some ta, tc, T, lo, lc, L⟩) 35), (8, .cells [.v (iv (i + 1 : Nat))] 3), (9, .cells [.v (iv 0)] 3), (10, .cells [.v (iv s1), .v (iv s2)] 55)]) (fun p w' => Below w.heap.size w w' ∧ St w.heap.size (FS (rpL (Tr.d ⟨days, shift, size, some ta, tc, T, lo, lc, L⟩) S k (i + 1) q (rpF (Tr.d ⟨days, shift, size, some ta, tc, T, lo, lc, L⟩) S k (i + 1) (rpN (Tr.d ⟨days, shift, size, some ta, tc, T, lo, lc, L⟩) S k i) q) (ALp (Tr.d ⟨days, shift, size, some ta, tc, T, lo, lc, L⟩) (i + 1) q p.1)) p.2) w') (fun p => p.1 ≤ N) (fun p => N - p.1)
        (Dis.mk4 (w0 := w) id [] ⟨fun β => rfl, fun β => rfl, fun β => rfl, fun β => rfl, fun β => rfl, fun β => rfl, fun β => rfl, fun β => rfl, trivial⟩ (fun i hi => by cases hi) (fun w' h => h.1) (fun β w1 hok hw1 hge => ⟨(0, y), Nat.zero_le _, ⟨⟨_, rfl, rfl⟩, ⟨_, rfl, rfl⟩, ⟨_, rfl, rfl⟩, ⟨_, rfl, rfl⟩, ⟨_, rfl, rfl⟩, ⟨_, rfl, by rw [Int.natCast_zero, Int.add_zero]; rfl⟩, trivial⟩, ⟨zM rfl rfl, zM rfl rfl, zM rfl rfl, zM rfl rfl, zM rfl rfl, zM rfl rfl, zM rfl rfl, zM rfl rfl, zM rfl rfl, zM rfl rfl, zM rfl rfl, trivial⟩, rfl, fun w2 hw2 _ => hw2⟩)) (fun p _ => ⟨rfl, rfl⟩) ?_
       intro ⟨j, y⟩ hj
       dsimp only at hj ⊢
       rcases Nat.lt_or_ge j N with hjN | hjN
       · have hCn := hAs j
         obtain ⟨lN, hlN⟩ : ∃ lN : Nat, ((q : Int) + (s1 + (j : Int)) - 1) = lN := ⟨(((q : Int) + (s1 + (j : Int)) - 1)).toNat, by omega⟩
         have h115 := fun w' hb => alone_ok ⟨days, shift, size, some ta, tc, T, lo, lc, L⟩ ((i + 1 : Nat) : Int) q ((q : Int) + (s1 + (j : Int)) - 1) w' (h.below hb) hn ⟨by omega, by omega⟩
         have hba : decide (fltO (Tr.d ⟨days, shift, size, some ta, tc, T, lo, lc, L⟩) [(((i + 1 : Nat) : Int), (q : Int), ((q : Int) + (s1 + (j : Int)) - 1))] 0 ((i + 1 : Nat) : Int) q ((q : Int) + (s1 + (j : Int)) - 1) 4 = 0) = aloB (Tr.d ⟨days, shift, size, some ta, tc, T, lo, lc, L⟩) ((i + 1 : Nat) : Int) q ((q : Int) + (s1 + (j : Int)) - 1) := rfl
         obtain ⟨b, hb⟩ : ∃ b, aloB (Tr.d ⟨days, shift, size, some ta, tc, T, lo, lc, L⟩) ((i + 1 : Nat) : Int) q ((q : Int) + (s1 + (j : Int)) - 1) = b := ⟨_, rfl⟩
         rw [hb] at hCn hba
         simp only [hba] at h115
         have hsj : s1 + ((j + 1 : Nat) : Int) = s1 + (j : Int) + 1 := by omega
         cases b with
         | false =>
          rw [if_neg (by decide)] at hCn
          repeat'
           conv => whnf
           first
            | refine zA ?_ | refine zB ?_ | refine zC ?_ | refine zD ?_ | refine zE ?_ | refine zF ?_ | refine zG ?_ | refine zH ?_ | refine zJ ?_ | refine zI ?_ | refine splT ?_ | refine splF ?_ | refine splNot ?_
            | ((first | refine splIn ?_ ?_ | refine splD ?_ ?_ | refine splE ?_ ?_ | refine splNE ?_ ?_) <;> intro hc <;> first | (exfalso; omega) | (exfalso; dsimp only at hc; omega) | skip)
            | ((with_reducible show CallEv _ _ 115 _ _ _ _ _); refine callE (k := 115) (fun β w' hbw => h115 w' (by repeat (first | exact hbw | replace hbw := hbw.1))) ?_)
          all_goals first | (exfalso; omega) | skip
          refine Dis.mk4 (w0 := w) id [] ⟨fun β => rfl, fun β => rfl, fun β => rfl, fun β => rfl, fun β => rfl, fun β => rfl, fun β => rfl, fun β => rfl, trivial⟩ (fun i hi => by cases hi) (fun w' h => h.1) (fun β w1 hok hw1 hge => ⟨(j + 1, y), ⟨by (show j + 1 ≤ _); omega, by (show _ - (j + 1) < _); omega⟩, ⟨⟨_, rfl, rfl⟩, ⟨_, rfl, rfl⟩, ⟨_, rfl, rfl⟩, ⟨_, rfl, rfl⟩, ⟨_, rfl, rfl⟩, ⟨_, rfl, by rw [hsj]; rfl⟩, trivial⟩, ⟨zM rfl rfl, zM rfl rfl, zM rfl rfl, ⟨rfl, _, rfl, fun _ => rfl, fun w2 y hy => by rw [hCn]; exact hy⟩, ⟨rfl, _, rfl, fun _ => rfl, fun w2 y hy => by rw [hCn]; exact hy⟩, ⟨rfl, _, rfl, fun _ => rfl, fun w2 y hy => by rw [hCn]; exact hy⟩, zM rfl rfl, zM rfl rfl, zM rfl rfl, zM rfl rfl, zM rfl rfl, trivial⟩, rfl, fun w2 hw2 _ => by rw [hCn]; exact hw2⟩)
         | true =>
          rw [if_pos rfl, show (((q : Int) + (s1 + (j : Int)) - 1)).toNat = lN from by omega] at hCn
          have hlE : (S.set k (((i + 1 : Nat) : Int), (q : Int), (lN : Int))).length = S.length := List.length_set ..
          have hbE : ∀ s ∈ S.set k (((i + 1 : Nat) : Int), (q : Int), (lN : Int)), (-9223372036854775808 ≤ s.2.1 ∧ s.2.1 ≤ 9223372036854775807) ∧ -9223372036854775808 ≤ s.2.2 ∧ s.2.2 ≤ 9223372036854775807 := fun s hs => by
           rcases List.mem_or_eq_of_mem_set hs with hs | rfl
           · exact hS.n s hs
           · dsimp only; omega
          have hcnd : (k : Int).toNat * ti96.size + ([iv ((i + 1 : Nat) : Int), iv (q : Int), Value.int .i64 (((q : Int) + (s1 + (j : Int)) - 1))] : List Value).length ≤ (S.flatMap spF).length := by
           rw [spl3, Int.toNat_natCast]; show k * 3 + 3 ≤ _; omega
          have hset : (S.flatMap spF).take ((k : Int).toNat * ti96.size) ++ ([iv ((i + 1 : Nat) : Int), iv (q : Int), Value.int .i64 (((q : Int) + (s1 + (j : Int)) - 1))] : List Value) ++ (S.flatMap spF).drop ((k : Int).toNat * ti96.size + ([iv ((i + 1 : Nat) : Int), iv (q : Int), Value.int .i64 (((q : Int) + (s1 + (j : Int)) - 1))] : List Value).length) = (S.set k (((i + 1 : Nat) : Int), (q : Int), (lN : Int))).flatMap spF := by
           rw [← set_flat S k (((i + 1 : Nat) : Int), (q : Int), (lN : Int)) hk, Int.toNat_natCast, hlN]; rfl
          have hfl := set_flat S k (((i + 1 : Nat) : Int), (q : Int), (lN : Int)) hk
          have hrj := rpL_snoc (Tr.d ⟨days, shift, size, some ta, tc, T, lo, lc, L⟩) S k (i + 1) q (rpF (Tr.d ⟨days, shift, size, some ta, tc, T, lo, lc, L⟩) S k (i + 1) (rpN (Tr.d ⟨days, shift, size, some ta, tc, T, lo, lc, L⟩) S k i) q) (ALp (Tr.d ⟨days, shift, size, some ta, tc, T, lo, lc, L⟩) (i + 1) q j) lN
          rw [← hCn] at hrj
          generalize hgj : (rpL (Tr.d ⟨days, shift, size, some ta, tc, T, lo, lc, L⟩) S k (i + 1) q (rpF (Tr.d ⟨days, shift, size, some ta, tc, T, lo, lc, L⟩) S k (i + 1) (rpN (Tr.d ⟨days, shift, size, some ta, tc, T, lo, lc, L⟩) S k i) q) (ALp (Tr.d ⟨days, shift, size, some ta, tc, T, lo, lc, L⟩) (i + 1) q j)) = rj at *
          have htk := tr_take (x := (Tr.d ⟨days, shift, size, some ta, tc, T, lo, lc, L⟩)) (r := rj) (S := S.set k (((i + 1 : Nat) : Int), (q : Int), (lN : Int)))
          cases hb2 : tkV rj (S.set k (((i + 1 : Nat) : Int), (q : Int), (lN : Int))) (Tr.d ⟨days, shift, size, some ta, tc, T, lo, lc, L⟩) with
          | false =>
           rw [hb2, if_neg (by decide)] at htk
           have hq1 : (trR (Tr.d ⟨days, shift, size, some ta, tc, T, lo, lc, L⟩) rj (S.set k (((i + 1 : Nat) : Int), (q : Int), (lN : Int)))).isSome = rj.isSome := by rw [htk]
           have hq2 : fvM (trR (Tr.d ⟨days, shift, size, some ta, tc, T, lo, lc, L⟩) rj (S.set k (((i + 1 : Nat) : Int), (q : Int), (lN : Int)))) = fvM rj := by rw [htk]
           have hq3 : (if tkV rj (S.set k (((i + 1 : Nat) : Int), (q : Int), (lN : Int))) (Tr.d ⟨days, shift, size, some ta, tc, T, lo, lc, L⟩) = true then SV.os 13 14 S.length else .v (fvV rj y)) = .v (fvV rj y) := by rw [hb2]; rfl
           repeat'
            conv => whnf
            first
             | refine zA ?_ | refine zB ?_ | refine zC ?_ | refine zD ?_ | refine zE ?_ | refine zF ?_ | refine zG ?_ | refine zH ?_ | refine zJ ?_ | refine zI ?_ | refine splT ?_ | refine splF ?_ | refine splNot ?_
             | ((first | refine splIn ?_ ?_ | refine splD ?_ ?_ | refine splE ?_ ?_ | refine splNE ?_ ?_) <;> intro hc <;> first | (exfalso; omega) | (exfalso; dsimp only at hc; omega) | skip)
             | ((with_reducible show CallEv _ _ 115 _ _ _ _ _); refine callE (k := 115) (fun β w' hbw => h115 w' (by repeat (first | exact hbw | replace hbw := hbw.1))) ?_)
             | refine And.intro (a := (_ : List _) = [] ∧ (_ : List _) = []) ⟨rfl, rfl⟩ ?_
             | refine yield_inline env mixed 0 2000 [3, 4, 5, 6, 7, 10, 11, 12] [0, 1, 2, 5, 6, 7, 41] rfl rfl rfl rfl rfl rfl rfl ?_
             | refine vc_eq env hasg ?_
             | refine vc_eq env hbdy ?_
             | ((with_reducible show CallEv _ _ 82 _ _ _ _ _); refine callO 13 [] (.os 13 14 S.length) S.length 3 (S.flatMap spF) 96 rfl (fun β w' _ hbw => (sclone_own S (some ad) c w' (hSr w' (by repeat (first | exact hbw | replace hbw := hbw.1))) (by omega) (by omega)).mono fun e w2 ⟨b, d, g1, g2, g3, g4⟩ => ⟨b, d, g1, g2, g3, g4⟩) ?_)
             | refine And.intro hcnd ?_; rw [hset]
             | ((with_reducible show CallEv _ _ 80 _ _ _ _ _); refine callQ [0, 5, 4, 3, 13] [(5, .cells [.v (.bool rj.isSome)] 4), (4, .cells [.v (iv (fvM rj))] 3), (3, .cells [(.v (fvV rj y))] 28), (13, .own 14 S.length 3 ((S.set k (((i + 1 : Nat) : Int), (q : Int), (lN : Int))).flatMap spF) 96)] (.v (.tuple #[])) rfl (fun β w' hbk hinj hst => try_B ⟨days, shift, size, some ta, tc, T, lo, lc, L⟩ (S.set k (((i + 1 : Nat) : Int), (q : Int), (lN : Int))) S.length hlE rj (fvV rj y) β w' 0 5 4 3 13 14 hn (by omega) hbE (hbk 0 (by simp) _ rfl) (hbk 5 (by simp) _ rfl) (hbk 4 (by simp) _ rfl) (hbk 3 (by simp) _ rfl) (hbk 13 (by simp) _ rfl) ⟨hinj 0 (by simp) 5 (by simp) _ _ rfl rfl rfl rfl (by decide), hinj 0 (by simp) 4 (by simp) _ _ rfl rfl rfl rfl (by decide), hinj 0 (by simp) 3 (by simp) _ _ rfl rfl rfl rfl (by decide), hinj 0 (by simp) 13 (by simp) _ _ rfl rfl rfl rfl (by decide), hinj 5 (by simp) 4 (by simp) _ _ rfl rfl rfl rfl (by decide), hinj 5 (by simp) 3 (by simp) _ _ rfl rfl rfl rfl (by decide), hinj 5 (by simp) 13 (by simp) _ _ rfl rfl rfl rfl (by decide), hinj 4 (by simp) 3 (by simp) _ _ rfl rfl rfl rfl (by decide), hinj 4 (by simp) 13 (by simp) _ _ rfl rfl rfl rfl (by decide), hinj 3 (by simp) 13 (by simp) _ _ rfl rfl rfl rfl (by decide)⟩ (fun w2 hc => hbel w2 (by have hbw := (hst w2 ⟨hc.os, hc.tape, hc.output, hc.size, fun b hb hX => hc.same b hb fun hq => hX (by rcases hq with rfl | rfl | rfl | rfl | rfl; exact ⟨0, by simp, ⟨_, rfl, rfl⟩, rfl⟩; exact ⟨5, by simp, ⟨_, rfl, rfl⟩, rfl⟩; exact ⟨4, by simp, ⟨_, rfl, rfl⟩, rfl⟩; exact ⟨3, by simp, ⟨_, rfl, rfl⟩, rfl⟩; exact ⟨13, by simp, ⟨_, rfl, rfl⟩, rfl⟩)⟩); repeat (first | exact hbw | replace hbw := hbw.1))) rj.isSome (fvM rj) (.v (fvV rj y)) hq1 hq2 hq3) ?_)
           all_goals first | (exfalso; omega) | skip
           conv => whnf
           refine Dis.mk6 (w0 := w) id [13] (.inr ⟨rfl, ⟨rfl, rfl, rfl, rfl, rfl, rfl, rfl, rfl, trivial⟩, ⟨rfl, trivial⟩⟩) ⟨fun β => rfl, fun β => rfl, fun β => rfl, fun β => rfl, fun β => rfl, fun β => rfl, fun β => rfl, fun β => rfl, trivial⟩ (fun i hi => by rw [List.mem_singleton] at hi; subst hi; exact ⟨_, rfl, rfl⟩) (fun w' h => h.1) (fun β w1 hok hw1 hge => ⟨(j + 1, y), ⟨by (show j + 1 ≤ _); omega, by (show _ - (j + 1) < _); omega⟩, ⟨⟨_, rfl, rfl⟩, ⟨_, rfl, rfl⟩, ⟨_, rfl, rfl⟩, ⟨_, rfl, rfl⟩, ⟨_, rfl, rfl⟩, ⟨_, rfl, by rw [hsj]; rfl⟩, trivial⟩, ⟨zM rfl rfl, zM rfl rfl, zM rfl rfl, ⟨rfl, _, rfl, fun _ => rfl, fun w2 y hy => by rw [hrj, htk]; exact hy⟩, ⟨rfl, _, rfl, fun _ => rfl, fun w2 y hy => by rw [hrj, htk]; exact hy⟩, ⟨rfl, _, rfl, fun _ => rfl, fun w2 y hy => by rw [hrj, htk]; exact hy⟩, zM rfl rfl, zM rfl rfl, zM rfl rfl, zM rfl rfl, zM rfl rfl, trivial⟩, rfl, fun w2 hw2 _ => by rw [hrj, htk]; exact hw2⟩)
          | true =>
           rw [hb2, if_pos rfl] at htk
           obtain ⟨P, hP⟩ : ∃ P, pfO (Tr.d ⟨days, shift, size, some ta, tc, T, lo, lc, L⟩) (S.set k (((i + 1 : Nat) : Int), (q : Int), (lN : Int))) = P := ⟨_, rfl⟩
           rw [hP] at htk
           have hq1 : (trR (Tr.d ⟨days, shift, size, some ta, tc, T, lo, lc, L⟩) rj (S.set k (((i + 1 : Nat) : Int), (q : Int), (lN : Int)))).isSome = true := by rw [htk]; rfl
           have hq2 : fvM (trR (Tr.d ⟨days, shift, size, some ta, tc, T, lo, lc, L⟩) rj (S.set k (((i + 1 : Nat) : Int), (q : Int), (lN : Int)))) = P := by rw [htk]; rfl
           have hq3 : (if tkV rj (S.set k (((i + 1 : Nat) : Int), (q : Int), (lN : Int))) (Tr.d ⟨days, shift, size, some ta, tc, T, lo, lc, L⟩) = true then SV.os 13 14 S.length else .v (fvV rj y)) = .os 13 14 S.length := by rw [hb2]; rfl
           repeat'
            conv => whnf
            first
             | refine zA ?_ | refine zB ?_ | refine zC ?_ | refine zD ?_ | refine zE ?_ | refine zF ?_ | refine zG ?_ | refine zH ?_ | refine zJ ?_ | refine zI ?_ | refine splT ?_ | refine splF ?_ | refine splNot ?_
             | ((first | refine splIn ?_ ?_ | refine splD ?_ ?_ | refine splE ?_ ?_ | refine splNE ?_ ?_) <;> intro hc <;> first | (exfalso; omega) | (exfalso; dsimp only at hc; omega) | skip)
             | ((with_reducible show CallEv _ _ 115 _ _ _ _ _); refine callE (k := 115) (fun β w' hbw => h115 w' (by repeat (first | exact hbw | replace hbw := hbw.1))) ?_)
             | refine And.intro (a := (_ : List _) = [] ∧ (_ : List _) = []) ⟨rfl, rfl⟩ ?_
             | refine yield_inline env mixed 0 2000 [3, 4, 5, 6, 7, 10, 11, 12] [0, 1, 2, 5, 6, 7, 41] rfl rfl rfl rfl rfl rfl rfl ?_
             | refine vc_eq env hasg ?_
             | refine vc_eq env hbdy ?_
             | ((with_reducible show CallEv _ _ 82 _ _ _ _ _); refine callO 13 [] (.os 13 14 S.length) S.length 3 (S.flatMap spF) 96 rfl (fun β w' _ hbw => (sclone_own S (some ad) c w' (hSr w' (by repeat (first | exact hbw | replace hbw := hbw.1))) (by omega) (by omega)).mono fun e w2 ⟨b, d, g1, g2, g3, g4⟩ => ⟨b, d, g1, g2, g3, g4⟩) ?_)
             | refine And.intro hcnd ?_; rw [hset]
             | ((with_reducible show CallEv _ _ 80 _ _ _ _ _); refine callQ [0, 5, 4, 3, 13] [(5, .cells [.v (.bool true)] 4), (4, .cells [.v (iv P)] 3), (3, .cells [(.os 13 14 S.length)] 28), (13, .own 14 S.length 3 ((S.set k (((i + 1 : Nat) : Int), (q : Int), (lN : Int))).flatMap spF) 96)] (.v (.tuple #[])) rfl (fun β w' hbk hinj hst => try_B ⟨days, shift, size, some ta, tc, T, lo, lc, L⟩ (S.set k (((i + 1 : Nat) : Int), (q : Int), (lN : Int))) S.length hlE rj (fvV rj y) β w' 0 5 4 3 13 14 hn (by omega) hbE (hbk 0 (by simp) _ rfl) (hbk 5 (by simp) _ rfl) (hbk 4 (by simp) _ rfl) (hbk 3 (by simp) _ rfl) (hbk 13 (by simp) _ rfl) ⟨hinj 0 (by simp) 5 (by simp) _ _ rfl rfl rfl rfl (by decide), hinj 0 (by simp) 4 (by simp) _ _ rfl rfl rfl rfl (by decide), hinj 0 (by simp) 3 (by simp) _ _ rfl rfl rfl rfl (by decide), hinj 0 (by simp) 13 (by simp) _ _ rfl rfl rfl rfl (by decide), hinj 5 (by simp) 4 (by simp) _ _ rfl rfl rfl rfl (by decide), hinj 5 (by simp) 3 (by simp) _ _ rfl rfl rfl rfl (by decide), hinj 5 (by simp) 13 (by simp) _ _ rfl rfl rfl rfl (by decide), hinj 4 (by simp) 3 (by simp) _ _ rfl rfl rfl rfl (by decide), hinj 4 (by simp) 13 (by simp) _ _ rfl rfl rfl rfl (by decide), hinj 3 (by simp) 13 (by simp) _ _ rfl rfl rfl rfl (by decide)⟩ (fun w2 hc => hbel w2 (by have hbw := (hst w2 ⟨hc.os, hc.tape, hc.output, hc.size, fun b hb hX => hc.same b hb fun hq => hX (by rcases hq with rfl | rfl | rfl | rfl | rfl; exact ⟨0, by simp, ⟨_, rfl, rfl⟩, rfl⟩; exact ⟨5, by simp, ⟨_, rfl, rfl⟩, rfl⟩; exact ⟨4, by simp, ⟨_, rfl, rfl⟩, rfl⟩; exact ⟨3, by simp, ⟨_, rfl, rfl⟩, rfl⟩; exact ⟨13, by simp, ⟨_, rfl, rfl⟩, rfl⟩)⟩); repeat (first | exact hbw | replace hbw := hbw.1))) true P (.os 13 14 S.length) hq1 hq2 hq3) ?_)
           all_goals first | (exfalso; omega) | skip
           conv => whnf
           refine Dis.mk6 (w0 := w) id [13] (.inr ⟨rfl, ⟨rfl, rfl, rfl, rfl, rfl, rfl, rfl, rfl, trivial⟩, ⟨rfl, trivial⟩⟩) ⟨fun β => rfl, fun β => rfl, fun β => rfl, fun β => rfl, fun β => rfl, fun β => rfl, fun β => rfl, fun β => rfl, trivial⟩ (fun i hi => by rw [List.mem_singleton] at hi; subst hi; exact ⟨_, rfl, rfl⟩) (fun w' h => h.1) (fun β w1 hok hw1 hge => ⟨(j + 1, (some ⟨β 13, 0, none⟩, β 14)), ⟨by (show j + 1 ≤ _); omega, by (show _ - (j + 1) < _); omega⟩, ⟨⟨_, rfl, rfl⟩, ⟨_, rfl, rfl⟩, ⟨_, rfl, rfl⟩, ⟨_, rfl, rfl⟩, ⟨_, rfl, rfl⟩, ⟨_, rfl, by rw [hsj]; rfl⟩, trivial⟩, ⟨zM rfl rfl, zM rfl rfl, zM rfl rfl, ⟨rfl, _, rfl, fun _ => rfl, fun w2 y hy => by rw [hrj, htk]; simp only [fvV, hlE]; exact hy⟩, ⟨rfl, _, rfl, fun _ => rfl, fun w2 y hy => by rw [hrj, htk]; exact hy⟩, ⟨rfl, _, rfl, fun _ => rfl, fun w2 y hy => by rw [hrj, htk]; exact hy⟩, zM rfl rfl, zM rfl rfl, zM rfl rfl, zM rfl rfl, zM rfl rfl, trivial⟩, rfl, fun w2 hw2 hLo => ⟨hw2.1, by rw [hrj, htk]; exact fs_own (hge 13 _ rfl rfl) hlE (hLo 13 (by simp) _ rfl)⟩⟩)
       · obtain rfl : j = N := by omega
         repeat'
          conv => whnf
          first
           | refine zA ?_ | refine zB ?_ | refine zC ?_ | refine zD ?_ | refine zE ?_ | refine zF ?_ | refine zG ?_ | refine zH ?_ | refine zJ ?_ | refine zI ?_ | refine splT ?_ | refine splF ?_ | refine splNot ?_
           | ((first | refine splIn ?_ ?_ | refine splD ?_ ?_ | refine splE ?_ ?_ | refine splNE ?_ ?_) <;> intro hc <;> first | (exfalso; omega) | (exfalso; dsimp only at hc; omega) | skip)
         all_goals first | (exfalso; omega) | skip
         refine Dis.mk4 (w0 := w) id [] ⟨fun β => rfl, fun β => rfl, fun β => rfl, fun β => rfl, fun β => rfl, fun β => rfl, fun β => rfl, fun β => rfl, trivial⟩ (fun i hi => by cases hi) (fun w' h => h.1) (fun β w1 hok hw1 hge => ⟨(q + 1, y), ⟨by (show q + 1 ≤ _); omega, by (show _ - (q + 1) < _); omega⟩, ⟨⟨_, rfl, rfl⟩, ⟨_, rfl, rfl⟩, ⟨_, rfl, rfl⟩, ⟨_, rfl, rfl⟩, ⟨_, rfl, rfl⟩, trivial⟩, ⟨zM rfl rfl, zM rfl rfl, zM rfl rfl, ⟨rfl, _, rfl, fun _ => rfl, fun w2 y hy => by rw [hRn, hAE]; exact hy⟩, ⟨rfl, _, rfl, fun _ => rfl, fun w2 y hy => by rw [hRn, hAE]; exact hy⟩, ⟨rfl, _, rfl, fun _ => rfl, fun w2 y hy => by rw [hRn, hAE]; exact hy⟩, zM rfl rfl, zM rfl rfl, zM rfl rfl, zM rfl rfl, zM rfl rfl, trivial⟩, rfl, fun w2 hw2 _ => by rw [hRn, hAE]; exact hw2⟩)
     · obtain rfl : q = days.toNat := by omega
       repeat'
        conv => whnf
        first
         | refine zA ?_ | refine zB ?_ | refine zC ?_ | refine zD ?_ | refine zE ?_ | refine zF ?_ | refine zG ?_ | refine zH ?_ | refine zJ ?_ | refine zI ?_ | refine splT ?_ | refine splF ?_ | refine splNot ?_
         | ((first | refine splIn ?_ ?_ | refine splD ?_ ?_ | refine splE ?_ ?_ | refine splNE ?_ ?_) <;> intro hc <;> first | (exfalso; omega) | (exfalso; dsimp only at hc; omega) | skip)
       all_goals first | (exfalso; omega) | skip
       refine Dis.mk3 (w0 := w) id [] rfl (fun i hi => by cases hi) (fun w' h => h.1) (fun β w1 hok hw1 hge => ⟨(i + 1, y), ⟨by (show i + 1 ≤ _); omega, by (show _ - (i + 1) < _); omega⟩, ⟨⟨_, rfl, rfl⟩, ⟨_, rfl, rfl⟩, ⟨_, rfl, rfl⟩, ⟨_, rfl, rfl⟩, ⟨_, rfl, rfl⟩, ⟨_, rfl, rfl⟩, ⟨_, rfl, rfl⟩, ⟨_, rfl, rfl⟩, trivial⟩, ⟨zM rfl rfl, zM rfl rfl, zM rfl rfl, ⟨rfl, _, rfl, fun _ => rfl, fun w2 y hy => by rw [hRi]; exact hy⟩, ⟨rfl, _, rfl, fun _ => rfl, fun w2 y hy => by rw [hRi]; exact hy⟩, ⟨rfl, _, rfl, fun _ => rfl, fun w2 y hy => by rw [hRi]; exact hy⟩, zM rfl rfl, trivial⟩, rfl, fun w2 hw2 _ => by rw [hRi]; exact hw2⟩)
 · obtain rfl : i = T.length - 1 := by omega
   repeat'
    conv => whnf
    first
     | refine zA ?_ | refine zB ?_ | refine zC ?_ | refine zD ?_ | refine zE ?_ | refine zF ?_ | refine zG ?_ | refine zH ?_ | refine zJ ?_ | refine zI ?_ | refine splT ?_ | refine splF ?_ | refine splNot ?_
     | ((first | refine splIn ?_ ?_ | refine splD ?_ ?_ | refine splE ?_ ?_ | refine splNE ?_ ?_) <;> intro hc <;> first | (exfalso; omega) | (exfalso; dsimp only at hc; omega) | skip)
   all_goals first | (exfalso; omega) | skip
   exact ⟨rfl, Dis.mk3 (w0 := w) id [] rfl (fun i hi => by cases hi) (fun w' h => h.1) (fun β w1 hok hw1 hge => ⟨y, trivial, ⟨⟨_, rfl, rfl⟩, ⟨_, rfl, rfl⟩, ⟨_, rfl, rfl⟩, ⟨_, rfl, rfl⟩, ⟨_, rfl, rfl⟩, ⟨_, rfl, rfl⟩, ⟨_, rfl, rfl⟩, trivial⟩, ⟨zM rfl rfl, zM rfl rfl, zM rfl rfl, ⟨rfl, _, rfl, fun _ => rfl, fun w2 y hy => by rw [hrO]; exact hy⟩, ⟨rfl, _, rfl, fun _ => rfl, fun w2 y hy => by rw [hrO]; exact hy⟩, ⟨rfl, _, rfl, fun _ => rfl, fun w2 y hy => by rw [hrO]; exact hy⟩, zM rfl rfl, trivial⟩, rfl, fun w2 hw2 _ => by rw [hrO]; exact hw2⟩)⟩
set_option maxHeartbeats 4000000 in
set_option maxRecDepth 100000 in
theorem pfR_bd {x : To} (hn : ToN x) {S : List (Int × Int × Int)} (h : fsO x S = []) (hl : S.length ≤ 20) : -300000000 ≤ pfO x S ∧ pfO x S ≤ 300000000 := by
 have h1 := pfK_bd hn (fs_spn hn h) S.length (Nat.le_refl _)
 have h2 := (hn.leg (pfK x S S.length).2 0).2
 have h3 : csO x (pfK x S S.length).2 0 = (lgO x (pfK x S S.length).2 0).2 := rfl
 unfold pfO
 omega
theorem rpV_ok {x : To} {S : List (Int × Int × Int)} {k : Nat} (hB : toB x = true) (hl : S.length ≤ 20) (hF : fsO x S = []) (hk : k < S.length) : rpV x S k = match rpO x S k with | some b => (b.1, b.2 - pfO x S, 0) | none => ([], 0, 7) := by
 unfold rpV
 rw [if_pos hB, if_pos hl, if_pos hF, if_pos ⟨by omega, by omega⟩, Int.toNat_natCast]
 cases rpO x S k <;> rfl
set_option maxHeartbeats 4000000 in
set_option maxRecDepth 100000 in
theorem Rp7 (days shift size : Int) (to : Option Addr) (tc : Nat) (T : List Tn) (lo : Option Addr) (lc : Nat) (L : List Lr) (x : Tr) (ad : Addr) (c : Nat) (S : List (Int × Int × Int)) (k : Nat) (w : World) (h : TrIn x w) (hn : ToN x.d) (hS : SpIn (some ad) c S w) (hl : S.length ≤ 20) (hk : k < S.length) (hB : toB x.d = true) (hF : fsO x.d S = []) (hx : ⟨days, shift, size, to, tc, T, lo, lc, L⟩ = x) (y : Option Addr × Nat) :
 VC Try.prog (rest 1 (rest 6 body46)) ⟨78, [(3, .ptr 0 0), (4, .ptr 1 0), (5, .ptr 2 0), (6, .ptr 3 0), (7, .ptr 4 0), (10, .ptr 5 0), (11, .ptr 6 0)], [(0, .cells (Tr.l ⟨days, shift, size, to, tc, T, lo, lc, L⟩) 35), (1, .cells [.v (.slice (some ad) S.length c)] 28), (2, .cells [.v (iv k)] 3), (3, .cells [.v (fvV (rpO (Tr.d ⟨days, shift, size, to, tc, T, lo, lc, L⟩) S k) y)] 28), (4, .cells [.v (iv (fvM (rpO (Tr.d ⟨days, shift, size, to, tc, T, lo, lc, L⟩) S k)))] 3), (5, .cells [.v (.bool (rpO (Tr.d ⟨days, shift, size, to, tc, T, lo, lc, L⟩) S k).isSome)] 4), (6, .cells [.fn (.func 80) [.ptr 0 0, .ptr 5 0, .ptr 4 0, .ptr 3 0]] 143)], 7, fun w' => Below w.heap.size w w' ∧ St w.heap.size (FS (rpO (Tr.d ⟨days, shift, size, to, tc, T, lo, lc, L⟩) S k) y) w', z0⟩ (endΦ env Try.f46 fun s σ => (∀ w', σ.h w' → Below w.heap.size w w') ∧ ∀ β w', σ.h w' → (∀ i b, lk σ.m i = some b → b.live = true → St w.heap.size (fun w2 => b.ok β w2 (β i)) w') → ∃ y : Option Addr × Nat, s.c β = .tuple #[sV (rpV (Tr.d ⟨days, shift, size, to, tc, T, lo, lc, L⟩) S k).1.length y, iv (rpV (Tr.d ⟨days, shift, size, to, tc, T, lo, lc, L⟩) S k).2.1, iv (rpV (Tr.d ⟨days, shift, size, to, tc, T, lo, lc, L⟩) S k).2.2] ∧ St w.heap.size (fun w2 => Rd 3 spF (sV (rpV (Tr.d ⟨days, shift, size, to, tc, T, lo, lc, L⟩) S k).1.length y) (rpV (Tr.d ⟨days, shift, size, to, tc, T, lo, lc, L⟩) S k).1 w2 ∧ (rpV (Tr.d ⟨days, shift, size, to, tc, T, lo, lc, L⟩) S k).1.length ≤ y.2) w') := by
 subst hx
 have hV := rpV_ok hB hl hF hk
 have hok := rpN_ok (x := (Tr.d ⟨days, shift, size, to, tc, T, lo, lc, L⟩)) (n := S.length) (m := (Tr.d ⟨days, shift, size, to, tc, T, lo, lc, L⟩).T.length - 1) (k := k) (S := S) (Nat.le_refl _)
 change FOk (Tr.d ⟨days, shift, size, to, tc, T, lo, lc, L⟩) S.length (rpO (Tr.d ⟨days, shift, size, to, tc, T, lo, lc, L⟩) S k) at hok
 have hp1 := pfR_bd hn hF hl
 have hsn := fs_spn hn hF
 have hlT : (Tr.d ⟨days, shift, size, to, tc, T, lo, lc, L⟩).T.length = T.length := List.length_map ..
 rw [hlT] at hsn
 have h75 := fun w' (hb : Below w.heap.size w w') => profit_ok ⟨days, shift, size, to, tc, T, lo, lc, L⟩ (some ad) c S w' (h.below hb) hn (hS.r.below hb) hl hsn
 rw [hV]
 refine VC.of env mixed ?_
 generalize pfO (Tr.d ⟨days, shift, size, to, tc, T, lo, lc, L⟩) S = P at *
 cases hr : rpO (Tr.d ⟨days, shift, size, to, tc, T, lo, lc, L⟩) S k with
 | none =>
  skip
  repeat'
   conv => whnf
   first
    | refine zA ?_ | refine zB ?_ | refine zC ?_ | refine zD ?_ | refine zE ?_ | refine zF ?_ | refine zG ?_ | refine zH ?_ | refine zJ ?_ | refine zI ?_ | refine splT ?_ | refine splF ?_ | refine splNot ?_
    | ((first | refine splIn ?_ ?_ | refine splD ?_ ?_ | refine splE ?_ ?_ | refine splNE ?_ ?_) <;> intro hc <;> first | (exfalso; omega) | (exfalso; dsimp only at hc; omega) | skip)
  all_goals first | (exfalso; omega) | exact ⟨fun w' h => h.1, fun β w' hB hblk => ⟨(none, 0), rfl, fun _ _ => ⟨.inl ⟨rfl, rfl⟩, Nat.le_refl _⟩⟩⟩
 | some b =>
  obtain ⟨h1, h2, h3⟩ := hok b hr
  have hp2 := pfR_bd hn h1 (by omega)
  rw [← h2] at hp2
  clear hV hok hr h1 h2
  obtain ⟨B, m⟩ := b
  dsimp only at h3 hp2 ⊢
  rw [show fvM (some (B, m)) = m from rfl, show fvV (some (B, m)) y = sV B.length y from rfl]
  repeat'
   conv => whnf
   first
    | refine zA ?_ | refine zB ?_ | refine zC ?_ | refine zD ?_ | refine zE ?_ | refine zF ?_ | refine zG ?_ | refine zH ?_ | refine zJ ?_ | refine zI ?_ | refine splT ?_ | refine splF ?_ | refine splNot ?_
    | ((first | refine splIn ?_ ?_ | refine splD ?_ ?_ | refine splE ?_ ?_ | refine splNE ?_ ?_) <;> intro hc <;> first | (exfalso; omega) | (exfalso; dsimp only at hc; omega) | skip)
    | ((with_reducible show CallEv _ _ 75 _ _ _ _ _); refine callE (fun β w' hbw => h75 w' (by repeat (first | exact hbw | replace hbw := hbw.1))) ?_)
  all_goals first | (exfalso; omega) | exact ⟨fun w' h => h.1, fun β w' hB hblk => ⟨y, rfl, hB.2⟩⟩
set_option maxHeartbeats 4000000 in
set_option maxRecDepth 100000 in
theorem Replace_ok (x : Tr) (o : Option Addr) (c : Nat) (S : List (Int × Int × Int)) (k : Int) (w : World) (h : TrIn x w) (hS : SpIn o c S w) :
 Calls Try.prog 46 #[x.v, .slice o S.length c, iv k] w fun e w' => ∃ y : Option Addr × Nat, e = .returned (.tuple #[sV (rpV x.d S k).1.length y, iv (rpV x.d S k).2.1, iv (rpV x.d S k).2.2]) ∧ Below w.heap.size w w' ∧ St w.heap.size (fun w2 => Rd 3 spF (sV (rpV x.d S k).1.length y) (rpV x.d S k).1 w2 ∧ (rpV x.d S k).1.length ≤ y.2) w' := by
 have h73 := fun w' hb => check_ok x o c S w' (h.below hb) hS.l
 have h74 := fun (hn : ToN x.d) w' hb => faults_ok x o c S w' (h.below hb) hn (hS.below hb)
 have hsl := hS.l
 cases hb : toB x.d with
 | false =>
  have hV : rpV x.d S k = ([], 0, 1) := by unfold rpV; rw [if_neg (by rw [hb]; decide)]
  rw [hV]
  rw [hb] at h73
  refine calls_fam env mixed Try.func46 has46 Try.ntmps46 [.agg #[iv x.days, iv x.shift, iv x.size, .slice x.to x.T.length x.tc, .slice x.lo x.L.length x.lc], .slice o S.length c, iv k] (by simp) ?_
  clear h74 h hb hV
  obtain ⟨days, shift, size, to, tc, T, lo, lc, L⟩ := x
  repeat'
   conv => whnf
   first
    | refine zA ?_ | refine zB ?_ | refine zC ?_ | refine zD ?_ | refine zE ?_ | refine zF ?_ | refine zG ?_ | refine zH ?_ | refine zJ ?_ | refine zI ?_ | refine splT ?_ | refine splF ?_ | refine splNot ?_
    | ((first | refine splIn ?_ ?_ | refine splD ?_ ?_ | refine splE ?_ ?_ | refine splNE ?_ ?_) <;> intro hc <;> first | (exfalso; omega) | (exfalso; dsimp only at hc; omega) | skip)
    | ((with_reducible show CallEv _ _ 73 _ _ _ _ _); refine callE (k := 73) (fun β w' hbw => h73 _ hbw) ?_)
  exact ⟨fun w' h => h, fun β w' hB hblk => ⟨(none, 0), rfl, fun _ _ => ⟨.inl ⟨rfl, rfl⟩, Nat.le_refl _⟩⟩⟩
 | true =>
  have hn := toB_n hb
  rw [hb] at h73
  by_cases hl : S.length ≤ 20
  · rw [if_pos rfl, if_pos hl] at h73
    have h74' := h74 hn
    by_cases hf : fsO x.d S = []
    · rw [hf] at h74'
      by_cases hk : 0 ≤ k ∧ k < S.length
      · obtain ⟨kn, rfl⟩ : ∃ kn : Nat, k = kn := ⟨k.toNat, by omega⟩
        obtain ⟨_, ad, rfl, _⟩ := hS.r.ptr (by omega)
        obtain ⟨days, shift, size, to, tc, T, lo, lc, L⟩ := x
        exact calls_famV env mixed Try.func46 has46 (nt := 78) Try.ntmps46 [.agg #[iv days, iv shift, iv size, .slice to T.length tc, .slice lo L.length lc], .slice (some ad) S.length c, iv kn] (by simp) (Rp5 days shift size to tc T lo lc L _ ad c S kn w h hn hS hl (by omega) hb hf rfl fun y0 => Rp6 days shift size to tc T lo lc L _ ad c S kn w h hn hS hl (by omega) hb hf rfl y0 fun y => Rp7 days shift size to tc T lo lc L _ ad c S kn w h hn hS hl (by omega) hb hf rfl y)
      · have hV : rpV x.d S k = ([], 0, 2) := by unfold rpV; rw [if_pos hb, if_pos hl, if_pos hf, if_neg hk]
        rw [hV]
        refine calls_fam env mixed Try.func46 has46 Try.ntmps46 [.agg #[iv x.days, iv x.shift, iv x.size, .slice x.to x.T.length x.tc, .slice x.lo x.L.length x.lc], .slice o S.length c, iv k] (by simp) ?_
        have hin : inB k 0 ((S.length : Int) - 1) = false := by cases hc : inB k 0 ((S.length : Int) - 1) with | false => rfl | true => (simp only [inB, Bool.and_eq_true, decide_eq_true_eq] at hc; omega)
        have h70 := fun w' => within_ok k 0 ((S.length : Int) - 1) w'
        rw [hin] at h70
        clear h74 h hb hV hf hn hin
        obtain ⟨days, shift, size, to, tc, T, lo, lc, L⟩ := x
        repeat'
         conv => whnf
         first
          | refine zA ?_ | refine zB ?_ | refine zC ?_ | refine zD ?_ | refine zE ?_ | refine zF ?_ | refine zG ?_ | refine zH ?_ | refine zJ ?_ | refine zI ?_ | refine splT ?_ | refine splF ?_ | refine splNot ?_
          | ((first | refine splIn ?_ ?_ | refine splD ?_ ?_ | refine splE ?_ ?_ | refine splNE ?_ ?_) <;> intro hc <;> first | (exfalso; omega) | (exfalso; dsimp only at hc; omega) | skip)
          | ((with_reducible show CallEv _ _ 73 _ _ _ _ _); refine callE (k := 73) (fun β w' hbw => h73 _ (by repeat (first | exact hbw | replace hbw := hbw.1))) ?_)
          | ((with_reducible show CallEv _ _ 74 _ _ _ _ _); refine callF [] (fun y : Option Addr × Nat => sV 0 y) (fun _ _ => True) (fun β w' _ hbw => (h74' w' (by repeat (first | exact hbw | replace hbw := hbw.1))).mono fun e w2 ⟨y, h1, h2, _⟩ => ⟨y, h1, h2, fun _ _ => trivial⟩) ?_; intro y)
          | ((with_reducible show CallEv _ _ 70 _ _ _ _ _); refine callE (k := 70) (fun β w' hbw => h70 w') ?_)
        all_goals first | (exfalso; omega) | exact ⟨fun w' h => (by repeat (first | exact h | replace h := h.1)), fun β w' hB hblk => ⟨(none, 0), rfl, fun _ _ => ⟨.inl ⟨rfl, rfl⟩, Nat.le_refl _⟩⟩⟩
    · have hV : rpV x.d S k = ([], 0, 9) := by unfold rpV; rw [if_pos hb, if_pos hl, if_neg hf]
      rw [hV]
      refine calls_fam env mixed Try.func46 has46 Try.ntmps46 [.agg #[iv x.days, iv x.shift, iv x.size, .slice x.to x.T.length x.tc, .slice x.lo x.L.length x.lc], .slice o S.length c, iv k] (by simp) ?_
      have hfl : 1 ≤ (fsO x.d S).length := by
       cases hc : fsO x.d S with
       | nil => exact absurd hc hf
       | cons a l => simp
      have hfl2 := fsP_len x.d S S.length
      change (fsO x.d S).length ≤ _ at hfl2
      generalize fsO x.d S = F at *
      clear h74 h hb hV hf hn
      obtain ⟨days, shift, size, to, tc, T, lo, lc, L⟩ := x
      repeat'
       conv => whnf
       first
        | refine zA ?_ | refine zB ?_ | refine zC ?_ | refine zD ?_ | refine zE ?_ | refine zF ?_ | refine zG ?_ | refine zH ?_ | refine zJ ?_ | refine zI ?_ | refine splT ?_ | refine splF ?_ | refine splNot ?_
        | ((first | refine splIn ?_ ?_ | refine splD ?_ ?_ | refine splE ?_ ?_ | refine splNE ?_ ?_) <;> intro hc <;> first | (exfalso; omega) | (exfalso; dsimp only at hc; omega) | skip)
        | ((with_reducible show CallEv _ _ 73 _ _ _ _ _); refine callE (k := 73) (fun β w' hbw => h73 _ (by repeat (first | exact hbw | replace hbw := hbw.1))) ?_)
        | ((with_reducible show CallEv _ _ 74 _ _ _ _ _); refine callF [] (fun y : Option Addr × Nat => sV F.length y) (fun _ _ => True) (fun β w' _ hbw => (h74' w' (by repeat (first | exact hbw | replace hbw := hbw.1))).mono fun e w2 ⟨y, h1, h2, _⟩ => ⟨y, h1, h2, fun _ _ => trivial⟩) ?_; intro y)
      all_goals first | (exfalso; omega) | exact ⟨fun w' h => (by repeat (first | exact h | replace h := h.1)), fun β w' hB hblk => ⟨(none, 0), rfl, fun _ _ => ⟨.inl ⟨rfl, rfl⟩, Nat.le_refl _⟩⟩⟩
  · have hV : rpV x.d S k = ([], 0, 3) := by unfold rpV; rw [if_pos hb, if_neg hl]
    rw [if_pos rfl, if_neg hl] at h73
    rw [hV]
    refine calls_fam env mixed Try.func46 has46 Try.ntmps46 [.agg #[iv x.days, iv x.shift, iv x.size, .slice x.to x.T.length x.tc, .slice x.lo x.L.length x.lc], .slice o S.length c, iv k] (by simp) ?_
    clear h74 h hb hV hn
    obtain ⟨days, shift, size, to, tc, T, lo, lc, L⟩ := x
    repeat'
     conv => whnf
     first
      | refine zA ?_ | refine zB ?_ | refine zC ?_ | refine zD ?_ | refine zE ?_ | refine zF ?_ | refine zG ?_ | refine zH ?_ | refine zJ ?_ | refine zI ?_ | refine splT ?_ | refine splF ?_ | refine splNot ?_
      | ((first | refine splIn ?_ ?_ | refine splD ?_ ?_ | refine splE ?_ ?_ | refine splNE ?_ ?_) <;> intro hc <;> first | (exfalso; omega) | (exfalso; dsimp only at hc; omega) | skip)
      | ((with_reducible show CallEv _ _ 73 _ _ _ _ _); refine callE (k := 73) (fun β w' hbw => h73 _ hbw) ?_)
    exact ⟨fun w' h => h, fun β w' hB hblk => ⟨(none, 0), rfl, fun _ _ => ⟨.inl ⟨rfl, rfl⟩, Nat.le_refl _⟩⟩⟩
end Go.Proofs.Ythfabodamhdhaaa
namespace Go.Proofs.Ythfabodamhdhaaa
open Go Tx Go.RowKit
set_option linter.unusedSimpArgs false
set_option linter.unusedVariables false
theorem rd_ptr0 {α : Type} {sz : Nat} {f : α → List Value} {L : List α} {z : Option Addr × Nat} {w : World} (h : Rd sz f (sV L.length z) L w) : (∃ a, z.1 = some a) ∨ (z = (none, 0) ∧ L.length = 0) := by
 obtain ⟨a, c⟩ := z
 rcases h with ⟨h1, h2⟩ | ⟨ad, c', h1, _⟩
 · simp only [Value.slice.injEq] at h1
   obtain ⟨rfl, h3, rfl⟩ := h1
   exact .inr ⟨rfl, h3⟩
 · simp only [Value.slice.injEq] at h1
   exact .inl ⟨ad, h1.1⟩
theorem conv5 (a : Int) (h : 0 ≤ a ∧ a ≤ 255) : RunIs Try.prog (convert 5 3 (.int .u8 a)) (iv a) := fun w => by
 have h3 : IntKind.i64.wrap a = a := IR.wrap (k := .i64) (by constructor <;> omega)
 simp [convert, Conv.intToInt, Go.run_underlying under5 w, Go.run_underlying under3 w, h3]
end Go.Proofs.Ythfabodamhdhaaa
namespace Go.Proofs.Ythfabodamhdhaaa
open Go Tx Go.RowKit
set_option linter.unusedSimpArgs false
set_option linter.unusedVariables false
theorem c15_8 : rest 8 body15 = .seq (.region 13 (hdO (rest 8 body15)) true) (rest 9 body15) := by kernel_rfl
theorem c15_3 : rest 3 body15 = .seq (.region 4 (hdO (rest 3 body15)) true) (rest 4 body15) := by kernel_rfl
theorem dy_take {S : List (Int × Int × Int)} {k : Nat} {s : Int × Int × Int} (h : S[k]? = some s) : dyS (S.take (k + 1)) = dyS (S.take k) + (s.2.2 - s.2.1 + 1) := by
 rw [dyS, List.take_add_one, h]; simp [dyS]
theorem dy_tb {S : List (Int × Int × Int)} {m : Nat} (h : LrOk m S) (k : Nat) : 0 ≤ dyS (S.take k) ∧ dyS (S.take k) ≤ 600 := by
 have := dy_bd (S := S.take k) fun s hs => (h.2 s (List.mem_of_mem_take hs)).2.2
 have hl := h.1
 have : (S.take k).length ≤ 60 := by rw [List.length_take]; omega
 omega
set_option maxHeartbeats 8000000 in
set_option maxRecDepth 100000 in
theorem Le10 (o : Option Addr) (c : Nat) (S : List (Int × Int × Int)) (C : List (Int × Int × Int)) (z : Option Addr × Nat) (m : Nat) (h : Int) (w : World) (hS : Rd 3 spF (.slice o S.length c) S w) (hSo : LrOk m S) (hCo : LrOk m C) (hh : 0 ≤ h ∧ h ≤ 4) (hz : (∃ a, z.1 = some a) ∨ (z = (none, 0) ∧ C.length = 0)) :
 VC Try.prog (rest 10 body15) ⟨162, [(1, .v (.slice o S.length c)), (10, .v (sV C.length z)), (15, .v (iv h)), (16, .v (iv (h * dyS S))), (17, .v (.bool true)), (18, .v (iv (h * dyS C))), (19, .v (.bool true))], [], 6, fun w' => Below w.heap.size w w' ∧ Rd 3 spF (sV C.length z) C w', z0⟩ (endΦ env Try.f15 fun s σ => (∀ β, s.c β = .bool true) ∧ ∀ w', σ.h w' → Below w.heap.size w w') := by
 refine VC.of env mixed ?_
 have hd1 := dy_bd (S := S) fun s hs => (hSo.2 s hs).2.2
 have hd2 := dy_bd (S := C) fun s hs => (hCo.2 s hs).2.2
 have hl1 := hSo.1
 have hl2 := hCo.1
 obtain ⟨za, zc⟩ := z
 repeat'
  conv => whnf
  first
   | refine zA ?_ | refine zB ?_ | refine zC ?_ | refine zD ?_ | refine zE ?_ | refine zF ?_ | refine zG ?_ | refine zH ?_ | refine zJ ?_ | refine zI ?_ | refine splT ?_ | refine splF ?_ | refine splNot ?_
   | ((first | refine splIn ?_ ?_ | refine splD ?_ ?_ | refine splE ?_ ?_ | refine splNE ?_ ?_) <;> intro hc <;> first | (exfalso; omega) | (exfalso; dsimp only at hc; omega) | skip)
 refine loopN 6 (fun k : Nat => [(1, .v (.slice o S.length c)), (10, .v (.slice za C.length zc)), (15, .v (iv h)), (16, .v (iv (h * dyS S))), (17, .v (.bool true)), (18, .v (iv (h * dyS C))), (19, .v (.bool true)), (20, .v (iv (dyS (C.take k)))), (21, .v (iv k))]) (fun _ => []) (fun k => k ≤ C.length) (fun k => C.length - k) 0 (Nat.zero_le _) ⟨rfl, rfl, rfl, rfl, rfl, rfl, rfl, rfl, rfl, trivial⟩ trivial (fun _ _ => ⟨rfl, rfl⟩) ?_
 intro k hk
 rcases Nat.lt_or_ge k C.length with hkl | hkl
 · obtain ⟨⟨p, f, l⟩, hs⟩ : ∃ s, C[k]? = some s := ⟨_, List.getElem?_eq_getElem hkl⟩
   have ht := dy_take hs
   have hb := dy_tb hCo k
   have hq := hCo.2 _ (List.mem_of_getElem? hs)
   dsimp only at ht hq
   generalize dyS (C.take k) = T at *
   generalize h * dyS S = A at *
   generalize h * dyS C = B at *
   cases za with
   | none =>
    exfalso
    rcases hz with ⟨a, ha⟩ | ⟨_, hc⟩
    · cases ha
    · omega
   | some ad =>
    repeat'
     conv => whnf
     first
      | refine zA ?_ | refine zB ?_ | refine zC ?_ | refine zD ?_ | refine zE ?_ | refine zF ?_ | refine zG ?_ | refine zH ?_ | refine zJ ?_ | refine zI ?_ | refine splT ?_ | refine splF ?_ | refine splNot ?_
      | ((first | refine splIn ?_ ?_ | refine splD ?_ ?_ | refine splE ?_ ?_ | refine splNE ?_ ?_) <;> intro hc <;> first | (exfalso; omega) | (exfalso; dsimp only at hc; omega) | skip)
      | refine Exists.intro (α := List Value) [iv l] ⟨⟨rfl, fun w' hw' => rd_fldz hw'.2 hs _ rfl 2 (iv l) rfl⟩, ?_⟩
      | refine Exists.intro (α := List Value) [iv f] ⟨⟨rfl, fun w' hw' => rd_fldz hw'.2 hs _ rfl 1 (iv f) rfl⟩, ?_⟩
    all_goals first | (exfalso; omega) | exact ⟨k + 1, by omega, by omega, Ent.weak rfl ⟨rfl, rfl, rfl, rfl, rfl, rfl, rfl, by rw [ht]; rfl, rfl, trivial⟩ trivial fun _ h => h⟩
 · obtain rfl : k = C.length := by omega
   rw [List.take_of_length_le (Nat.le_refl _)]
   clear hk hkl
   repeat'
    conv => whnf
    first
     | refine zA ?_ | refine zB ?_ | refine zC ?_ | refine zD ?_ | refine zE ?_ | refine zF ?_ | refine zG ?_ | refine zH ?_ | refine zJ ?_ | refine zI ?_ | refine splT ?_ | refine splF ?_ | refine splNot ?_
     | ((first | refine splIn ?_ ?_ | refine splD ?_ ?_ | refine splE ?_ ?_ | refine splNE ?_ ?_) <;> intro hc <;> first | (exfalso; omega) | (exfalso; dsimp only at hc; omega) | skip)
   all_goals first | (exfalso; omega) | skip
   refine loopN 6 (fun k : Nat => [(1, .v (.slice o S.length c)), (15, .v (iv h)), (16, .v (iv (h * dyS S))), (17, .v (.bool true)), (18, .v (iv (h * dyS C))), (19, .v (.bool true)), (20, .v (iv (dyS C - dyS (S.take k)))), (22, .v (iv k))]) (fun _ => []) (fun k => k ≤ S.length) (fun k => S.length - k) 0 (Nat.zero_le _) ⟨rfl, rfl, rfl, rfl, rfl, rfl, by (show _ = some (SV.v (iv (dyS C - 0)))); rw [Int.sub_zero]; rfl, rfl, trivial⟩ trivial (fun _ _ => ⟨rfl, rfl⟩) ?_
   intro k hk
   rcases Nat.lt_or_ge k S.length with hkl | hkl
   · obtain ⟨⟨p, f, l⟩, hs⟩ : ∃ s, S[k]? = some s := ⟨_, List.getElem?_eq_getElem hkl⟩
     have ht := dy_take hs
     have hb := dy_tb hSo k
     have hq := hSo.2 _ (List.mem_of_getElem? hs)
     obtain ⟨_, ad, rfl, _⟩ := hS.ptr (by omega)
     have e1 := fun (w' : World) (hw' : Below w.heap.size w w') => rd_fldz (hS.below (w' := w') hw') hs _ rfl 1 (iv f) rfl
     have e2 := fun (w' : World) (hw' : Below w.heap.size w w') => rd_fldz (hS.below (w' := w') hw') hs _ rfl 2 (iv l) rfl
     dsimp only at ht hq
     generalize dyS (S.take k) = T at *
     generalize h * dyS S = A at *
     generalize h * dyS C = B at *
     generalize dyS C = DC at *
     repeat'
      conv => whnf
      first
       | refine zA ?_ | refine zB ?_ | refine zC ?_ | refine zD ?_ | refine zE ?_ | refine zF ?_ | refine zG ?_ | refine zH ?_ | refine zJ ?_ | refine zI ?_ | refine splT ?_ | refine splF ?_ | refine splNot ?_
       | ((first | refine splIn ?_ ?_ | refine splD ?_ ?_ | refine splE ?_ ?_ | refine splNE ?_ ?_) <;> intro hc <;> first | (exfalso; omega) | (exfalso; dsimp only at hc; omega) | skip)
       | refine Exists.intro (α := List Value) [iv l] ⟨⟨rfl, fun w' hw' => e2 w' hw'.1⟩, ?_⟩
       | refine Exists.intro (α := List Value) [iv f] ⟨⟨rfl, fun w' hw' => e1 w' hw'.1⟩, ?_⟩
     all_goals first | (exfalso; omega) | exact ⟨k + 1, by omega, by omega, Ent.weak rfl ⟨rfl, rfl, rfl, rfl, rfl, rfl, by rw [ht]; exact congrArg (fun x => some (SV.v (iv x))) (by omega), rfl, trivial⟩ trivial fun _ h => h⟩
   · obtain rfl : k = S.length := by omega
     rw [List.take_of_length_le (Nat.le_refl _)]
     have hm : h * (dyS C - dyS S) = h * dyS C - h * dyS S := Int.mul_sub ..
     have hb1 : 0 ≤ h * dyS S ∧ h * dyS S ≤ 4 * 600 := ⟨Int.mul_nonneg hh.1 hd1.1, Int.mul_le_mul hh.2 (by omega) hd1.1 (by omega)⟩
     have hb2 : 0 ≤ h * dyS C ∧ h * dyS C ≤ 4 * 600 := ⟨Int.mul_nonneg hh.1 hd2.1, Int.mul_le_mul hh.2 (by omega) hd2.1 (by omega)⟩
     generalize h * dyS S = A at *
     generalize h * dyS C = B at *
     generalize hD : dyS C - dyS S = D at *
     repeat'
      conv => whnf
      first
       | refine zA ?_ | refine zB ?_ | refine zC ?_ | refine zD ?_ | refine zE ?_ | refine zF ?_ | refine zG ?_ | refine zH ?_ | refine zJ ?_ | refine zI ?_ | refine splT ?_ | refine splF ?_ | refine splNot ?_
       | ((first | refine splIn ?_ ?_ | refine splD ?_ ?_ | refine splE ?_ ?_ | refine splNE ?_ ?_) <;> intro hc <;> first | (exfalso; omega) | (exfalso; dsimp only at hc; omega) | skip)
       | ((with_reducible show CallEv _ _ 50 _ _ _ _ _); refine callE (k := 50) (fun β w' hbw => drives_ok w') ?_)
     all_goals first | (exfalso; omega) | exact ⟨fun β => rfl, fun w' h => h.1⟩
theorem l51 {D : List Rw} {m : Nat} (hD : D.map Rw.xs = List.replicate m [1000]) (hm : 1 ≤ m ∧ m ≤ 20) {β : Nat → Nat} {w : World} (h2 : (Blk.cells [.v (iv 2000)] 3).ok β w (β 2)) (h4 : (Blk.own 5 m 1 (D.flatMap Rw.cs) 43).ok β w (β 4)) (hr : RR D w)
 {o : Option Addr} {c : Nat} {S : List (Int × Int × Int)} (hrd : Rd 3 spF (.slice o S.length c) S w) (hSo : LrOk m S) {h : Int} (hh : 0 ≤ h ∧ h ≤ 4) :
 Calls Try.prog 51 #[.agg #[.slice (some ⟨β 2, 0, none⟩) 1 1, iv 60, .slice (some ⟨β 4, 0, none⟩) m (β 5)], .slice o S.length c, iv h] w fun e w2 => e = .returned (.tuple #[iv (h * dyS S), .bool true]) ∧ Below w.heap.size w w2 := by
 have hl : D.length = m := by
  have := congrArg List.length hD
  rwa [List.length_map, List.length_replicate] at this
 obtain ⟨e1, e2, e3⟩ := lr_hv (h := h) hSo hh
 have hc : CrIn ⟨some ⟨β 2, 0, none⟩, 1, [2000], 60, some ⟨β 4, 0, none⟩, β 5, D⟩ w := by
  refine ⟨one_rd h2, ?_, hr, Nat.le_of_ble_eq_true rfl, by show D.length ≤ _; omega, fun r hr' => ?_⟩
  · show Rd 1 Rw.cs (.slice (some ⟨β 4, 0, none⟩) D.length (β 5)) D w
    rw [hl]
    exact Rd.of_owns (sz := 1) (f := Rw.cs) (fun _ => rfl) rfl hl.symm h4
  · have h1 : r.xs ∈ D.map Rw.xs := List.mem_map_of_mem hr'
    rw [hD] at h1
    rw [(List.mem_replicate.1 h1).2]; exact Nat.le_of_ble_eq_true rfl
 have := learned_ok ⟨some ⟨β 2, 0, none⟩, 1, [2000], 60, some ⟨β 4, 0, none⟩, β 5, D⟩ o c S h w hc hrd hh (fun s hs => by have := hSo.2 s hs; omega) hSo.1 rfl (by show ckE [2000] 60 (D.map Rw.xs) _ = 0; rw [hD]; exact lr_ck hSo hh hm) (h * dyS S) (by show hsV (D.map Rw.xs) _ 0 = _; rw [hD]; exact e1) (by omega)
 rw [← hl]
 exact this
abbrev Lem (m : Nat) (D : List Rw) : List (Nat × Blk) := [(2, .cells [.v (iv 2000)] 3), (3, .cells [.sl 2 0 1 1, .v (iv 60), .os 4 5 m] 100), (4, .own 5 m 1 (D.flatMap Rw.cs) 43)]
set_option maxHeartbeats 8000000 in
set_option maxRecDepth 100000 in
theorem Le9 (o : Option Addr) (c : Nat) (S : List (Int × Int × Int)) (C : List (Int × Int × Int)) (z : Option Addr × Nat) (m : Nat) (D : List Rw) (h : Int) (w : World) (hS : Rd 3 spF (.slice o S.length c) S w) (hSo : LrOk m S) (hCo : LrOk m C) (hh : 0 ≤ h ∧ h ≤ 4) (hz : (∃ a, z.1 = some a) ∨ (z = (none, 0) ∧ C.length = 0)) (hD : D.map Rw.xs = List.replicate m [1000]) (hm : 1 ≤ m ∧ m ≤ 20) :
 VC Try.prog (rest 9 body15) ⟨162, [(1, .v (.slice o S.length c)), (10, .v (sV C.length z)), (13, .ptr 3 0), (15, .v (iv h)), (16, .v (iv (h * dyS S))), (17, .v (.bool true))], Lem m D, 6, fun w' => (Below w.heap.size w w' ∧ Rd 3 spF (sV C.length z) C w') ∧ ∀ r ∈ D, St w.heap.size (Rd 1 iF r.v r.xs) w', z0⟩ (endΦ env Try.f15 fun s σ => (∀ β, s.c β = .bool true) ∧ ∀ w', σ.h w' → Below w.heap.size w w') := by
 refine VC.cutE env mixed 1 6 (fun _ : Unit => [(1, .v (.slice o S.length c)), (10, .v (sV C.length z)), (15, .v (iv h)), (16, .v (iv (h * dyS S))), (17, .v (.bool true)), (18, .v (iv (h * dyS C))), (19, .v (.bool true))]) (fun _ => []) (fun _ => True) (fun _ _ => ⟨rfl, rfl⟩) ?_ (fun _ _ => ?_)
 · have h51 := fun (β : Nat → Nat) (w' : World) h2 h4 (hr : RR D w') hrd => l51 (β := β) (w := w') hD hm h2 h4 hr (o := z.1) (c := z.2) (S := C) hrd hCo hh
   generalize h * dyS S = A at *
   generalize h * dyS C = B at *
   clear hD hCo hSo hS
   obtain ⟨za, zc⟩ := z
   repeat'
    conv => whnf
    first
     | refine zA ?_ | refine zB ?_ | refine zC ?_ | refine zD ?_ | refine zE ?_ | refine zF ?_ | refine zG ?_ | refine zH ?_ | refine zJ ?_ | refine zI ?_ | refine splT ?_ | refine splF ?_ | refine splNot ?_
     | ((first | refine splIn ?_ ?_ | refine splD ?_ ?_ | refine splE ?_ ?_ | refine splNE ?_ ?_) <;> intro hc <;> first | (exfalso; omega) | (exfalso; dsimp only at hc; omega) | skip)
     | ((with_reducible show CallEv _ _ 51 _ _ _ _ _); refine callM [2, 4] (fun β w' hbk hw => h51 β w' (hbk 2 (by simp) _ rfl) (hbk 4 (by simp) _ rfl) (fun r hr => (hw.2 r hr).now) hw.1.2) ?_)
   all_goals first | (exfalso; omega) | exact ⟨rfl, (), trivial, Ent.weak rfl ⟨rfl, rfl, rfl, rfl, rfl, rfl, rfl, trivial⟩ trivial fun w2 h => h⟩
 · exact VC.ent (Le10 o c S C z m h w hS hSo hCo hh hz) (Ent.weak rfl ⟨rfl, rfl, rfl, rfl, rfl, rfl, rfl, trivial⟩ trivial fun _ h => h.1) (okB rfl rfl rfl)
set_option maxHeartbeats 8000000 in
set_option maxRecDepth 100000 in
theorem Le8 (o : Option Addr) (c : Nat) (S : List (Int × Int × Int)) (C : List (Int × Int × Int)) (z : Option Addr × Nat) (m : Nat) (D : List Rw) (h : Int) (w : World) (hS : Rd 3 spF (.slice o S.length c) S w) (hSo : LrOk m S) (hCo : LrOk m C) (hh : 0 ≤ h ∧ h ≤ 4) (hz : (∃ a, z.1 = some a) ∨ (z = (none, 0) ∧ C.length = 0)) (hD : D.map Rw.xs = List.replicate m [1000]) (hm : 1 ≤ m ∧ m ≤ 20) :
 VC Try.prog (rest 8 body15) ⟨162, [(1, .v (.slice o S.length c)), (10, .v (sV C.length z)), (13, .ptr 3 0), (15, .v (iv h))], Lem m D, 6, fun w' => (Below w.heap.size w w' ∧ Rd 3 spF (sV C.length z) C w') ∧ ∀ r ∈ D, St w.heap.size (Rd 1 iF r.v r.xs) w', z0⟩ (endΦ env Try.f15 fun s σ => (∀ β, s.c β = .bool true) ∧ ∀ w', σ.h w' → Below w.heap.size w w') := by
 have h41 := fun w' (hb : Below w.heap.size w w') => Season_ok S o c w' (hS.below hb) (by have := hSo.1; omega)
 have h51 : ∀ (y3 : Option Addr × Nat) (β : Nat → Nat) (w' : World), (Blk.cells [.v (iv 2000)] 3).ok β w' (β 2) → (Blk.own 5 m 1 (D.flatMap Rw.cs) 43).ok β w' (β 4) → RR D w' → Rd 3 spF (sV S.length y3) S w' → Calls Try.prog 51 #[.agg #[.slice (some ⟨β 2, 0, none⟩) 1 1, iv 60, .slice (some ⟨β 4, 0, none⟩) m (β 5)], sV S.length y3, iv h] w' fun e w2 => ∃ _ : Unit, e = .returned (.tuple #[iv (h * dyS S), .bool true]) ∧ Below w'.heap.size w' w2 ∧ St w'.heap.size (fun _ => True) w2 := fun y3 β w' g2 g4 hr hrd =>
  (l51 hD hm g2 g4 hr (o := y3.1) (c := y3.2) (S := S) hrd hSo hh).mono fun e w2 h => ⟨(), h.1, h.2, fun _ _ => trivial⟩
 rw [c15_8]
 refine VC.seq (f := fun σ' => Ent σ' ⟨162, [(1, .v (.slice o S.length c)), (10, .v (sV C.length z)), (13, .ptr 3 0), (15, .v (iv h)), (16, .v (iv (h * dyS S))), (17, .v (.bool true))], Lem m D, 6, fun w' => (Below w.heap.size w w' ∧ Rd 3 spF (sV C.length z) C w') ∧ ∀ r ∈ D, St w.heap.size (Rd 1 iF r.v r.xs) w', z0⟩) ?_ (fun σ' he => VC.ent (Le9 o c S C z m D h w hS hSo hCo hh hz hD hm) he (okB rfl rfl rfl))
 clear hCo hSo hS hD
 generalize h * dyS S = A at *
 generalize S.length = n at *
 generalize C.length = n2 at *
 apply VC_reg2 env mixed 2 4 (fun y3 : Option Addr × Nat => sV n y3) (fun y3 w3 => Rd 3 spF (sV n y3) S w3 ∧ n ≤ y3.2) (fun _ : Unit => .tuple #[iv A, .bool true]) (fun _ _ => True) (none, 0) ()
 case h12 => decide
 case h3 => exact Nat.le_of_ble_eq_true (by kernel_rfl)
 case hd12 => kernel_rfl
 case hv =>
  intro y3 _
  repeat'
   conv => whnf
   first
    | refine zA ?_ | refine zB ?_ | refine zC ?_ | refine zD ?_ | refine zE ?_ | refine zF ?_ | refine zG ?_ | refine zH ?_ | refine zJ ?_ | refine zI ?_ | refine splT ?_ | refine splF ?_ | refine splNot ?_
    | ((first | refine splIn ?_ ?_ | refine splD ?_ ?_ | refine splE ?_ ?_ | refine splNE ?_ ?_) <;> intro hc <;> first | (exfalso; omega) | (exfalso; dsimp only at hc; omega) | skip)
    | refine And.intro (a := (_ : Bool) = true ∧ (_ : List _) = [] ∧ (_ : List _) = []) ⟨rfl, rfl, rfl⟩ ?_
    | (with_reducible show FamEv _ _ _ 41 _ _ _); refine FamEv.mk [] (fun β w' _ hbw => h41 w' hbw.1.1) ?_
    | (with_reducible show FamEv _ _ _ 51 _ _ _); refine FamEv.mk [2, 4] (fun β w' hbk hbw => h51 y3 β w' (hbk 2 (by simp) _ rfl) (hbk 4 (by simp) _ rfl) (fun r hr => (hbw.1.2 r hr).now) hbw.2.1) ?_
  refine ⟨?_, Ent.weak rfl ⟨rfl, rfl, rfl, rfl, rfl, rfl, trivial⟩ ⟨rfl, rfl, rfl, trivial⟩ fun w2 h => h.1.1⟩
  simp only [List.nil_append, List.cons_append, List.append_assoc]
  exact rfl
 case hk1 => intros; rfl
 case hk2 => intros; rfl
 case hi1 => exact fun _ _ _ => ⟨Or.inr rfl, Or.inr rfl, Or.inl (by kernel_rfl), Or.inr rfl, Or.inl (by kernel_rfl), Or.inl (by kernel_rfl), Or.inl (by kernel_rfl), Or.inl (by kernel_rfl), Or.inl (by kernel_rfl), Or.inl (by kernel_rfl), trivial⟩
 case hi2 => exact fun _ _ _ => ⟨Or.inr rfl, Or.inr rfl, Or.inr rfl, Or.inr rfl, Or.inl (by kernel_rfl), Or.inl (by kernel_rfl), Or.inl (by kernel_rfl), Or.inl (by kernel_rfl), Or.inl (by kernel_rfl), Or.inl (by kernel_rfl), trivial⟩
set_option maxHeartbeats 8000000 in
set_option maxRecDepth 100000 in
theorem Le5 (x y : Tr) (o : Option Addr) (c : Nat) (S : List (Int × Int × Int)) (C : List (Int × Int × Int)) (z : Option Addr × Nat) (hu : Nat) (w : World) (hS : Rd 3 spF (.slice o S.length c) S w) (hSo : LrOk x.T.length S) (hCo : LrOk x.T.length C) (hh : hu ≤ 255) (hz : (∃ a, z.1 = some a) ∨ (z = (none, 0) ∧ C.length = 0)) (hm : 1 ≤ x.T.length ∧ x.T.length ≤ 20) :
 VC Try.prog (rest 5 body15) ⟨162, [(1, .v (.slice o S.length c)), (3, .v (.int .u8 hu)), (4, .ptr 0 0), (10, .v (sV C.length z))], [(0, .cells x.l 25), (1, .cells y.l 35)], 2, fun w' => Below w.heap.size w w' ∧ Rd 3 spF (sV C.length z) C w', z0⟩ (endΦ env Try.f15 fun s σ => (∀ β, s.c β = .bool true) ∧ ∀ w', σ.h w' → Below w.heap.size w w') := by
 have hmod : (hu : Int).tmod 5 = ((hu % 5 : Nat) : Int) := rfl
 have h8 := fun (D : List Rw) hD => Le8 o c S C z x.T.length D (hu % 5 : Nat) w hS hSo hCo (by omega) hz hD hm
 refine VC.cutH env mixed 3 6 (fun D : List Rw => [(1, .v (.slice o S.length c)), (10, .v (sV C.length z)), (13, .ptr 3 0), (15, .v (iv (hu % 5 : Nat)))]) (fun D => Lem x.T.length D) (fun D w' => (Below w.heap.size w w' ∧ Rd 3 spF (sV C.length z) C w') ∧ ∀ r ∈ D, St w.heap.size (Rd 1 iF r.v r.xs) w') (fun D => D.map Rw.xs = List.replicate x.T.length [1000]) (fun _ _ => ⟨rfl, rfl⟩) ?_ (fun D hD => h8 D hD)
 clear h8 hSo hCo hS
 obtain ⟨dx, sx, zx, to, tc, T, lo, lc, L⟩ := x
 dsimp only at hm ⊢
 generalize hu % 5 = h5 at *
 generalize S.length = n at *
 repeat'
  conv => whnf
  first
   | refine zA ?_ | refine zB ?_ | refine zC ?_ | refine zD ?_ | refine zE ?_ | refine zF ?_ | refine zG ?_ | refine zH ?_ | refine zJ ?_ | refine zI ?_ | refine splT ?_ | refine splF ?_ | refine splNot ?_
   | ((first | refine splIn ?_ ?_ | refine splD ?_ ?_ | refine splE ?_ ?_ | refine splNE ?_ ?_) <;> intro hc <;> first | (exfalso; omega) | (exfalso; dsimp only at hc; omega) | skip)
 refine loopD 6 (fun D : List Rw => [(1, .v (.slice o n c)), (3, .v (.int .u8 hu)), (4, .ptr 0 0), (10, .v (sV C.length z)), (13, .ptr 3 0), (14, .v (iv D.length))]) (fun D => (0, .cells [.v (iv dx), .v (iv sx), .v (iv zx), .v (.slice to T.length tc), .v (.slice lo L.length lc)] 25) :: (2, .cells [.v (iv 2000)] 3) :: (3, .cells [.sl 2 0 1 1, .v (iv 60), oSV 4 5 D] 100) :: oM 4 5 1 Rw.cs 43 D)
  (fun D w' => (Below w.heap.size w w' ∧ Rd 3 spF (sV C.length z) C w') ∧ ∀ r ∈ D, St w.heap.size (Rd 1 iF r.v r.xs) w')
  (fun D => D.length ≤ T.length ∧ D.map Rw.xs = List.replicate D.length [1000]) (fun D => T.length - D.length) (Dis.ent (x := []) ⟨Nat.zero_le _, rfl⟩ (Ent.weak rfl ⟨rfl, rfl, rfl, rfl, rfl, rfl, trivial⟩ ⟨rfl, rfl, rfl, trivial⟩ (fun w' h => ⟨h, fun r hr => by cases hr⟩))) (fun D _ => by cases D <;> exact ⟨rfl, rfl⟩) ?_
 intro D ⟨hk, hmap⟩
 rcases Nat.lt_or_ge D.length T.length with hkl | hkl
 · have hl2 : ∀ y : Nat, (D ++ [(⟨some ⟨y, 0, none⟩, 1, [1000]⟩ : Rw)]).length = D.length + 1 := fun y => by simp
   have hnew : ∀ y : Nat, (D ++ [(⟨some ⟨y, 0, none⟩, 1, [1000]⟩ : Rw)]).map Rw.xs = List.replicate (D.length + 1) [1000] := fun y => by
    rw [List.map_append, hmap, List.replicate_succ']; rfl
   have hh1 : ∀ (b : Nat) (w' : World), w.heap.size ≤ b → ((Below w.heap.size w w' ∧ Rd 3 spF (sV C.length z) C w') ∧ ∀ r ∈ D, St w.heap.size (Rd 1 iF r.v r.xs) w') → w'.heap[b]? = some (.cells #[iv 1000] 3 (0, 0)) →
    (Below w.heap.size w w' ∧ Rd 3 spF (sV C.length z) C w') ∧ ∀ r ∈ D ++ [(⟨some ⟨b, 0, none⟩, 1, [1000]⟩ : Rw)], St w.heap.size (Rd 1 iF r.v r.xs) w' := fun b w' hb h ho => ⟨h.1, fun r hr => by
    rcases List.mem_append.1 hr with hr | hr
    · exact h.2 r hr
    · rw [List.mem_singleton] at hr; subst hr; exact one_st hb ho⟩
   generalize hn : D.length = k at *
   cases D with
   | nil =>
    repeat'
     conv => whnf
     first
      | refine zA ?_ | refine zB ?_ | refine zC ?_ | refine zD ?_ | refine zE ?_ | refine zF ?_ | refine zG ?_ | refine zH ?_ | refine zJ ?_ | refine zI ?_ | refine splT ?_ | refine splF ?_ | refine splNot ?_
      | ((first | refine splIn ?_ ?_ | refine splD ?_ ?_ | refine splE ?_ ?_ | refine splNE ?_ ?_) <;> intro hc <;> first | (exfalso; omega) | (exfalso; dsimp only at hc; omega) | skip)
      | refine appG env 7 1 1 [.sl 6 0 1 1] 43 0 [] [] rfl rfl rfl rfl rfl (by decide) rfl rfl rfl (fun _ => Nat.le_refl _) (by omega) (by decide) rfl (.inl ⟨rfl, rfl, rfl, rfl⟩) rfl ?_
    all_goals first | (exfalso; omega) | skip
    refine Dis.mk3 (w0 := w) (rho [(4, 8), (5, 9)]) [6] rfl (fun i hi => by rw [List.mem_singleton] at hi; subst hi; exact ⟨_, rfl, rfl⟩) (fun w' h => h.1.1) (fun β w1 hok hw1 hge => ⟨[(⟨some ⟨β 6, 0, none⟩, 1, [1000]⟩ : Rw)], ⟨⟨by have := hl2 0; simp only [List.nil_append, List.length_singleton] at this ⊢; omega, by have := hnew (β 6); rw [← hn] at this; exact this⟩, by have := hl2 0; simp only [List.nil_append, List.length_singleton] at this ⊢; omega⟩, ⟨⟨_, rfl, rfl⟩, ⟨_, rfl, rfl⟩, ⟨_, rfl, rfl⟩, ⟨_, rfl, rfl⟩, ⟨_, rfl, rfl⟩, ⟨_, rfl, by rw [← hn]; rfl⟩, trivial⟩, ⟨⟨rfl, _, rfl, fun _ => rfl, fun w2 y hy => hy⟩, ⟨rfl, _, rfl, fun _ => rfl, fun w2 y hy => hy⟩, ⟨rfl, _, rfl, fun _ => rfl, fun w2 y hy => hy⟩, ⟨rfl, _, rfl, fun _ => rfl, fun w2 y hy => hy⟩, trivial⟩, rfl, fun w2 hw2 hLo => hh1 (β 6) w2 (hge 6 _ rfl rfl) hw2 (hLo 6 (by simp) _ rfl)⟩)
   | cons a2 D =>
    simp only [List.length_cons] at hn
    repeat'
     conv => whnf
     first
      | refine zA ?_ | refine zB ?_ | refine zC ?_ | refine zD ?_ | refine zE ?_ | refine zF ?_ | refine zG ?_ | refine zH ?_ | refine zJ ?_ | refine zI ?_ | refine splT ?_ | refine splF ?_ | refine splNot ?_
      | ((first | refine splIn ?_ ?_ | refine splD ?_ ?_ | refine splE ?_ ?_ | refine splNE ?_ ?_) <;> intro hc <;> first | (exfalso; omega) | (exfalso; dsimp only at hc; omega) | skip)
      | refine appG env 7 1 1 [.sl 6 0 1 1] 43 (D.length + 1) ((a2 :: D).flatMap Rw.cs) [4] rfl rfl rfl rfl rfl (by decide) rfl rfl rfl (fun h => by cases h) (by omega) (by show (D.length + 1 + 1) * 24 ≤ 140737488355328; omega) rfl (.inr ⟨4, 5, rfl, rfl, rfl, (by show 4 < 8; decide)⟩) rfl ?_
    all_goals first | (exfalso; omega) | skip
    have hl3 : ∀ y : Nat, (a2 :: D ++ [(⟨some ⟨y, 0, none⟩, 1, [1000]⟩ : Rw)]).length = D.length + 1 + 1 := fun y => by rw [hl2]; omega
    refine Dis.mk3 (w0 := w) (rho [(4, 8), (5, 9)]) [6] rfl (fun i hi => by rw [List.mem_singleton] at hi; subst hi; exact ⟨_, rfl, rfl⟩) (fun w' h => h.1.1) (fun β w1 hok hw1 hge => ⟨a2 :: D ++ [(⟨some ⟨β 6, 0, none⟩, 1, [1000]⟩ : Rw)], ⟨⟨by have := hl3 (β 6); omega, by have := hnew (β 6); rw [hl3, hn]; exact this⟩, by have := hl3 (β 6); omega⟩, ⟨⟨_, rfl, rfl⟩, ⟨_, rfl, rfl⟩, ⟨_, rfl, rfl⟩, ⟨_, rfl, rfl⟩, ⟨_, rfl, rfl⟩, ⟨_, rfl, by rw [hl3 (β 6), ← hn]; rfl⟩, trivial⟩, ⟨⟨rfl, _, rfl, fun _ => rfl, fun w2 y hy => hy⟩, ⟨rfl, _, rfl, fun _ => rfl, fun w2 y hy => hy⟩, ⟨rfl, _, rfl, fun _ => by simp [oSV, rho, lk]; rfl, fun w2 y hy => by simp [oSV, Blk.ok] at hy ⊢; exact hy⟩, by simp [oM]; exact ⟨⟨rfl, _, rfl, fun _ => rfl, fun w2 y hy => by simp [Blk.ok] at hy ⊢; exact hy⟩, trivial⟩⟩, rfl, fun w2 hw2 hLo => hh1 (β 6) w2 (hge 6 _ rfl rfl) hw2 (hLo 6 (by simp) _ rfl)⟩)
 · have hk2 : D.length = T.length := by omega
   rw [hk2] at hmap
   cases D with
   | nil => simp at hk2; omega
   | cons a2 D =>
    simp only [List.length_cons] at hk2
    repeat'
     conv => whnf
     first
      | refine zA ?_ | refine zB ?_ | refine zC ?_ | refine zD ?_ | refine zE ?_ | refine zF ?_ | refine zG ?_ | refine zH ?_ | refine zJ ?_ | refine zI ?_ | refine splT ?_ | refine splF ?_ | refine splNot ?_
      | ((first | refine splIn ?_ ?_ | refine splD ?_ ?_ | refine splE ?_ ?_ | refine splNE ?_ ?_) <;> intro hc <;> first | (exfalso; omega) | (exfalso; dsimp only at hc; omega) | skip)
      | refine Exists.intro (α := Value) (iv hu) ⟨conv5 _ (by omega), ?_⟩
      | refine Exists.intro (α := Int) (h5 : Int) ⟨⟨by decide, hmod, by constructor <;> omega⟩, ?_⟩
      | refine Exists.intro (α := Int) (h5 : Int) ⟨⟨by decide, hmod⟩, ?_⟩
    all_goals first | (exfalso; omega) | exact ⟨rfl, a2 :: D, hmap, Ent.weak rfl ⟨rfl, rfl, rfl, rfl, trivial⟩ ⟨rfl, by rw [← hk2]; rfl, by rw [← hk2]; rfl, trivial⟩ fun w2 h => h⟩
end Go.Proofs.Ythfabodamhdhaaa
namespace Go.Proofs.Ythfabodamhdhaaa
open Go Tx Go.RowKit
set_option linter.unusedSimpArgs false
set_option linter.unusedVariables false
theorem spn_lr {m : Nat} {S : List (Int × Int × Int)} (h : SpN m S) (hl : S.length ≤ 60) : LrOk m S := ⟨hl, fun s hs => by
 obtain ⟨k, f, l, rfl, h1, h2, h3⟩ := h s hs
 dsimp only
 omega⟩
set_option maxHeartbeats 8000000 in
set_option maxRecDepth 100000 in
theorem Le4 (x y : Tr) (o : Option Addr) (c : Nat) (S : List (Int × Int × Int)) (kk hu at_ : Nat) (w : World) (hS : SpI0 o c S w) (ht : toB x.d = true) (hl : S.length ≤ 20) (hat : at_ < S.length) (hh : hu ≤ 255)
 (z : {z : Option Addr × Nat // (∃ a, z.1 = some a) ∨ (z = (none, 0) ∧ (rpV x.d S at_).1.length = 0)}) :
 VC Try.prog (rest 4 body15) ⟨162, [(1, .v (.slice o S.length c)), (2, .v (.int .u8 kk)), (3, .v (.int .u8 hu)), (4, .ptr 0 0), (9, .ptr 1 0), (10, .v (sV (rpV x.d S at_).1.length z.1)), (11, .v (iv (rpV x.d S at_).2.1)), (12, .v (iv (rpV x.d S at_).2.2))], [(0, .cells x.l 25), (1, .cells y.l 35)], 2, fun w2 => (Below w.heap.size w w2 ∧ (TrIn y w2 ∧ y.d = x.d)) ∧ (Rd 3 spF (sV (rpV x.d S at_).1.length z.1) (rpV x.d S at_).1 w2 ∧ (rpV x.d S at_).1.length ≤ z.1.2), z0⟩ (endΦ env Try.f15 fun s σ => (∀ β, s.c β = .bool true) ∧ ∀ w', σ.h w' → Below w.heap.size w w') := by
 obtain ⟨z, hz⟩ := z
 dsimp only
 have hn := toB_n ht
 have hlen : x.d.T.length = x.T.length := List.length_map ..
 have hok := rpN_ok (x := x.d) (n := S.length) (m := x.d.T.length - 1) (k := at_) (S := S) (Nat.le_refl _)
 change FOk x.d S.length (rpO x.d S at_) at hok
 have bad : ∀ (E : Int), (E = 9 ∨ E = 7) → rpV x.d S at_ = ([], 0, E) → VC Try.prog (rest 4 body15) ⟨162, [(1, .v (.slice o S.length c)), (2, .v (.int .u8 kk)), (3, .v (.int .u8 hu)), (4, .ptr 0 0), (9, .ptr 1 0), (10, .v (sV (rpV x.d S at_).1.length z)), (11, .v (iv (rpV x.d S at_).2.1)), (12, .v (iv (rpV x.d S at_).2.2))], [(0, .cells x.l 25), (1, .cells y.l 35)], 2, fun w2 => (Below w.heap.size w w2 ∧ (TrIn y w2 ∧ y.d = x.d)) ∧ (Rd 3 spF (sV (rpV x.d S at_).1.length z) (rpV x.d S at_).1 w2 ∧ (rpV x.d S at_).1.length ≤ z.2), z0⟩ (endΦ env Try.f15 fun s σ => (∀ β, s.c β = .bool true) ∧ ∀ w', σ.h w' → Below w.heap.size w w') := fun E hE hV => by
  rw [hV]
  dsimp only
  clear hok hV hz hn hS ht
  refine VC.of env mixed ?_
  repeat'
   conv => whnf
   first
    | refine zA ?_ | refine zB ?_ | refine zC ?_ | refine zD ?_ | refine zE ?_ | refine zF ?_ | refine zG ?_ | refine zH ?_ | refine zJ ?_ | refine zI ?_ | refine splT ?_ | refine splF ?_ | refine splNot ?_
    | ((first | refine splIn ?_ ?_ | refine splD ?_ ?_ | refine splE ?_ ?_ | refine splNE ?_ ?_) <;> intro hc <;> first | (exfalso; omega) | (exfalso; dsimp only at hc; omega) | skip)
    | ((with_reducible show CallEv _ _ 50 _ _ _ _ _); refine callE (k := 50) (fun β w' hbw => drives_ok w') ?_)
  all_goals first | (exfalso; omega) | exact ⟨fun β => rfl, fun w' h => (by repeat (first | exact h | replace h := h.1))⟩
 by_cases hF : fsO x.d S = []
 · have hV := rpV_ok ht hl hF hat
   cases hr : rpO x.d S at_ with
   | none =>
    rw [hr] at hV
    exact bad 7 (.inr rfl) hV
   | some b =>
    rw [hr] at hV
    dsimp only at hV
    obtain ⟨g1, g2, g3⟩ := hok b hr
    rw [hV] at hz ⊢
    dsimp only at hz ⊢
    have hSo := spn_lr (fs_spn hn hF) (by omega)
    have hCo := spn_lr (fs_spn hn g1) (by omega)
    rw [hlen] at hSo hCo
    have h5 := Le5 x y o c S b.1 z hu w hS.r hSo hCo hh hz (by have := hn.n; omega)
    generalize b.1 = C at *
    generalize b.2 - pfO x.d S = G at *
    clear bad hV hok hr hSo hCo
    refine VC.cutE env mixed 1 2 (fun _ : Unit => [(1, .v (.slice o S.length c)), (3, .v (.int .u8 hu)), (4, .ptr 0 0), (10, .v (sV C.length z))]) (fun _ => [(0, .cells x.l 25), (1, .cells y.l 35)]) (fun _ => True) (fun _ _ => ⟨rfl, rfl⟩) ?_ (fun _ _ => VC.ent h5 (Ent.weak rfl ⟨rfl, rfl, rfl, rfl, trivial⟩ ⟨rfl, rfl, trivial⟩ fun _ h => ⟨h.1.1, h.2.1⟩) (okB rfl rfl rfl))
    repeat'
     conv => whnf
     first
      | refine zA ?_ | refine zB ?_ | refine zC ?_ | refine zD ?_ | refine zE ?_ | refine zF ?_ | refine zG ?_ | refine zH ?_ | refine zJ ?_ | refine zI ?_ | refine splT ?_ | refine splF ?_ | refine splNot ?_
      | ((first | refine splIn ?_ ?_ | refine splD ?_ ?_ | refine splE ?_ ?_ | refine splNE ?_ ?_) <;> intro hc <;> first | (exfalso; omega) | (exfalso; dsimp only at hc; omega) | skip)
    all_goals first | (exfalso; omega) | exact ⟨rfl, (), trivial, Ent.weak rfl ⟨rfl, rfl, rfl, rfl, trivial⟩ ⟨rfl, rfl, trivial⟩ fun w2 h => h⟩
 · refine bad 9 (.inl rfl) ?_
   unfold rpV
   rw [if_pos ht, if_pos hl, if_neg hF]
set_option maxHeartbeats 8000000 in
set_option maxRecDepth 100000 in
theorem Le3 (x y : Tr) (o : Option Addr) (c : Nat) (S : List (Int × Int × Int)) (kk hu : Nat) (w : World) (hS : SpI0 o c S w) (ht : toB x.d = true) (hl : 1 ≤ S.length ∧ S.length ≤ 20) (hh : hu ≤ 255) (hk : kk ≤ 255) :
 VC Try.prog (rest 3 body15) ⟨162, [(1, .v (.slice o S.length c)), (2, .v (.int .u8 kk)), (3, .v (.int .u8 hu)), (4, .ptr 0 0), (9, .ptr 1 0)], [(0, .cells x.l 25), (1, .cells y.l 35)], 2, fun w2 => Below w.heap.size w w2 ∧ (TrIn y w2 ∧ y.d = x.d), z0⟩ (endΦ env Try.f15 fun s σ => (∀ β, s.c β = .bool true) ∧ ∀ w', σ.h w' → Below w.heap.size w w') := by
 have h41 := fun w' (hb : Below w.heap.size w w') => Season_ok S o c w' (hS.r.below hb) (by omega)
 have hmod : (kk : Int).tmod (S.length : Int) = ((kk % S.length : Nat) : Int) := rfl
 have h4 := fun z => Le4 x y o c S kk hu (kk % S.length) w hS ht hl.2 (Nat.mod_lt _ hl.1) hh z
 generalize kk % S.length = at_ at *
 have h46 : ∀ (y3 : Option Addr × Nat) w', (TrIn y w' ∧ y.d = x.d) → (Rd 3 spF (sV S.length y3) S w' ∧ S.length ≤ y3.2) → Calls Try.prog 46 #[y.v, sV S.length y3, iv at_] w' fun e w2 => ∃ z : {z : Option Addr × Nat // (∃ a, z.1 = some a) ∨ (z = (none, 0) ∧ (rpV x.d S at_).1.length = 0)}, e = .returned (.tuple #[sV (rpV x.d S at_).1.length z.1, iv (rpV x.d S at_).2.1, iv (rpV x.d S at_).2.2]) ∧ Below w'.heap.size w' w2 ∧ St w'.heap.size (fun w2 => Rd 3 spF (sV (rpV x.d S at_).1.length z.1) (rpV x.d S at_).1 w2 ∧ (rpV x.d S at_).1.length ≤ z.1.2) w2 := fun y3 w' h1 h2 => by
  have := Replace_ok y y3.1 y3.2 S at_ w' h1.1 ⟨h2.1, by omega, h2.2, fun s hs => ⟨(hS.n s hs).2.1, (hS.n s hs).2.2⟩⟩
  rw [h1.2] at this
  exact this.mono fun e w2 ⟨z, e1, e2, e3⟩ => ⟨⟨z, rd_ptr0 (St.now e3).1⟩, e1, e2, e3⟩
 rw [c15_3]
 refine VC.seq (f := fun σ' => ∃ z : {z : Option Addr × Nat // (∃ a, z.1 = some a) ∨ (z = (none, 0) ∧ (rpV x.d S at_).1.length = 0)}, Ent σ' ⟨162, [(1, .v (.slice o S.length c)), (2, .v (.int .u8 kk)), (3, .v (.int .u8 hu)), (4, .ptr 0 0), (9, .ptr 1 0), (10, .v (sV (rpV x.d S at_).1.length z.1)), (11, .v (iv (rpV x.d S at_).2.1)), (12, .v (iv (rpV x.d S at_).2.2))], [(0, .cells x.l 25), (1, .cells y.l 35)], 2, fun w2 => (Below w.heap.size w w2 ∧ (TrIn y w2 ∧ y.d = x.d)) ∧ (Rd 3 spF (sV (rpV x.d S at_).1.length z.1) (rpV x.d S at_).1 w2 ∧ (rpV x.d S at_).1.length ≤ z.1.2), z0⟩) ?_ (fun σ' ⟨z, hz⟩ => VC.ent (h4 z) hz (okB rfl rfl rfl))
 clear h4 hS
 generalize (rpV x.d S at_).1 = C at *
 generalize (rpV x.d S at_).2.1 = p1 at *
 generalize (rpV x.d S at_).2.2 = p2 at *
 generalize S.length = n at *
 generalize hxd : x.d = xd at *
 obtain ⟨dx, sx, zx, to, tc, T, lo, lc, L⟩ := x
 obtain ⟨yd, ys, yz, yto, ytc, yT, ylo, ylc, yL⟩ := y
 apply VC_reg2 env mixed 2 8 (fun y3 : Option Addr × Nat => sV n y3) (fun y3 w3 => Rd 3 spF (sV n y3) S w3 ∧ n ≤ y3.2) (fun z : {z : Option Addr × Nat // (∃ a, z.1 = some a) ∨ (z = (none, 0) ∧ C.length = 0)} => .tuple #[sV C.length z.1, iv p1, iv p2]) (fun z w2 => Rd 3 spF (sV C.length z.1) C w2 ∧ C.length ≤ z.1.2) (none, 0) ⟨(some ⟨0, 0, none⟩, 0), .inl ⟨_, rfl⟩⟩
 case h12 => decide
 case h3 => exact Nat.le_of_ble_eq_true (by kernel_rfl)
 case hd12 => kernel_rfl
 case hv =>
  intro y3 z
  repeat'
   conv => whnf
   first
    | refine zA ?_ | refine zB ?_ | refine zC ?_ | refine zD ?_ | refine zE ?_ | refine zF ?_ | refine zG ?_ | refine zH ?_ | refine zJ ?_ | refine zI ?_ | refine splT ?_ | refine splF ?_ | refine splNot ?_
    | ((first | refine splIn ?_ ?_ | refine splD ?_ ?_ | refine splE ?_ ?_ | refine splNE ?_ ?_) <;> intro hc <;> first | (exfalso; omega) | (exfalso; dsimp only at hc; omega) | skip)
    | refine And.intro (a := (_ : Bool) = true ∧ (_ : List _) = [] ∧ (_ : List _) = []) ⟨rfl, rfl, rfl⟩ ?_
    | refine Exists.intro (α := Value) (iv kk) ⟨conv5 _ (by omega), ?_⟩
    | refine Exists.intro (α := Int) (at_ : Int) ⟨⟨by omega, hmod⟩, ?_⟩
    | (with_reducible show FamEv _ _ _ 41 _ _ _); refine FamEv.mk [] (fun β w' _ hbw => h41 w' (by repeat (first | exact hbw | replace hbw := hbw.1))) ?_
    | (with_reducible show FamEv _ _ _ 46 _ _ _); refine FamEv.mk [] (fun β w' _ hbw => h46 y3 w' hbw.1.2 hbw.2) ?_
  refine ⟨?_, z, Ent.weak rfl ⟨rfl, rfl, rfl, rfl, rfl, rfl, rfl, rfl, trivial⟩ ⟨rfl, rfl, trivial⟩ fun w2 h => ⟨h.1.1, h.2⟩⟩
  simp only [List.nil_append, List.cons_append, List.append_assoc]
  exact rfl
 case hk1 => intros; rfl
 case hk2 => intros; rfl
 case hi1 => exact fun _ _ _ => ⟨Or.inr rfl, Or.inr rfl, Or.inl (by kernel_rfl), Or.inr rfl, Or.inr rfl, Or.inr rfl, Or.inr rfl, Or.inr rfl, Or.inl (by kernel_rfl), Or.inl (by kernel_rfl), Or.inl (by kernel_rfl), Or.inl (by kernel_rfl), Or.inl (by kernel_rfl), Or.inl (by kernel_rfl), Or.inl (by kernel_rfl), Or.inl (by kernel_rfl), trivial⟩
 case hi2 => exact fun _ _ _ => ⟨Or.inr rfl, Or.inr rfl, Or.inr rfl, Or.inr rfl, Or.inr rfl, Or.inr rfl, Or.inr rfl, Or.inr rfl, Or.inl (by kernel_rfl), Or.inl (by kernel_rfl), Or.inl (by kernel_rfl), Or.inl (by kernel_rfl), Or.inl (by kernel_rfl), Or.inl (by kernel_rfl), Or.inl (by kernel_rfl), Or.inl (by kernel_rfl), trivial⟩
end Go.Proofs.Ythfabodamhdhaaa
namespace Go.Proofs.Ythfabodamhdhaaa
open Go Tx Go.RowKit
set_option linter.unusedSimpArgs false
set_option linter.unusedVariables false
def neB (S : List (Int × Int × Int)) : Bool := S.all fun s => inB s.2.1 (-1000000000) 1000000000 && inB s.2.2 (-1000000000) 1000000000
set_option maxHeartbeats 2000000 in
set_option maxRecDepth 100000 in
theorem near_ok (S : List (Int × Int × Int)) (o : Option Addr) (c : Nat) (w : World) (hr : Rd 3 spF (.slice o S.length c) S w) (hl : S.length ≤ 1000000) :
 Calls Try.prog 24 #[.slice o S.length c] w fun e w' => e = .returned (.bool (neB S)) ∧ Below w.heap.size w w' := by
 refine calls_val env mixed Try.func24 has24 Try.ntmps24 [.slice o S.length c] (by simp) ?_
 repeat'
  conv => whnf
  first
   | refine zA ?_ | refine zB ?_ | refine zC ?_ | refine zD ?_ | refine zE ?_ | refine zF ?_ | refine zG ?_ | refine zH ?_ | refine zJ ?_ | refine zI ?_ | refine splT ?_ | refine splF ?_ | refine splNot ?_
   | ((first | refine splIn ?_ ?_ | refine splD ?_ ?_ | refine splE ?_ ?_ | refine splNE ?_ ?_) <;> intro hc <;> first | (exfalso; omega) | (exfalso; dsimp only at hc; omega) | skip)
 refine loopE (fun k : Nat => [(0, .v (.slice o S.length c)), (3, .v (iv k))]) (fun _ => []) (fun k => k ≤ S.length ∧ neB (S.take k) = true) (fun k => S.length - k) 0 ⟨Nat.zero_le _, rfl⟩ ⟨rfl, rfl, trivial⟩ trivial (fun _ => ⟨rfl, rfl⟩) ?_
 intro k ⟨hk, hall⟩
 rcases Nat.lt_or_ge k S.length with hkl | hkl
 · obtain ⟨⟨a, f, l⟩, hs⟩ : ∃ s, S[k]? = some s := ⟨_, List.getElem?_eq_getElem hkl⟩
   obtain ⟨_, ad, rfl, _⟩ := hr.ptr (by omega)
   have e1 := fun (w' : World) hw' => rd_fldz (hr.below (w' := w') hw') hs _ rfl 1 (iv f) rfl
   have e2 := fun (w' : World) hw' => rd_fldz (hr.below (w' := w') hw') hs _ rfl 2 (iv l) rfl
   have hat := all_take (p := fun s : Int × Int × Int => inB s.2.1 (-1000000000) 1000000000 && inB s.2.2 (-1000000000) 1000000000) hs
   have hno := all_no (p := fun s : Int × Int × Int => inB s.2.1 (-1000000000) 1000000000 && inB s.2.2 (-1000000000) 1000000000) hs
   unfold neB at hall ⊢
   rw [hall, Bool.true_and] at hat
   by_cases hok : (-1000000000 ≤ f ∧ f ≤ 1000000000) ∧ (-1000000000 ≤ l ∧ l ≤ 1000000000)
   · rw [show (inB f (-1000000000) 1000000000 && inB l (-1000000000) 1000000000) = true from by simp only [inB, Bool.and_eq_true, decide_eq_true_eq]; exact hok] at hat
     repeat'
      conv => whnf
      first
       | refine zA ?_ | refine zB ?_ | refine zC ?_ | refine zD ?_ | refine zE ?_ | refine zF ?_ | refine zG ?_ | refine zH ?_ | refine zJ ?_ | refine zI ?_ | refine splT ?_ | refine splF ?_ | refine splNot ?_
       | ((first | refine splIn ?_ ?_ | refine splD ?_ ?_ | refine splE ?_ ?_ | refine splNE ?_ ?_) <;> intro hc <;> first | (exfalso; omega) | (exfalso; dsimp only at hc; omega) | skip)
       | refine Exists.intro (α := List Value) [iv f] ⟨⟨rfl, fun w' hw' => e1 w' hw'⟩, ?_⟩
       | refine Exists.intro (α := List Value) [iv l] ⟨⟨rfl, fun w' hw' => e2 w' hw'⟩, ?_⟩
       | ((with_reducible show CallEv _ _ 37 _ _ _ _ _); refine callE (k := 37) (fun β w' hbw => In_ok _ _ _ w') ?_)
     all_goals first | (exfalso; omega) | exact ⟨k + 1, ⟨by omega, hat⟩, by omega, Ent.weak rfl ⟨rfl, rfl, trivial⟩ trivial fun _ h => h⟩
   · rw [hno (by (cases hb : (inB f (-1000000000) 1000000000 && inB l (-1000000000) 1000000000) with | false => rfl | true => (simp only [inB, Bool.and_eq_true, decide_eq_true_eq] at hb; exact absurd hb hok)))]
     repeat'
      conv => whnf
      first
       | refine zA ?_ | refine zB ?_ | refine zC ?_ | refine zD ?_ | refine zE ?_ | refine zF ?_ | refine zG ?_ | refine zH ?_ | refine zJ ?_ | refine zI ?_ | refine splT ?_ | refine splF ?_ | refine splNot ?_
       | ((first | refine splIn ?_ ?_ | refine splD ?_ ?_ | refine splE ?_ ?_ | refine splNE ?_ ?_) <;> intro hc <;> first | (exfalso; omega) | (exfalso; dsimp only at hc; omega) | skip)
       | refine Exists.intro (α := List Value) [iv f] ⟨⟨rfl, fun w' hw' => e1 w' hw'⟩, ?_⟩
       | refine Exists.intro (α := List Value) [iv l] ⟨⟨rfl, fun w' hw' => e2 w' hw'⟩, ?_⟩
       | ((with_reducible show CallEv _ _ 37 _ _ _ _ _); refine callE (k := 37) (fun β w' hbw => In_ok _ _ _ w') ?_)
     all_goals first | (exfalso; omega) | exact ⟨fun β => rfl, fun w' h => h⟩
 · rw [List.take_of_length_le hkl] at hall
   rw [hall]
   repeat'
    conv => whnf
    first
     | refine zA ?_ | refine zB ?_ | refine zC ?_ | refine zD ?_ | refine zE ?_ | refine zF ?_ | refine zG ?_ | refine zH ?_ | refine zJ ?_ | refine zI ?_ | refine splT ?_ | refine splF ?_ | refine splNot ?_
     | ((first | refine splIn ?_ ?_ | refine splD ?_ ?_ | refine splE ?_ ?_ | refine splNE ?_ ?_) <;> intro hc <;> first | (exfalso; omega) | (exfalso; dsimp only at hc; omega) | skip)
   all_goals first | (exfalso; omega) | exact ⟨fun β => rfl, fun w' h => h⟩
end Go.Proofs.Ythfabodamhdhaaa
namespace Go.Proofs.Ythfabodamhdhaaa
open Go Tx Go.RowKit
set_option linter.unusedSimpArgs false
set_option linter.unusedVariables false
set_option maxHeartbeats 8000000 in
set_option maxRecDepth 100000 in
theorem TopLearns_ok (x : Tr) (o : Option Addr) (c : Nat) (S : List (Int × Int × Int)) (kk hu : Nat) (w : World) (h : TrI0 x w) (hS : SpI0 o c S w) (hk : kk ≤ 255) (hh : hu ≤ 255) :
 Calls Try.prog 15 #[x.v, .slice o S.length c, .int .u8 kk, .int .u8 hu] w fun e w' => e = .returned (.bool true) ∧ Below w.heap.size w w' := by
 have h17 := fun w' hb => Small_ok x w' (h.below hb)
 have h22 := fun w' hb => Right_ok x w' (h.below hb)
 have hsl := hS.l
 obtain ⟨tb, htb⟩ : ∃ b, toB x.d = b := ⟨_, rfl⟩
 obtain ⟨sb, hsb⟩ : ∃ b, smB x.d = b := ⟨_, rfl⟩
 obtain ⟨nb, hnb⟩ : ∃ b, neB S = b := ⟨_, rfl⟩
 rw [htb] at h22
 rw [hsb] at h17
 by_cases hs : 1 ≤ S.length ∧ S.length ≤ 20
 · have h24 := fun w' (hb : Below w.heap.size w w') => near_ok S o c w' (hS.r.below hb) (by omega)
   rw [hnb] at h24
   by_cases hg : tb = true ∧ sb = true ∧ nb = true
   · obtain ⟨rfl, rfl, rfl⟩ := hg
     have hI := h.b (toB_b htb)
     have h21 := fun w' hb => Tour_ok x w' (hI.below hb) (toB_b htb)
     refine calls_valV env mixed Try.func15 has15 Try.ntmps15 [.agg #[iv x.days, iv x.shift, iv x.size, .slice x.to x.T.length x.tc, .slice x.lo x.L.length x.lc], .slice o S.length c, .int .u8 kk, .int .u8 hu] (by simp) ?_
     refine VC.cutH env mixed 3 2 (fun y : Tr => [(1, .v (.slice o S.length c)), (2, .v (.int .u8 kk)), (3, .v (.int .u8 hu)), (4, .ptr 0 0), (9, .ptr 1 0)]) (fun y => [(0, .cells x.l 25), (1, .cells y.l 35)]) (fun y w2 => Below w.heap.size w w2 ∧ (TrIn y w2 ∧ y.d = x.d)) (fun _ => True) (fun _ _ => ⟨rfl, rfl⟩) ?_ (fun y _ => Le3 x y o c S kk hu w hS htb hs hh hk)
     clear h hI htb hS hsb hnb
     obtain ⟨dx, sx, zx, to, tc, T, lo, lc, L⟩ := x
     repeat'
      conv => whnf
      first
       | refine zA ?_ | refine zB ?_ | refine zC ?_ | refine zD ?_ | refine zE ?_ | refine zF ?_ | refine zG ?_ | refine zH ?_ | refine zJ ?_ | refine zI ?_ | refine splT ?_ | refine splF ?_ | refine splNot ?_
       | ((first | refine splIn ?_ ?_ | refine splD ?_ ?_ | refine splE ?_ ?_ | refine splNE ?_ ?_) <;> intro hc <;> first | (exfalso; omega) | (exfalso; dsimp only at hc; omega) | skip)
       | ((with_reducible show CallEv _ _ 17 _ _ _ _ _); refine callE (k := 17) (fun β w' hbw => h17 w' (by repeat (first | exact hbw | replace hbw := hbw.1))) ?_)
       | ((with_reducible show CallEv _ _ 22 _ _ _ _ _); refine callE (k := 22) (fun β w' hbw => h22 w' (by repeat (first | exact hbw | replace hbw := hbw.1))) ?_)
       | ((with_reducible show CallEv _ _ 24 _ _ _ _ _); refine callE (k := 24) (fun β w' hbw => h24 w' (by repeat (first | exact hbw | replace hbw := hbw.1))) ?_)
       | ((with_reducible show CallEv _ _ 21 _ _ _ _ _); refine callF [] (fun y : Tr => y.v) (fun y w2 => TrIn y w2 ∧ y.d = Tr.d ⟨dx, sx, zx, to, tc, T, lo, lc, L⟩) (fun β w' _ hbw => h21 w' (by repeat (first | exact hbw | replace hbw := hbw.1))) ?_; intro y)
     all_goals first | (exfalso; omega) | exact ⟨rfl, y, trivial, Ent.weak rfl ⟨rfl, rfl, rfl, rfl, rfl, trivial⟩ ⟨rfl, rfl, trivial⟩ fun w2 h => h⟩
   · clear h htb hS hsb hnb
     obtain ⟨dx, sx, zx, to, tc, T, lo, lc, L⟩ := x
     refine calls_val env mixed Try.func15 has15 Try.ntmps15 [.agg #[iv dx, iv sx, iv zx, .slice to T.length tc, .slice lo L.length lc], .slice o S.length c, .int .u8 kk, .int .u8 hu] (by simp) ?_
     cases tb <;> cases sb <;> cases nb
     all_goals first | (exact absurd ⟨rfl, rfl, rfl⟩ hg) | skip
     all_goals
      clear hg
      repeat'
       conv => whnf
       first
        | refine zA ?_ | refine zB ?_ | refine zC ?_ | refine zD ?_ | refine zE ?_ | refine zF ?_ | refine zG ?_ | refine zH ?_ | refine zJ ?_ | refine zI ?_ | refine splT ?_ | refine splF ?_ | refine splNot ?_
        | ((first | refine splIn ?_ ?_ | refine splD ?_ ?_ | refine splE ?_ ?_ | refine splNE ?_ ?_) <;> intro hc <;> first | (exfalso; omega) | (exfalso; dsimp only at hc; omega) | skip)
        | ((with_reducible show CallEv _ _ 17 _ _ _ _ _); refine callE (k := 17) (fun β w' hbw => h17 w' (by repeat (first | exact hbw | replace hbw := hbw.1))) ?_)
        | ((with_reducible show CallEv _ _ 22 _ _ _ _ _); refine callE (k := 22) (fun β w' hbw => h22 w' (by repeat (first | exact hbw | replace hbw := hbw.1))) ?_)
        | ((with_reducible show CallEv _ _ 24 _ _ _ _ _); refine callE (k := 24) (fun β w' hbw => h24 w' (by repeat (first | exact hbw | replace hbw := hbw.1))) ?_)
        | ((with_reducible show CallEv _ _ 50 _ _ _ _ _); refine callE (k := 50) (fun β w' hbw => drives_ok w') ?_)
      all_goals first | (exfalso; omega) | exact ⟨fun β => rfl, fun w' h => (by repeat (first | exact h | replace h := h.1))⟩
 · clear h htb hS hsb hnb
   obtain ⟨dx, sx, zx, to, tc, T, lo, lc, L⟩ := x
   refine calls_val env mixed Try.func15 has15 Try.ntmps15 [.agg #[iv dx, iv sx, iv zx, .slice to T.length tc, .slice lo L.length lc], .slice o S.length c, .int .u8 kk, .int .u8 hu] (by simp) ?_
   cases tb <;> cases sb
   all_goals
    skip
    repeat'
     conv => whnf
     first
      | refine zA ?_ | refine zB ?_ | refine zC ?_ | refine zD ?_ | refine zE ?_ | refine zF ?_ | refine zG ?_ | refine zH ?_ | refine zJ ?_ | refine zI ?_ | refine splT ?_ | refine splF ?_ | refine splNot ?_
      | ((first | refine splIn ?_ ?_ | refine splD ?_ ?_ | refine splE ?_ ?_ | refine splNE ?_ ?_) <;> intro hc <;> first | (exfalso; omega) | (exfalso; dsimp only at hc; omega) | skip)
      | ((with_reducible show CallEv _ _ 17 _ _ _ _ _); refine callE (k := 17) (fun β w' hbw => h17 w' (by repeat (first | exact hbw | replace hbw := hbw.1))) ?_)
      | ((with_reducible show CallEv _ _ 22 _ _ _ _ _); refine callE (k := 22) (fun β w' hbw => h22 w' (by repeat (first | exact hbw | replace hbw := hbw.1))) ?_)
      | ((with_reducible show CallEv _ _ 50 _ _ _ _ _); refine callE (k := 50) (fun β w' hbw => drives_ok w') ?_)
    all_goals first | (exfalso; omega) | exact ⟨fun β => rfl, fun w' h => (by repeat (first | exact h | replace h := h.1))⟩
end Go.Proofs.Ythfabodamhdhaaa
