/- What Replace calls: Clone, Delete on a row of one's own, and the function that tries a season. -/
import Derived.Test.YthfabodamhdhaaaUJ
import Derived.Test.YthfabodamhdhaaaUK
import Derived.Test.YthfabodamhdhaaaTI
import Derived.Test.YthfabodamhdhaaaRO
namespace Go.Proofs.Ythfabodamhdhaaa.Tx
open Go Go.RowKit
theorem zM {t : List (Nat × Blk)} {L : List Nat} {β : Nat → Nat} {k : Nat} {b : Blk} (h : nin (id k) L = true) (h' : lk t (id k) = some b) : nin (id k) L = true ∧ ∃ b', lk t (id k) = some b' ∧ (b.live = true → b'.live = true) ∧ ∀ w x, b'.ok β w x → b.ok (fun i => β (id i)) w x := ⟨h, b, h', fun h => h, fun _ _ h => h⟩
theorem callQ {P : Program} {σ : Sg} {k : Nat} {args : List SV} {rs : List Nat} {K : Ef → Prop} {KF : Option KT} (rb : List Nat) (m1 : List (Nat × Blk)) (V : SV)
 (hB : efB σ ⟨V, [], m1, [], rb⟩ = true)
 (h : ∀ β w, (∀ i ∈ rb, ∀ b, lk σ.m i = some b → b.ok β w (β i)) → (∀ i ∈ rb, ∀ j ∈ rb, ∀ bi bj, lk σ.m i = some bi → lk σ.m j = some bj → bi.live = true → bj.live = true → i ≠ j → β i ≠ β j) →
  (∀ w', Chg (fun b => ∃ i ∈ rb, (∃ bk, lk σ.m i = some bk ∧ bk.live = true) ∧ β i = b) w w' → σ.h w') →
  Calls P k (SV.cs β args).toArray w fun e w' => e = .returned (V.c β) ∧ Chg (fun b => ∃ i bk, (i, bk) ∈ m1 ∧ β i = b) w w' ∧ ∀ i b, (i, b) ∈ m1 → b.ok β w' (β i))
 (hK : K ⟨V, [], m1, rs, rb⟩) : CallEv P σ k args (efB σ) rs K KF :=
 .mk ⟨V, [], m1, [], rb⟩ hB (fun β w h1 h2 hst => (h β w h1 h2 hst).mono fun e w' ⟨he, hc, ho⟩ =>
  ⟨β, he, fun _ _ => rfl, ⟨hc.os, hc.tape, hc.output, hc.size, fun b hb hX => hc.same b hb fun ⟨i, bk, hm, hib⟩ => hX ⟨i, bk, hm, by simp, hib⟩⟩, ho, fun i hi => (by cases hi), fun i hi => (by cases hi)⟩) hK
end Go.Proofs.Ythfabodamhdhaaa.Tx
namespace Go.Proofs.Ythfabodamhdhaaa
open Go Tx Go.RowKit
set_option linter.unusedSimpArgs false
set_option linter.unusedVariables false
theorem spl3 : ∀ L : List (Int × Int × Int), (L.flatMap spF).length = L.length * 3
 | [] => rfl
 | a :: L => by rw [List.flatMap_cons, List.length_append, spl3 L, List.length_cons]; simp only [spF, List.length_cons, List.length_nil]; omega
theorem sp1 (L : List (Int × Int × Int)) : ∀ v ∈ L.flatMap spF, v.oneCell' = true := fun v hv => by
 obtain ⟨s, _, h⟩ := List.mem_flatMap.1 hv
 simp only [spF, List.mem_cons, List.not_mem_nil, or_false] at h
 rcases h with rfl | rfl | rfl <;> rfl
theorem onS : ∀ S : List (Int × Int × Int), oneV (S.flatMap spF) = true
 | [] => rfl
 | a :: S => by rw [List.flatMap_cons]; exact onS S
theorem eqlS28 {o : Option Addr} {n c : Nat} {x y : Operand} {K : Value → Prop} (h : K (.bool o.isNone)) : ∃ v, (∀ _ : Nat → Nat, RunIs Try.prog (do eqGuard .eql 28 x y (.slice o n c) (.slice none 0 0); binOp .eql 28 (.slice o n c) (.slice none 0 0)) v) ∧ K v :=
 ⟨_, fun _ w => by simp [eqGuard, binOp, Op.equal, Op.maxDepth, Lib.run_equalIn_slice_nil w 9999 28 96 o n c 0 0 (under_slice tok28 rfl)], h⟩
theorem sp1' {X : List Value} (h : oneV X = true) : ∀ v ∈ X, v.oneCell' = true := oneV_iff h
set_option maxHeartbeats 1000000 in
set_option maxRecDepth 100000 in
theorem sclone_own (S : List (Int × Int × Int)) (o : Option Addr) (c : Nat) (w : World) (hrd : Rd 3 spF (.slice o S.length c) S w) (h0 : 1 ≤ S.length) (hl : S.length ≤ 1000000) :
 Calls Try.prog 82 #[.slice o S.length c] w fun e w' => ∃ b d, e = .returned (.slice (some ⟨b, 0, none⟩) S.length d) ∧ w.heap.size ≤ b ∧ Below w.heap.size w w' ∧ w'.ownsRow 0 96 3 (.slice (some ⟨b, 0, none⟩) S.length d) S.length (S.flatMap spF) := by
 refine calls_fam2 env mixed Try.func82 has82 Try.ntmps82 [.slice o S.length c] (by simp) ?_
 obtain ⟨_, ad, rfl, _⟩ := hrd.ptr h0
 have he := fun (w' : World) (hb : Below w.heap.size w w') => Rd.ext (f := spF) (sz := 3) (fun _ => rfl) (hrd.below hb)
 have hln := spl3 S
 have hon : oneV (S.flatMap spF) = true := by
  exact onS S
 generalize S.flatMap spF = X at *
 generalize S.length = n at *
 repeat'
  conv => whnf
  first
   | refine zA ?_ | refine zB ?_ | refine zC ?_ | refine zD ?_ | refine zE ?_ | refine zF ?_ | refine zG ?_ | refine zH ?_ | refine zJ ?_ | refine zI ?_ | refine splT ?_ | refine splF ?_ | refine splNot ?_
   | ((first | refine splIn ?_ ?_ | refine splD ?_ ?_ | refine splE ?_ ?_ | refine splNE ?_ ?_) <;> intro hc <;> first | (exfalso; omega) | (exfalso; dsimp only at hc; omega) | skip)
   | refine eqlS28 ?_
   | refine Exists.intro (α := List Value) X ⟨⟨hln, fun w' hw' => he w' hw', sp1' hon⟩, ?_⟩
 have hz : 0 + n = n := Nat.zero_add n
 exact ⟨fun w' h => h, fun β w' hB hB2 hblk => ⟨β 1, β 2, congrArg (fun z => Ending.returned (.slice (some ⟨β 1, 0, none⟩) z (β 2))) hz, (hblk 1 _ rfl rfl).1, hB2, by have := (hblk 1 _ rfl rfl).2; simp only [Blk.ok, List.nil_append, hz] at this; exact this⟩⟩
theorem sdel_own (S : List (Int × Int × Int)) (b c k : Nat) (w : World) (hk : k < S.length) (h : w.ownsRow 0 96 3 (.slice (some ⟨b, 0, none⟩) S.length c) S.length (S.flatMap spF)) :
 Calls Try.prog 81 #[.slice (some ⟨b, 0, none⟩) S.length c, iv k, iv ((k + 1 : Nat) : Int)] w fun e w' => e = .returned (.slice (some ⟨b, 0, none⟩) (S.length - 1) c) ∧ Chg (fun x => x = b) w w' ∧
  w'.ownsRow 0 96 3 (.slice (some ⟨b, 0, none⟩) (S.length - 1) c) (S.length - 1) ((S.eraseIdx k).flatMap spF) := by
 have hl := h.1
 have h3 := spl3 S
 rcases h.2 with ⟨h', _⟩ | ⟨g, cap, cur, q0, q1, q2, q3, q4, q5, q6⟩
 · cases h'
 simp only [Value.slice.injEq, Option.some.injEq, Addr.mk.injEq, and_true, true_and] at q0
 obtain ⟨rfl, rfl⟩ := q0
 have hcl : S.length * 3 ≤ cur.toList.length := by
  have := Array.length_toList (xs := cur)
  omega
 have hd := Delete_raw b S.length c k cur w q2 hk (by omega) (by omega) (by rw [q6]; exact sp1 S)
 refine hd.mono fun e w' ⟨g1, g2, g3, g4, g5, g6, g7⟩ => ⟨g1, ⟨g2, g3, g4, by omega, fun x hx hn => g6 x hn⟩, ?_, .inr ⟨b, c, (dlC cur.toList S.length k).toArray, rfl, q1, g7, by omega, q4, by rw [List.size_toArray, dlC_len hk hcl, Array.length_toList]; exact q5, ?_⟩⟩
 · rw [spl3, List.length_eraseIdx, if_pos hk]
 · show (dlC cur.toList S.length k).take _ = _
   rw [dlC_take hk hcl, q6, List.eraseIdx_eq_take_drop_succ, List.flatMap_append]
   have key : ∀ (S : List (Int × Int × Int)) (j : Nat), (S.take j).flatMap spF = (S.flatMap spF).take (j * 3) ∧ (S.drop j).flatMap spF = (S.flatMap spF).drop (j * 3) := fun S j => by
    induction S generalizing j with
    | nil => simp
    | cons a S ih =>
     cases j with
     | zero => simp
     | succ j =>
      obtain ⟨i1, i2⟩ := ih j
      rw [List.take_succ_cons, List.drop_succ_cons, List.flatMap_cons, List.flatMap_cons, i1, i2, show (j + 1) * 3 = j * 3 + 1 + 1 + 1 from by omega]
      constructor
      · simp only [spF, List.cons_append, List.nil_append, List.take_succ_cons]
      · simp only [spF, List.cons_append, List.nil_append, List.drop_succ_cons]
   rw [(key S k).1, (key S (k + 1)).2]
def tkV (r : Fnd) (S : List (Int × Int × Int)) (x : To) : Bool := decide (fsO x S = []) && (match r with | none => true | some b => decide (b.2 < pfO x S))
theorem tr_take {x : To} {r : Fnd} {S : List (Int × Int × Int)} : trR x r S = if tkV r S x = true then some (S, pfO x S) else r := by
 unfold trR tkV
 by_cases h : fsO x S = []
 · rw [if_pos h, decide_eq_true h, Bool.true_and]
   cases r with
   | none => rfl
   | some b =>
    dsimp only
    by_cases h2 : b.2 < pfO x S
    · simp [h2]
    · simp [h2]
 · rw [if_neg h, decide_eq_false h, Bool.false_and, if_neg (by decide)]
set_option maxHeartbeats 4000000 in
set_option maxRecDepth 100000 in
theorem try_ok (x : Tr) (tb fb mb ob rb c : Nat) (S : List (Int × Int × Int)) (r : Fnd) (m : Int) (v0 : Value) (w : World) (hn : ToN x.d) (hl : S.length ≤ 20) (hS : ∀ s ∈ S, (-9223372036854775808 ≤ s.2.1 ∧ s.2.1 ≤ 9223372036854775807) ∧ -9223372036854775808 ≤ s.2.2 ∧ s.2.2 ≤ 9223372036854775807)
 (hm : ∀ b, r = some b → b.2 = m) (h1 : w.heap[tb]? = some (.cells (SV.cs (fun _ => 0) x.l).toArray 35 (0, 0))) (h2 : w.heap[fb]? = some (.cells #[.bool r.isSome] 4 (0, 0))) (h3 : w.heap[mb]? = some (.cells #[iv m] 3 (0, 0))) (h4 : w.heap[ob]? = some (.cells #[v0] 28 (0, 0)))
 (h5 : w.ownsRow 0 96 3 (.slice (some ⟨rb, 0, none⟩) S.length c) S.length (S.flatMap spF)) (hne : tb ≠ fb ∧ tb ≠ mb ∧ tb ≠ ob ∧ tb ≠ rb ∧ fb ≠ mb ∧ fb ≠ ob ∧ fb ≠ rb ∧ mb ≠ ob ∧ mb ≠ rb ∧ ob ≠ rb)
 (hst : ∀ w', Chg (fun b => b = tb ∨ b = fb ∨ b = mb ∨ b = ob ∨ b = rb) w w' → TrIn x w') :
 Calls Try.prog 80 #[.slice (some ⟨rb, 0, none⟩) S.length c, .pointer (some ⟨tb, 0, none⟩), .pointer (some ⟨fb, 0, none⟩), .pointer (some ⟨mb, 0, none⟩), .pointer (some ⟨ob, 0, none⟩)] w fun e w' => e = .returned (.tuple #[]) ∧ Chg (fun b => b = fb ∨ b = mb ∨ b = ob ∨ b = rb) w w' ∧ w'.ownsRow 0 96 3 (.slice (some ⟨rb, 0, none⟩) S.length c) S.length (S.flatMap spF) ∧
  w'.heap[fb]? = some (.cells #[.bool (trR x.d r S).isSome] 4 (0, 0)) ∧ w'.heap[mb]? = some (.cells #[iv (if tkV r S x.d = true then pfO x.d S else m)] 3 (0, 0)) ∧ w'.heap[ob]? = some (.cells #[if tkV r S x.d = true then .slice (some ⟨rb, 0, none⟩) S.length c else v0] 28 (0, 0)) := by
 let β : Nat → Nat := fun i => match i with | 0 => tb | 1 => fb | 2 => mb | 3 => ob | 4 => rb | _ => c
 have hsp := fun (β : Nat → Nat) (w' : World) (h : (Blk.own 5 S.length 3 (S.flatMap spF) 96).ok β w' (β 4)) => (show SpIn (some ⟨β 4, 0, none⟩) (β 5) S w' from by
  have h' : w'.ownsRow 0 96 3 (.slice (some ⟨β 4, 0, none⟩) S.length (β 5)) S.length (S.flatMap spF) := h
  refine ⟨Rd.of_owns (sz := 3) (f := spF) (fun _ => rfl) rfl rfl h', by omega, ?_, hS⟩
  rcases h'.2 with ⟨h', _⟩ | ⟨g, cap, cur, q0, q1, q2, q3, _⟩
  · cases h'
  · simp only [Value.slice.injEq] at q0
    obtain ⟨_, _, rfl⟩ := q0
    exact q3)
 have hMB : ∀ i b, lk [(0, Blk.cells x.l 35), (1, .cells [.v (.bool r.isSome)] 4), (2, .cells [.v (iv m)] 3), (3, .cells [.v v0] 28), (4, .own 5 S.length 3 (S.flatMap spF) 96)] i = some b → b.live = true ∧ (b.ok β w (β i)) ∧ i < 5 := fun i b h => by
  have := lk_mem h
  simp only [List.mem_cons, Prod.mk.injEq, List.not_mem_nil, or_false] at this
  rcases this with ⟨rfl, rfl⟩ | ⟨rfl, rfl⟩ | ⟨rfl, rfl⟩ | ⟨rfl, rfl⟩ | ⟨rfl, rfl⟩
  · exact ⟨rfl, h1, by omega⟩
  · exact ⟨rfl, h2, by omega⟩
  · exact ⟨rfl, h3, by omega⟩
  · exact ⟨rfl, h4, by omega⟩
  · exact ⟨rfl, h5, by omega⟩
 have hinj : ∀ i j, i < 5 → j < 5 → i ≠ j → β i ≠ β j := fun i j hi hj hne' => by
  rcases (by omega : i = 0 ∨ i = 1 ∨ i = 2 ∨ i = 3 ∨ i = 4) with rfl | rfl | rfl | rfl | rfl <;> rcases (by omega : j = 0 ∨ j = 1 ∨ j = 2 ∨ j = 3 ∨ j = 4) with rfl | rfl | rfl | rfl | rfl <;> first | exact absurd rfl hne' | (show _ ≠ _; simp only [β]; omega)
 have hst' : ∀ w', Chg (fun b => ∃ i bk, lk [(0, Blk.cells x.l 35), (1, .cells [.v (.bool r.isSome)] 4), (2, .cells [.v (iv m)] 3), (3, .cells [.v v0] 28), (4, .own 5 S.length 3 (S.flatMap spF) 96)] i = some bk ∧ β i = b) w w' → TrIn x w' := fun w' hc => hst w' ⟨hc.os, hc.tape, hc.output, hc.size, fun b hb hX => hc.same b hb fun ⟨i, bk, h1, h2⟩ => hX (by
  rcases (by have := (hMB i bk h1).2.2; omega : i = 0 ∨ i = 1 ∨ i = 2 ∨ i = 3 ∨ i = 4) with rfl | rfl | rfl | rfl | rfl <;> simp only [β] at h2 <;> simp [h2])⟩
 have hr := tr_take (x := x.d) (r := r) (S := S)
 have key : ∀ (q1 : Bool) (q2 : Int) (q3 : SV), SV.lt 6 q3 = true → (∀ h : World → Prop, (∀ w', h w' → TrIn x w') → VC Try.prog body80 ⟨Try.f80.ntmps, slotsOf 0 [.os 4 5 S.length, .ptr 0 0, .ptr 1 0, .ptr 2 0, .ptr 3 0], [(0, Blk.cells x.l 35), (1, .cells [.v (.bool r.isSome)] 4), (2, .cells [.v (iv m)] 3), (3, .cells [.v v0] 28), (4, .own 5 S.length 3 (S.flatMap spF) 96)], 6, h, ⟨pinG 6, [], 0⟩⟩
  (endΦ env Try.f80 fun s σ => (∀ β, s.c β = .tuple #[]) ∧ MSub σ.m [(0, Blk.cells x.l 35), (1, .cells [.v (.bool q1)] 4), (2, .cells [.v (iv q2)] 3), (3, .cells [q3] 28), (4, .own 5 S.length 3 (S.flatMap spF) 96)] ∧ (∀ w', σ.h w' → h w') ∧ σ.z.g = pinG 6)) →
  Calls Try.prog 80 #[.slice (some ⟨rb, 0, none⟩) S.length c, .pointer (some ⟨tb, 0, none⟩), .pointer (some ⟨fb, 0, none⟩), .pointer (some ⟨mb, 0, none⟩), .pointer (some ⟨ob, 0, none⟩)] w fun e w' => e = .returned (.tuple #[]) ∧ Chg (fun b => b = fb ∨ b = mb ∨ b = ob ∨ b = rb) w w' ∧ w'.ownsRow 0 96 3 (.slice (some ⟨rb, 0, none⟩) S.length c) S.length (S.flatMap spF) ∧
  w'.heap[fb]? = some (.cells #[.bool q1] 4 (0, 0)) ∧ w'.heap[mb]? = some (.cells #[iv q2] 3 (0, 0)) ∧ w'.heap[ob]? = some (.cells #[q3.c β] 28 (0, 0)) := fun q1 q2 q3 hq3 hvc => by
  have key := calls_WSV env mixed Try.func80 has80 (nt := Try.f80.ntmps) rfl [.os 4 5 S.length, .ptr 0 0, .ptr 1 0, .ptr 2 0, .ptr 3 0] [(0, Blk.cells x.l 35), (1, .cells [.v (.bool r.isSome)] 4), (2, .cells [.v (iv m)] 3), (3, .cells [.v v0] 28), (4, .own 5 S.length 3 (S.flatMap spF) 96)] [(0, Blk.cells x.l 35), (1, .cells [.v (.bool q1)] 4), (2, .cells [.v (iv q2)] 3), (3, .cells [q3] 28), (4, .own 5 S.length 3 (S.flatMap spF) 96)] 6 (.tuple #[]) (by rw [Try.ntmps80]; simp) rfl rfl (by simp only [mB, Blk.lt, SV.lts, hq3]; rfl) (fun i b h => (hMB i b h).1) (Hp := TrIn x) hvc (β := β) (w := w) (fun i b h => (hMB i b h).2.1) (fun i j bi bj hi hj hne' => hinj i j (hMB i bi hi).2.2 (hMB j bj hj).2.2 hne') hst'
  refine key.mono fun e w' ⟨g1, g2, g3⟩ => ⟨g1, ⟨g2.os, g2.tape, g2.output, g2.size, fun b hb hX => ?_⟩, g3 4 _ rfl, g3 1 _ rfl, g3 2 _ rfl, g3 3 _ rfl⟩
  by_cases ht : b = tb
  · subst ht
    have := g3 0 _ rfl
    rw [h1]; exact this
  · refine g2.same b hb fun ⟨i, bk, h1, h2⟩ => ?_
    rcases (by have := (hMB i bk h1).2.2; omega : i = 0 ∨ i = 1 ∨ i = 2 ∨ i = 3 ∨ i = 4) with rfl | rfl | rfl | rfl | rfl <;> simp only [β] at h2
    · exact ht h2.symm
    · exact hX (.inl h2.symm)
    · exact hX (.inr (.inl h2.symm))
    · exact hX (.inr (.inr (.inl h2.symm)))
    · exact hX (.inr (.inr (.inr h2.symm)))
 have h74 := fun (β : Nat → Nat) w' (hw : TrIn x w') (ho : (Blk.own 5 S.length 3 (S.flatMap spF) 96).ok β w' (β 4)) => faults_ok x (some ⟨β 4, 0, none⟩) (β 5) S w' hw hn (hsp β w' ho)
 by_cases hf : fsO x.d S = []
 · have hsn := fs_spn hn hf
   have hlen : x.d.T.length = x.T.length := List.length_map ..
   rw [hlen] at hsn
   have h75 := fun (β : Nat → Nat) w' (hw : TrIn x w') (ho : (Blk.own 5 S.length 3 (S.flatMap spF) 96).ok β w' (β 4)) => profit_ok x (some ⟨β 4, 0, none⟩) (β 5) S w' hw hn (hsp β w' ho).r hl hsn
   rw [hf] at h74
   have hmc : ∀ b, r = some b → (decide (b.2 < pfO x.d S)) = decide (m < pfO x.d S) := fun b hb => by rw [hm b hb]
   have hst1 : trR x.d r S = if tkV r S x.d = true then some (S, pfO x.d S) else r := hr
   clear hr
   cases hr0 : r with
   | none =>
    have htk : tkV none S x.d = true := by unfold tkV; rw [decide_eq_true hf]; rfl
    rw [hr0, htk, if_pos rfl] at hst1
    rw [htk, hst1]
    subst hr0
    refine key true (pfO x.d S) (.os 4 5 S.length) rfl fun h hh => VC.of env mixed ?_
    generalize pfO x.d S = P at *
    clear hst1 hf hsp hMB key hst hst' h5 h4 h3 h2 h1 hn hS htk hsn hlen hmc hm
    obtain ⟨days, shift, size, to, tc, T, lo, lc, L⟩ := x
    repeat'
     conv => whnf
     first
      | refine zA ?_ | refine zB ?_ | refine zC ?_ | refine zD ?_ | refine zE ?_ | refine zF ?_ | refine zG ?_ | refine zH ?_ | refine zJ ?_ | refine zI ?_ | refine splT ?_ | refine splF ?_ | refine splNot ?_
      | ((first | refine splIn ?_ ?_ | refine splD ?_ ?_ | refine splE ?_ ?_ | refine splNE ?_ ?_) <;> intro hc <;> first | (exfalso; omega) | (exfalso; dsimp only at hc; omega) | skip)
      | ((with_reducible show CallEv _ _ 74 _ _ _ _ _); refine callF [4] (fun y : Option Addr × Nat => sV 0 y) (fun _ _ => True) (fun β' w' hbk hbw => (h74 β' w' (hh w' hbw) (hbk 4 (by simp) _ rfl)).mono fun e w2 ⟨y, h1, h2, _⟩ => ⟨y, h1, h2, fun _ _ => trivial⟩) ?_; intro y)
      | ((with_reducible show CallEv _ _ 75 _ _ _ _ _); refine callM [4] (fun β' w' hbk hbw => h75 β' w' (hh w' hbw.1) (hbk 4 (by simp) _ rfl)) ?_)
    all_goals first | (exfalso; omega) | exact ⟨fun β => rfl, ⟨rfl, rfl, rfl, rfl, rfl, trivial⟩, fun w' h => h.1, rfl⟩
   | some b =>
    have hbm := hm b hr0
    by_cases hlt : m < pfO x.d S
    · have htk : tkV (some b) S x.d = true := by unfold tkV; rw [decide_eq_true hf]; simp [hbm, hlt]
      rw [hr0, htk, if_pos rfl] at hst1
      rw [htk, hst1]
      subst hr0
      refine key true (pfO x.d S) (.os 4 5 S.length) rfl fun h hh => VC.of env mixed ?_
      generalize pfO x.d S = P at *
      clear hst1 hf hsp hMB key hst hst' h5 h4 h3 h2 h1 hn hS htk hsn hlen hmc hm
      obtain ⟨days, shift, size, to, tc, T, lo, lc, L⟩ := x
      repeat'
       conv => whnf
       first
        | refine zA ?_ | refine zB ?_ | refine zC ?_ | refine zD ?_ | refine zE ?_ | refine zF ?_ | refine zG ?_ | refine zH ?_ | refine zJ ?_ | refine zI ?_ | refine splT ?_ | refine splF ?_ | refine splNot ?_
        | ((first | refine splIn ?_ ?_ | refine splD ?_ ?_ | refine splE ?_ ?_ | refine splNE ?_ ?_) <;> intro hc <;> first | (exfalso; omega) | (exfalso; dsimp only at hc; omega) | skip)
        | ((with_reducible show CallEv _ _ 74 _ _ _ _ _); refine callF [4] (fun y : Option Addr × Nat => sV 0 y) (fun _ _ => True) (fun β' w' hbk hbw => (h74 β' w' (hh w' hbw) (hbk 4 (by simp) _ rfl)).mono fun e w2 ⟨y, h1, h2, _⟩ => ⟨y, h1, h2, fun _ _ => trivial⟩) ?_; intro y)
        | ((with_reducible show CallEv _ _ 75 _ _ _ _ _); refine callM [4] (fun β' w' hbk hbw => h75 β' w' (hh w' hbw.1) (hbk 4 (by simp) _ rfl)) ?_)
      all_goals first | (exfalso; omega) | exact ⟨fun β => rfl, ⟨rfl, rfl, rfl, rfl, rfl, trivial⟩, fun w' h => h.1, rfl⟩
    · have htk : tkV (some b) S x.d = false := by unfold tkV; rw [decide_eq_true hf]; simp [hbm]; omega
      rw [hr0, htk, if_neg (by decide)] at hst1
      rw [htk, hst1]
      subst hr0
      refine key true m (.v v0) rfl fun h hh => VC.of env mixed ?_
      generalize pfO x.d S = P at *
      clear hst1 hf hsp hMB key hst hst' h5 h4 h3 h2 h1 hn hS htk hsn hlen hmc hm
      obtain ⟨days, shift, size, to, tc, T, lo, lc, L⟩ := x
      repeat'
       conv => whnf
       first
        | refine zA ?_ | refine zB ?_ | refine zC ?_ | refine zD ?_ | refine zE ?_ | refine zF ?_ | refine zG ?_ | refine zH ?_ | refine zJ ?_ | refine zI ?_ | refine splT ?_ | refine splF ?_ | refine splNot ?_
        | ((first | refine splIn ?_ ?_ | refine splD ?_ ?_ | refine splE ?_ ?_ | refine splNE ?_ ?_) <;> intro hc <;> first | (exfalso; omega) | (exfalso; dsimp only at hc; omega) | skip)
        | ((with_reducible show CallEv _ _ 74 _ _ _ _ _); refine callF [4] (fun y : Option Addr × Nat => sV 0 y) (fun _ _ => True) (fun β' w' hbk hbw => (h74 β' w' (hh w' hbw) (hbk 4 (by simp) _ rfl)).mono fun e w2 ⟨y, h1, h2, _⟩ => ⟨y, h1, h2, fun _ _ => trivial⟩) ?_; intro y)
        | ((with_reducible show CallEv _ _ 75 _ _ _ _ _); refine callM [4] (fun β' w' hbk hbw => h75 β' w' (hh w' hbw.1) (hbk 4 (by simp) _ rfl)) ?_)
      all_goals first | (exfalso; omega) | exact ⟨fun β => rfl, ⟨rfl, rfl, rfl, rfl, rfl, trivial⟩, fun w' h => h.1, rfl⟩
 · have hfl : 1 ≤ (fsO x.d S).length := by
    cases hc : fsO x.d S with
    | nil => exact absurd hc hf
    | cons a l => simp
   have hfl2 := fsP_len x.d S S.length
   change (fsO x.d S).length ≤ _ at hfl2
   have htk : tkV r S x.d = false := by unfold tkV; rw [decide_eq_false hf, Bool.false_and]
   rw [htk] at hr ⊢
   rw [if_neg (by decide)] at hr
   rw [hr]
   refine key r.isSome m (.v v0) rfl fun h hh => VC.of env mixed ?_
   generalize fsO x.d S = F at *
   clear hr hf hsp hMB key hst hst' h5 h4 h3 h2 h1 hn hS
   obtain ⟨days, shift, size, to, tc, T, lo, lc, L⟩ := x
   repeat'
    conv => whnf
    first
     | refine zA ?_ | refine zB ?_ | refine zC ?_ | refine zD ?_ | refine zE ?_ | refine zF ?_ | refine zG ?_ | refine zH ?_ | refine zJ ?_ | refine zI ?_ | refine splT ?_ | refine splF ?_ | refine splNot ?_
     | ((first | refine splIn ?_ ?_ | refine splD ?_ ?_ | refine splE ?_ ?_ | refine splNE ?_ ?_) <;> intro hc <;> first | (exfalso; omega) | (exfalso; dsimp only at hc; omega) | skip)
     | ((with_reducible show CallEv _ _ 74 _ _ _ _ _); refine callF [4] (fun y : Option Addr × Nat => sV F.length y) (fun _ _ => True) (fun β' w' hbk hbw => (h74 β' w' (hh w' hbw) (hbk 4 (by simp) _ rfl)).mono fun e w2 ⟨y, h1, h2, _⟩ => ⟨y, h1, h2, fun _ _ => trivial⟩) ?_; intro y)
   all_goals first | (exfalso; omega) | exact ⟨fun β => rfl, ⟨rfl, rfl, rfl, rfl, rfl, trivial⟩, fun w' h => h.1, rfl⟩
end Go.Proofs.Ythfabodamhdhaaa
