/- Replace: what it returns. -/
import Derived.Test.YthfabodamhdhaaaUL
import Derived.Test.YthfabodamhdhaaaRR
import Derived.Test.YthfabodamhdhaaaRS
namespace Go.Proofs.Ythfabodamhdhaaa.Tx
open Go Go.RowKit
set_option linter.unusedVariables false
theorem Dis.mk6 {α : Type} {nt nb nb' : Nat} {t : List (Nat × SV)} {m : List (Nat × Blk)} {h : World → Prop} {z z' : Gz} (ρ : Nat → Nat) (L : List Nat) {t' : α → List (Nat × SV)} {m' : α → List (Nat × Blk)} {h' : α → World → Prop} {pre : α → Prop} {w0 : World}
 (hZ : ZSub z z') (hz : GEqR ρ z'.g) (hL : ∀ i ∈ L, ∃ b, lk m i = some b ∧ b.live = true) (hbel : ∀ w, h w → Below w0.heap.size w0 w)
 (hx : ∀ β w, (∀ i b, lk m i = some b → b.ok β w (β i)) → h w → (∀ i b, lk m i = some b → b.live = true → w0.heap.size ≤ β i) →
  ∃ x, pre x ∧ TEqR ρ β t (t' x) ∧ MEqR ρ L β m (m' x) ∧ injR ρ (m' x) = true ∧ ∀ w2, h w2 → (∀ i ∈ L, ∀ b, lk m i = some b → b.ok β w2 (β i)) → h' x w2) :
 Dis ⟨nt, t, m, nb, h, z⟩ (fun x => ⟨nt, t' x, m' x, nb', h' x, z'⟩) pre := by
 have h4 := Dis.mk4 (nt := nt) (nb := nb) (nb' := nb') (t := t) (z := z') (w0 := w0) (pre := pre) ρ L hz hL hbel hx
 unfold Dis at h4 ⊢
 rintro X a w ⟨β, D, hs⟩
 exact h4 X a w ⟨β, D, hs.defers, hs.size, hs.t, hs.m, hs.inj, hs.out, hs.dlt, hs.h, hs.amb.sub hZ⟩
end Go.Proofs.Ythfabodamhdhaaa.Tx
namespace Go.Proofs.Ythfabodamhdhaaa
open Go Tx Go.RowKit
set_option linter.unusedSimpArgs false
set_option linter.unusedVariables false
def FS (r : Fnd) (y : Option Addr × Nat) (w : World) : Prop := match r with | none => True | some b => Rd 3 spF (sV b.1.length y) b.1 w ∧ b.1.length ≤ y.2
def fvV (r : Fnd) (y : Option Addr × Nat) : Value := match r with | none => .slice none 0 0 | some b => sV b.1.length y
def fvM (r : Fnd) : Int := match r with | none => 0 | some b => b.2
theorem try_B (x : Tr) (S : List (Int × Int × Int)) (n : Nat) (hN : S.length = n) (r : Fnd) (v0 : Value) (β : Nat → Nat) (w : World) (i0 i5 i4 i3 q qm : Nat) (hn : ToN x.d) (hl : n ≤ 20) (hS : ∀ s ∈ S, (-9223372036854775808 ≤ s.2.1 ∧ s.2.1 ≤ 9223372036854775807) ∧ -9223372036854775808 ≤ s.2.2 ∧ s.2.2 ≤ 9223372036854775807)
 (h0 : (Blk.cells x.l 35).ok β w (β i0)) (h5 : (Blk.cells [.v (.bool r.isSome)] 4).ok β w (β i5)) (h4 : (Blk.cells [.v (iv (fvM r))] 3).ok β w (β i4)) (h3 : (Blk.cells [.v v0] 28).ok β w (β i3)) (hq : (Blk.own qm n 3 (S.flatMap spF) 96).ok β w (β q))
 (hne : β i0 ≠ β i5 ∧ β i0 ≠ β i4 ∧ β i0 ≠ β i3 ∧ β i0 ≠ β q ∧ β i5 ≠ β i4 ∧ β i5 ≠ β i3 ∧ β i5 ≠ β q ∧ β i4 ≠ β i3 ∧ β i4 ≠ β q ∧ β i3 ≠ β q)
 (hst : ∀ w', Chg (fun b => b = β i0 ∨ b = β i5 ∨ b = β i4 ∨ b = β i3 ∨ b = β q) w w' → TrIn x w')
 (q1 : Bool) (q2 : Int) (q3 : SV) (e1 : (trR x.d r S).isSome = q1) (e2 : fvM (trR x.d r S) = q2) (e3 : (if tkV r S x.d = true then SV.os q qm n else .v v0) = q3) :
 Calls Try.prog 80 (SV.cs β [.os q qm n, .ptr i0 0, .ptr i5 0, .ptr i4 0, .ptr i3 0]).toArray w fun e w' => e = .returned ((SV.v (.tuple #[])).c β) ∧ Chg (fun b => ∃ i bk, (i, bk) ∈ [(i5, Blk.cells [.v (.bool q1)] 4), (i4, .cells [.v (iv q2)] 3), (i3, .cells [q3] 28), (q, .own qm n 3 (S.flatMap spF) 96)] ∧ β i = b) w w' ∧
  ∀ i b, (i, b) ∈ [(i5, Blk.cells [.v (.bool q1)] 4), (i4, .cells [.v (iv q2)] 3), (i3, .cells [q3] 28), (q, .own qm n 3 (S.flatMap spF) 96)] → b.ok β w' (β i) := by
 subst hN e1 e2 e3
 have h := try_ok x (β i0) (β i5) (β i4) (β i3) (β q) (β qm) S r (fvM r) v0 w hn hl hS (fun b hb => by rw [hb]; rfl) h0 h5 h4 h3 hq hne hst
 have hr := tr_take (x := x.d) (r := r) (S := S)
 refine h.mono fun e w' ⟨g1, g2, g3, g4, g5, g6⟩ => ⟨g1, ⟨g2.os, g2.tape, g2.output, g2.size, fun b hb hX => g2.same b hb fun hc => hX ?_⟩, fun i b hm => ?_⟩
 · rcases hc with rfl | rfl | rfl | rfl
   · exact ⟨i5, _, List.mem_cons_self .., rfl⟩
   · exact ⟨i4, _, List.mem_cons_of_mem _ (List.mem_cons_self ..), rfl⟩
   · exact ⟨i3, _, List.mem_cons_of_mem _ (List.mem_cons_of_mem _ (List.mem_cons_self ..)), rfl⟩
   · exact ⟨q, _, List.mem_cons_of_mem _ (List.mem_cons_of_mem _ (List.mem_cons_of_mem _ (List.mem_cons_self ..))), rfl⟩
 · simp only [List.mem_cons, Prod.mk.injEq, List.not_mem_nil, or_false] at hm
   rcases hm with ⟨rfl, rfl⟩ | ⟨rfl, rfl⟩ | ⟨rfl, rfl⟩ | ⟨rfl, rfl⟩
   · exact g4
   · have : fvM (trR x.d r S) = if tkV r S x.d = true then pfO x.d S else fvM r := by
      rw [hr]; split <;> rfl
     rw [this]; exact g5
   · cases hb : tkV r S x.d
     · rw [hb] at g6; exact g6
     · rw [hb] at g6; exact g6
   · exact g3
theorem del_B (S : List (Int × Int × Int)) (n k : Nat) (hN : S.length = n) (hk : k < n) (β : Nat → Nat) (w : World) (q qm : Nat) (hq : (Blk.own qm n 3 (S.flatMap spF) 96).ok β w (β q)) :
 Calls Try.prog 81 (SV.cs β [.os q qm n, .v (iv k), .v (iv ((k : Int) + 1))]).toArray w fun e w' => e = .returned ((SV.os q qm (n - 1)).c β) ∧ Chg (fun b => ∃ i bk, (i, bk) ∈ [(q, Blk.own qm (n - 1) 3 ((S.eraseIdx k).flatMap spF) 96)] ∧ β i = b) w w' ∧
  ∀ i b, (i, b) ∈ [(q, Blk.own qm (n - 1) 3 ((S.eraseIdx k).flatMap spF) 96)] → b.ok β w' (β i) := by
 subst hN
 refine (sdel_own S (β q) (β qm) k w hk hq).mono fun e w' ⟨g1, g2, g3⟩ => ⟨g1, ⟨g2.os, g2.tape, g2.output, g2.size, fun b hb hX => g2.same b hb fun hc => hX ⟨q, _, List.mem_singleton.2 rfl, hc.symm⟩⟩, fun i b hm => ?_⟩
 rw [List.mem_singleton, Prod.mk.injEq] at hm
 obtain ⟨rfl, rfl⟩ := hm
 exact g3
theorem set_flat (S : List (Int × Int × Int)) (k : Nat) (s : Int × Int × Int) (hk : k < S.length) : (S.flatMap spF).take (k * 3) ++ spF s ++ (S.flatMap spF).drop (k * 3 + 3) = (S.set k s).flatMap spF := by
 induction S generalizing k with
 | nil => simp at hk
 | cons a S ih =>
  cases k with
  | zero => simp [spF]
  | succ k =>
   have := ih k (by simpa using hk)
   rw [List.set_cons_succ, List.flatMap_cons, List.flatMap_cons, ← this, show (k + 1) * 3 = k * 3 + 1 + 1 + 1 from by omega, show k * 3 + 1 + 1 + 1 + 3 = k * 3 + 3 + 1 + 1 + 1 from by omega]
   simp only [spF, List.cons_append, List.nil_append, List.take_succ_cons, List.drop_succ_cons]
theorem fs_own {w : World} {β : Nat → Nat} {q qm n : Nat} {S : List (Int × Int × Int)} {m : Int} {w2 : World} (hge : w.heap.size ≤ β q) (hlen : S.length = n) (h : (Blk.own qm n 3 (S.flatMap spF) 96).ok β w2 (β q)) : St w.heap.size (FS (some (S, m)) (some ⟨β q, 0, none⟩, β qm)) w2 := fun w3 hk => by
 subst hlen
 have h' := Blk.keep rfl h hge hk
 have h2 : w3.ownsRow 0 96 3 (.slice (some ⟨β q, 0, none⟩) S.length (β qm)) S.length (S.flatMap spF) := h'
 refine ⟨Rd.of_owns (sz := 3) (f := spF) (fun _ => rfl) rfl rfl h2, ?_⟩
 rcases h2.2 with ⟨h', _⟩ | ⟨g, cap, cur, q0, q1, q2, q3, _⟩
 · cases h'
 · simp only [Value.slice.injEq] at q0
   obtain ⟨_, _, q0⟩ := q0
   show S.length ≤ β qm
   omega
set_option maxHeartbeats 4000000 in
set_option maxRecDepth 100000 in
theorem Rp5 (days shift size : Int) (to : Option Addr) (tc : Nat) (T : List Tn) (lo : Option Addr) (lc : Nat) (L : List Lr) (x : Tr) (ad : Addr) (c : Nat) (S : List (Int × Int × Int)) (k : Nat) (w : World) (h : TrIn x w) (hn : ToN x.d) (hS : SpIn (some ad) c S w) (hl : S.length ≤ 20) (hk : k < S.length) (hB : toB x.d = true) (hF : fsO x.d S = []) (hx : ⟨days, shift, size, to, tc, T, lo, lc, L⟩ = x)
 (h6 : ∀ y : Option Addr × Nat, VC Try.prog (rest 6 body46) ⟨78, [(3, .ptr 0 0), (4, .ptr 1 0), (5, .ptr 2 0), (6, .ptr 3 0), (7, .ptr 4 0), (10, .ptr 5 0), (11, .ptr 6 0)], [(0, .cells (Tr.l ⟨days, shift, size, to, tc, T, lo, lc, L⟩) 35), (1, .cells [.v (.slice (some ad) S.length c)] 28), (2, .cells [.v (iv k)] 3), (3, .cells [.v (fvV (trR (Tr.d ⟨days, shift, size, to, tc, T, lo, lc, L⟩) none (S.eraseIdx k)) y)] 28), (4, .cells [.v (iv (fvM (trR (Tr.d ⟨days, shift, size, to, tc, T, lo, lc, L⟩) none (S.eraseIdx k))))] 3), (5, .cells [.v (.bool (trR (Tr.d ⟨days, shift, size, to, tc, T, lo, lc, L⟩) none (S.eraseIdx k)).isSome)] 4), (6, .cells [.fn (.func 80) [.ptr 0 0, .ptr 5 0, .ptr 4 0, .ptr 3 0]] 143)], 7, fun w' => Below w.heap.size w w' ∧ St w.heap.size (FS (trR (Tr.d ⟨days, shift, size, to, tc, T, lo, lc, L⟩) none (S.eraseIdx k)) y) w', z0⟩ (endΦ env Try.f46 fun s σ => (∀ w', σ.h w' → Below w.heap.size w w') ∧ ∀ β w', σ.h w' → (∀ i b, lk σ.m i = some b → b.live = true → St w.heap.size (fun w2 => b.ok β w2 (β i)) w') → ∃ y : Option Addr × Nat, s.c β = .tuple #[sV (rpV (Tr.d ⟨days, shift, size, to, tc, T, lo, lc, L⟩) S k).1.length y, iv (rpV (Tr.d ⟨days, shift, size, to, tc, T, lo, lc, L⟩) S k).2.1, iv (rpV (Tr.d ⟨days, shift, size, to, tc, T, lo, lc, L⟩) S k).2.2] ∧ St w.heap.size (fun w2 => Rd 3 spF (sV (rpV (Tr.d ⟨days, shift, size, to, tc, T, lo, lc, L⟩) S k).1.length y) (rpV (Tr.d ⟨days, shift, size, to, tc, T, lo, lc, L⟩) S k).1 w2 ∧ (rpV (Tr.d ⟨days, shift, size, to, tc, T, lo, lc, L⟩) S k).1.length ≤ y.2) w')) :
 VC Try.prog body46 ⟨78, slotsOf 0 ([.agg #[iv days, iv shift, iv size, .slice to T.length tc, .slice lo L.length lc], .slice (some ad) S.length c, iv k].map SV.v), [], 0, Below w.heap.size w, z0⟩ (endΦ env Try.f46 fun s σ => (∀ w', σ.h w' → Below w.heap.size w w') ∧ ∀ β w', σ.h w' → (∀ i b, lk σ.m i = some b → b.live = true → St w.heap.size (fun w2 => b.ok β w2 (β i)) w') → ∃ y : Option Addr × Nat, s.c β = .tuple #[sV (rpV (Tr.d ⟨days, shift, size, to, tc, T, lo, lc, L⟩) S k).1.length y, iv (rpV (Tr.d ⟨days, shift, size, to, tc, T, lo, lc, L⟩) S k).2.1, iv (rpV (Tr.d ⟨days, shift, size, to, tc, T, lo, lc, L⟩) S k).2.2] ∧ St w.heap.size (fun w2 => Rd 3 spF (sV (rpV (Tr.d ⟨days, shift, size, to, tc, T, lo, lc, L⟩) S k).1.length y) (rpV (Tr.d ⟨days, shift, size, to, tc, T, lo, lc, L⟩) S k).1 w2 ∧ (rpV (Tr.d ⟨days, shift, size, to, tc, T, lo, lc, L⟩) S k).1.length ≤ y.2) w') := by
 subst hx
 have h73 := fun w' hb => check_ok ⟨days, shift, size, to, tc, T, lo, lc, L⟩ (some ad) c S w' (h.below hb) hS.l
 rw [hB, if_pos rfl, if_pos hl] at h73
 have h74 := fun w' (hb : Below w.heap.size w w') => (faults_ok ⟨days, shift, size, to, tc, T, lo, lc, L⟩ (some ad) c S w' (h.below hb) hn (hS.below hb)).mono (R' := fun e w2 => ∃ y : Option Addr × Nat, e = .returned (sV (fsO (Tr.d ⟨days, shift, size, to, tc, T, lo, lc, L⟩) S).length y) ∧ Below w'.heap.size w' w2 ∧ St w'.heap.size (fun _ => True) w2) fun e w2 ⟨y, h1, h2, h3⟩ => ⟨y, h1, h2, fun _ _ => trivial⟩
 rw [hF] at h74
 have hSr := fun w' (hb : Below w.heap.size w w') => hS.r.below hb
 have hbel := fun w' (hb : Below w.heap.size w w') => h.below hb
 have hlE : (S.eraseIdx k).length = S.length - 1 := by rw [List.length_eraseIdx, if_pos hk]
 have hbE : ∀ s ∈ S.eraseIdx k, (-9223372036854775808 ≤ s.2.1 ∧ s.2.1 ≤ 9223372036854775807) ∧ -9223372036854775808 ≤ s.2.2 ∧ s.2.2 ≤ 9223372036854775807 := fun s hs => hS.n s (List.mem_of_mem_eraseIdx hs)
 refine VC.cutD env mixed 6 7 (fun y : Option Addr × Nat => [(3, .ptr 0 0), (4, .ptr 1 0), (5, .ptr 2 0), (6, .ptr 3 0), (7, .ptr 4 0), (10, .ptr 5 0), (11, .ptr 6 0)]) (fun y => [(0, .cells (Tr.l ⟨days, shift, size, to, tc, T, lo, lc, L⟩) 35), (1, .cells [.v (.slice (some ad) S.length c)] 28), (2, .cells [.v (iv k)] 3), (3, .cells [.v (fvV (trR (Tr.d ⟨days, shift, size, to, tc, T, lo, lc, L⟩) none (S.eraseIdx k)) y)] 28), (4, .cells [.v (iv (fvM (trR (Tr.d ⟨days, shift, size, to, tc, T, lo, lc, L⟩) none (S.eraseIdx k))))] 3), (5, .cells [.v (.bool (trR (Tr.d ⟨days, shift, size, to, tc, T, lo, lc, L⟩) none (S.eraseIdx k)).isSome)] 4), (6, .cells [.fn (.func 80) [.ptr 0 0, .ptr 5 0, .ptr 4 0, .ptr 3 0]] 143)]) (fun y w' => Below w.heap.size w w' ∧ St w.heap.size (FS (trR (Tr.d ⟨days, shift, size, to, tc, T, lo, lc, L⟩) none (S.eraseIdx k)) y) w') (fun _ => True) (fun y _ => ⟨rfl, rfl⟩) ?_ (fun y _ => h6 y)
 clear h6
 have hq0 : ∀ b, tkV none (S.eraseIdx k) (Tr.d ⟨days, shift, size, to, tc, T, lo, lc, L⟩) = b → trR (Tr.d ⟨days, shift, size, to, tc, T, lo, lc, L⟩) none (S.eraseIdx k) = if b = true then some (S.eraseIdx k, pfO (Tr.d ⟨days, shift, size, to, tc, T, lo, lc, L⟩) (S.eraseIdx k)) else none := fun b hb => by rw [← hb]; exact tr_take
 cases htk : tkV none (S.eraseIdx k) (Tr.d ⟨days, shift, size, to, tc, T, lo, lc, L⟩) with
 | false =>
  have hR := hq0 false htk
  rw [if_neg (by decide)] at hR
  have hq1 : (trR (Tr.d ⟨days, shift, size, to, tc, T, lo, lc, L⟩) none (S.eraseIdx k)).isSome = false := by rw [hR]; rfl
  have hq2 : fvM (trR (Tr.d ⟨days, shift, size, to, tc, T, lo, lc, L⟩) none (S.eraseIdx k)) = 0 := by rw [hR]; rfl
  have hq3 : (if tkV none (S.eraseIdx k) (Tr.d ⟨days, shift, size, to, tc, T, lo, lc, L⟩) = true then SV.os 7 8 (S.length - 1) else .v (.slice none 0 0)) = .v (.slice none 0 0) := by rw [htk]; rfl
  skip
  repeat'
   conv => whnf
   first
    | refine zA ?_ | refine zB ?_ | refine zC ?_ | refine zD ?_ | refine zE ?_ | refine zF ?_ | refine zG ?_ | refine zH ?_ | refine zJ ?_ | refine zI ?_ | refine splT ?_ | refine splF ?_ | refine splNot ?_
    | ((first | refine splIn ?_ ?_ | refine splD ?_ ?_ | refine splE ?_ ?_ | refine splNE ?_ ?_) <;> intro hc <;> first | (exfalso; omega) | (exfalso; dsimp only at hc; omega) | skip)
    | ((with_reducible show CallEv _ _ 73 _ _ _ _ _); refine callE (k := 73) (fun β w' hbw => h73 w' (by repeat (first | exact hbw | replace hbw := hbw.1))) ?_)
    | ((with_reducible show CallEv _ _ 74 _ _ _ _ _); refine callF [] (fun y : Option Addr × Nat => sV 0 y) (fun _ _ => True) (fun β w' _ hbw => h74 w' (by repeat (first | exact hbw | replace hbw := hbw.1))) ?_; intro y0)
    | ((with_reducible show CallEv _ _ 70 _ _ _ _ _); refine callE (k := 70) (fun β w' hbw => within_ok _ _ _ w') ?_)
    | ((with_reducible show CallEv _ _ 82 _ _ _ _ _); refine callO 7 [] (.os 7 8 S.length) S.length 3 (S.flatMap spF) 96 rfl (fun β w' _ hbw => (sclone_own S (some ad) c w' (hSr w' (by repeat (first | exact hbw | replace hbw := hbw.1))) (by omega) (by omega)).mono fun e w2 ⟨b, d, g1, g2, g3, g4⟩ => ⟨b, d, g1, g2, g3, g4⟩) ?_)
    | ((with_reducible show CallEv _ _ 81 _ _ _ _ _); refine callQ [7] [(7, .own 8 (S.length - 1) 3 ((S.eraseIdx k).flatMap spF) 96)] (.os 7 8 (S.length - 1)) rfl (fun β w' hbk hinj hst => del_B S S.length k rfl hk β w' 7 8 (hbk 7 (by simp) _ rfl)) ?_)
    | ((with_reducible show CallEv _ _ 80 _ _ _ _ _); refine callQ [0, 5, 4, 3, 7] [(5, .cells [.v (.bool false)] 4), (4, .cells [.v (iv 0)] 3), (3, .cells [(.v (.slice none 0 0))] 28), (7, .own 8 (S.length - 1) 3 ((S.eraseIdx k).flatMap spF) 96)] (.v (.tuple #[])) rfl (fun β w' hbk hinj hst => try_B ⟨days, shift, size, to, tc, T, lo, lc, L⟩ (S.eraseIdx k) (S.length - 1) hlE none (.slice none 0 0) β w' 0 5 4 3 7 8 hn (by omega) hbE (hbk 0 (by simp) _ rfl) (hbk 5 (by simp) _ rfl) (hbk 4 (by simp) _ rfl) (hbk 3 (by simp) _ rfl) (hbk 7 (by simp) _ rfl) ⟨hinj 0 (by simp) 5 (by simp) _ _ rfl rfl rfl rfl (by decide), hinj 0 (by simp) 4 (by simp) _ _ rfl rfl rfl rfl (by decide), hinj 0 (by simp) 3 (by simp) _ _ rfl rfl rfl rfl (by decide), hinj 0 (by simp) 7 (by simp) _ _ rfl rfl rfl rfl (by decide), hinj 5 (by simp) 4 (by simp) _ _ rfl rfl rfl rfl (by decide), hinj 5 (by simp) 3 (by simp) _ _ rfl rfl rfl rfl (by decide), hinj 5 (by simp) 7 (by simp) _ _ rfl rfl rfl rfl (by decide), hinj 4 (by simp) 3 (by simp) _ _ rfl rfl rfl rfl (by decide), hinj 4 (by simp) 7 (by simp) _ _ rfl rfl rfl rfl (by decide), hinj 3 (by simp) 7 (by simp) _ _ rfl rfl rfl rfl (by decide)⟩ (fun w2 hc => hbel w2 (by have hbw := (hst w2 ⟨hc.os, hc.tape, hc.output, hc.size, fun b hb hX => hc.same b hb fun hq => hX (by rcases hq with rfl | rfl | rfl | rfl | rfl; exact ⟨0, by simp, ⟨_, rfl, rfl⟩, rfl⟩; exact ⟨5, by simp, ⟨_, rfl, rfl⟩, rfl⟩; exact ⟨4, by simp, ⟨_, rfl, rfl⟩, rfl⟩; exact ⟨3, by simp, ⟨_, rfl, rfl⟩, rfl⟩; exact ⟨7, by simp, ⟨_, rfl, rfl⟩, rfl⟩)⟩); repeat (first | exact hbw | replace hbw := hbw.1))) false 0 (.v (.slice none 0 0)) hq1 hq2 hq3) ?_)
  all_goals first | (exfalso; omega) | skip
  refine ⟨rfl, Dis.mk3 (w0 := w) id [7] rfl (fun i hi => by rw [List.mem_singleton] at hi; subst hi; exact ⟨_, rfl, rfl⟩) (fun w' h => (by repeat (first | exact h | replace h := h.1))) (fun β w1 hok hw1 hge => ⟨(none, 0), trivial, ⟨⟨_, rfl, rfl⟩, ⟨_, rfl, rfl⟩, ⟨_, rfl, rfl⟩, ⟨_, rfl, rfl⟩, ⟨_, rfl, rfl⟩, ⟨_, rfl, rfl⟩, ⟨_, rfl, rfl⟩, trivial⟩, ⟨zM rfl rfl, zM rfl rfl, zM rfl rfl, ⟨rfl, _, rfl, fun _ => rfl, fun w2 y hy => by rw [hR]; exact hy⟩, ⟨rfl, _, rfl, fun _ => rfl, fun w2 y hy => by rw [hR]; exact hy⟩, ⟨rfl, _, rfl, fun _ => rfl, fun w2 y hy => by rw [hR]; exact hy⟩, zM rfl rfl, trivial⟩, rfl, fun w2 hw2 hLo => ⟨(by have h := hw2; repeat (first | exact h | replace h := h.1)), by rw [hR]; exact fun _ _ => trivial⟩⟩)⟩
 | true =>
  have hR := hq0 true htk
  rw [if_pos rfl] at hR
  obtain ⟨P, hP⟩ : ∃ P, pfO (Tr.d ⟨days, shift, size, to, tc, T, lo, lc, L⟩) (S.eraseIdx k) = P := ⟨_, rfl⟩
  rw [hP] at hR
  have hq1 : (trR (Tr.d ⟨days, shift, size, to, tc, T, lo, lc, L⟩) none (S.eraseIdx k)).isSome = true := by rw [hR]; rfl
  have hq2 : fvM (trR (Tr.d ⟨days, shift, size, to, tc, T, lo, lc, L⟩) none (S.eraseIdx k)) = P := by rw [hR]; rfl
  have hq3 : (if tkV none (S.eraseIdx k) (Tr.d ⟨days, shift, size, to, tc, T, lo, lc, L⟩) = true then SV.os 7 8 (S.length - 1) else .v (.slice none 0 0)) = .os 7 8 (S.length - 1) := by rw [htk]; rfl
  skip
  repeat'
   conv => whnf
   first
    | refine zA ?_ | refine zB ?_ | refine zC ?_ | refine zD ?_ | refine zE ?_ | refine zF ?_ | refine zG ?_ | refine zH ?_ | refine zJ ?_ | refine zI ?_ | refine splT ?_ | refine splF ?_ | refine splNot ?_
    | ((first | refine splIn ?_ ?_ | refine splD ?_ ?_ | refine splE ?_ ?_ | refine splNE ?_ ?_) <;> intro hc <;> first | (exfalso; omega) | (exfalso; dsimp only at hc; omega) | skip)
    | ((with_reducible show CallEv _ _ 73 _ _ _ _ _); refine callE (k := 73) (fun β w' hbw => h73 w' (by repeat (first | exact hbw | replace hbw := hbw.1))) ?_)
    | ((with_reducible show CallEv _ _ 74 _ _ _ _ _); refine callF [] (fun y : Option Addr × Nat => sV 0 y) (fun _ _ => True) (fun β w' _ hbw => h74 w' (by repeat (first | exact hbw | replace hbw := hbw.1))) ?_; intro y0)
    | ((with_reducible show CallEv _ _ 70 _ _ _ _ _); refine callE (k := 70) (fun β w' hbw => within_ok _ _ _ w') ?_)
    | ((with_reducible show CallEv _ _ 82 _ _ _ _ _); refine callO 7 [] (.os 7 8 S.length) S.length 3 (S.flatMap spF) 96 rfl (fun β w' _ hbw => (sclone_own S (some ad) c w' (hSr w' (by repeat (first | exact hbw | replace hbw := hbw.1))) (by omega) (by omega)).mono fun e w2 ⟨b, d, g1, g2, g3, g4⟩ => ⟨b, d, g1, g2, g3, g4⟩) ?_)
    | ((with_reducible show CallEv _ _ 81 _ _ _ _ _); refine callQ [7] [(7, .own 8 (S.length - 1) 3 ((S.eraseIdx k).flatMap spF) 96)] (.os 7 8 (S.length - 1)) rfl (fun β w' hbk hinj hst => del_B S S.length k rfl hk β w' 7 8 (hbk 7 (by simp) _ rfl)) ?_)
    | ((with_reducible show CallEv _ _ 80 _ _ _ _ _); refine callQ [0, 5, 4, 3, 7] [(5, .cells [.v (.bool true)] 4), (4, .cells [.v (iv P)] 3), (3, .cells [(.os 7 8 (S.length - 1))] 28), (7, .own 8 (S.length - 1) 3 ((S.eraseIdx k).flatMap spF) 96)] (.v (.tuple #[])) rfl (fun β w' hbk hinj hst => try_B ⟨days, shift, size, to, tc, T, lo, lc, L⟩ (S.eraseIdx k) (S.length - 1) hlE none (.slice none 0 0) β w' 0 5 4 3 7 8 hn (by omega) hbE (hbk 0 (by simp) _ rfl) (hbk 5 (by simp) _ rfl) (hbk 4 (by simp) _ rfl) (hbk 3 (by simp) _ rfl) (hbk 7 (by simp) _ rfl) ⟨hinj 0 (by simp) 5 (by simp) _ _ rfl rfl rfl rfl (by decide), hinj 0 (by simp) 4 (by simp) _ _ rfl rfl rfl rfl (by decide), hinj 0 (by simp) 3 (by simp) _ _ rfl rfl rfl rfl (by decide), hinj 0 (by simp) 7 (by simp) _ _ rfl rfl rfl rfl (by decide), hinj 5 (by simp) 4 (by simp) _ _ rfl rfl rfl rfl (by decide), hinj 5 (by simp) 3 (by simp) _ _ rfl rfl rfl rfl (by decide), hinj 5 (by simp) 7 (by simp) _ _ rfl rfl rfl rfl (by decide), hinj 4 (by simp) 3 (by simp) _ _ rfl rfl rfl rfl (by decide), hinj 4 (by simp) 7 (by simp) _ _ rfl rfl rfl rfl (by decide), hinj 3 (by simp) 7 (by simp) _ _ rfl rfl rfl rfl (by decide)⟩ (fun w2 hc => hbel w2 (by have hbw := (hst w2 ⟨hc.os, hc.tape, hc.output, hc.size, fun b hb hX => hc.same b hb fun hq => hX (by rcases hq with rfl | rfl | rfl | rfl | rfl; exact ⟨0, by simp, ⟨_, rfl, rfl⟩, rfl⟩; exact ⟨5, by simp, ⟨_, rfl, rfl⟩, rfl⟩; exact ⟨4, by simp, ⟨_, rfl, rfl⟩, rfl⟩; exact ⟨3, by simp, ⟨_, rfl, rfl⟩, rfl⟩; exact ⟨7, by simp, ⟨_, rfl, rfl⟩, rfl⟩)⟩); repeat (first | exact hbw | replace hbw := hbw.1))) true P (.os 7 8 (S.length - 1)) hq1 hq2 hq3) ?_)
  all_goals first | (exfalso; omega) | skip
  refine ⟨rfl, Dis.mk3 (w0 := w) id [7] rfl (fun i hi => by rw [List.mem_singleton] at hi; subst hi; exact ⟨_, rfl, rfl⟩) (fun w' h => (by repeat (first | exact h | replace h := h.1))) (fun β w1 hok hw1 hge => ⟨(some ⟨β 7, 0, none⟩, β 8), trivial, ⟨⟨_, rfl, rfl⟩, ⟨_, rfl, rfl⟩, ⟨_, rfl, rfl⟩, ⟨_, rfl, rfl⟩, ⟨_, rfl, rfl⟩, ⟨_, rfl, rfl⟩, ⟨_, rfl, rfl⟩, trivial⟩, ⟨zM rfl rfl, zM rfl rfl, zM rfl rfl, ⟨rfl, _, rfl, fun _ => rfl, fun w2 y hy => by rw [hR]; simp only [fvV, hlE]; exact hy⟩, ⟨rfl, _, rfl, fun _ => rfl, fun w2 y hy => by rw [hR]; exact hy⟩, ⟨rfl, _, rfl, fun _ => rfl, fun w2 y hy => by rw [hR]; exact hy⟩, zM rfl rfl, trivial⟩, rfl, fun w2 hw2 hLo => ⟨(by have h := hw2; repeat (first | exact h | replace h := h.1)), by rw [hR]; exact fs_own (hge 7 _ rfl rfl) hlE (hLo 7 (by simp) _ rfl)⟩⟩)⟩
set_option maxHeartbeats 4000000 in
set_option maxRecDepth 100000 in
theorem Rp6 (days shift size : Int) (to : Option Addr) (tc : Nat) (T : List Tn) (lo : Option Addr) (lc : Nat) (L : List Lr) (x : Tr) (ad : Addr) (c : Nat) (S : List (Int × Int × Int)) (k : Nat) (w : World) (h : TrIn x w) (hn : ToN (Tr.d ⟨days, shift, size, to, tc, T, lo, lc, L⟩)) (hS : SpIn (some ad) c S w) (hl : S.length ≤ 20) (hk : k < S.length) (hB : toB (Tr.d ⟨days, shift, size, to, tc, T, lo, lc, L⟩) = true) (hF : fsO (Tr.d ⟨days, shift, size, to, tc, T, lo, lc, L⟩) S = []) (hx : ⟨days, shift, size, to, tc, T, lo, lc, L⟩ = x) (y0 : Option Addr × Nat)
 (h7 : ∀ y : Option Addr × Nat, VC Try.prog (rest 1 (rest 6 body46)) ⟨78, [(3, .ptr 0 0), (4, .ptr 1 0), (5, .ptr 2 0), (6, .ptr 3 0), (7, .ptr 4 0), (10, .ptr 5 0), (11, .ptr 6 0)], [(0, .cells (Tr.l ⟨days, shift, size, to, tc, T, lo, lc, L⟩) 35), (1, .cells [.v (.slice (some ad) S.length c)] 28), (2, .cells [.v (iv k)] 3), (3, .cells [.v (fvV (rpO (Tr.d ⟨days, shift, size, to, tc, T, lo, lc, L⟩) S k) y)] 28), (4, .cells [.v (iv (fvM (rpO (Tr.d ⟨days, shift, size, to, tc, T, lo, lc, L⟩) S k)))] 3), (5, .cells [.v (.bool (rpO (Tr.d ⟨days, shift, size, to, tc, T, lo, lc, L⟩) S k).isSome)] 4), (6, .cells [.fn (.func 80) [.ptr 0 0, .ptr 5 0, .ptr 4 0, .ptr 3 0]] 143)], 7, fun w' => Below w.heap.size w w' ∧ St w.heap.size (FS (rpO (Tr.d ⟨days, shift, size, to, tc, T, lo, lc, L⟩) S k) y) w', z0⟩ (endΦ env Try.f46 fun s σ => (∀ w', σ.h w' → Below w.heap.size w w') ∧ ∀ β w', σ.h w' → (∀ i b, lk σ.m i = some b → b.live = true → St w.heap.size (fun w2 => b.ok β w2 (β i)) w') → ∃ y : Option Addr × Nat, s.c β = .tuple #[sV (rpV (Tr.d ⟨days, shift, size, to, tc, T, lo, lc, L⟩) S k).1.length y, iv (rpV (Tr.d ⟨days, shift, size, to, tc, T, lo, lc, L⟩) S k).2.1, iv (rpV (Tr.d ⟨days, shift, size, to, tc, T, lo, lc, L⟩) S k).2.2] ∧ St w.heap.size (fun w2 => Rd 3 spF (sV (rpV (Tr.d ⟨days, shift, size, to, tc, T, lo, lc, L⟩) S k).1.length y) (rpV (Tr.d ⟨days, shift, size, to, tc, T, lo, lc, L⟩) S k).1 w2 ∧ (rpV (Tr.d ⟨days, shift, size, to, tc, T, lo, lc, L⟩) S k).1.length ≤ y.2) w')) :
 VC Try.prog (rest 6 body46) ⟨78, [(3, .ptr 0 0), (4, .ptr 1 0), (5, .ptr 2 0), (6, .ptr 3 0), (7, .ptr 4 0), (10, .ptr 5 0), (11, .ptr 6 0)], [(0, .cells (Tr.l ⟨days, shift, size, to, tc, T, lo, lc, L⟩) 35), (1, .cells [.v (.slice (some ad) S.length c)] 28), (2, .cells [.v (iv k)] 3), (3, .cells [.v (fvV (trR (Tr.d ⟨days, shift, size, to, tc, T, lo, lc, L⟩) none (S.eraseIdx k)) y0)] 28), (4, .cells [.v (iv (fvM (trR (Tr.d ⟨days, shift, size, to, tc, T, lo, lc, L⟩) none (S.eraseIdx k))))] 3), (5, .cells [.v (.bool (trR (Tr.d ⟨days, shift, size, to, tc, T, lo, lc, L⟩) none (S.eraseIdx k)).isSome)] 4), (6, .cells [.fn (.func 80) [.ptr 0 0, .ptr 5 0, .ptr 4 0, .ptr 3 0]] 143)], 7, fun w' => Below w.heap.size w w' ∧ St w.heap.size (FS (trR (Tr.d ⟨days, shift, size, to, tc, T, lo, lc, L⟩) none (S.eraseIdx k)) y0) w', z0⟩ (endΦ env Try.f46 fun s σ => (∀ w', σ.h w' → Below w.heap.size w w') ∧ ∀ β w', σ.h w' → (∀ i b, lk σ.m i = some b → b.live = true → St w.heap.size (fun w2 => b.ok β w2 (β i)) w') → ∃ y : Option Addr × Nat, s.c β = .tuple #[sV (rpV (Tr.d ⟨days, shift, size, to, tc, T, lo, lc, L⟩) S k).1.length y, iv (rpV (Tr.d ⟨days, shift, size, to, tc, T, lo, lc, L⟩) S k).2.1, iv (rpV (Tr.d ⟨days, shift, size, to, tc, T, lo, lc, L⟩) S k).2.2] ∧ St w.heap.size (fun w2 => Rd 3 spF (sV (rpV (Tr.d ⟨days, shift, size, to, tc, T, lo, lc, L⟩) S k).1.length y) (rpV (Tr.d ⟨days, shift, size, to, tc, T, lo, lc, L⟩) S k).1 w2 ∧ (rpV (Tr.d ⟨days, shift, size, to, tc, T, lo, lc, L⟩) S k).1.length ≤ y.2) w') := by
 subst hx
 have hnT := hn.n
 have hday := hn.d
 simp only [Tr.d, List.length_map] at hnT hday
 have hlT : (Tr.d ⟨days, shift, size, to, tc, T, lo, lc, L⟩).T.length = T.length := List.length_map ..
 have hSr := fun w' (hb : Below w.heap.size w w') => hS.r.below hb
 have hbel := fun w' (hb : Below w.heap.size w w') => h.below hb
 obtain ⟨⟨a, f0, l0⟩, hs⟩ : ∃ s, S[k]? = some s := ⟨_, List.getElem?_eq_getElem hk⟩
 have e0 := fun (w' : World) hw' => rd_fldz (hSr w' hw') hs ((k : Nat) : Int) rfl 0 (iv a) rfl
 have hrO : rpO (Tr.d ⟨days, shift, size, to, tc, T, lo, lc, L⟩) S k = rpN (Tr.d ⟨days, shift, size, to, tc, T, lo, lc, L⟩) S k (T.length - 1) := by unfold rpO; rw [hlT]
 have hrT : ∀ i, (rpN (Tr.d ⟨days, shift, size, to, tc, T, lo, lc, L⟩) S k (i + 1)) = if a = ((i + 1 : Nat) : Int) then (rpN (Tr.d ⟨days, shift, size, to, tc, T, lo, lc, L⟩) S k i) else rpF (Tr.d ⟨days, shift, size, to, tc, T, lo, lc, L⟩) S k (i + 1) (rpN (Tr.d ⟨days, shift, size, to, tc, T, lo, lc, L⟩) S k i) days.toNat := fun i => by
  rw [rpN_succ]; unfold rpT; rw [hs]; simp only [Option.map_some, Option.some.injEq]
 refine VC.cutD env mixed 1 7 (fun y : Option Addr × Nat => [(3, .ptr 0 0), (4, .ptr 1 0), (5, .ptr 2 0), (6, .ptr 3 0), (7, .ptr 4 0), (10, .ptr 5 0), (11, .ptr 6 0)]) (fun y => [(0, .cells (Tr.l ⟨days, shift, size, to, tc, T, lo, lc, L⟩) 35), (1, .cells [.v (.slice (some ad) S.length c)] 28), (2, .cells [.v (iv k)] 3), (3, .cells [.v (fvV (rpO (Tr.d ⟨days, shift, size, to, tc, T, lo, lc, L⟩) S k) y)] 28), (4, .cells [.v (iv (fvM (rpO (Tr.d ⟨days, shift, size, to, tc, T, lo, lc, L⟩) S k)))] 3), (5, .cells [.v (.bool ((rpO (Tr.d ⟨days, shift, size, to, tc, T, lo, lc, L⟩) S k)).isSome)] 4), (6, .cells [.fn (.func 80) [.ptr 0 0, .ptr 5 0, .ptr 4 0, .ptr 3 0]] 143)]) (fun y w' => Below w.heap.size w w' ∧ St w.heap.size (FS (rpO (Tr.d ⟨days, shift, size, to, tc, T, lo, lc, L⟩) S k) y) w') (fun _ => True) (fun y _ => ⟨rfl, rfl⟩) ?_ (fun y _ => h7 y)
 clear h7
 repeat'
  conv => whnf
  first
   | refine zA ?_ | refine zB ?_ | refine zC ?_ | refine zD ?_ | refine zE ?_ | refine zF ?_ | refine zG ?_ | refine zH ?_ | refine zJ ?_ | refine zI ?_ | refine splT ?_ | refine splF ?_ | refine splNot ?_
   | ((first | refine splIn ?_ ?_ | refine splD ?_ ?_ | refine splE ?_ ?_ | refine splNE ?_ ?_) <;> intro hc <;> first | (exfalso; omega) | (exfalso; dsimp only at hc; omega) | skip)
 refine loopD 7 (fun p : Nat × (Option Addr × Nat) => [(3, .ptr 0 0), (4, .ptr 1 0), (5, .ptr 2 0), (6, .ptr 3 0), (7, .ptr 4 0), (10, .ptr 5 0), (11, .ptr 6 0), (12, .v (iv (p.1 + 1 : Nat)))]) (fun p => [(0, .cells (Tr.l ⟨days, shift, size, to, tc, T, lo, lc, L⟩) 35), (1, .cells [.v (.slice (some ad) S.length c)] 28), (2, .cells [.v (iv k)] 3), (3, .cells [.v (fvV (rpN (Tr.d ⟨days, shift, size, to, tc, T, lo, lc, L⟩) S k p.1) p.2)] 28), (4, .cells [.v (iv (fvM (rpN (Tr.d ⟨days, shift, size, to, tc, T, lo, lc, L⟩) S k p.1)))] 3), (5, .cells [.v (.bool ((rpN (Tr.d ⟨days, shift, size, to, tc, T, lo, lc, L⟩) S k p.1)).isSome)] 4), (6, .cells [.fn (.func 80) [.ptr 0 0, .ptr 5 0, .ptr 4 0, .ptr 3 0]] 143)]) (fun p w' => Below w.heap.size w w' ∧ St w.heap.size (FS (rpN (Tr.d ⟨days, shift, size, to, tc, T, lo, lc, L⟩) S k p.1) p.2) w') (fun p => p.1 ≤ T.length - 1) (fun p => T.length - 1 - p.1)
  (Dis.mk3 (w0 := w) id [] rfl (fun i hi => by cases hi) (fun w' h => h.1) (fun β w1 hok hw1 hge => ⟨(0, y0), Nat.zero_le _, ⟨⟨_, rfl, rfl⟩, ⟨_, rfl, rfl⟩, ⟨_, rfl, rfl⟩, ⟨_, rfl, rfl⟩, ⟨_, rfl, rfl⟩, ⟨_, rfl, rfl⟩, ⟨_, rfl, rfl⟩, ⟨_, rfl, rfl⟩, trivial⟩, ⟨zM rfl rfl, zM rfl rfl, zM rfl rfl, zM rfl rfl, zM rfl rfl, zM rfl rfl, zM rfl rfl, trivial⟩, rfl, fun w2 hw2 _ => hw2⟩)) (fun p _ => ⟨rfl, rfl⟩) ?_
 intro ⟨i, y⟩ hi
 dsimp only at hi ⊢
 rcases Nat.lt_or_ge i (T.length - 1) with hil | hil
 · have hRi := hrT i
   by_cases hai : a = ((i + 1 : Nat) : Int)
   · rw [if_pos hai] at hRi
     subst hai
     repeat'
      conv => whnf
      first
       | refine zA ?_ | refine zB ?_ | refine zC ?_ | refine zD ?_ | refine zE ?_ | refine zF ?_ | refine zG ?_ | refine zH ?_ | refine zJ ?_ | refine zI ?_ | refine splT ?_ | refine splF ?_ | refine splNot ?_
       | ((first | refine splIn ?_ ?_ | refine splD ?_ ?_ | refine splE ?_ ?_ | refine splNE ?_ ?_) <;> intro hc <;> first | (exfalso; omega) | (exfalso; dsimp only at hc; omega) | skip)
       | refine Exists.intro (α := List Value) [iv ((i + 1 : Nat) : Int)] ⟨⟨rfl, fun w' hw' => e0 w' hw'.1⟩, ?_⟩
     all_goals first | (exfalso; omega) | skip
     refine Dis.mk3 (w0 := w) id [] rfl (fun i hi => by cases hi) (fun w' h => h.1) (fun β w1 hok hw1 hge => ⟨(i + 1, y), ⟨by (show i + 1 ≤ _); omega, by (show _ - (i + 1) < _); omega⟩, ⟨⟨_, rfl, rfl⟩, ⟨_, rfl, rfl⟩, ⟨_, rfl, rfl⟩, ⟨_, rfl, rfl⟩, ⟨_, rfl, rfl⟩, ⟨_, rfl, rfl⟩, ⟨_, rfl, rfl⟩, ⟨_, rfl, rfl⟩, trivial⟩, ⟨zM rfl rfl, zM rfl rfl, zM rfl rfl, ⟨rfl, _, rfl, fun _ => rfl, fun w2 y hy => by rw [hRi]; exact hy⟩, ⟨rfl, _, rfl, fun _ => rfl, fun w2 y hy => by rw [hRi]; exact hy⟩, ⟨rfl, _, rfl, fun _ => rfl, fun w2 y hy => by rw [hRi]; exact hy⟩, zM rfl rfl, trivial⟩, rfl, fun w2 hw2 _ => by rw [hRi]; exact hw2⟩)
   · rw [if_neg hai] at hRi
     obtain ⟨t, ht⟩ : ∃ t, T[i + 1]? = some t := ⟨_, List.getElem?_eq_getElem (by omega)⟩
     have htw : twO (Tr.d ⟨days, shift, size, to, tc, T, lo, lc, L⟩) ((i + 1 : Nat) : Int) = t.d := twO_eq (x := ⟨days, shift, size, to, tc, T, lo, lc, L⟩) (k := ((i + 1 : Nat) : Int)) ht
     have htn := twN_of hn (a := i + 1) (by omega) (by simp only [Tr.d, List.length_map]; omega)
     have hT := h.t
     dsimp only at hT
     obtain ⟨_, ta, rfl, _⟩ := hT.ptr (by omega)
     have hAL0 : ∀ f, ALO (Tr.d ⟨days, shift, size, some ta, tc, T, lo, lc, L⟩) (i + 1) f = ALp (Tr.d ⟨days, shift, size, some ta, tc, T, lo, lc, L⟩) (i + 1) f ((twO (Tr.d ⟨days, shift, size, some ta, tc, T, lo, lc, L⟩) ((i + 1 : Nat) : Int)).s2 - (twO (Tr.d ⟨days, shift, size, some ta, tc, T, lo, lc, L⟩) ((i + 1 : Nat) : Int)).s1 + 1).toNat := fun f => by unfold ALO; rw [if_neg (by omega)]
     have hALs : ∀ f j, ALp (Tr.d ⟨days, shift, size, some ta, tc, T, lo, lc, L⟩) (i + 1) f (j + 1) = if aloB (Tr.d ⟨days, shift, size, some ta, tc, T, lo, lc, L⟩) ((i + 1 : Nat) : Int) f ((f : Int) + ((twO (Tr.d ⟨days, shift, size, some ta, tc, T, lo, lc, L⟩) ((i + 1 : Nat) : Int)).s1 + j) - 1) = true then ALp (Tr.d ⟨days, shift, size, some ta, tc, T, lo, lc, L⟩) (i + 1) f j ++ [((f : Int) + ((twO (Tr.d ⟨days, shift, size, some ta, tc, T, lo, lc, L⟩) ((i + 1 : Nat) : Int)).s1 + j) - 1).toNat] else ALp (Tr.d ⟨days, shift, size, some ta, tc, T, lo, lc, L⟩) (i + 1) f j := fun f j => rfl
     rw [htw] at hAL0 hALs htn
     have hRq := fun q => rpF_succ (Tr.d ⟨days, shift, size, some ta, tc, T, lo, lc, L⟩) S k (i + 1) (rpN (Tr.d ⟨days, shift, size, some ta, tc, T, lo, lc, L⟩) S k i) q
     obtain ⟨oo, oc, ro, rc, O, s1, s2, pay, lot, rent, R, cold, cut⟩ := t
     have hs12 := htn.s
     dsimp only at hs12 hAL0 hALs
     have e3 := fun (w' : World) (hw' : Below w.heap.size w w') => rd_flds (hT.below (w' := w') hw') ht ((i + 1 : Nat) : Int) rfl 1 [iv s1, iv s2] (fun j v hj => by
      match j, hj with
      | 0, hj => exact hj
      | 1, hj => exact hj)
     repeat'
      conv => whnf
      first
       | refine zA ?_ | refine zB ?_ | refine zC ?_ | refine zD ?_ | refine zE ?_ | refine zF ?_ | refine zG ?_ | refine zH ?_ | refine zJ ?_ | refine zI ?_ | refine splT ?_ | refine splF ?_ | refine splNot ?_
       | ((first | refine splIn ?_ ?_ | refine splD ?_ ?_ | refine splE ?_ ?_ | refine splNE ?_ ?_) <;> intro hc <;> first | (exfalso; omega) | (exfalso; dsimp only at hc; omega) | skip)
       | refine Exists.intro (α := List Value) [iv a] ⟨⟨rfl, fun w' hw' => e0 w' hw'.1⟩, ?_⟩
       | ((with_reducible show CallEv _ _ 83 _ _ _ _ _); refine callR [7, 8, 9] [] (stB ⟨days, shift, size, some ta, tc, T, lo, lc, L⟩ (i + 1 : Nat) 0 7) (.fn (.func 114) [.ptr 7 0, .ptr 8 0, .ptr 9 0]) rfl (fun i b hm => by simp only [stB, List.mem_cons, Prod.mk.injEq, List.not_mem_nil, or_false] at hm ⊢; omega) (fun β w' _ hbw => stops_R ⟨days, shift, size, some ta, tc, T, lo, lc, L⟩ (i + 1 : Nat) 0 7 β w') ?_)
     all_goals first | (exfalso; omega) | skip
     refine rf_inline env mixed 1000 [3, 4, 5, 6, 7, 10, 11, 12] Try.func114 has114 Try.ntmps114 rfl rfl (by decide) rfl rfl ?_
     intro lp asg bdy hasg hbdy
     repeat'
      conv => whnf
      first
       | refine zA ?_ | refine zB ?_ | refine zC ?_ | refine zD ?_ | refine zE ?_ | refine zF ?_ | refine zG ?_ | refine zH ?_ | refine zJ ?_ | refine zI ?_ | refine splT ?_ | refine splF ?_ | refine splNot ?_
       | ((first | refine splIn ?_ ?_ | refine splD ?_ ?_ | refine splE ?_ ?_ | refine splNE ?_ ?_) <;> intro hc <;> first | (exfalso; omega) | (exfalso; dsimp only at hc; omega) | skip)
       | refine Exists.intro (α := List Value) [iv s1, iv s2] ⟨⟨rfl, fun w' hw' => e3 w' hw'.1⟩, ?_⟩
     all_goals first | (exfalso; omega) | skip
     refine loopD 11 (fun p : Nat × (Option Addr × Nat) => [(0, .v (.func (.yield lp) #[] #[])), (1, .ptr 7 0), (2, .ptr 8 0), (5, .ptr 10 0), (6, .v (iv (p.1 : Nat)))]) (fun p => [(0, .cells (Tr.l ⟨days, shift, size, some ta, tc, T, lo, lc, L⟩) 35), (1, .cells [.v (.slice (some ad) S.length c)] 28), (2, .cells [.v (iv k)] 3), (3, .cells [.v (fvV (rpF (Tr.d ⟨days, shift, size, some ta, tc, T, lo, lc, L⟩) S k (i + 1) (rpN (Tr.d ⟨days, shift, size, some ta, tc, T, lo, lc, L⟩) S k i) p.1) p.2)] 28), (4, .cells [.v (iv (fvM (rpF (Tr.d ⟨days, shift, size, some ta, tc, T, lo, lc, L⟩) S k (i + 1) (rpN (Tr.d ⟨days, shift, size, some ta, tc, T, lo, lc, L⟩) S k i) p.1)))] 3), (5, .cells [.v (.bool ((rpF (Tr.d ⟨days, shift, size, some ta, tc, T, lo, lc, L⟩) S k (i + 1) (rpN (Tr.d ⟨days, shift, size, some ta, tc, T, lo, lc, L⟩) S k i) p.1)).isSome)] 4), (6, .cells [.fn (.func 80) [.ptr 0 0, .ptr 5 0, .ptr 4 0, .ptr 3 0]] 143), (7, .cells (Tr.l ⟨days, shift, size, some ta, tc, T, lo, lc, L⟩) 35), (8, .cells [.v (iv (i + 1 : Nat))] 3), (9, .cells [.v (iv 0)] 3), (10, .cells [.v (iv s1), .v (iv s2)] 55)]) (fun p w' => Below w.heap.size w w' ∧ St w.heap.size (FS (rpF (Tr.d ⟨days, shift, size, some ta, tc, T, lo, lc, L⟩) S k (i + 1) (rpN (Tr.d ⟨days, shift, size, some ta, tc, T, lo, lc, L⟩) S k i) p.1) p.2) w') (fun p => p.1 ≤ days.toNat) (fun p => days.toNat - p.1)
      (Dis.mk4 (w0 := w) id [] ⟨fun β => rfl, fun β => rfl, fun β => rfl, fun β => rfl, fun β => rfl, fun β => rfl, fun β => rfl, fun β => rfl, trivial⟩ (fun i hi => by cases hi) (fun w' h => h.1) (fun β w1 hok hw1 hge => ⟨(0, y), Nat.zero_le _, ⟨⟨_, rfl, rfl⟩, ⟨_, rfl, rfl⟩, ⟨_, rfl, rfl⟩, ⟨_, rfl, rfl⟩, ⟨_, rfl, rfl⟩, trivial⟩, ⟨zM rfl rfl, zM rfl rfl, zM rfl rfl, zM rfl rfl, zM rfl rfl, zM rfl rfl, zM rfl rfl, zM rfl rfl, zM rfl rfl, zM rfl rfl, zM rfl rfl, trivial⟩, rfl, fun w2 hw2 _ => hw2⟩)) (fun p _ => ⟨rfl, rfl⟩) ?_
     intro ⟨q, y⟩ hq
     dsimp only at hq ⊢
     rcases Nat.lt_or_ge q days.toNat with hql | hql
     · have hAE := hAL0 q
       have hAs := hALs q
       have hRn := hRq q
       obtain ⟨N, hN⟩ : ∃ N, (s2 - s1 + 1).toNat = N := ⟨_, rfl⟩
       rw [hN] at hAE
       repeat'
        conv => whnf
        first
         | refine zA ?_ | refine zB ?_ | refine zC ?_ | refine zD ?_ | refine zE ?_ | refine zF ?_ | refine zG ?_ | refine zH ?_ | refine zJ ?_ | refine zI ?_ | refine splT ?_ | refine splF ?_ | refine splNot ?_
         | ((first | refine splIn ?_ ?_ | refine splD ?_ ?_ | refine splE ?_ ?_ | refine splNE ?_ ?_) <;> intro hc <;> first | (exfalso; omega) | (exfalso; dsimp only at hc; omega) | skip)
       all_goals first | (exfalso; omega) | skip
       refine loopD 11 (fun p : Nat × (Option Addr × Nat) => [(0, .v (.func (.yield lp) #[] #[])), (1, .ptr 7 0), (2, .ptr 8 0), (5, .ptr 10 0), (6, .v (iv (q : Nat))), (7, .v (iv (s1 + (p.1 : Nat))))]) (fun p => [(0, .cells (Tr.l ⟨days, shift, size, some ta, tc, T, lo, lc, L⟩) 35), (1, .cells [.v (.slice (some ad) S.length c)] 28), (2, .cells [.v (iv k)] 3), (3, .cells [.v (fvV (rpL (Tr.d ⟨days, shift, size, some ta, tc, T, lo, lc, L⟩) S k (i + 1) q (rpF (Tr.d ⟨days, shift, size, some ta, tc, T, lo, lc, L⟩) S k (i + 1) (rpN (Tr.d ⟨days, shift, size, some ta, tc, T, lo, lc, L⟩) S k i) q) (ALp (Tr.d ⟨days, shift, size, some ta, tc, T, lo, lc, L⟩) (i + 1) q p.1)) p.2)] 28), (4, .cells [.v (iv (fvM (rpL (Tr.d ⟨days, shift, size, some ta, tc, T, lo, lc, L⟩) S k (i + 1) q (rpF (Tr.d ⟨days, shift, size, some ta, tc, T, lo, lc, L⟩) S k (i + 1) (rpN (Tr.d ⟨days, shift, size, some ta, tc, T, lo, lc, L⟩) S k i) q) (ALp (Tr.d ⟨days, shift, size, some ta, tc, T, lo, lc, L⟩) (i + 1) q p.1))))] 3), (5, .cells [.v (.bool ((rpL (Tr.d ⟨days, shift, size, some ta, tc, T, lo, lc, L⟩) S k (i + 1) q (rpF (Tr.d ⟨days, shift, size, some ta, tc, T, lo, lc, L⟩) S k (i + 1) (rpN (Tr.d ⟨days, shift, size, some ta, tc, T, lo, lc, L⟩) S k i) q) (ALp (Tr.d ⟨days, shift, size, some ta, tc, T, lo, lc, L⟩) (i + 1) q p.1))).isSome)] 4), (6, .cells [.fn (.func 80) [.ptr 0 0, .ptr 5 0, .ptr 4 0, .ptr 3 0]] 143), (7, .cells (Tr.l ⟨days, shift, size, some ta, tc, T, lo, lc, L⟩) 35), (8, .cells [.v (iv (i + 1 : Nat))] 3), (9, .cells [.v (iv 0)] 3), (10, .cells [.v (iv s1), .v (iv s2)] 55)]) (fun p w' => Below w.heap.size w w' ∧ St w.heap.size (FS (rpL (Tr.d ⟨days, shift, size, some ta, tc, T, lo, lc, L⟩) S k (i + 1) q (rpF (Tr.d ⟨days, shift, size, some ta, tc, T, lo, lc, L⟩) S k (i + 1) (rpN (Tr.d ⟨days, shift, size, some ta, tc, T, lo, lc, L⟩) S k i) q) (ALp (Tr.d ⟨days, shift, size, some ta, tc, T, lo, lc, L⟩) (i + 1) q p.1)) p.2) w') (fun p => p.1 ≤ N) (fun p => N - p.1)
        (Dis.mk4 (w0 := w) id [] ⟨fun β => rfl, fun β => rfl, fun β => rfl, fun β => rfl, fun β => rfl, fun β => rfl, fun β => rfl, fun β => rfl, trivial⟩ (fun i hi => by cases hi) (fun w' h => h.1) (fun β w1 hok hw1 hge => ⟨(0, y), Nat.zero_le _, ⟨⟨_, rfl, rfl⟩, ⟨_, rfl, rfl⟩, ⟨_, rfl, rfl⟩, ⟨_, rfl, rfl⟩, ⟨_, rfl, rfl⟩, ⟨_, rfl, by rw [Int.natCast_zero, Int.add_zero]; rfl⟩, trivial⟩, ⟨zM rfl rfl, zM rfl rfl, zM rfl rfl, zM rfl rfl, zM rfl rfl, zM rfl rfl, zM rfl rfl, zM rfl rfl, zM rfl rfl, zM rfl rfl, zM rfl rfl, trivial⟩, rfl, fun w2 hw2 _ => hw2⟩)) (fun p _ => ⟨rfl, rfl⟩) ?_
       intro ⟨j, y⟩ hj
       dsimp only at hj ⊢
       rcases Nat.lt_or_ge j N with hjN | hjN
       · have hCn := hAs j
         obtain ⟨lN, hlN⟩ : ∃ lN : Nat, ((q : Int) + (s1 + (j : Int)) - 1) = lN := ⟨(((q : Int) + (s1 + (j : Int)) - 1)).toNat, by omega⟩
         have h115 := fun w' hb => alone_ok ⟨days, shift, size, some ta, tc, T, lo, lc, L⟩ ((i + 1 : Nat) : Int) q ((q : Int) + (s1 + (j : Int)) - 1) w' (h.below hb) hn ⟨by omega, by omega⟩
         have hba : decide (fltO (Tr.d ⟨days, shift, size, some ta, tc, T, lo, lc, L⟩) [(((i + 1 : Nat) : Int), (q : Int), ((q : Int) + (s1 + (j : Int)) - 1))] 0 ((i + 1 : Nat) : Int) q ((q : Int) + (s1 + (j : Int)) - 1) 4 = 0) = aloB (Tr.d ⟨days, shift, size, some ta, tc, T, lo, lc, L⟩) ((i + 1 : Nat) : Int) q ((q : Int) + (s1 + (j : Int)) - 1) := rfl
         obtain ⟨b, hb⟩ : ∃ b, aloB (Tr.d ⟨days, shift, size, some ta, tc, T, lo, lc, L⟩) ((i + 1 : Nat) : Int) q ((q : Int) + (s1 + (j : Int)) - 1) = b := ⟨_, rfl⟩
         rw [hb] at hCn hba
         simp only [hba] at h115
         have hsj : s1 + ((j + 1 : Nat) : Int) = s1 + (j : Int) + 1 := by omega
         cases b with
         | false =>
          rw [if_neg (by decide)] at hCn
          repeat'
           conv => whnf
           first
            | refine zA ?_ | refine zB ?_ | refine zC ?_ | refine zD ?_ | refine zE ?_ | refine zF ?_ | refine zG ?_ | refine zH ?_ | refine zJ ?_ | refine zI ?_ | refine splT ?_ | refine splF ?_ | refine splNot ?_
            | ((first | refine splIn ?_ ?_ | refine splD ?_ ?_ | refine splE ?_ ?_ | refine splNE ?_ ?_) <;> intro hc <;> first | (exfalso; omega) | (exfalso; dsimp only at hc; omega) | skip)
            | ((with_reducible show CallEv _ _ 115 _ _ _ _ _); refine callE (k := 115) (fun β w' hbw => h115 w' (by repeat (first | exact hbw | replace hbw := hbw.1))) ?_)
          all_goals first | (exfalso; omega) | skip
          refine Dis.mk4 (w0 := w) id [] ⟨fun β => rfl, fun β => rfl, fun β => rfl, fun β => rfl, fun β => rfl, fun β => rfl, fun β => rfl, fun β => rfl, trivial⟩ (fun i hi => by cases hi) (fun w' h => h.1) (fun β w1 hok hw1 hge => ⟨(j + 1, y), ⟨by (show j + 1 ≤ _); omega, by (show _ - (j + 1) < _); omega⟩, ⟨⟨_, rfl, rfl⟩, ⟨_, rfl, rfl⟩, ⟨_, rfl, rfl⟩, ⟨_, rfl, rfl⟩, ⟨_, rfl, rfl⟩, ⟨_, rfl, by rw [hsj]; rfl⟩, trivial⟩, ⟨zM rfl rfl, zM rfl rfl, zM rfl rfl, ⟨rfl, _, rfl, fun _ => rfl, fun w2 y hy => by rw [hCn]; exact hy⟩, ⟨rfl, _, rfl, fun _ => rfl, fun w2 y hy => by rw [hCn]; exact hy⟩, ⟨rfl, _, rfl, fun _ => rfl, fun w2 y hy => by rw [hCn]; exact hy⟩, zM rfl rfl, zM rfl rfl, zM rfl rfl, zM rfl rfl, zM rfl rfl, trivial⟩, rfl, fun w2 hw2 _ => by rw [hCn]; exact hw2⟩)
         | true =>
          rw [if_pos rfl, show (((q : Int) + (s1 + (j : Int)) - 1)).toNat = lN from by omega] at hCn
          have hlE : (S.set k (((i + 1 : Nat) : Int), (q : Int), (lN : Int))).length = S.length := List.length_set ..
          have hbE : ∀ s ∈ S.set k (((i + 1 : Nat) : Int), (q : Int), (lN : Int)), (-9223372036854775808 ≤ s.2.1 ∧ s.2.1 ≤ 9223372036854775807) ∧ -9223372036854775808 ≤ s.2.2 ∧ s.2.2 ≤ 9223372036854775807 := fun s hs => by
           rcases List.mem_or_eq_of_mem_set hs with hs | rfl
           · exact hS.n s hs
           · dsimp only; omega
          have hcnd : (k : Int).toNat * ti96.size + ([iv ((i + 1 : Nat) : Int), iv (q : Int), Value.int .i64 (((q : Int) + (s1 + (j : Int)) - 1))] : List Value).length ≤ (S.flatMap spF).length := by
           rw [spl3, Int.toNat_natCast]; show k * 3 + 3 ≤ _; omega
          have hset : (S.flatMap spF).take ((k : Int).toNat * ti96.size) ++ ([iv ((i + 1 : Nat) : Int), iv (q : Int), Value.int .i64 (((q : Int) + (s1 + (j : Int)) - 1))] : List Value) ++ (S.flatMap spF).drop ((k : Int).toNat * ti96.size + ([iv ((i + 1 : Nat) : Int), iv (q : Int), Value.int .i64 (((q : Int) + (s1 + (j : Int)) - 1))] : List Value).length) = (S.set k (((i + 1 : Nat) : Int), (q : Int), (lN : Int))).flatMap spF := by
           rw [← set_flat S k (((i + 1 : Nat) : Int), (q : Int), (lN : Int)) hk, Int.toNat_natCast, hlN]; rfl
          have hfl := set_flat S k (((i + 1 : Nat) : Int), (q : Int), (lN : Int)) hk
          have hrj := rpL_snoc (Tr.d ⟨days, shift, size, some ta, tc, T, lo, lc, L⟩) S k (i + 1) q (rpF (Tr.d ⟨days, shift, size, some ta, tc, T, lo, lc, L⟩) S k (i + 1) (rpN (Tr.d ⟨days, shift, size, some ta, tc, T, lo, lc, L⟩) S k i) q) (ALp (Tr.d ⟨days, shift, size, some ta, tc, T, lo, lc, L⟩) (i + 1) q j) lN
          rw [← hCn] at hrj
          generalize hgj : (rpL (Tr.d ⟨days, shift, size, some ta, tc, T, lo, lc, L⟩) S k (i + 1) q (rpF (Tr.d ⟨days, shift, size, some ta, tc, T, lo, lc, L⟩) S k (i + 1) (rpN (Tr.d ⟨days, shift, size, some ta, tc, T, lo, lc, L⟩) S k i) q) (ALp (Tr.d ⟨days, shift, size, some ta, tc, T, lo, lc, L⟩) (i + 1) q j)) = rj at *
          have htk := tr_take (x := (Tr.d ⟨days, shift, size, some ta, tc, T, lo, lc, L⟩)) (r := rj) (S := S.set k (((i + 1 : Nat) : Int), (q : Int), (lN : Int)))
          cases hb2 : tkV rj (S.set k (((i + 1 : Nat) : Int), (q : Int), (lN : Int))) (Tr.d ⟨days, shift, size, some ta, tc, T, lo, lc, L⟩) with
          | false =>
           rw [hb2, if_neg (by decide)] at htk
           have hq1 : (trR (Tr.d ⟨days, shift, size, some ta, tc, T, lo, lc, L⟩) rj (S.set k (((i + 1 : Nat) : Int), (q : Int), (lN : Int)))).isSome = rj.isSome := by rw [htk]
           have hq2 : fvM (trR (Tr.d ⟨days, shift, size, some ta, tc, T, lo, lc, L⟩) rj (S.set k (((i + 1 : Nat) : Int), (q : Int), (lN : Int)))) = fvM rj := by rw [htk]
           have hq3 : (if tkV rj (S.set k (((i + 1 : Nat) : Int), (q : Int), (lN : Int))) (Tr.d ⟨days, shift, size, some ta, tc, T, lo, lc, L⟩) = true then SV.os 13 14 S.length else .v (fvV rj y)) = .v (fvV rj y) := by rw [hb2]; rfl
           repeat'
            conv => whnf
            first
             | refine zA ?_ | refine zB ?_ | refine zC ?_ | refine zD ?_ | refine zE ?_ | refine zF ?_ | refine zG ?_ | refine zH ?_ | refine zJ ?_ | refine zI ?_ | refine splT ?_ | refine splF ?_ | refine splNot ?_
             | ((first | refine splIn ?_ ?_ | refine splD ?_ ?_ | refine splE ?_ ?_ | refine splNE ?_ ?_) <;> intro hc <;> first | (exfalso; omega) | (exfalso; dsimp only at hc; omega) | skip)
             | ((with_reducible show CallEv _ _ 115 _ _ _ _ _); refine callE (k := 115) (fun β w' hbw => h115 w' (by repeat (first | exact hbw | replace hbw := hbw.1))) ?_)
             | refine And.intro (a := (_ : List _) = [] ∧ (_ : List _) = []) ⟨rfl, rfl⟩ ?_
             | refine yield_inline env mixed 0 2000 [3, 4, 5, 6, 7, 10, 11, 12] [0, 1, 2, 5, 6, 7, 41] rfl rfl rfl rfl rfl rfl rfl ?_
             | refine vc_eq env hasg ?_
             | refine vc_eq env hbdy ?_
             | ((with_reducible show CallEv _ _ 82 _ _ _ _ _); refine callO 13 [] (.os 13 14 S.length) S.length 3 (S.flatMap spF) 96 rfl (fun β w' _ hbw => (sclone_own S (some ad) c w' (hSr w' (by repeat (first | exact hbw | replace hbw := hbw.1))) (by omega) (by omega)).mono fun e w2 ⟨b, d, g1, g2, g3, g4⟩ => ⟨b, d, g1, g2, g3, g4⟩) ?_)
             | refine And.intro hcnd ?_; rw [hset]
             | ((with_reducible show CallEv _ _ 80 _ _ _ _ _); refine callQ [0, 5, 4, 3, 13] [(5, .cells [.v (.bool rj.isSome)] 4), (4, .cells [.v (iv (fvM rj))] 3), (3, .cells [(.v (fvV rj y))] 28), (13, .own 14 S.length 3 ((S.set k (((i + 1 : Nat) : Int), (q : Int), (lN : Int))).flatMap spF) 96)] (.v (.tuple #[])) rfl (fun β w' hbk hinj hst => try_B ⟨days, shift, size, some ta, tc, T, lo, lc, L⟩ (S.set k (((i + 1 : Nat) : Int), (q : Int), (lN : Int))) S.length hlE rj (fvV rj y) β w' 0 5 4 3 13 14 hn (by omega) hbE (hbk 0 (by simp) _ rfl) (hbk 5 (by simp) _ rfl) (hbk 4 (by simp) _ rfl) (hbk 3 (by simp) _ rfl) (hbk 13 (by simp) _ rfl) ⟨hinj 0 (by simp) 5 (by simp) _ _ rfl rfl rfl rfl (by decide), hinj 0 (by simp) 4 (by simp) _ _ rfl rfl rfl rfl (by decide), hinj 0 (by simp) 3 (by simp) _ _ rfl rfl rfl rfl (by decide), hinj 0 (by simp) 13 (by simp) _ _ rfl rfl rfl rfl (by decide), hinj 5 (by simp) 4 (by simp) _ _ rfl rfl rfl rfl (by decide), hinj 5 (by simp) 3 (by simp) _ _ rfl rfl rfl rfl (by decide), hinj 5 (by simp) 13 (by simp) _ _ rfl rfl rfl rfl (by decide), hinj 4 (by simp) 3 (by simp) _ _ rfl rfl rfl rfl (by decide), hinj 4 (by simp) 13 (by simp) _ _ rfl rfl rfl rfl (by decide), hinj 3 (by simp) 13 (by simp) _ _ rfl rfl rfl rfl (by decide)⟩ (fun w2 hc => hbel w2 (by have hbw := (hst w2 ⟨hc.os, hc.tape, hc.output, hc.size, fun b hb hX => hc.same b hb fun hq => hX (by rcases hq with rfl | rfl | rfl | rfl | rfl; exact ⟨0, by simp, ⟨_, rfl, rfl⟩, rfl⟩; exact ⟨5, by simp, ⟨_, rfl, rfl⟩, rfl⟩; exact ⟨4, by simp, ⟨_, rfl, rfl⟩, rfl⟩; exact ⟨3, by simp, ⟨_, rfl, rfl⟩, rfl⟩; exact ⟨13, by simp, ⟨_, rfl, rfl⟩, rfl⟩)⟩); repeat (first | exact hbw | replace hbw := hbw.1))) rj.isSome (fvM rj) (.v (fvV rj y)) hq1 hq2 hq3) ?_)
           all_goals first | (exfalso; omega) | skip
           conv => whnf
           refine Dis.mk6 (w0 := w) id [13] (.inr ⟨rfl, ⟨rfl, rfl, rfl, rfl, rfl, rfl, rfl, rfl, trivial⟩, ⟨rfl, trivial⟩⟩) ⟨fun β => rfl, fun β => rfl, fun β => rfl, fun β => rfl, fun β => rfl, fun β => rfl, fun β => rfl, fun β => rfl, trivial⟩ (fun i hi => by rw [List.mem_singleton] at hi; subst hi; exact ⟨_, rfl, rfl⟩) (fun w' h => h.1) (fun β w1 hok hw1 hge => ⟨(j + 1, y), ⟨by (show j + 1 ≤ _); omega, by (show _ - (j + 1) < _); omega⟩, ⟨⟨_, rfl, rfl⟩, ⟨_, rfl, rfl⟩, ⟨_, rfl, rfl⟩, ⟨_, rfl, rfl⟩, ⟨_, rfl, rfl⟩, ⟨_, rfl, by rw [hsj]; rfl⟩, trivial⟩, ⟨zM rfl rfl, zM rfl rfl, zM rfl rfl, ⟨rfl, _, rfl, fun _ => rfl, fun w2 y hy => by rw [hrj, htk]; exact hy⟩, ⟨rfl, _, rfl, fun _ => rfl, fun w2 y hy => by rw [hrj, htk]; exact hy⟩, ⟨rfl, _, rfl, fun _ => rfl, fun w2 y hy => by rw [hrj, htk]; exact hy⟩, zM rfl rfl, zM rfl rfl, zM rfl rfl, zM rfl rfl, zM rfl rfl, trivial⟩, rfl, fun w2 hw2 _ => by rw [hrj, htk]; exact hw2⟩)
          | true =>
           rw [hb2, if_pos rfl] at htk
           obtain ⟨P, hP⟩ : ∃ P, pfO (Tr.d ⟨days, shift, size, some ta, tc, T, lo, lc, L⟩) (S.set k (((i + 1 : Nat) : Int), (q : Int), (lN : Int))) = P := ⟨_, rfl⟩
           rw [hP] at htk
           have hq1 : (trR (Tr.d ⟨days, shift, size, some ta, tc, T, lo, lc, L⟩) rj (S.set k (((i + 1 : Nat) : Int), (q : Int), (lN : Int)))).isSome = true := by rw [htk]; rfl
           have hq2 : fvM (trR (Tr.d ⟨days, shift, size, some ta, tc, T, lo, lc, L⟩) rj (S.set k (((i + 1 : Nat) : Int), (q : Int), (lN : Int)))) = P := by rw [htk]; rfl
           have hq3 : (if tkV rj (S.set k (((i + 1 : Nat) : Int), (q : Int), (lN : Int))) (Tr.d ⟨days, shift, size, some ta, tc, T, lo, lc, L⟩) = true then SV.os 13 14 S.length else .v (fvV rj y)) = .os 13 14 S.length := by rw [hb2]; rfl
           repeat'
            conv => whnf
            first
             | refine zA ?_ | refine zB ?_ | refine zC ?_ | refine zD ?_ | refine zE ?_ | refine zF ?_ | refine zG ?_ | refine zH ?_ | refine zJ ?_ | refine zI ?_ | refine splT ?_ | refine splF ?_ | refine splNot ?_
             | ((first | refine splIn ?_ ?_ | refine splD ?_ ?_ | refine splE ?_ ?_ | refine splNE ?_ ?_) <;> intro hc <;> first | (exfalso; omega) | (exfalso; dsimp only at hc; omega) | skip)
             | ((with_reducible show CallEv _ _ 115 _ _ _ _ _); refine callE (k := 115) (fun β w' hbw => h115 w' (by repeat (first | exact hbw | replace hbw := hbw.1))) ?_)
             | refine And.intro (a := (_ : List _) = [] ∧ (_ : List _) = []) ⟨rfl, rfl⟩ ?_
             | refine yield_inline env mixed 0 2000 [3, 4, 5, 6, 7, 10, 11, 12] [0, 1, 2, 5, 6, 7, 41] rfl rfl rfl rfl rfl rfl rfl ?_
             | refine vc_eq env hasg ?_
             | refine vc_eq env hbdy ?_
             | ((with_reducible show CallEv _ _ 82 _ _ _ _ _); refine callO 13 [] (.os 13 14 S.length) S.length 3 (S.flatMap spF) 96 rfl (fun β w' _ hbw => (sclone_own S (some ad) c w' (hSr w' (by repeat (first | exact hbw | replace hbw := hbw.1))) (by omega) (by omega)).mono fun e w2 ⟨b, d, g1, g2, g3, g4⟩ => ⟨b, d, g1, g2, g3, g4⟩) ?_)
             | refine And.intro hcnd ?_; rw [hset]
             | ((with_reducible show CallEv _ _ 80 _ _ _ _ _); refine callQ [0, 5, 4, 3, 13] [(5, .cells [.v (.bool true)] 4), (4, .cells [.v (iv P)] 3), (3, .cells [(.os 13 14 S.length)] 28), (13, .own 14 S.length 3 ((S.set k (((i + 1 : Nat) : Int), (q : Int), (lN : Int))).flatMap spF) 96)] (.v (.tuple #[])) rfl (fun β w' hbk hinj hst => try_B ⟨days, shift, size, some ta, tc, T, lo, lc, L⟩ (S.set k (((i + 1 : Nat) : Int), (q : Int), (lN : Int))) S.length hlE rj (fvV rj y) β w' 0 5 4 3 13 14 hn (by omega) hbE (hbk 0 (by simp) _ rfl) (hbk 5 (by simp) _ rfl) (hbk 4 (by simp) _ rfl) (hbk 3 (by simp) _ rfl) (hbk 13 (by simp) _ rfl) ⟨hinj 0 (by simp) 5 (by simp) _ _ rfl rfl rfl rfl (by decide), hinj 0 (by simp) 4 (by simp) _ _ rfl rfl rfl rfl (by decide), hinj 0 (by simp) 3 (by simp) _ _ rfl rfl rfl rfl (by decide), hinj 0 (by simp) 13 (by simp) _ _ rfl rfl rfl rfl (by decide), hinj 5 (by simp) 4 (by simp) _ _ rfl rfl rfl rfl (by decide), hinj 5 (by simp) 3 (by simp) _ _ rfl rfl rfl rfl (by decide), hinj 5 (by simp) 13 (by simp) _ _ rfl rfl rfl rfl (by decide), hinj 4 (by simp) 3 (by simp) _ _ rfl rfl rfl rfl (by decide), hinj 4 (by simp) 13 (by simp) _ _ rfl rfl rfl rfl (by decide), hinj 3 (by simp) 13 (by simp) _ _ rfl rfl rfl rfl (by decide)⟩ (fun w2 hc => hbel w2 (by have hbw := (hst w2 ⟨hc.os, hc.tape, hc.output, hc.size, fun b hb hX => hc.same b hb fun hq => hX (by rcases hq with rfl | rfl | rfl | rfl | rfl; exact ⟨0, by simp, ⟨_, rfl, rfl⟩, rfl⟩; exact ⟨5, by simp, ⟨_, rfl, rfl⟩, rfl⟩; exact ⟨4, by simp, ⟨_, rfl, rfl⟩, rfl⟩; exact ⟨3, by simp, ⟨_, rfl, rfl⟩, rfl⟩; exact ⟨13, by simp, ⟨_, rfl, rfl⟩, rfl⟩)⟩); repeat (first | exact hbw | replace hbw := hbw.1))) true P (.os 13 14 S.length) hq1 hq2 hq3) ?_)
           all_goals first | (exfalso; omega) | skip
           conv => whnf
           refine Dis.mk6 (w0 := w) id [13] (.inr ⟨rfl, ⟨rfl, rfl, rfl, rfl, rfl, rfl, rfl, rfl, trivial⟩, ⟨rfl, trivial⟩⟩) ⟨fun β => rfl, fun β => rfl, fun β => rfl, fun β => rfl, fun β => rfl, fun β => rfl, fun β => rfl, fun β => rfl, trivial⟩ (fun i hi => by rw [List.mem_singleton] at hi; subst hi; exact ⟨_, rfl, rfl⟩) (fun w' h => h.1) (fun β w1 hok hw1 hge => ⟨(j + 1, (some ⟨β 13, 0, none⟩, β 14)), ⟨by (show j + 1 ≤ _); omega, by (show _ - (j + 1) < _); omega⟩, ⟨⟨_, rfl, rfl⟩, ⟨_, rfl, rfl⟩, ⟨_, rfl, rfl⟩, ⟨_, rfl, rfl⟩, ⟨_, rfl, rfl⟩, ⟨_, rfl, by rw [hsj]; rfl⟩, trivial⟩, ⟨zM rfl rfl, zM rfl rfl, zM rfl rfl, ⟨rfl, _, rfl, fun _ => rfl, fun w2 y hy => by rw [hrj, htk]; simp only [fvV, hlE]; exact hy⟩, ⟨rfl, _, rfl, fun _ => rfl, fun w2 y hy => by rw [hrj, htk]; exact hy⟩, ⟨rfl, _, rfl, fun _ => rfl, fun w2 y hy => by rw [hrj, htk]; exact hy⟩, zM rfl rfl, zM rfl rfl, zM rfl rfl, zM rfl rfl, zM rfl rfl, trivial⟩, rfl, fun w2 hw2 hLo => ⟨hw2.1, by rw [hrj, htk]; exact fs_own (hge 13 _ rfl rfl) hlE (hLo 13 (by simp) _ rfl)⟩⟩)
       · obtain rfl : j = N := by omega
         repeat'
          conv => whnf
          first
           | refine zA ?_ | refine zB ?_ | refine zC ?_ | refine zD ?_ | refine zE ?_ | refine zF ?_ | refine zG ?_ | refine zH ?_ | refine zJ ?_ | refine zI ?_ | refine splT ?_ | refine splF ?_ | refine splNot ?_
           | ((first | refine splIn ?_ ?_ | refine splD ?_ ?_ | refine splE ?_ ?_ | refine splNE ?_ ?_) <;> intro hc <;> first | (exfalso; omega) | (exfalso; dsimp only at hc; omega) | skip)
         all_goals first | (exfalso; omega) | skip
         refine Dis.mk4 (w0 := w) id [] ⟨fun β => rfl, fun β => rfl, fun β => rfl, fun β => rfl, fun β => rfl, fun β => rfl, fun β => rfl, fun β => rfl, trivial⟩ (fun i hi => by cases hi) (fun w' h => h.1) (fun β w1 hok hw1 hge => ⟨(q + 1, y), ⟨by (show q + 1 ≤ _); omega, by (show _ - (q + 1) < _); omega⟩, ⟨⟨_, rfl, rfl⟩, ⟨_, rfl, rfl⟩, ⟨_, rfl, rfl⟩, ⟨_, rfl, rfl⟩, ⟨_, rfl, rfl⟩, trivial⟩, ⟨zM rfl rfl, zM rfl rfl, zM rfl rfl, ⟨rfl, _, rfl, fun _ => rfl, fun w2 y hy => by rw [hRn, hAE]; exact hy⟩, ⟨rfl, _, rfl, fun _ => rfl, fun w2 y hy => by rw [hRn, hAE]; exact hy⟩, ⟨rfl, _, rfl, fun _ => rfl, fun w2 y hy => by rw [hRn, hAE]; exact hy⟩, zM rfl rfl, zM rfl rfl, zM rfl rfl, zM rfl rfl, zM rfl rfl, trivial⟩, rfl, fun w2 hw2 _ => by rw [hRn, hAE]; exact hw2⟩)
     · obtain rfl : q = days.toNat := by omega
       repeat'
        conv => whnf
        first
         | refine zA ?_ | refine zB ?_ | refine zC ?_ | refine zD ?_ | refine zE ?_ | refine zF ?_ | refine zG ?_ | refine zH ?_ | refine zJ ?_ | refine zI ?_ | refine splT ?_ | refine splF ?_ | refine splNot ?_
         | ((first | refine splIn ?_ ?_ | refine splD ?_ ?_ | refine splE ?_ ?_ | refine splNE ?_ ?_) <;> intro hc <;> first | (exfalso; omega) | (exfalso; dsimp only at hc; omega) | skip)
       all_goals first | (exfalso; omega) | skip
       refine Dis.mk3 (w0 := w) id [] rfl (fun i hi => by cases hi) (fun w' h => h.1) (fun β w1 hok hw1 hge => ⟨(i + 1, y), ⟨by (show i + 1 ≤ _); omega, by (show _ - (i + 1) < _); omega⟩, ⟨⟨_, rfl, rfl⟩, ⟨_, rfl, rfl⟩, ⟨_, rfl, rfl⟩, ⟨_, rfl, rfl⟩, ⟨_, rfl, rfl⟩, ⟨_, rfl, rfl⟩, ⟨_, rfl, rfl⟩, ⟨_, rfl, rfl⟩, trivial⟩, ⟨zM rfl rfl, zM rfl rfl, zM rfl rfl, ⟨rfl, _, rfl, fun _ => rfl, fun w2 y hy => by rw [hRi]; exact hy⟩, ⟨rfl, _, rfl, fun _ => rfl, fun w2 y hy => by rw [hRi]; exact hy⟩, ⟨rfl, _, rfl, fun _ => rfl, fun w2 y hy => by rw [hRi]; exact hy⟩, zM rfl rfl, trivial⟩, rfl, fun w2 hw2 _ => by rw [hRi]; exact hw2⟩)
 · obtain rfl : i = T.length - 1 := by omega
   repeat'
    conv => whnf
    first
     | refine zA ?_ | refine zB ?_ | refine zC ?_ | refine zD ?_ | refine zE ?_ | refine zF ?_ | refine zG ?_ | refine zH ?_ | refine zJ ?_ | refine zI ?_ | refine splT ?_ | refine splF ?_ | refine splNot ?_
     | ((first | refine splIn ?_ ?_ | refine splD ?_ ?_ | refine splE ?_ ?_ | refine splNE ?_ ?_) <;> intro hc <;> first | (exfalso; omega) | (exfalso; dsimp only at hc; omega) | skip)
   all_goals first | (exfalso; omega) | skip
   exact ⟨rfl, Dis.mk3 (w0 := w) id [] rfl (fun i hi => by cases hi) (fun w' h => h.1) (fun β w1 hok hw1 hge => ⟨y, trivial, ⟨⟨_, rfl, rfl⟩, ⟨_, rfl, rfl⟩, ⟨_, rfl, rfl⟩, ⟨_, rfl, rfl⟩, ⟨_, rfl, rfl⟩, ⟨_, rfl, rfl⟩, ⟨_, rfl, rfl⟩, trivial⟩, ⟨zM rfl rfl, zM rfl rfl, zM rfl rfl, ⟨rfl, _, rfl, fun _ => rfl, fun w2 y hy => by rw [hrO]; exact hy⟩, ⟨rfl, _, rfl, fun _ => rfl, fun w2 y hy => by rw [hrO]; exact hy⟩, ⟨rfl, _, rfl, fun _ => rfl, fun w2 y hy => by rw [hrO]; exact hy⟩, zM rfl rfl, trivial⟩, rfl, fun w2 hw2 _ => by rw [hrO]; exact hw2⟩)⟩
set_option maxHeartbeats 4000000 in
set_option maxRecDepth 100000 in
theorem pfR_bd {x : To} (hn : ToN x) {S : List (Int × Int × Int)} (h : fsO x S = []) (hl : S.length ≤ 20) : -300000000 ≤ pfO x S ∧ pfO x S ≤ 300000000 := by
 have h1 := pfK_bd hn (fs_spn hn h) S.length (Nat.le_refl _)
 have h2 := (hn.leg (pfK x S S.length).2 0).2
 have h3 : csO x (pfK x S S.length).2 0 = (lgO x (pfK x S S.length).2 0).2 := rfl
 unfold pfO
 omega
theorem rpV_ok {x : To} {S : List (Int × Int × Int)} {k : Nat} (hB : toB x = true) (hl : S.length ≤ 20) (hF : fsO x S = []) (hk : k < S.length) : rpV x S k = match rpO x S k with | some b => (b.1, b.2 - pfO x S, 0) | none => ([], 0, 7) := by
 unfold rpV
 rw [if_pos hB, if_pos hl, if_pos hF, if_pos ⟨by omega, by omega⟩, Int.toNat_natCast]
 cases rpO x S k <;> rfl
set_option maxHeartbeats 4000000 in
set_option maxRecDepth 100000 in
theorem Rp7 (days shift size : Int) (to : Option Addr) (tc : Nat) (T : List Tn) (lo : Option Addr) (lc : Nat) (L : List Lr) (x : Tr) (ad : Addr) (c : Nat) (S : List (Int × Int × Int)) (k : Nat) (w : World) (h : TrIn x w) (hn : ToN x.d) (hS : SpIn (some ad) c S w) (hl : S.length ≤ 20) (hk : k < S.length) (hB : toB x.d = true) (hF : fsO x.d S = []) (hx : ⟨days, shift, size, to, tc, T, lo, lc, L⟩ = x) (y : Option Addr × Nat) :
 VC Try.prog (rest 1 (rest 6 body46)) ⟨78, [(3, .ptr 0 0), (4, .ptr 1 0), (5, .ptr 2 0), (6, .ptr 3 0), (7, .ptr 4 0), (10, .ptr 5 0), (11, .ptr 6 0)], [(0, .cells (Tr.l ⟨days, shift, size, to, tc, T, lo, lc, L⟩) 35), (1, .cells [.v (.slice (some ad) S.length c)] 28), (2, .cells [.v (iv k)] 3), (3, .cells [.v (fvV (rpO (Tr.d ⟨days, shift, size, to, tc, T, lo, lc, L⟩) S k) y)] 28), (4, .cells [.v (iv (fvM (rpO (Tr.d ⟨days, shift, size, to, tc, T, lo, lc, L⟩) S k)))] 3), (5, .cells [.v (.bool (rpO (Tr.d ⟨days, shift, size, to, tc, T, lo, lc, L⟩) S k).isSome)] 4), (6, .cells [.fn (.func 80) [.ptr 0 0, .ptr 5 0, .ptr 4 0, .ptr 3 0]] 143)], 7, fun w' => Below w.heap.size w w' ∧ St w.heap.size (FS (rpO (Tr.d ⟨days, shift, size, to, tc, T, lo, lc, L⟩) S k) y) w', z0⟩ (endΦ env Try.f46 fun s σ => (∀ w', σ.h w' → Below w.heap.size w w') ∧ ∀ β w', σ.h w' → (∀ i b, lk σ.m i = some b → b.live = true → St w.heap.size (fun w2 => b.ok β w2 (β i)) w') → ∃ y : Option Addr × Nat, s.c β = .tuple #[sV (rpV (Tr.d ⟨days, shift, size, to, tc, T, lo, lc, L⟩) S k).1.length y, iv (rpV (Tr.d ⟨days, shift, size, to, tc, T, lo, lc, L⟩) S k).2.1, iv (rpV (Tr.d ⟨days, shift, size, to, tc, T, lo, lc, L⟩) S k).2.2] ∧ St w.heap.size (fun w2 => Rd 3 spF (sV (rpV (Tr.d ⟨days, shift, size, to, tc, T, lo, lc, L⟩) S k).1.length y) (rpV (Tr.d ⟨days, shift, size, to, tc, T, lo, lc, L⟩) S k).1 w2 ∧ (rpV (Tr.d ⟨days, shift, size, to, tc, T, lo, lc, L⟩) S k).1.length ≤ y.2) w') := by
 subst hx
 have hV := rpV_ok hB hl hF hk
 have hok := rpN_ok (x := (Tr.d ⟨days, shift, size, to, tc, T, lo, lc, L⟩)) (n := S.length) (m := (Tr.d ⟨days, shift, size, to, tc, T, lo, lc, L⟩).T.length - 1) (k := k) (S := S) (Nat.le_refl _)
 change FOk (Tr.d ⟨days, shift, size, to, tc, T, lo, lc, L⟩) S.length (rpO (Tr.d ⟨days, shift, size, to, tc, T, lo, lc, L⟩) S k) at hok
 have hp1 := pfR_bd hn hF hl
 have hsn := fs_spn hn hF
 have hlT : (Tr.d ⟨days, shift, size, to, tc, T, lo, lc, L⟩).T.length = T.length := List.length_map ..
 rw [hlT] at hsn
 have h75 := fun w' (hb : Below w.heap.size w w') => profit_ok ⟨days, shift, size, to, tc, T, lo, lc, L⟩ (some ad) c S w' (h.below hb) hn (hS.r.below hb) hl hsn
 rw [hV]
 refine VC.of env mixed ?_
 generalize pfO (Tr.d ⟨days, shift, size, to, tc, T, lo, lc, L⟩) S = P at *
 cases hr : rpO (Tr.d ⟨days, shift, size, to, tc, T, lo, lc, L⟩) S k with
 | none =>
  skip
  repeat'
   conv => whnf
   first
    | refine zA ?_ | refine zB ?_ | refine zC ?_ | refine zD ?_ | refine zE ?_ | refine zF ?_ | refine zG ?_ | refine zH ?_ | refine zJ ?_ | refine zI ?_ | refine splT ?_ | refine splF ?_ | refine splNot ?_
    | ((first | refine splIn ?_ ?_ | refine splD ?_ ?_ | refine splE ?_ ?_ | refine splNE ?_ ?_) <;> intro hc <;> first | (exfalso; omega) | (exfalso; dsimp only at hc; omega) | skip)
  all_goals first | (exfalso; omega) | exact ⟨fun w' h => h.1, fun β w' hB hblk => ⟨(none, 0), rfl, fun _ _ => ⟨.inl ⟨rfl, rfl⟩, Nat.le_refl _⟩⟩⟩
 | some b =>
  obtain ⟨h1, h2, h3⟩ := hok b hr
  have hp2 := pfR_bd hn h1 (by omega)
  rw [← h2] at hp2
  clear hV hok hr h1 h2
  obtain ⟨B, m⟩ := b
  dsimp only at h3 hp2 ⊢
  rw [show fvM (some (B, m)) = m from rfl, show fvV (some (B, m)) y = sV B.length y from rfl]
  repeat'
   conv => whnf
   first
    | refine zA ?_ | refine zB ?_ | refine zC ?_ | refine zD ?_ | refine zE ?_ | refine zF ?_ | refine zG ?_ | refine zH ?_ | refine zJ ?_ | refine zI ?_ | refine splT ?_ | refine splF ?_ | refine splNot ?_
    | ((first | refine splIn ?_ ?_ | refine splD ?_ ?_ | refine splE ?_ ?_ | refine splNE ?_ ?_) <;> intro hc <;> first | (exfalso; omega) | (exfalso; dsimp only at hc; omega) | skip)
    | ((with_reducible show CallEv _ _ 75 _ _ _ _ _); refine callE (fun β w' hbw => h75 w' (by repeat (first | exact hbw | replace hbw := hbw.1))) ?_)
  all_goals first | (exfalso; omega) | exact ⟨fun w' h => h.1, fun β w' hB hblk => ⟨y, rfl, hB.2⟩⟩
set_option maxHeartbeats 4000000 in
set_option maxRecDepth 100000 in
theorem Replace_ok (x : Tr) (o : Option Addr) (c : Nat) (S : List (Int × Int × Int)) (k : Int) (w : World) (h : TrIn x w) (hS : SpIn o c S w) :
 Calls Try.prog 46 #[x.v, .slice o S.length c, iv k] w fun e w' => ∃ y : Option Addr × Nat, e = .returned (.tuple #[sV (rpV x.d S k).1.length y, iv (rpV x.d S k).2.1, iv (rpV x.d S k).2.2]) ∧ Below w.heap.size w w' ∧ St w.heap.size (fun w2 => Rd 3 spF (sV (rpV x.d S k).1.length y) (rpV x.d S k).1 w2 ∧ (rpV x.d S k).1.length ≤ y.2) w' := by
 have h73 := fun w' hb => check_ok x o c S w' (h.below hb) hS.l
 have h74 := fun (hn : ToN x.d) w' hb => faults_ok x o c S w' (h.below hb) hn (hS.below hb)
 have hsl := hS.l
 cases hb : toB x.d with
 | false =>
  have hV : rpV x.d S k = ([], 0, 1) := by unfold rpV; rw [if_neg (by rw [hb]; decide)]
  rw [hV]
  rw [hb] at h73
  refine calls_fam env mixed Try.func46 has46 Try.ntmps46 [.agg #[iv x.days, iv x.shift, iv x.size, .slice x.to x.T.length x.tc, .slice x.lo x.L.length x.lc], .slice o S.length c, iv k] (by simp) ?_
  clear h74 h hb hV
  obtain ⟨days, shift, size, to, tc, T, lo, lc, L⟩ := x
  repeat'
   conv => whnf
   first
    | refine zA ?_ | refine zB ?_ | refine zC ?_ | refine zD ?_ | refine zE ?_ | refine zF ?_ | refine zG ?_ | refine zH ?_ | refine zJ ?_ | refine zI ?_ | refine splT ?_ | refine splF ?_ | refine splNot ?_
    | ((first | refine splIn ?_ ?_ | refine splD ?_ ?_ | refine splE ?_ ?_ | refine splNE ?_ ?_) <;> intro hc <;> first | (exfalso; omega) | (exfalso; dsimp only at hc; omega) | skip)
    | ((with_reducible show CallEv _ _ 73 _ _ _ _ _); refine callE (k := 73) (fun β w' hbw => h73 _ hbw) ?_)
  exact ⟨fun w' h => h, fun β w' hB hblk => ⟨(none, 0), rfl, fun _ _ => ⟨.inl ⟨rfl, rfl⟩, Nat.le_refl _⟩⟩⟩
 | true =>
  have hn := toB_n hb
  rw [hb] at h73
  by_cases hl : S.length ≤ 20
  · rw [if_pos rfl, if_pos hl] at h73
    have h74' := h74 hn
    by_cases hf : fsO x.d S = []
    · rw [hf] at h74'
      by_cases hk : 0 ≤ k ∧ k < S.length
      · obtain ⟨kn, rfl⟩ : ∃ kn : Nat, k = kn := ⟨k.toNat, by omega⟩
        obtain ⟨_, ad, rfl, _⟩ := hS.r.ptr (by omega)
        obtain ⟨days, shift, size, to, tc, T, lo, lc, L⟩ := x
        exact calls_famV env mixed Try.func46 has46 (nt := 78) Try.ntmps46 [.agg #[iv days, iv shift, iv size, .slice to T.length tc, .slice lo L.length lc], .slice (some ad) S.length c, iv kn] (by simp) (Rp5 days shift size to tc T lo lc L _ ad c S kn w h hn hS hl (by omega) hb hf rfl fun y0 => Rp6 days shift size to tc T lo lc L _ ad c S kn w h hn hS hl (by omega) hb hf rfl y0 fun y => Rp7 days shift size to tc T lo lc L _ ad c S kn w h hn hS hl (by omega) hb hf rfl y)
      · have hV : rpV x.d S k = ([], 0, 2) := by unfold rpV; rw [if_pos hb, if_pos hl, if_pos hf, if_neg hk]
        rw [hV]
        refine calls_fam env mixed Try.func46 has46 Try.ntmps46 [.agg #[iv x.days, iv x.shift, iv x.size, .slice x.to x.T.length x.tc, .slice x.lo x.L.length x.lc], .slice o S.length c, iv k] (by simp) ?_
        have hin : inB k 0 ((S.length : Int) - 1) = false := by cases hc : inB k 0 ((S.length : Int) - 1) with | false => rfl | true => (simp only [inB, Bool.and_eq_true, decide_eq_true_eq] at hc; omega)
        have h70 := fun w' => within_ok k 0 ((S.length : Int) - 1) w'
        rw [hin] at h70
        clear h74 h hb hV hf hn hin
        obtain ⟨days, shift, size, to, tc, T, lo, lc, L⟩ := x
        repeat'
         conv => whnf
         first
          | refine zA ?_ | refine zB ?_ | refine zC ?_ | refine zD ?_ | refine zE ?_ | refine zF ?_ | refine zG ?_ | refine zH ?_ | refine zJ ?_ | refine zI ?_ | refine splT ?_ | refine splF ?_ | refine splNot ?_
          | ((first | refine splIn ?_ ?_ | refine splD ?_ ?_ | refine splE ?_ ?_ | refine splNE ?_ ?_) <;> intro hc <;> first | (exfalso; omega) | (exfalso; dsimp only at hc; omega) | skip)
          | ((with_reducible show CallEv _ _ 73 _ _ _ _ _); refine callE (k := 73) (fun β w' hbw => h73 _ (by repeat (first | exact hbw | replace hbw := hbw.1))) ?_)
          | ((with_reducible show CallEv _ _ 74 _ _ _ _ _); refine callF [] (fun y : Option Addr × Nat => sV 0 y) (fun _ _ => True) (fun β w' _ hbw => (h74' w' (by repeat (first | exact hbw | replace hbw := hbw.1))).mono fun e w2 ⟨y, h1, h2, _⟩ => ⟨y, h1, h2, fun _ _ => trivial⟩) ?_; intro y)
          | ((with_reducible show CallEv _ _ 70 _ _ _ _ _); refine callE (k := 70) (fun β w' hbw => h70 w') ?_)
        all_goals first | (exfalso; omega) | exact ⟨fun w' h => (by repeat (first | exact h | replace h := h.1)), fun β w' hB hblk => ⟨(none, 0), rfl, fun _ _ => ⟨.inl ⟨rfl, rfl⟩, Nat.le_refl _⟩⟩⟩
    · have hV : rpV x.d S k = ([], 0, 9) := by unfold rpV; rw [if_pos hb, if_pos hl, if_neg hf]
      rw [hV]
      refine calls_fam env mixed Try.func46 has46 Try.ntmps46 [.agg #[iv x.days, iv x.shift, iv x.size, .slice x.to x.T.length x.tc, .slice x.lo x.L.length x.lc], .slice o S.length c, iv k] (by simp) ?_
      have hfl : 1 ≤ (fsO x.d S).length := by
       cases hc : fsO x.d S with
       | nil => exact absurd hc hf
       | cons a l => simp
      have hfl2 := fsP_len x.d S S.length
      change (fsO x.d S).length ≤ _ at hfl2
      generalize fsO x.d S = F at *
      clear h74 h hb hV hf hn
      obtain ⟨days, shift, size, to, tc, T, lo, lc, L⟩ := x
      repeat'
       conv => whnf
       first
        | refine zA ?_ | refine zB ?_ | refine zC ?_ | refine zD ?_ | refine zE ?_ | refine zF ?_ | refine zG ?_ | refine zH ?_ | refine zJ ?_ | refine zI ?_ | refine splT ?_ | refine splF ?_ | refine splNot ?_
        | ((first | refine splIn ?_ ?_ | refine splD ?_ ?_ | refine splE ?_ ?_ | refine splNE ?_ ?_) <;> intro hc <;> first | (exfalso; omega) | (exfalso; dsimp only at hc; omega) | skip)
        | ((with_reducible show CallEv _ _ 73 _ _ _ _ _); refine callE (k := 73) (fun β w' hbw => h73 _ (by repeat (first | exact hbw | replace hbw := hbw.1))) ?_)
        | ((with_reducible show CallEv _ _ 74 _ _ _ _ _); refine callF [] (fun y : Option Addr × Nat => sV F.length y) (fun _ _ => True) (fun β w' _ hbw => (h74' w' (by repeat (first | exact hbw | replace hbw := hbw.1))).mono fun e w2 ⟨y, h1, h2, _⟩ => ⟨y, h1, h2, fun _ _ => trivial⟩) ?_; intro y)
      all_goals first | (exfalso; omega) | exact ⟨fun w' h => (by repeat (first | exact h | replace h := h.1)), fun β w' hB hblk => ⟨(none, 0), rfl, fun _ _ => ⟨.inl ⟨rfl, rfl⟩, Nat.le_refl _⟩⟩⟩
  · have hV : rpV x.d S k = ([], 0, 3) := by unfold rpV; rw [if_pos hb, if_neg hl]
    rw [if_pos rfl, if_neg hl] at h73
    rw [hV]
    refine calls_fam env mixed Try.func46 has46 Try.ntmps46 [.agg #[iv x.days, iv x.shift, iv x.size, .slice x.to x.T.length x.tc, .slice x.lo x.L.length x.lc], .slice o S.length c, iv k] (by simp) ?_
    clear h74 h hb hV hn
    obtain ⟨days, shift, size, to, tc, T, lo, lc, L⟩ := x
    repeat'
     conv => whnf
     first
      | refine zA ?_ | refine zB ?_ | refine zC ?_ | refine zD ?_ | refine zE ?_ | refine zF ?_ | refine zG ?_ | refine zH ?_ | refine zJ ?_ | refine zI ?_ | refine splT ?_ | refine splF ?_ | refine splNot ?_
      | ((first | refine splIn ?_ ?_ | refine splD ?_ ?_ | refine splE ?_ ?_ | refine splNE ?_ ?_) <;> intro hc <;> first | (exfalso; omega) | (exfalso; dsimp only at hc; omega) | skip)
      | ((with_reducible show CallEv _ _ 73 _ _ _ _ _); refine callE (k := 73) (fun β w' hbw => h73 _ hbw) ?_)
    exact ⟨fun w' h => h, fun β w' hB hblk => ⟨(none, 0), rfl, fun _ _ => ⟨.inl ⟨rfl, rfl⟩, Nat.le_refl _⟩⟩⟩
end Go.Proofs.Ythfabodamhdhaaa
