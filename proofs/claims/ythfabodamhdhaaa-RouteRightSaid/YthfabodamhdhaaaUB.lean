/- The plain law of faults: a season without faults is a chain; its profit is what the chain brings. -/
import Derived.Test.YthfabodamhdhaaaUA
import Derived.Test.YthfabodamhdhaaaTI
namespace Go.Proofs.Ythfabodamhdhaaa
open Go Tx Go.RowKit
set_option linter.unusedSimpArgs false
set_option linter.unusedVariables false
def aft : Nat × Nat × Nat → List (Nat × Nat × Nat) → Nat × Nat × Nat
 | s, [] => s
 | s, (t, f, l) :: L => aft (s.1 ||| 2 ^ t, t, l + 1) L
def Stp (x : To) (s : Nat × Nat × Nat) (u : Nat × Nat × Nat) : Prop := (1 ≤ u.1 ∧ u.1 < x.T.length) ∧ s.1.testBit u.1 = false ∧ s.2.2 + lsN x s.2.1 u.1 ≤ u.2.1 ∧ u.2.2 ∈ ALO x u.1 u.2.1
def Hm (x : To) (s : Nat × Nat × Nat) : Prop := s.1 = 0 ∨ lsO x s.2.1 0 + s.2.2 ≤ x.days
def Sm (x : To) : Nat → List (Nat × Nat × Nat) → Int
 | _, [] => 0
 | a, (t, f, l) :: L => gnO x t f l - csO x a t + Sm x t L
theorem aft_app : ∀ (L M : List (Nat × Nat × Nat)) (s : Nat × Nat × Nat), aft s (L ++ M) = aft (aft s L) M
 | [], _, _ => rfl
 | (t, f, l) :: L, M, s => aft_app L M _
theorem ch_iff {x : To} : ∀ (L : List (Nat × Nat × Nat)) (S a d : Nat), Ch x S a d L ↔ (∀ i u, L[i]? = some u → Stp x (aft (S, a, d) (L.take i)) u) ∧ Hm x (aft (S, a, d) L)
 | [], S, a, d => by simp [Ch, Hm, aft]
 | (t, f, l) :: L, S, a, d => by
  have ih := ch_iff (x := x) L (S ||| 2 ^ t) t (l + 1)
  constructor
  · intro ⟨h1, h2, h3, h4, h5⟩
    obtain ⟨g1, g2⟩ := ih.1 h5
    refine ⟨fun i u hu => ?_, g2⟩
    cases i with
    | zero =>
     simp only [List.getElem?_cons_zero, Option.some.injEq] at hu
     subst hu
     exact ⟨h1, h2, h3, h4⟩
    | succ i => exact g1 i u (by simpa using hu)
  · intro ⟨h1, h2⟩
    obtain ⟨g1, g2, g3, g4⟩ := h1 0 (t, f, l) rfl
    exact ⟨g1, g2, g3, g4, ih.2 ⟨fun i u hu => h1 (i + 1) u (by simpa using hu), h2⟩⟩
theorem Va_eq (x : To) : ∀ (L : List (Nat × Nat × Nat)) (s : Nat × Nat × Nat), Va x s.2.1 L = Sm x s.2.1 L - csO x (aft s L).2.1 0
 | [], s => by simp [Va, Sm, aft]
 | (t, f, l) :: L, s => by
  have := Va_eq x L (s.1 ||| 2 ^ t, t, l + 1)
  simp only [Va, Sm, aft]
  dsimp only at this
  omega
theorem Sm_app (x : To) : ∀ (L M : List (Nat × Nat × Nat)) (s : Nat × Nat × Nat), Sm x s.2.1 (L ++ M) = Sm x s.2.1 L + Sm x (aft s L).2.1 M
 | [], M, s => by simp [Sm, aft]
 | (t, f, l) :: L, M, s => by
  have := Sm_app x L M (s.1 ||| 2 ^ t, t, l + 1)
  simp only [List.cons_append, Sm, aft]
  dsimp only at this
  omega
theorem take_snoc {α : Type} {L : List α} {i : Nat} {u : α} (h : L[i]? = some u) : L.take (i + 1) = L.take i ++ [u] := by
 rw [List.take_add_one, h]; rfl
theorem aft_last {L : List (Nat × Nat × Nat)} {i : Nat} {u : Nat × Nat × Nat} (h : L[i]? = some u) (s : Nat × Nat × Nat) : aft s (L.take (i + 1)) = ((aft s (L.take i)).1 ||| 2 ^ u.1, u.1, u.2.2 + 1) := by
 rw [take_snoc h, aft_app]; rfl
theorem aft_bit : ∀ (L : List (Nat × Nat × Nat)) (s : Nat × Nat × Nat) (t : Nat), (aft s L).1.testBit t = (s.1.testBit t || L.any fun u => u.1 == t)
 | [], s, t => by simp [aft]
 | (a, f, l) :: L, s, t => by
  rw [aft, aft_bit L, Nat.testBit_or, Nat.testBit_two_pow, List.any_cons, Bool.or_assoc]
  congr 2
theorem aft_zero {L : List (Nat × Nat × Nat)} (h : (aft (0, 0, 0) L).1 = 0) : L = [] := by
 cases L with
 | nil => rfl
 | cons u L =>
  have := aft_bit (u :: L) (0, 0, 0) u.1
  rw [h] at this
  simp at this
theorem pfK_eq (x : To) (A : List (Nat × Nat × Nat)) : ∀ i, i ≤ A.length → pfK x (A.map toI) i = (Sm x 0 (A.take i), (aft (0, 0, 0) (A.take i)).2.1)
 | 0, _ => by simp [pfK, Sm, aft]
 | i + 1, hi => by
  obtain ⟨⟨t, f, l⟩, hu⟩ : ∃ u, A[i]? = some u := ⟨_, List.getElem?_eq_getElem (by omega)⟩
  have ih := pfK_eq x A i (by omega)
  have h2 : (A.map toI)[i]? = some ((t : Int), (f : Int), (l : Int)) := by rw [List.getElem?_map, hu]; rfl
  have h3 := Sm_app x (A.take i) [(t, f, l)] (0, 0, 0)
  rw [pfK, h2]
  dsimp only
  rw [ih, Int.toNat_natCast, aft_last hu, take_snoc hu]
  dsimp only at h3 ⊢
  rw [h3]
  simp only [Sm, Prod.mk.injEq, and_true]
  omega
theorem pfO_eq (x : To) (A : List (Nat × Nat × Nat)) : pfO x (A.map toI) = Va x 0 A := by
 have h1 := pfK_eq x A A.length (Nat.le_refl _)
 have h2 := Va_eq x A (0, 0, 0)
 rw [List.take_length] at h1
 unfold pfO
 rw [List.length_map, h1, h2]
theorem alo_iff {x : To} (hn : ToN x) {t f l : Nat} (ht : 1 ≤ t ∧ t < x.T.length) : l ∈ ALO x t f ↔ ts2 x t = false ∧ ts3 x t f l = false ∧ ts4 x t f l = false := by
 have h1 : ts1 x t = false := by simp [ts1, inB]; omega
 have hw := twN_of hn ht.1 ht.2
 have hs := hw.s
 have hal : ∀ l : Int, aloB x t f l = true ↔ ts2 x t = false ∧ ts3 x t f l = false ∧ ts4 x t f l = false := fun l => by
  unfold aloB fltO
  rw [decide_eq_true_eq]
  constructor
  · intro h
    have := fstT_zero h
    simp only [tsA, List.take, List.mem_cons, List.not_mem_nil, or_false, forall_eq_or_imp, forall_eq] at this
    exact ⟨this.2.1, this.2.2.1, this.2.2.2⟩
  · intro ⟨h2, h3, h4⟩
    simp [tsA, fstT, h1, h2, h3, h4]
 unfold ALO
 rw [if_neg (by omega)]
 constructor
 · intro h
   obtain ⟨i, h2, h3, h4⟩ := ALp_mem x t f _ l h
   have h5 := (hal _).1 h4
   rw [show (f : Int) + ((twO x t).s1 + i) - 1 = (l : Int) from by omega] at h5
   exact h5
 · intro h
   have h3 := h.2.1
   simp only [ts3, Bool.not_eq_false', fitB, inB, Bool.and_eq_true, decide_eq_true_eq] at h3
   have key : ∀ j i : Nat, i < j → aloB x t f ((f : Int) + ((twO x t).s1 + i) - 1) = true → ((f : Int) + ((twO x t).s1 + i) - 1).toNat ∈ ALp x t f j := by
    intro j
    induction j with
    | zero => intro i hi; omega
    | succ j ih =>
     intro i hi hb
     simp only [ALp]
     rcases (by omega : i < j ∨ i = j) with hi | rfl
     · have := ih i hi hb
       split
       · exact List.mem_append_left _ this
       · exact this
     · rw [if_pos hb]; simp
   have := key ((twO x t).s2 - (twO x t).s1 + 1).toNat ((l : Int) - f + 1 - (twO x t).s1).toNat (by omega)
   rw [show (f : Int) + ((twO x t).s1 + (((l : Int) - f + 1 - (twO x t).s1).toNat : Nat)) - 1 = (l : Int) from by omega] at this
   have h6 := this ((hal l).2 h)
   rwa [Int.toNat_natCast] at h6
theorem six_iff {x : To} (hn : ToN x) {A : List (Nat × Nat × Nat)} {i : Nat} {u : Nat × Nat × Nat} (hu : A[i]? = some u) (hpre : ∀ j v, j < i → A[j]? = some v → 1 ≤ v.1 ∧ v.1 < x.T.length) :
 Stp x (aft (0, 0, 0) (A.take i)) u ↔ (ts1 x u.1 = false ∧ ts2 x u.1 = false ∧ ts3 x u.1 u.2.1 u.2.2 = false ∧ ts4 x u.1 u.2.1 u.2.2 = false) ∧ ts5 (A.map toI) i u.1 = false ∧ ts6 x (A.map toI) i u.1 u.2.1 = false := by
 obtain ⟨t, f, l⟩ := u
 have h1 : ts1 x t = false ↔ 1 ≤ t ∧ t < x.T.length := by simp [ts1, inB]; omega
 have h5 : ts5 (A.map toI) i t = false ↔ (aft (0, 0, 0) (A.take i)).1.testBit t = false := by
  rw [aft_bit, Nat.zero_testBit, Bool.false_or]
  unfold ts5
  rw [← List.map_take, List.any_map]
  have : ((fun s : Int × Int × Int => s.1 == (t : Int)) ∘ toI) = fun u : Nat × Nat × Nat => u.1 == t := by
   funext u
   simp only [Function.comp, toI]
   rw [Bool.eq_iff_iff]
   simp only [beq_iff_eq]
   omega
  rw [this]
 have hls := fun a b => hn.lost a b
 have h6 : ts6 x (A.map toI) i t f = false ↔ (aft (0, 0, 0) (A.take i)).2.2 + lsN x (aft (0, 0, 0) (A.take i)).2.1 t ≤ f := by
  cases i with
  | zero =>
   have := hls 0 t
   simp only [ts6, List.take_zero, aft, decide_eq_false_iff_not, lsN, Int.toNat_natCast]
   omega
  | succ j =>
   have hj : j < A.length := by have := (List.getElem?_eq_some_iff.1 hu).1; omega
   obtain ⟨⟨t', f', l'⟩, hv⟩ : ∃ u, A[j]? = some u := ⟨_, List.getElem?_eq_getElem hj⟩
   have hm : (A.map toI)[j]? = some ((t' : Int), (f' : Int), (l' : Int)) := by rw [List.getElem?_map, hv]; rfl
   have hp := hpre j _ (by omega) hv
   have := hls t' t
   rw [aft_last hv]
   simp only [ts6, hm]
   have hin : inB (t' : Int) 1 ((x.T.length : Int) - 1) = true := by simp [inB]; omega
   rw [hin, Bool.true_and, decide_eq_false_iff_not, Int.toNat_natCast, Int.toNat_natCast]
   unfold lsN
   omega
 unfold Stp
 dsimp only
 constructor
 · intro ⟨g1, g2, g3, g4⟩
   have := (alo_iff hn g1).1 g4
   exact ⟨⟨h1.2 g1, this⟩, h5.2 g2, h6.2 g3⟩
 · intro ⟨⟨g1, g2⟩, g3, g4⟩
   exact ⟨h1.1 g1, h5.1 g3, h6.1 g4, (alo_iff hn (h1.1 g1)).2 g2⟩
theorem flt_six {x : To} {S : List (Int × Int × Int)} {i : Nat} {k f l : Int} : (fltO x S i k f l 7 = 0 ∨ fltO x S i k f l 7 = 7) ↔ (ts1 x k = false ∧ ts2 x k = false ∧ ts3 x k f l = false ∧ ts4 x k f l = false) ∧ ts5 S i k = false ∧ ts6 x S i k f = false := by
 unfold fltO
 simp only [tsA, List.take]
 cases ts1 x k <;> cases ts2 x k <;> cases ts3 x k f l <;> cases ts4 x k f l <;> cases ts5 S i k <;> cases ts6 x S i k f <;> cases ts7 x S i k l <;> simp [fstT]
theorem flt_all {x : To} {S : List (Int × Int × Int)} {i : Nat} {k f l : Int} : fltO x S i k f l 7 = 0 ↔ ((ts1 x k = false ∧ ts2 x k = false ∧ ts3 x k f l = false ∧ ts4 x k f l = false) ∧ ts5 S i k = false ∧ ts6 x S i k f = false) ∧ ts7 x S i k l = false := by
 unfold fltO
 simp only [tsA, List.take]
 cases ts1 x k <;> cases ts2 x k <;> cases ts3 x k f l <;> cases ts4 x k f l <;> cases ts5 S i k <;> cases ts6 x S i k f <;> cases ts7 x S i k l <;> simp [fstT]
theorem fsP_nil2 {x : To} {S : List (Int × Int × Int)} : ∀ (m : Nat), (∀ k, k < m → ∀ a f l, S[k]? = some (a, f, l) → fltO x S k a f l 7 = 0) → fsP x S m = []
 | 0, _ => rfl
 | m + 1, h => by
  have ih := fsP_nil2 m fun k hk => h k (by omega)
  simp only [fsP]
  split
  · rename_i a f l hs
    rw [if_pos (h m (by omega) a f l hs), ih]
  · exact ih
theorem fsO_iff {x : To} (hn : ToN x) (A : List (Nat × Nat × Nat)) : fsO x (A.map toI) = [] ↔ Ch x 0 0 0 A := by
 have hA : ∀ (i t f l : Nat), A[i]? = some (t, f, l) → (A.map toI)[i]? = some ((t : Int), (f : Int), (l : Int)) := fun i t f l h => by rw [List.getElem?_map, h]; rfl
 have h7 : ∀ t f l : Nat, A[A.length - 1]? = some (t, f, l) → (ts7 x (A.map toI) (A.length - 1) t l = false ↔ Hm x (aft (0, 0, 0) A)) := fun t f l h => by
  have hl := (List.getElem?_eq_some_iff.1 h).1
  have h2 := aft_last h (0, 0, 0)
  rw [show A.length - 1 + 1 = A.length from by omega, List.take_length] at h2
  have hne : (aft (0, 0, 0) A).1 ≠ 0 := fun e => by have := aft_zero e; rw [this] at hl; simp at hl
  unfold Hm ts7
  rw [h2] at hne ⊢
  rw [List.length_map, show A.length - 1 + 1 = A.length from by omega]
  simp only [decide_true, Bool.true_and, decide_eq_false_iff_not, Int.toNat_natCast]
  dsimp only at hne
  constructor
  · intro h; right; omega
  · intro h
    have := h.resolve_left hne
    omega
 constructor
 · intro h
   have hz := fun (i t f l : Nat) (hu : A[i]? = some (t, f, l)) => flt_all.1 (fsP_nil (m := (A.map toI).length) h i (by rw [List.length_map]; exact (List.getElem?_eq_some_iff.1 hu).1) _ _ _ (hA i t f l hu))
   refine (ch_iff A 0 0 0).2 ⟨fun i u hu => ?_, ?_⟩
   · refine (six_iff hn hu fun j v hj hv => ?_).2 (hz i _ _ _ hu).1
     have := (hz j _ _ _ hv).1.1.1
     simp [ts1, inB] at this
     omega
   · rcases Nat.eq_zero_or_pos A.length with h0 | h0
     · rw [List.length_eq_zero_iff.1 h0]; exact .inl rfl
     · obtain ⟨⟨t, f, l⟩, hu⟩ : ∃ u, A[A.length - 1]? = some u := ⟨_, List.getElem?_eq_getElem (by omega)⟩
       exact (h7 t f l hu).1 (hz _ _ _ _ hu).2
 · intro h
   obtain ⟨h1, h2⟩ := (ch_iff A 0 0 0).1 h
   unfold fsO
   refine fsP_nil2 _ fun i hi a f l hs => ?_
   rw [List.length_map] at hi
   obtain ⟨⟨t, f', l'⟩, hu⟩ : ∃ u, A[i]? = some u := ⟨_, List.getElem?_eq_getElem hi⟩
   rw [hA i _ _ _ hu, Option.some.injEq, Prod.mk.injEq, Prod.mk.injEq] at hs
   obtain ⟨rfl, rfl, rfl⟩ := hs
   refine flt_all.2 ⟨(six_iff hn hu fun j v hj hv => (h1 j v hv).1).1 (h1 i _ hu), ?_⟩
   rcases (by omega : i + 1 < A.length ∨ i = A.length - 1) with h3 | rfl
   · unfold ts7
     rw [List.length_map, decide_eq_false (by omega), Bool.false_and]
   · exact (h7 _ _ _ hu).2 h2
theorem fs_nat {x : To} (hn : ToN x) {S : List (Int × Int × Int)} (h : fsO x S = []) : ∃ A : List (Nat × Nat × Nat), S = A.map toI := by
 have hs := fs_spn hn h
 refine ⟨S.map fun s => (s.1.toNat, s.2.1.toNat, s.2.2.toNat), ?_⟩
 rw [List.map_map]
 conv => lhs; rw [← List.map_id S]
 refine List.map_congr_left fun s hm => ?_
 obtain ⟨k, f, l, rfl, _⟩ := hs s hm
 simp [toI]
theorem pf_le {x : To} (hn : ToN x) (h0 : csO x 0 0 = 0) {S : List (Int × Int × Int)} (h : fsO x S = []) : pfO x S ≤ hmO x (ALO x) 0 0 0 := by
 obtain ⟨A, rfl⟩ := fs_nat hn h
 rw [pfO_eq]
 exact Va_le hn h0 A 0 0 0 (fun _ => rfl) ((fsO_iff hn A).1 h)
theorem bs_ok {x : To} (hn : ToN x) (h0 : csO x 0 0 = 0) : fsO x (bsS x) = [] ∧ pfO x (bsS x) = hmO x (ALO x) 0 0 0 := by
 have hu : unp (x.T.length - 1) 0 ≤ x.T.length := by
  unfold unp
  have := List.length_filter_le (fun t => !(Nat.testBit 0 (t + 1))) (List.range (x.T.length - 1))
  rw [List.length_range] at this
  omega
 have hb := hmO_ge x (ALO x) 0 0 0
 have hb0 : bsO x 0 0 0 = 0 := rfl
 have hT := hn.n
 obtain ⟨L, h1, h2, h3⟩ := seqO_ch hn h0 x.T.length 0 0 0 (fun _ => rfl) hu (by omega)
 unfold bsS
 rw [h1, pfO_eq]
 exact ⟨(fsO_iff hn L).2 h2, h3⟩
theorem cs00 {x : To} (h : toB x = true) : csO x 0 0 = 0 := by
 have hn := toB_n h
 have h1 := h
 simp only [toB, Bool.and_eq_true, List.all_eq_true, List.mem_range] at h1
 have h2 := h1.2.2 0 (by have := hn.n; have := hn.l; omega)
 rw [Option.any_eq_true] at h2
 obtain ⟨r, hr, h3⟩ := h2
 simp only [lgB, Bool.and_eq_true, decide_eq_true_eq] at h3
 unfold csO lgO
 rw [Option.mem_def.1 hr, Option.getD_some, h3.2.1]
 rfl
end Go.Proofs.Ythfabodamhdhaaa
