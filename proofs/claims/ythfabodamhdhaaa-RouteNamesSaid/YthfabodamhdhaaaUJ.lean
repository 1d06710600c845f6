/- The plain law of Replace: the seasons that are tried, and what is found. -/
import Derived.Test.YthfabodamhdhaaaTI
namespace Go.Proofs.Ythfabodamhdhaaa
open Go Tx Go.RowKit
set_option linter.unusedSimpArgs false
set_option linter.unusedVariables false
abbrev Fnd := Option (List (Int × Int × Int) × Int)
def trR (x : To) (r : Fnd) (S : List (Int × Int × Int)) : Fnd :=
 if fsO x S = [] then (match r with
  | none => some (S, pfO x S)
  | some b => if b.2 < pfO x S then some (S, pfO x S) else some b) else r
def rpL (x : To) (S : List (Int × Int × Int)) (k t f : Nat) (r : Fnd) (ls : List Nat) : Fnd := ls.foldl (fun (r : Fnd) (l : Nat) => trR x r (S.set k ((t : Int), (f : Int), (l : Int)))) r
def rpF (x : To) (S : List (Int × Int × Int)) (k t : Nat) (r : Fnd) (n : Nat) : Fnd := (List.range n).foldl (fun r f => rpL x S k t f r (ALO x t f)) r
def rpT (x : To) (S : List (Int × Int × Int)) (k : Nat) (r : Fnd) (t : Nat) : Fnd := if (S[k]?).map (·.1) = some (t : Int) then r else rpF x S k t r x.days.toNat
def rpN (x : To) (S : List (Int × Int × Int)) (k n : Nat) : Fnd := (List.range n).foldl (fun r i => rpT x S k r (i + 1)) (trR x none (S.eraseIdx k))
def rpO (x : To) (S : List (Int × Int × Int)) (k : Nat) : Fnd := rpN x S k (x.T.length - 1)
theorem rpN_succ (x : To) (S : List (Int × Int × Int)) (k n : Nat) : rpN x S k (n + 1) = rpT x S k (rpN x S k n) (n + 1) := by
 unfold rpN
 rw [List.range_succ, List.foldl_append]
 rfl
theorem rpF_succ (x : To) (S : List (Int × Int × Int)) (k t : Nat) (r : Fnd) (n : Nat) : rpF x S k t r (n + 1) = rpL x S k t n (rpF x S k t r n) (ALO x t n) := by
 unfold rpF
 rw [List.range_succ, List.foldl_append]
 rfl
theorem rpL_snoc (x : To) (S : List (Int × Int × Int)) (k t f : Nat) (r : Fnd) (ls : List Nat) (l : Nat) : rpL x S k t f r (ls ++ [l]) = trR x (rpL x S k t f r ls) (S.set k ((t : Int), (f : Int), (l : Int))) := by
 unfold rpL
 rw [List.foldl_append]
 rfl
def FOk (x : To) (n : Nat) (r : Fnd) : Prop := ∀ b, r = some b → fsO x b.1 = [] ∧ b.2 = pfO x b.1 ∧ b.1.length ≤ n
theorem trR_ok {x : To} {n : Nat} {r : Fnd} {S : List (Int × Int × Int)} (h : FOk x n r) (hS : S.length ≤ n) : FOk x n (trR x r S) := fun b hb => by
 unfold trR at hb
 split at hb
 · rename_i h0
   cases r with
   | none =>
    simp only [Option.some.injEq] at hb
    subst hb
    exact ⟨h0, rfl, hS⟩
   | some q =>
    dsimp only at hb
    split at hb
    · simp only [Option.some.injEq] at hb
      subst hb
      exact ⟨h0, rfl, hS⟩
    · exact h b hb
 · exact h b hb
theorem fold_ok {x : To} {n : Nat} {α : Type} {g : Fnd → α → Fnd} (hg : ∀ r a, FOk x n r → FOk x n (g r a)) : ∀ (l : List α) (r : Fnd), FOk x n r → FOk x n (l.foldl g r)
 | [], _, h => h
 | a :: l, r, h => fold_ok hg l (g r a) (hg r a h)
theorem rpL_ok {x : To} {n : Nat} {S : List (Int × Int × Int)} {k t f : Nat} {r : Fnd} {ls : List Nat} (h : FOk x n r) (hS : S.length ≤ n) : FOk x n (rpL x S k t f r ls) := fold_ok (fun r l hr => trR_ok hr (by rw [List.length_set]; exact hS)) ls r h
theorem rpF_ok {x : To} {n m : Nat} {S : List (Int × Int × Int)} {k t : Nat} {r : Fnd} (h : FOk x n r) (hS : S.length ≤ n) : FOk x n (rpF x S k t r m) := fold_ok (fun r f hr => rpL_ok hr hS) _ r h
theorem rpT_ok {x : To} {n : Nat} {S : List (Int × Int × Int)} {k t : Nat} {r : Fnd} (h : FOk x n r) (hS : S.length ≤ n) : FOk x n (rpT x S k r t) := by
 unfold rpT
 split
 · exact h
 · exact rpF_ok h hS
theorem rpN_ok {x : To} {n m : Nat} {S : List (Int × Int × Int)} {k : Nat} (hS : S.length ≤ n) : FOk x n (rpN x S k m) := fold_ok (fun r i hr => rpT_ok hr hS) _ _ (trR_ok (fun b hb => by cases hb) (by rw [List.length_eraseIdx]; split <;> omega))
theorem tr_not {x : To} {S : List (Int × Int × Int)} {k : Nat} {r : Fnd} {t f l : Int} (hk : k < S.length) (h : ¬ (ts2 x t = false ∧ ts3 x t f l = false ∧ ts4 x t f l = false)) : trR x r (S.set k (t, f, l)) = r := by
 unfold trR
 rw [if_neg]
 intro h0
 have h1 := fstT_zero2 (fsP_nil (m := (S.set k (t, f, l)).length) h0 k (by rw [List.length_set]; exact hk) t f l (by rw [List.getElem?_set_self hk]))
 exact h ⟨h1.2.1, h1.2.2.1, h1.2.2.2.1⟩
theorem alo_of {x : To} {t f : Nat} {l : Int} (h1 : ts1 x t = false) (h2 : ts2 x t = false) (h3 : ts3 x t f l = false) (h4 : ts4 x t f l = false) : aloB x t f l = true := by
 unfold aloB fltO
 simp [tsA, fstT, h1, h2, h3, h4]
def rfL (x : To) (S : List (Int × Int × Int)) (k t f : Nat) (r : Fnd) (n : Nat) : Fnd := (List.range n).foldl (fun r q => trR x r (S.set k ((t : Int), (f : Int), ((f + q : Nat) : Int)))) r
theorem rfL_succ (x : To) (S : List (Int × Int × Int)) (k t f : Nat) (r : Fnd) (n : Nat) : rfL x S k t f r (n + 1) = trR x (rfL x S k t f r n) (S.set k ((t : Int), (f : Int), ((f + n : Nat) : Int))) := by
 unfold rfL
 rw [List.range_succ, List.foldl_append]
 rfl
theorem rfL_same {x : To} {S : List (Int × Int × Int)} {k t f : Nat} {r : Fnd} {n : Nat} : ∀ m, (∀ q, n ≤ q → q < n + m → trR x (rfL x S k t f r n) (S.set k ((t : Int), (f : Int), ((f + q : Nat) : Int))) = rfL x S k t f r n) → rfL x S k t f r (n + m) = rfL x S k t f r n
 | 0, _ => rfl
 | m + 1, h => by
  have ih := rfL_same m fun q h1 h2 => h q h1 (by omega)
  rw [show n + (m + 1) = n + m + 1 from by omega, rfL_succ, ih]
  exact h (n + m) (by omega) (by omega)
theorem rfL_alo {x : To} (hn : ToN x) {S : List (Int × Int × Int)} {k t f : Nat} {r : Fnd} (ht : 1 ≤ t ∧ t < x.T.length) (hk : k < S.length) : ∀ j, rfL x S k t f r ((twO x t).s1.toNat - 1 + j) = rpL x S k t f r (ALp x t f j)
 | 0 => by
  have hs := (twN_of hn ht.1 ht.2).s
  have := rfL_same (x := x) (S := S) (k := k) (t := t) (f := f) (r := r) (n := 0) ((twO x t).s1.toNat - 1) fun q h1 h2 => tr_not hk fun ⟨_, h3, _⟩ => by
   simp only [ts3, Bool.not_eq_false', fitB, inB, Bool.and_eq_true, decide_eq_true_eq] at h3
   omega
  rw [Nat.zero_add] at this
  rw [Nat.add_zero, this]
  simp [rfL, rpL, ALp]
 | j + 1 => by
  have hs := (twN_of hn ht.1 ht.2).s
  have ih := rfL_alo hn (r := r) (f := f) ht hk j
  have e : ((f : Int) + ((twO x t).s1 + j) - 1) = ((f + ((twO x t).s1.toNat - 1 + j) : Nat) : Int) := by omega
  rw [show (twO x t).s1.toNat - 1 + (j + 1) = (twO x t).s1.toNat - 1 + j + 1 from by omega, rfL_succ, ih]
  simp only [ALp]
  rw [e, Int.toNat_natCast]
  split
  · rw [rpL_snoc]
  · rename_i hb
    refine tr_not hk fun ⟨h2, h3, h4⟩ => hb ?_
    have h1 : ts1 x t = false := by simp [ts1, inB]; omega
    exact alo_of h1 h2 h3 h4
theorem rfL_eq {x : To} (hn : ToN x) {S : List (Int × Int × Int)} {k t f : Nat} {r : Fnd} (ht : 1 ≤ t ∧ t < x.T.length) (hk : k < S.length) (hf : f < x.days.toNat) : rfL x S k t f r (min x.days.toNat (f + 10) - f) = rpL x S k t f r (ALO x t f) := by
 have hs := (twN_of hn ht.1 ht.2).s
 have hd := hn.d
 have h1 := rfL_alo hn (r := r) (f := f) ht hk ((twO x t).s2 - (twO x t).s1 + 1).toNat
 have h2 : ALO x t f = ALp x t f ((twO x t).s2 - (twO x t).s1 + 1).toNat := by unfold ALO; rw [if_neg (by omega)]
 rw [h2, ← h1, show (twO x t).s1.toNat - 1 + ((twO x t).s2 - (twO x t).s1 + 1).toNat = (twO x t).s2.toNat from by omega]
 have hbig : ∀ q r, (twO x t).s2.toNat ≤ q → trR x r (S.set k ((t : Int), (f : Int), ((f + q : Nat) : Int))) = r := fun q r hq => tr_not hk fun ⟨_, h3, _⟩ => by
  simp only [ts3, Bool.not_eq_false', fitB, inB, Bool.and_eq_true, decide_eq_true_eq] at h3
  omega
 have hlate : ∀ q r, x.days.toNat ≤ f + q → trR x r (S.set k ((t : Int), (f : Int), ((f + q : Nat) : Int))) = r := fun q r hq => tr_not hk fun ⟨g2, g3, g4⟩ => by
  have h1 : ts1 x t = false := by simp [ts1, inB]; omega
  have hb : aloB x t f ((f + q : Nat) : Int) = true := alo_of h1 g2 g3 g4
  have := alo_last hn ht.1 ht.2 hb
  omega
 rcases Nat.le_total (min x.days.toNat (f + 10) - f) (twO x t).s2.toNat with h3 | h3
 · obtain ⟨m, hm⟩ : ∃ m, (twO x t).s2.toNat = min x.days.toNat (f + 10) - f + m := ⟨_, (Nat.add_sub_cancel' h3).symm⟩
   rw [hm]
   exact (rfL_same m fun q h4 h5 => hlate q _ (by omega)).symm
 · obtain ⟨m, hm⟩ : ∃ m, min x.days.toNat (f + 10) - f = (twO x t).s2.toNat + m := ⟨_, (Nat.add_sub_cancel' h3).symm⟩
   rw [hm]
   exact rfL_same m fun q h4 h5 => hbig q _ h4
def rpV (x : To) (S : List (Int × Int × Int)) (k : Int) : List (Int × Int × Int) × Int × Int :=
 if toB x = true then (if S.length ≤ 20 then (if fsO x S = [] then (if 0 ≤ k ∧ k < S.length then (match rpO x S k.toNat with
  | some b => (b.1, b.2 - pfO x S, 0)
  | none => ([], 0, 7)) else ([], 0, 2)) else ([], 0, 9)) else ([], 0, 3)) else ([], 0, 1)
end Go.Proofs.Ythfabodamhdhaaa
