/- The plain law of the best season: the most that may still be gained (home), with a stop in a town not yet played (begin); its bounds. -/
import Derived.Test.YthfabodamhdhaaaRB
namespace Go.Proofs.Ythfabodamhdhaaa
open Go Tx Go.RowKit
set_option linter.unusedSimpArgs false
set_option linter.unusedVariables false
def unp (n S : Nat) : Nat := ((List.range n).filter fun t => !(S.testBit (t + 1))).length
section
variable (x : To) (AL : Nat → Nat → List Nat)
def csO (x : To) (f t : Nat) : Int := (lgO x f t).2
def lsN (x : To) (f t : Nat) : Nat := (lsO x f t).toNat
def bgF (hm : Nat → Nat → Nat → Int) (S a : Nat) : Nat → Nat → Int
 | 0, _ => -1000000000000
 | m + 1, d => (AL a d).foldl (fun (n : Int) (l : Nat) => imax n (gnO x a d l + hm (S ||| 2 ^ a) a (l + 1))) (bgF hm S a m (d + 1))
def bsO (S a d : Nat) : Int := if S = 0 then 0 else if lsO x a 0 + d ≤ x.days then -csO x a 0 else -1000000000000
def hmF : Nat → Nat → Nat → Nat → Int
 | 0, S, a, d => bsO x S a d
 | k + 1, S, a, d => (List.range (x.T.length - 1)).foldl (fun (n : Int) (t : Nat) => if S.testBit (t + 1) = true then n else imax n (bgF x AL (hmF k) S (t + 1) (x.days.toNat - (d + lsN x a (t + 1))) (d + lsN x a (t + 1)) - csO x a (t + 1))) (bsO x S a d)
def hmO (S a d : Nat) : Int := hmF x AL (unp (x.T.length - 1) S) S a d
def bgO (S a d : Nat) : Int := bgF x AL (hmO x AL) S a (x.days.toNat - d) d
end
theorem unp_or {n S t : Nat} (ht : t < n) (hS : S.testBit (t + 1) = false) : unp n (S ||| 2 ^ (t + 1)) + 1 = unp n S := by
 have key : ∀ l : List Nat, l.Nodup → t ∈ l → (l.filter fun u => !((S ||| 2 ^ (t + 1)).testBit (u + 1))).length + 1 = (l.filter fun u => !(S.testBit (u + 1))).length := by
  intro l
  induction l with
  | nil => intro _ h; cases h
  | cons a l ih =>
   intro hn hm
   rw [List.nodup_cons] at hn
   by_cases ha : a = t
   · subst ha
     have e : (l.filter fun u => !((S ||| 2 ^ (a + 1)).testBit (u + 1))) = l.filter fun u => !(S.testBit (u + 1)) := List.filter_congr fun u hu => by
      have : u ≠ a := fun e => hn.1 (e ▸ hu)
      rw [Nat.testBit_or, Nat.testBit_two_pow, decide_eq_false (by omega), Bool.or_false]
     rw [List.filter_cons, List.filter_cons, e]
     simp [hS, Nat.testBit_or, Nat.testBit_two_pow]
   · rcases List.mem_cons.1 hm with h | h
     · exact absurd h.symm ha
     · have := ih hn.2 h
       rw [List.filter_cons, List.filter_cons]
       have e : (S ||| 2 ^ (t + 1)).testBit (a + 1) = S.testBit (a + 1) := by
        rw [Nat.testBit_or, Nat.testBit_two_pow, decide_eq_false (by omega), Bool.or_false]
       rw [e]
       split
       · simp only [List.length_cons]; omega
       · exact this
 exact key _ List.nodup_range (List.mem_range.2 ht)
theorem bgF_congr {x : To} {AL : Nat → Nat → List Nat} {hm hm' : Nat → Nat → Nat → Int} {S a : Nat} (h : ∀ d, hm (S ||| 2 ^ a) a d = hm' (S ||| 2 ^ a) a d) : ∀ m d, bgF x AL hm S a m d = bgF x AL hm' S a m d
 | 0, _ => rfl
 | m + 1, d => by
  simp only [bgF]
  rw [bgF_congr h m (d + 1)]
  congr 1
  funext n l
  rw [h]
theorem foldl_congr {α : Type} {f g : Int → α → Int} : ∀ {l : List α} {n : Int}, (∀ n, ∀ t ∈ l, f n t = g n t) → l.foldl f n = l.foldl g n
 | [], _, _ => rfl
 | a :: l, n, h => by
  rw [List.foldl_cons, List.foldl_cons, h n a (List.mem_cons_self ..)]
  exact foldl_congr fun n t ht => h n t (List.mem_cons_of_mem _ ht)
theorem hmO_eq (x : To) (AL : Nat → Nat → List Nat) (S a d : Nat) : hmO x AL S a d = (List.range (x.T.length - 1)).foldl (fun (n : Int) (t : Nat) => if S.testBit (t + 1) = true then n else imax n (bgO x AL S (t + 1) (d + lsN x a (t + 1)) - csO x a (t + 1))) (bsO x S a d) := by
 unfold hmO
 cases hu : unp (x.T.length - 1) S with
 | zero =>
  have hall : ∀ t ∈ List.range (x.T.length - 1), S.testBit (t + 1) = true := fun t ht => by
   cases hb : S.testBit (t + 1) with
   | true => rfl
   | false =>
    have := unp_or (List.mem_range.1 ht) hb
    omega
  have : ∀ (l : List Nat) (n : Int), (∀ t ∈ l, S.testBit (t + 1) = true) → l.foldl (fun (n : Int) (t : Nat) => if S.testBit (t + 1) = true then n else imax n (bgO x AL S (t + 1) (d + lsN x a (t + 1)) - csO x a (t + 1))) n = n := by
   intro l
   induction l with
   | nil => intro n _; rfl
   | cons t l ih =>
    intro n h
    rw [List.foldl_cons, if_pos (h t (List.mem_cons_self ..))]
    exact ih n fun u hu => h u (List.mem_cons_of_mem _ hu)
  rw [this _ _ hall]; rfl
 | succ k =>
  simp only [hmF]
  refine foldl_congr fun n t ht => ?_
  cases hb : S.testBit (t + 1) with
  | true => rw [if_pos rfl, if_pos rfl]
  | false =>
   rw [if_neg (by decide), if_neg (by decide)]
   have hu2 := unp_or (List.mem_range.1 ht) hb
   unfold bgO
   congr 2
   exact bgF_congr (fun d => by unfold hmO; rw [show unp (x.T.length - 1) (S ||| 2 ^ (t + 1)) = k from by omega]) _ _
theorem bgO_end (x : To) (AL : Nat → Nat → List Nat) (S a d : Nat) (h : x.days.toNat ≤ d) : bgO x AL S a d = -1000000000000 := by
 unfold bgO; rw [show x.days.toNat - d = 0 from by omega]; rfl
theorem bgO_step (x : To) (AL : Nat → Nat → List Nat) (S a d : Nat) (h : d < x.days.toNat) : bgO x AL S a d = (AL a d).foldl (fun (n : Int) (l : Nat) => imax n (gnO x a d l + hmO x AL (S ||| 2 ^ a) a (l + 1))) (bgO x AL S a (d + 1)) := by
 unfold bgO; rw [show x.days.toNat - d = (x.days.toNat - (d + 1)) + 1 from by omega]; rfl
def AlOk (x : To) (AL : Nat → Nat → List Nat) : Prop := ∀ a d, 1 ≤ a → a < x.T.length → ∀ l ∈ AL a d, d ≤ l ∧ l < d + 10 ∧ (l : Int) < x.days
theorem gn_bd {x : To} (h : ToN x) {a d l : Nat} (ha : 1 ≤ a) (hl : d ≤ l ∧ l < d + 10) : -10000000 ≤ gnO x a d l ∧ gnO x a d l ≤ 10000000 := by
 unfold gnO
 cases ht : x.T[a]? with
 | none => simp
 | some t =>
  have := (TwN.of (h.t a ha t ht)).gn d ((l : Int) + 1 - d).toNat
  dsimp only
  omega
theorem hm_bd {x : To} {AL : Nat → Nat → List Nat} (h : ToN x) (hA : AlOk x AL) : ∀ k S, unp (x.T.length - 1) S = k →
 (∀ a d, -1000000000000 ≤ hmO x AL S a d ∧ hmO x AL S a d ≤ 10000000 * (k : Int)) ∧ ∀ a d, 1 ≤ a → a < x.T.length → S.testBit a = false → -1000000000000 ≤ bgO x AL S a d ∧ bgO x AL S a d ≤ 10000000 * (k : Int) := by
 intro k
 induction k with
 | zero =>
  intro S hS
  have hbt : ∀ a, 1 ≤ a → a < x.T.length → S.testBit a = true := fun a h1 h2 => by
   cases hb : S.testBit a with
   | true => rfl
   | false =>
    have := unp_or (n := x.T.length - 1) (t := a - 1) (S := S) (by omega) (by rwa [show a - 1 + 1 = a from by omega])
    omega
  refine ⟨fun a d => ?_, fun a d h1 h2 h3 => by rw [hbt a h1 h2] at h3; cases h3⟩
  unfold hmO
  rw [hS]
  simp only [hmF, bsO]
  have hc := (h.leg a 0).2
  have : csO x a 0 = (lgO x a 0).2 := rfl
  split
  · omega
  · split <;> omega
 | succ k ih =>
  intro S hS
  have hB : ∀ a, 1 ≤ a → a < x.T.length → S.testBit a = false → ∀ m d, x.days.toNat - d = m → -1000000000000 ≤ bgO x AL S a d ∧ bgO x AL S a d ≤ 10000000 * ((k + 1 : Nat) : Int) := by
   intro a h1 h2 h3 m
   have hu := unp_or (n := x.T.length - 1) (t := a - 1) (S := S) (by omega) (by rwa [show a - 1 + 1 = a from by omega])
   rw [show a - 1 + 1 = a from by omega] at hu
   have hh := (ih (S ||| 2 ^ a) (by omega)).1
   induction m with
   | zero =>
    intro d hd
    rw [bgO_end x AL S a d (by omega)]
    omega
   | succ m ihm =>
    intro d hd
    rw [bgO_step x AL S a d (by omega)]
    have h0 := ihm (d + 1) (by omega)
    have hfold : ∀ (L : List Nat) (n : Int), (∀ l ∈ L, d ≤ l ∧ l < d + 10) → -1000000000000 ≤ n ∧ n ≤ 10000000 * ((k + 1 : Nat) : Int) →
     -1000000000000 ≤ L.foldl (fun (n : Int) (l : Nat) => imax n (gnO x a d l + hmO x AL (S ||| 2 ^ a) a (l + 1))) n ∧ L.foldl (fun (n : Int) (l : Nat) => imax n (gnO x a d l + hmO x AL (S ||| 2 ^ a) a (l + 1))) n ≤ 10000000 * ((k + 1 : Nat) : Int) := by
     intro L
     induction L with
     | nil => intro n _ hn; exact hn
     | cons l L ihL =>
      intro n hL hn
      rw [List.foldl_cons]
      refine ihL _ (fun l hl => hL l (List.mem_cons_of_mem _ hl)) ?_
      have g := gn_bd h h1 (hL l (List.mem_cons_self ..))
      have hx := hh a (l + 1)
      rw [imax_eq]
      omega
    exact hfold _ _ (fun l hl => ⟨(hA a d h1 h2 l hl).1, (hA a d h1 h2 l hl).2.1⟩) h0
  refine ⟨fun a d => ?_, fun a d h1 h2 h3 => hB a h1 h2 h3 _ d rfl⟩
  rw [hmO_eq]
  have hb0 : -1000000000000 ≤ bsO x S a d ∧ bsO x S a d ≤ 10000000 * ((k + 1 : Nat) : Int) := by
   have hc := (h.leg a 0).2
   have : csO x a 0 = (lgO x a 0).2 := rfl
   unfold bsO
   split
   · omega
   · split <;> omega
  have hfold : ∀ (L : List Nat) (n : Int), (∀ t ∈ L, t < x.T.length - 1) → -1000000000000 ≤ n ∧ n ≤ 10000000 * ((k + 1 : Nat) : Int) →
   -1000000000000 ≤ L.foldl (fun (n : Int) (t : Nat) => if S.testBit (t + 1) = true then n else imax n (bgO x AL S (t + 1) (d + lsN x a (t + 1)) - csO x a (t + 1))) n ∧ L.foldl (fun (n : Int) (t : Nat) => if S.testBit (t + 1) = true then n else imax n (bgO x AL S (t + 1) (d + lsN x a (t + 1)) - csO x a (t + 1))) n ≤ 10000000 * ((k + 1 : Nat) : Int) := by
   intro L
   induction L with
   | nil => intro n _ hn; exact hn
   | cons t L ihL =>
    intro n hL hn
    rw [List.foldl_cons]
    refine ihL _ (fun l hl => hL l (List.mem_cons_of_mem _ hl)) ?_
    cases hb : S.testBit (t + 1) with
    | true => rw [if_pos rfl]; exact hn
    | false =>
     rw [if_neg (by decide)]
     have := hB (t + 1) (by omega) (by have := hL t (List.mem_cons_self ..); omega) hb _ (d + lsN x a (t + 1)) rfl
     have hc := (h.leg a (t + 1)).2
     have : csO x a (t + 1) = (lgO x a (t + 1)).2 := rfl
     rw [imax_eq]
     omega
  exact hfold _ _ (fun t ht => List.mem_range.1 ht) hb0
theorem unp_le (n S : Nat) : unp n S ≤ n := by
 unfold unp
 have := List.length_filter_le (fun t => !(S.testBit (t + 1))) (List.range n)
 simpa using this
theorem hmO_bd {x : To} {AL : Nat → Nat → List Nat} (h : ToN x) (hA : AlOk x AL) (S a d : Nat) : -1000000000000 ≤ hmO x AL S a d ∧ hmO x AL S a d ≤ 100000000 := by
 have := (hm_bd h hA _ S rfl).1 a d
 have h1 := unp_le (x.T.length - 1) S
 have h2 := h.n
 omega
theorem bgO_bd {x : To} {AL : Nat → Nat → List Nat} (h : ToN x) (hA : AlOk x AL) (S a d : Nat) (h1 : 1 ≤ a) (h2 : a < x.T.length) (h3 : S.testBit a = false) : -1000000000000 ≤ bgO x AL S a d ∧ bgO x AL S a d ≤ 100000000 := by
 have := (hm_bd h hA _ S rfl).2 a d h1 h2 h3
 have h1 := unp_le (x.T.length - 1) S
 have h2 := h.n
 omega
end Go.Proofs.Ythfabodamhdhaaa
