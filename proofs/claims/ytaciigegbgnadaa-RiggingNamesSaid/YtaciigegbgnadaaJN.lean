/- Room: what may hang at a place besides, found by halves. -/
import Derived.Test.YtaciigegbgnadaaJM
namespace Go.Proofs.Ytaciigegbgnadaa
open Go Tx Go.RowKit
set_option linter.unusedSimpArgs false
set_option linter.unusedVariables false

/-- The search by halves. -/
def bs (p : Int → Bool) : Nat → Nat → Nat → Nat
  | 0, lo, _ => lo
  | f + 1, lo, hi => if lo < hi then (if p (((lo + hi + 1) / 2 : Nat) : Int) = true then bs p f ((lo + hi + 1) / 2) hi else bs p f lo ((lo + hi + 1) / 2 - 1)) else lo
theorem bs_done (p : Int → Bool) : ∀ (f lo hi : Nat), ¬ lo < hi → bs p f lo hi = lo
  | 0, _, _, _ => rfl
  | f + 1, lo, hi, h => by rw [bs, if_neg h]
theorem bs_fuel (p : Int → Bool) : ∀ (f g lo hi : Nat), hi - lo ≤ f → hi - lo ≤ g → bs p f lo hi = bs p g lo hi := by
  intro f
  induction f with
  | zero => intro g lo hi h1 h2; rw [bs_done p 0 lo hi (by omega), bs_done p g lo hi (by omega)]
  | succ f ih =>
    intro g lo hi h1 h2
    cases g with
    | zero => rw [bs_done p (f + 1) lo hi (by omega), bs_done p 0 lo hi (by omega)]
    | succ g =>
      rw [bs, bs]
      split
      · split
        · exact ih g _ _ (by omega) (by omega)
        · exact ih g _ _ (by omega) (by omega)
      · rfl
theorem bs_step (p : Int → Bool) (lo hi : Nat) (h : lo < hi) : bs p (hi - lo) lo hi = if p (((lo + hi + 1) / 2 : Nat) : Int) = true then bs p (hi - (lo + hi + 1) / 2) ((lo + hi + 1) / 2) hi else bs p ((lo + hi + 1) / 2 - 1 - lo) lo ((lo + hi + 1) / 2 - 1) := by
  obtain ⟨f, hf⟩ : ∃ f, hi - lo = f + 1 := ⟨hi - lo - 1, by omega⟩
  rw [hf, bs, if_pos h]
  split
  · exact bs_fuel p _ _ _ _ (by omega) (by omega)
  · exact bs_fuel p _ _ _ _ (by omega) (by omega)
/-- What it finds is right, the next number is not. -/
theorem bs_spec (p : Int → Bool) (M : Nat) : ∀ (f lo hi : Nat), hi - lo ≤ f → lo ≤ hi → hi ≤ M → p lo = true → (hi = M ∨ p ((hi + 1 : Nat) : Int) = false) → lo ≤ bs p f lo hi ∧ bs p f lo hi ≤ hi ∧ p (bs p f lo hi) = true ∧ (bs p f lo hi = M ∨ p ((bs p f lo hi + 1 : Nat) : Int) = false) := by
  intro f
  induction f with
  | zero => intro lo hi h1 h2 h3 h4 h5; obtain rfl : lo = hi := by omega
            exact ⟨Nat.le_refl _, Nat.le_refl _, h4, h5⟩
  | succ f ih =>
    intro lo hi h1 h2 h3 h4 h5
    rw [bs]
    split
    · rename_i hlt
      split
      · rename_i hp
        have := ih _ hi (by omega) (by omega) h3 hp h5
        exact ⟨by omega, this.2⟩
      · rename_i hp
        have := ih lo ((lo + hi + 1) / 2 - 1) (by omega) (by omega) (by omega) h4 (.inr (by rw [show (lo + hi + 1) / 2 - 1 + 1 = (lo + hi + 1) / 2 from by omega]; simpa using hp))
        exact ⟨this.1, by omega, this.2.2⟩
    · obtain rfl : lo = hi := by omega
      exact ⟨Nat.le_refl _, Nat.le_refl _, h4, h5⟩
/-- The error of Room, and what it finds. -/
def rmE (r : Rig) (PP : List Int) (BB : List Bm) (LL : List Ld) (b a : Int) (kd : Nat) : Int :=
  if rigOk r.f0 r.f1 r.f2 PP BB LL = true then (if hasB PP.length b a BB.length = true ∧ kd ≤ 2 then (if LL.length < 20 then (if sfB r PP BB LL b a kd 0 = true then 0 else 9) else 3) else 2) else 1
def rmV (r : Rig) (PP : List Int) (BB : List Bm) (LL : List Ld) (b a : Int) (kd : Nat) : Int :=
  if rmE r PP BB LL b a kd = 0 then (bs (sfB r PP BB LL b a kd) 1000000 0 1000000 : Int) else 0

set_option maxHeartbeats 8000000 in
set_option maxRecDepth 100000 in
theorem Room_ok (r : Rig) (PP : List Int) (BB : List Bm) (LL : List Ld) (b a : Int) (kd : Nat) (w : World) (h : RigIn r PP BB LL w) (hnil : LL = [] → r.lo = none ∧ r.lc = 0) (hkd : kd ≤ 255) :
    Calls Try.prog 49 #[r.v, .agg #[iv b, iv a], .int .u8 kd] w fun e w' => e = .returned (.tuple #[iv (rmV r PP BB LL b a kd), iv (rmE r PP BB LL b a kd)]) ∧ Below w.heap.size w w' := by
  have hv := fun (w' : World) (hb : Below w.heap.size w w') => valid_ok r PP BB LL w' (h.below hb)
  have h78 := fun (w' : World) (n : Int) (hn : 0 ≤ n ∧ n ≤ 1000000) => has78_ok r b a n w' (by have := h.pn; have := h.pl; omega) hn
  have h79 := fun (hr : rigOk r.f0 r.f1 r.f2 PP BB LL = true) (hh : hasB PP.length b a BB.length = true) (hk : kd ≤ 2) (hl : LL.length < 20) (n : Int) (hn : 0 ≤ n ∧ n ≤ 1000000) (x y z : Nat) (tx ty tz : TypeId) (w' : World) (hb : Below w.heap.size w w') (hx : w'.heap[x]? = some (.cells r.cs.toArray tx (0, 0))) (hy : w'.heap[y]? = some (.cells #[iv b, iv a] ty (0, 0))) (hz : w'.heap[z]? = some (.cells #[.int .u8 kd] tz (0, 0))) =>
    Room1_ok r PP BB LL b a kd n ⟨x, 0, none⟩ ⟨y, 0, none⟩ ⟨z, 0, none⟩ w' (h.below hb) hr hnil
      (fun j v hj => by rw [own_add, Nat.zero_add, cell_of_row w' x _ _ tx (0, 0) hx, List.getElem?_toArray]; exact hj)
      (fun j v hj => by rw [own_add, Nat.zero_add, cell_of_row w' y _ _ ty (0, 0) hy]; simpa using hj)
      (fun j v hj => by rw [own_add, Nat.zero_add, cell_of_row w' z _ _ tz (0, 0) hz]; simpa using hj) hh hk hn hl
  have hpn := h.pn
  have hbn := h.bn
  have hln := h.ln
  have bl := h.bl
  have ll := h.ll
  unfold rmV
  generalize hE : rmE r PP BB LL b a kd = E
  unfold rmE at hE
  generalize hS : sfB r PP BB LL b a kd = S at *
  obtain ⟨po, pn, pc, bo, bn, bc, f0, f1, f2, lo, ln, lc⟩ := r
  dsimp only at hv h78 h79 hpn hbn hln hE
  subst hpn
  subst hbn
  subst hln
  have h78 := fun (w' : World) => h78 w' BB.length (by omega)
  refine calls_val env mixed Try.func49 has49 Try.ntmps49 [.agg #[.slice po PP.length pc, .slice bo BB.length bc, iv f0, iv f1, iv f2, .slice lo LL.length lc], .agg #[iv b, iv a], .int .u8 kd] (by simp) ?_
  cases hr : rigOk f0 f1 f2 PP BB LL with
  | false =>
    rw [hr] at hv
    rw [hr, if_neg (by simp)] at hE
    subst hE
    rw [if_neg (by omega)]
    repeat'
     conv => whnf
     first
      | refine zA ?_ | refine zB ?_ | refine zC ?_ | refine zD ?_ | refine zE ?_ | refine zF ?_ | refine zG ?_ | refine zH ?_ | refine zI ?_ | refine splT ?_ | refine splF ?_ | refine splNot ?_
      | ((first | refine splIn (fun hc => ?_) (fun hc => ?_) | refine splD (fun hc => ?_) (fun hc => ?_) | refine splE (fun hc => ?_) (fun hc => ?_) | refine splNE (fun hc => ?_) (fun hc => ?_)) <;> first | (exfalso; omega) | (exfalso; dsimp only at hc; omega) | skip)
      | ((with_reducible show CallEv _ _ 67 _ _ _ _ _); refine callE (k := 67) (fun β w' hbw => hv _ hbw) ?_)
    all_goals first | (exfalso; omega) | exact ⟨fun β => rfl, fun w' h => h⟩
  | true =>
    rw [hr] at hv
    rw [hr, if_pos rfl] at hE
    cases hh : hasB PP.length b a BB.length with
    | false =>
      rw [hh] at h78
      rw [hh, if_neg (by simp)] at hE
      subst hE
      rw [if_neg (by omega)]
      repeat'
       conv => whnf
       first
        | refine zA ?_ | refine zB ?_ | refine zC ?_ | refine zD ?_ | refine zE ?_ | refine zF ?_ | refine zG ?_ | refine zH ?_ | refine zI ?_ | refine splT ?_ | refine splF ?_ | refine splNot ?_
        | ((first | refine splIn (fun hc => ?_) (fun hc => ?_) | refine splD (fun hc => ?_) (fun hc => ?_) | refine splE (fun hc => ?_) (fun hc => ?_) | refine splNE (fun hc => ?_) (fun hc => ?_)) <;> first | (exfalso; omega) | (exfalso; dsimp only at hc; omega) | skip)
        | ((with_reducible show CallEv _ _ 67 _ _ _ _ _); refine callE (k := 67) (fun β w' hbw => hv _ hbw) ?_)
        | ((with_reducible show CallEv _ _ 78 _ _ _ _ _); refine callE (k := 78) (fun β w' hbw => h78 _) ?_)
      all_goals first | (exfalso; omega) | exact ⟨fun β => rfl, fun w' h => h⟩
    | true =>
      rw [hh] at h78 hE
      by_cases hk : kd ≤ 2
      case neg =>
        rw [if_neg (fun hc => hk hc.2)] at hE
        subst hE
        rw [if_neg (by omega)]
        repeat'
         conv => whnf
         first
          | refine zA ?_ | refine zB ?_ | refine zC ?_ | refine zD ?_ | refine zE ?_ | refine zF ?_ | refine zG ?_ | refine zH ?_ | refine zI ?_ | refine splT ?_ | refine splF ?_ | refine splNot ?_
          | ((first | refine splIn (fun hc => ?_) (fun hc => ?_) | refine splD (fun hc => ?_) (fun hc => ?_) | refine splE (fun hc => ?_) (fun hc => ?_) | refine splNE (fun hc => ?_) (fun hc => ?_)) <;> first | (exfalso; omega) | (exfalso; dsimp only at hc; omega) | skip)
          | ((with_reducible show CallEv _ _ 67 _ _ _ _ _); refine callE (k := 67) (fun β w' hbw => hv _ hbw) ?_)
          | ((with_reducible show CallEv _ _ 78 _ _ _ _ _); refine callE (k := 78) (fun β w' hbw => h78 _) ?_)
        all_goals first | (exfalso; omega) | exact ⟨fun β => rfl, fun w' h => h⟩
      rw [if_pos ⟨rfl, hk⟩] at hE
      by_cases hl : LL.length < 20
      case neg =>
        rw [if_neg hl] at hE
        subst hE
        rw [if_neg (by omega)]
        repeat'
         conv => whnf
         first
          | refine zA ?_ | refine zB ?_ | refine zC ?_ | refine zD ?_ | refine zE ?_ | refine zF ?_ | refine zG ?_ | refine zH ?_ | refine zI ?_ | refine splT ?_ | refine splF ?_ | refine splNot ?_
          | ((first | refine splIn (fun hc => ?_) (fun hc => ?_) | refine splD (fun hc => ?_) (fun hc => ?_) | refine splE (fun hc => ?_) (fun hc => ?_) | refine splNE (fun hc => ?_) (fun hc => ?_)) <;> first | (exfalso; omega) | (exfalso; dsimp only at hc; omega) | skip)
          | ((with_reducible show CallEv _ _ 67 _ _ _ _ _); refine callE (k := 67) (fun β w' hbw => hv _ hbw) ?_)
          | ((with_reducible show CallEv _ _ 78 _ _ _ _ _); refine callE (k := 78) (fun β w' hbw => h78 _) ?_)
        all_goals first | (exfalso; omega) | exact ⟨fun β => rfl, fun w' h => h⟩
      rw [if_pos hl] at hE
      have h79 := h79 hr hh hk hl
      have h79z := h79 0 (by omega)
      cases hs : S 0 with
      | false =>
        rw [hs] at h79z
        rw [hs, if_neg (by simp)] at hE
        subst hE
        rw [if_neg (by omega)]
        repeat'
         conv => whnf
         first
          | refine zA ?_ | refine zB ?_ | refine zC ?_ | refine zD ?_ | refine zE ?_ | refine zF ?_ | refine zG ?_ | refine zH ?_ | refine zI ?_ | refine splT ?_ | refine splF ?_ | refine splNot ?_
          | ((first | refine splIn (fun hc => ?_) (fun hc => ?_) | refine splD (fun hc => ?_) (fun hc => ?_) | refine splE (fun hc => ?_) (fun hc => ?_) | refine splNE (fun hc => ?_) (fun hc => ?_)) <;> first | (exfalso; omega) | (exfalso; dsimp only at hc; omega) | skip)
          | ((with_reducible show CallEv _ _ 67 _ _ _ _ _); refine callE (k := 67) (fun β w' hbw => hv _ hbw) ?_)
          | ((with_reducible show CallEv _ _ 78 _ _ _ _ _); refine callE (k := 78) (fun β w' hbw => h78 _) ?_)
          | ((with_reducible show CallEv _ _ 79 _ _ _ _ _); refine callM (k := 79) [0, 1, 2] (fun β w' hbk hbw => h79z _ _ _ 58 67 5 w' hbw (hbk 0 (by simp) _ rfl) (hbk 1 (by simp) _ rfl) (hbk 2 (by simp) _ rfl)) ?_)
        all_goals first | (exfalso; omega) | exact ⟨fun β => rfl, fun w' h => h⟩
      | true =>
        rw [hs] at h79z
        rw [hs, if_pos rfl] at hE
        subst hE
        rw [if_pos rfl]
        repeat'
         conv => whnf
         first
          | refine zA ?_ | refine zB ?_ | refine zC ?_ | refine zD ?_ | refine zE ?_ | refine zF ?_ | refine zG ?_ | refine zH ?_ | refine zI ?_ | refine splT ?_ | refine splF ?_ | refine splNot ?_
          | ((first | refine splIn (fun hc => ?_) (fun hc => ?_) | refine splD (fun hc => ?_) (fun hc => ?_) | refine splE (fun hc => ?_) (fun hc => ?_) | refine splNE (fun hc => ?_) (fun hc => ?_)) <;> first | (exfalso; omega) | (exfalso; dsimp only at hc; omega) | skip)
          | ((with_reducible show CallEv _ _ 67 _ _ _ _ _); refine callE (k := 67) (fun β w' hbw => hv _ hbw) ?_)
          | ((with_reducible show CallEv _ _ 78 _ _ _ _ _); refine callE (k := 78) (fun β w' hbw => h78 _) ?_)
          | ((with_reducible show CallEv _ _ 79 _ _ _ _ _); refine callM (k := 79) [0, 1, 2] (fun β w' hbk hbw => h79z _ _ _ 58 67 5 w' hbw (hbk 0 (by simp) _ rfl) (hbk 1 (by simp) _ rfl) (hbk 2 (by simp) _ rfl)) ?_)
        all_goals first | (exfalso; omega) | skip
        refine loopN2 3 (fun (x y : Nat) => [(8, .fn (.func 79) [.ptr 0 0, .ptr 1 0, .ptr 2 0]), (9, .v (iv x)), (10, .v (iv y))]) (fun _ _ => [(0, .cells [.v (.slice po PP.length pc), .v (.slice bo BB.length bc), .v (iv f0), .v (iv f1), .v (iv f2), .v (.slice lo LL.length lc)] 58), (1, .cells [.v (iv b), .v (iv a)] 67), (2, .cells [.v (.int .u8 kd)] 5)])
          (fun x y => x ≤ y ∧ y ≤ 1000000 ∧ bs S 1000000 0 1000000 = bs S (y - x) x y) (fun x y => y - x) 0 1000000 ⟨by omega, by omega, rfl⟩ ⟨rfl, rfl, rfl, trivial⟩ ⟨rfl, rfl, rfl, trivial⟩ (fun _ _ _ => ⟨rfl, rfl⟩) ?_
        intro x y ⟨hx, hy, hR⟩
        rcases Nat.lt_or_ge x y with hxy | hxy
        · rw [bs_step S x y hxy] at hR
          have hm : ((x : Int) + y + 1) / 2 = (((x + y + 1) / 2 : Nat) : Int) := by omega
          obtain ⟨m, hmm⟩ : ∃ m : Nat, (x + y + 1) / 2 = m := ⟨_, rfl⟩
          rw [hmm] at hR hm
          have h79m := h79 m (by omega)
          cases hsm : S m <;> rw [hsm] at hR h79m
          · rw [if_neg (by simp)] at hR
            have hm1 : (m : Int) - 1 = ((m - 1 : Nat) : Int) := by omega
            repeat'
             conv => whnf
             first
              | refine zA ?_ | refine zB ?_ | refine zC ?_ | refine zD ?_ | refine zE ?_ | refine zF ?_ | refine zG ?_ | refine zH ?_ | refine zI ?_ | refine splT ?_ | refine splF ?_ | refine splNot ?_
              | ((first | refine splIn (fun hc => ?_) (fun hc => ?_) | refine splD (fun hc => ?_) (fun hc => ?_) | refine splE (fun hc => ?_) (fun hc => ?_) | refine splNE (fun hc => ?_) (fun hc => ?_)) <;> first | (exfalso; omega) | (exfalso; dsimp only at hc; omega) | skip)
              | (refine quoE (by omega) (by omega) (And.intro (by omega) (by omega)) ?_; rw [hm])
              | ((with_reducible show CallEv _ _ 79 _ _ _ _ _); refine callM (k := 79) [0, 1, 2] (fun β w' hbk hbw => h79m _ _ _ 58 67 5 w' hbw (hbk 0 (by simp) _ rfl) (hbk 1 (by simp) _ rfl) (hbk 2 (by simp) _ rfl)) ?_)
            all_goals first | (exfalso; omega) | exact ⟨x, m - 1, ⟨by omega, by omega, hR⟩, by omega, Ent.weak rfl ⟨rfl, rfl, by rw [← hm1]; rfl, trivial⟩ ⟨rfl, rfl, rfl, trivial⟩ fun _ h => h⟩
          · rw [if_pos rfl] at hR
            repeat'
             conv => whnf
             first
              | refine zA ?_ | refine zB ?_ | refine zC ?_ | refine zD ?_ | refine zE ?_ | refine zF ?_ | refine zG ?_ | refine zH ?_ | refine zI ?_ | refine splT ?_ | refine splF ?_ | refine splNot ?_
              | ((first | refine splIn (fun hc => ?_) (fun hc => ?_) | refine splD (fun hc => ?_) (fun hc => ?_) | refine splE (fun hc => ?_) (fun hc => ?_) | refine splNE (fun hc => ?_) (fun hc => ?_)) <;> first | (exfalso; omega) | (exfalso; dsimp only at hc; omega) | skip)
              | (refine quoE (by omega) (by omega) (And.intro (by omega) (by omega)) ?_; rw [hm])
              | ((with_reducible show CallEv _ _ 79 _ _ _ _ _); refine callM (k := 79) [0, 1, 2] (fun β w' hbk hbw => h79m _ _ _ 58 67 5 w' hbw (hbk 0 (by simp) _ rfl) (hbk 1 (by simp) _ rfl) (hbk 2 (by simp) _ rfl)) ?_)
            all_goals first | (exfalso; omega) | exact ⟨m, y, ⟨by omega, by omega, hR⟩, by omega, Ent.weak rfl ⟨rfl, rfl, rfl, trivial⟩ ⟨rfl, rfl, rfl, trivial⟩ fun _ h => h⟩
        · rw [bs_done S _ x y (by omega)] at hR
          rw [hR]
          repeat'
           conv => whnf
           first
            | refine zA ?_ | refine zB ?_ | refine zC ?_ | refine zD ?_ | refine zE ?_ | refine zF ?_ | refine zG ?_ | refine zH ?_ | refine zI ?_ | refine splT ?_ | refine splF ?_ | refine splNot ?_
            | ((first | refine splIn (fun hc => ?_) (fun hc => ?_) | refine splD (fun hc => ?_) (fun hc => ?_) | refine splE (fun hc => ?_) (fun hc => ?_) | refine splNE (fun hc => ?_) (fun hc => ?_)) <;> first | (exfalso; omega) | (exfalso; dsimp only at hc; omega) | skip)
          all_goals first | (exfalso; omega) | exact ⟨fun β => rfl, fun w' h => h⟩
end Go.Proofs.Ytaciigegbgnadaa
