/- The plain law of frames: what each part is given of a force at a place, told one by one, is what the frame's rows tell. -/
import Derived.Test.YtaciigegbgnadaaIA
namespace Go.Proofs.Ytaciigegbgnadaa
open Go Tx Go.RowKit
set_option linter.unusedSimpArgs false
set_option linter.unusedVariables false

def sumI : Nat → (Nat → Int) → Int
  | 0, _ => 0
  | n + 1, f => sumI n f + f n
theorem sumI_congr {f g : Nat → Int} : ∀ {n : Nat}, (∀ j, j < n → f j = g j) → sumI n f = sumI n g
  | 0, _ => rfl
  | n + 1, h => by rw [sumI, sumI, sumI_congr fun j hj => h j (by omega), h n (by omega)]
theorem sumI_add {f g : Nat → Int} : ∀ n, sumI n (fun j => f j + g j) = sumI n f + sumI n g
  | 0 => rfl
  | n + 1 => by rw [sumI, sumI, sumI, sumI_add n]; omega
theorem sumI_zero {f : Nat → Int} (h : ∀ j, f j = 0) : ∀ n, sumI n f = 0
  | 0 => rfl
  | n + 1 => by rw [sumI, sumI_zero h n, h]; rfl
theorem sumI_mul {f : Nat → Int} (k : Int) : ∀ n, sumI n (fun j => k * f j) = k * sumI n f
  | 0 => by simp [sumI]
  | n + 1 => by rw [sumI, sumI, sumI_mul k n, Int.mul_add]
/-- One summand changed. -/
theorem sumI_upd {f g : Nat → Int} {k : Nat} {d : Int} (h1 : ∀ j, j ≠ k → g j = f j) (h2 : g k = f k + d) : ∀ {n : Nat}, k < n → sumI n g = sumI n f + d
  | n + 1, hk => by
    rw [sumI, sumI]
    by_cases h : k = n
    · subst h
      rw [h2, sumI_congr (f := g) (g := f) fun j hj => h1 j (by omega)]; omega
    · rw [sumI_upd h1 h2 (show k < n by omega), h1 n (by omega)]; omega

/-- What a force at a place gives a part. -/
def gvR (m : Bm) (a f : Int) : Int := f.tdiv (m.hi - m.lo) * (a - m.lo)
def gv (BB : List Bm) : Nat → Int → Int → Int → Int × Int → Int
  | 0, _, _, _, _ => 0
  | n + 1, b, a, f, q => if b = -1 then (if q = (-1, a) then f else 0) else
    match BB[b.toNat]? with
    | some m => (if q = (b, 0) then f - gvR m a f else 0) + (if q = (b, 1) then gvR m a f else 0) + gv BB n m.ab m.aa (f - gvR m a f) q + gv BB n m.bb m.ba (gvR m a f) q
    | none => 0
/-- The depth of a place. -/
def dpn (BB : List Bm) (b : Int) : Nat := if b = -1 then 0 else (dpv BB b.toNat).toNat
theorem dpn_nat (BB : List Bm) (i : Nat) : dpn BB i = (dpv BB i).toNat := by unfold dpn; rw [if_neg (by omega), Int.toNat_natCast]
/-- Beams that are right: what the law uses. -/
structure BmsG (BB : List Bm) : Prop where
  on : ∀ (i : Nat) b, BB[i]? = some b → (b.ab = -1 ∨ 0 ≤ b.ab ∧ b.ab < i) ∧ (b.bb = -1 ∨ 0 ≤ b.bb ∧ b.bb < i)
  dep : ∀ (i : Nat) b, BB[i]? = some b → dpn BB b.ab + 1 ≤ dpn BB i ∧ dpn BB b.bb + 1 ≤ dpn BB i
  d3 : ∀ (i : Nat), dpn BB i ≤ 3
  sp : ∀ (i : Nat) b, BB[i]? = some b → ∃ t : Int, (b.hi - b.lo) * t = 60 ∧ b.hi - b.lo ≠ 0
theorem bmsG_of {pn : Nat} {BB : List Bm} (h : bmsOk pn [] BB = true) : BmsG BB := by
  have hok := fun (i : Nat) (b : Bm) (hb : BB[i]? = some b) => (by have := bmsOk_all h i b hb; simpa using this : bmOk pn i b = true)
  have hdv : ∀ (i : Nat) (b : Bm), BB[i]? = some b → dpv BB i = dB b (dps [] (BB.take i)) := fun i b hb => by unfold dpv; rw [hb]
  have hds := fun (i : Nat) (b : Bm) (hb : BB[i]? = some b) => bms_dep dsB_nil h i b hb
  refine ⟨fun i b hb => ?_, fun i b hb => ?_, fun i => ?_, fun i b hb => ?_⟩
  · have := bmOk_iff.1 (hok i b hb)
    have h1 := hasB_cases this.2.2.2.1
    have h2 := hasB_cases this.2.2.2.2.1
    omega
  · have hb3 := bmOk_iff.1 (hok i b hb)
    have h1 := hasB_cases hb3.2.2.2.1
    have h2 := hasB_cases hb3.2.2.2.2.1
    obtain ⟨d1, d2⟩ := hds i b hb
    have hil := (List.getElem?_eq_some_iff.1 hb).1
    have hdi := (dB_bd (b := b) d1).1
    rw [dpn_nat, hdv i b hb]
    generalize hT : dps [] (BB.take i) = T at *
    have hA : b.ab ≠ -1 → T.getD b.ab.toNat 0 + 1 ≤ dB b T := fun hn => by
      have : T.getD b.ab.toNat 0 + 1 ≤ dA b T := by unfold dA; rw [if_neg hn, imax_eq]; omega
      unfold dB
      split
      · exact this
      · rw [imax_eq]; omega
    have hB : b.bb ≠ -1 → T.getD b.bb.toNat 0 + 1 ≤ dB b T := fun hn => by
      unfold dB; rw [if_neg hn, imax_eq]; omega
    have hg : ∀ x : Int, 0 ≤ x → x < i → T.getD x.toNat 0 = dpv BB x.toNat := fun x h0 hx => by
      rw [List.getD_eq_getElem?_getD, ← hT, dps_get (show x.toNat < i by omega) (by omega)]; rfl
    unfold dpn
    constructor
    · split
      · omega
      · rename_i hn
        have := hA hn
        rw [hg b.ab (by omega) (by omega)] at this
        omega
    · split
      · omega
      · rename_i hn
        have := hB hn
        rw [hg b.bb (by omega) (by omega)] at this
        omega
  · rw [dpn_nat]
    cases hb : BB[i]? with
    | none => unfold dpv; rw [hb]; simp
    | some b => rw [hdv i b hb]; have := (hds i b hb).2; omega
  · have := (bmOk_iff.1 (hok i b hb)).2.2.1
    unfold spanB spL at this
    rw [List.contains_iff_mem] at this
    simp only [List.mem_cons, List.not_mem_nil, or_false] at this
    rcases this with h | h | h | h | h | h <;> rw [h]
    · exact ⟨6, by decide, by decide⟩
    · exact ⟨5, by decide, by decide⟩
    · exact ⟨4, by decide, by decide⟩
    · exact ⟨3, by decide, by decide⟩
    · exact ⟨2, by decide, by decide⟩
    · exact ⟨1, by decide, by decide⟩
/-- More steps than needed change nothing. -/
theorem gv_fuel {BB : List Bm} (hG : BmsG BB) : ∀ (n n' : Nat) (b a f : Int) (q : Int × Int), (b = -1 ∨ 0 ≤ b) → b + 2 ≤ n → b + 2 ≤ n' → gv BB n b a f q = gv BB n' b a f q
  | 0, n', b, a, f, q, hb, h1, h2 => by omega
  | n + 1, 0, b, a, f, q, hb, h1, h2 => by omega
  | n + 1, n' + 1, b, a, f, q, hb, h1, h2 => by
    unfold gv
    split
    · rfl
    · rename_i hn
      split
      · rename_i m hm
        have := hG.on b.toNat m hm
        rw [gv_fuel hG n n' m.ab m.aa _ q (by omega) (by omega) (by omega), gv_fuel hG n n' m.bb m.ba _ q (by omega) (by omega) (by omega)]
      · rfl
/-- What a force at a place gives a part, in as many steps as there are beams. -/
def gq (BB : List Bm) (b a f : Int) (q : Int × Int) : Int := gv BB (BB.length + 1) b a f q
theorem gq_pt (BB : List Bm) (a f : Int) (q : Int × Int) : gq BB (-1) a f q = if q = (-1, a) then f else 0 := by unfold gq gv; rw [if_pos rfl]
theorem gq_bm {BB : List Bm} (hG : BmsG BB) {i : Nat} {m : Bm} (hm : BB[i]? = some m) (a f : Int) (q : Int × Int) :
    gq BB i a f q = (if q = ((i : Int), 0) then f - gvR m a f else 0) + (if q = ((i : Int), 1) then gvR m a f else 0) + gq BB m.ab m.aa (f - gvR m a f) q + gq BB m.bb m.ba (gvR m a f) q := by
  have hil := (List.getElem?_eq_some_iff.1 hm).1
  have := hG.on i m hm
  unfold gq
  rw [gv, if_neg (by omega), Int.toNat_natCast, hm]
  dsimp only
  rw [gv_fuel hG BB.length (BB.length + 1) m.ab m.aa _ q (by omega) (by omega) (by omega), gv_fuel hG BB.length (BB.length + 1) m.bb m.ba _ q (by omega) (by omega) (by omega)]

/-! ### Multiples of 60 -/
theorem gvR_mul {m : Bm} {a x y : Int} {d : Nat} (hs : ∃ t : Int, (m.hi - m.lo) * t = 60 ∧ m.hi - m.lo ≠ 0) (hx : (60 : Int) ^ (d + 1) ∣ x) : (60 : Int) ^ d ∣ gvR m a x ∧ (60 : Int) ^ d ∣ x - gvR m a x ∧ ∀ k : Int, gvR m a (k * x) = k * gvR m a x := by
  obtain ⟨t, ht, h0⟩ := hs
  obtain ⟨u, rfl⟩ := hx
  unfold gvR
  generalize m.hi - m.lo = s at *
  have e : (60 : Int) ^ (d + 1) * u = s * (t * (60 ^ d * u)) := by
    rw [Int.pow_succ]
    generalize (60 : Int) ^ d = p
    rw [← ht, Int.mul_comm p]
    simp only [Int.mul_assoc]
  have e2 : ∀ k : Int, k * ((60 : Int) ^ (d + 1) * u) = s * (k * (t * (60 ^ d * u))) := fun k => by
    rw [e, Int.mul_left_comm]
  have h1 : (60 : Int) ^ d ∣ ((60 : Int) ^ (d + 1) * u).tdiv s * (a - m.lo) := by
    rw [e, Int.mul_tdiv_cancel_left _ h0]
    exact ⟨t * u * (a - m.lo), by rw [Int.mul_left_comm t]; simp only [Int.mul_assoc]⟩
  refine ⟨h1, ?_, fun k => ?_⟩
  · refine Int.dvd_sub ⟨60 * u, ?_⟩ h1
    rw [Int.pow_succ, Int.mul_assoc]
  · rw [e2, Int.mul_tdiv_cancel_left _ h0, e, Int.mul_tdiv_cancel_left _ h0, Int.mul_assoc]
theorem gvR_add {m : Bm} {a x y : Int} {d : Nat} (hs : ∃ t : Int, (m.hi - m.lo) * t = 60 ∧ m.hi - m.lo ≠ 0) (hx : (60 : Int) ^ (d + 1) ∣ x) (hy : (60 : Int) ^ (d + 1) ∣ y) : gvR m a (x + y) = gvR m a x + gvR m a y := by
  obtain ⟨t, ht, h0⟩ := hs
  obtain ⟨u, rfl⟩ := hx
  obtain ⟨v, rfl⟩ := hy
  unfold gvR
  generalize m.hi - m.lo = s at *
  have e : ∀ u : Int, (60 : Int) ^ (d + 1) * u = s * (t * (60 ^ d * u)) := fun u => by
    rw [Int.pow_succ]
    generalize (60 : Int) ^ d = p
    rw [← ht, Int.mul_comm p]
    simp only [Int.mul_assoc]
  rw [← Int.mul_add, e, e, e, Int.mul_tdiv_cancel_left _ h0, Int.mul_tdiv_cancel_left _ h0, Int.mul_tdiv_cancel_left _ h0, Int.mul_add, Int.mul_add, Int.add_mul]
theorem pow_dvd {d e : Nat} {x : Int} (h : d ≤ e) (hx : (60 : Int) ^ e ∣ x) : (60 : Int) ^ d ∣ x := Int.dvd_trans (by
  obtain ⟨k, rfl⟩ := Nat.exists_eq_add_of_le h
  exact ⟨60 ^ k, Int.pow_add _ _ _⟩) hx
section
variable {BB : List Bm} (hG : BmsG BB)
include hG
/-- Twice the force, twice the gifts. -/
theorem gq_lin : ∀ (n : Nat) (b a x y k : Int) (q : Int × Int), b < n → (60 : Int) ^ dpn BB b ∣ x → (60 : Int) ^ dpn BB b ∣ y → (b = -1 ∨ 0 ≤ b ∧ b < BB.length) →
    gq BB b a (x + y) q = gq BB b a x q + gq BB b a y q ∧ gq BB b a (k * x) q = k * gq BB b a x q := by
  intro n
  induction n with
  | zero =>
    intro b a x y k q hb hx hy hv
    obtain rfl : b = -1 := by omega
    simp only [gq_pt]
    split <;> simp
  | succ n ih =>
    intro b a x y k q hb hx hy hv
    rcases hv with rfl | ⟨h1, h2⟩
    · simp only [gq_pt]
      split <;> simp
    · obtain ⟨i, rfl⟩ := Int.eq_ofNat_of_zero_le h1
      obtain ⟨m, hm⟩ : ∃ m, BB[i]? = some m := ⟨_, List.getElem?_eq_getElem (by omega)⟩
      have hd := hG.dep i m hm
      have ho := hG.on i m hm
      obtain ⟨d, hdd⟩ : ∃ d, dpn BB i = d + 1 := ⟨dpn BB i - 1, by omega⟩
      rw [hdd] at hx hy hd
      obtain ⟨p1, p2, p3⟩ := gvR_mul (a := a) (y := 0) (hG.sp i m hm) hx
      obtain ⟨q1, q2, q3⟩ := gvR_mul (a := a) (y := 0) (hG.sp i m hm) hy
      have ha := gvR_add (a := a) (hG.sp i m hm) hx hy
      have hab : m.ab = -1 ∨ 0 ≤ m.ab ∧ m.ab < BB.length := by omega
      have hbb : m.bb = -1 ∨ 0 ≤ m.bb ∧ m.bb < BB.length := by omega
      have i1 := ih m.ab m.aa (x - gvR m a x) (y - gvR m a y) k q (by omega) (pow_dvd (by omega) p2) (pow_dvd (by omega) q2) hab
      have i2 := ih m.bb m.ba (gvR m a x) (gvR m a y) k q (by omega) (pow_dvd (by omega) p1) (pow_dvd (by omega) q1) hbb
      rw [gq_bm hG hm, gq_bm hG hm, gq_bm hG hm, gq_bm hG hm, ha, p3 k]
      rw [show x + y - (gvR m a x + gvR m a y) = (x - gvR m a x) + (y - gvR m a y) from by omega, show k * x - k * gvR m a x = k * (x - gvR m a x) from by rw [Int.mul_sub], i1.1, i1.2, i2.1, i2.2]
      constructor
      · split <;> split <;> omega
      · simp only [Int.mul_add]
        split <;> split <;> simp [Int.mul_sub]
theorem gq_add {b a x y : Int} (q : Int × Int) (hx : (60 : Int) ^ dpn BB b ∣ x) (hy : (60 : Int) ^ dpn BB b ∣ y) (hv : b = -1 ∨ 0 ≤ b ∧ b < BB.length) : gq BB b a (x + y) q = gq BB b a x q + gq BB b a y q :=
  (gq_lin hG BB.length b a x y 0 q (by omega) hx hy hv).1
theorem gq_mul {b a x : Int} (k : Int) (q : Int × Int) (hx : (60 : Int) ^ dpn BB b ∣ x) (hv : b = -1 ∨ 0 ≤ b ∧ b < BB.length) : gq BB b a (k * x) q = k * gq BB b a x q :=
  (gq_lin hG BB.length b a x x k q (by omega) hx hx hv).2
theorem gq_0 {b a : Int} (q : Int × Int) (hv : b = -1 ∨ 0 ≤ b ∧ b < BB.length) : gq BB b a 0 q = 0 := by
  have := gq_mul hG (a := a) (x := 0) 0 q ⟨0, by simp⟩ hv
  simpa using this
theorem gq_sum {b a : Int} {f : Nat → Int} (q : Int × Int) (hv : b = -1 ∨ 0 ≤ b ∧ b < BB.length) : ∀ n, (∀ j, j < n → (60 : Int) ^ dpn BB b ∣ f j) → gq BB b a (sumI n f) q = sumI n (fun j => gq BB b a (f j) q) ∧ (60 : Int) ^ dpn BB b ∣ sumI n f
  | 0, _ => ⟨gq_0 hG q hv, ⟨0, by simp [sumI]⟩⟩
  | n + 1, h => by
    obtain ⟨ih1, ih2⟩ := gq_sum (f := f) q hv n fun j hj => h j (by omega)
    refine ⟨?_, Int.dvd_add ih2 (h n (by omega))⟩
    rw [sumI, sumI, gq_add hG q ih2 (h n (by omega)) hv, ih1]
end
end Go.Proofs.Ytaciigegbgnadaa
