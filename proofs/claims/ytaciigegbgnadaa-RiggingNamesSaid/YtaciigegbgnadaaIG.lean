/- All points together bear all pulls and all weights: the plain law; RiggingAll answers true. -/
import Derived.Test.YtaciigegbgnadaaIC
import Derived.Test.YtaciigegbgnadaaID
import Derived.Test.YtaciigegbgnadaaIE
import Derived.Test.YtaciigegbgnadaaIF
import Derived.Test.YtaciigegbgnadaaHF
namespace Go.Proofs.Ytaciigegbgnadaa
open Go Tx Go.RowKit
set_option linter.unusedSimpArgs false
set_option linter.unusedVariables false

theorem sumI_one {k : Nat} {x : Int} : ∀ {n : Nat}, k < n → sumI n (fun j => if j = k then x else 0) = x
  | n + 1, h => by
    rw [sumI]
    by_cases hk : k = n
    · subst hk
      rw [if_pos rfl, sumI_congr (g := fun _ => 0) fun j hj => if_neg (by omega), sumI_zero fun _ => rfl]; omega
    · rw [sumI_one (show k < n by omega), if_neg (by omega)]; omega
theorem sumI_swap (f : Nat → Nat → Int) : ∀ n m, sumI n (fun i => sumI m (fun j => f i j)) = sumI m (fun j => sumI n (fun i => f i j))
  | 0, m => by simp [sumI, sumI_zero]
  | n + 1, m => by
    rw [sumI, sumI_swap f n m, ← sumI_add]; rfl
section
variable {f0 f1 f2 : Int} {PP : List Int} {BB : List Bm} {LL : List Ld} (hr : rigOk f0 f1 f2 PP BB LL = true)
include hr
/-- The points are given all of a force. -/
theorem gq_tot : ∀ (N : Nat) (b a f i : Int), b < N → i ≤ BB.length → hasB PP.length b a i = true → sumI PP.length (fun j => gq BB b a f (-1, j)) = f := by
  have hG := rig_G hr
  have pt : ∀ (a f i : Int), hasB PP.length (-1) a i = true → sumI PP.length (fun j => gq BB (-1) a f (-1, j)) = f := fun a f i hh => by
    rcases hasB_cases hh with ⟨_, h1, h2⟩ | ⟨h, _⟩
    · obtain ⟨k, rfl⟩ := Int.eq_ofNat_of_zero_le h1
      rw [sumI_congr (g := fun j => if j = k then f else 0) fun j _ => ?_, sumI_one (by omega)]
      rw [gq_pt]
      by_cases h : j = k
      · subst h; rw [if_pos rfl, if_pos rfl]
      · rw [if_neg h, if_neg (fun hc => h (by have := congrArg Prod.snd hc; simp at this; omega))]
    · exact absurd rfl h
  intro N
  induction N with
  | zero =>
    intro b a f i hb hi hh
    rcases hasB_cases hh with ⟨rfl, _⟩ | ⟨_, ⟨h, _⟩, _⟩
    · exact pt a f i hh
    · omega
  | succ N ih =>
    intro b a f i hb hi hh
    rcases hasB_cases hh with ⟨rfl, _⟩ | ⟨_, ⟨h1, h2⟩, _⟩
    · exact pt a f i hh
    · obtain ⟨k, rfl⟩ := Int.eq_ofNat_of_zero_le h1
      obtain ⟨m, hm⟩ : ∃ m, BB[k]? = some m := ⟨_, List.getElem?_eq_getElem (by omega)⟩
      have hok := bmOk_iff.1 (bm_at hr hm)
      have ho := hG.on k m hm
      rw [sumI_congr (g := fun j => gq BB m.ab m.aa (f - gvR m a f) (-1, j) + gq BB m.bb m.ba (gvR m a f) (-1, j)) fun j _ => ?_, sumI_add, ih m.ab m.aa _ k (by omega) (by omega) hok.2.2.2.1, ih m.bb m.ba _ k (by omega) (by omega) hok.2.2.2.2.1]
      · omega
      · rw [gq_bm hG hm, if_neg (fun h => by have := congrArg Prod.fst h; dsimp only at this; omega), if_neg (fun h => by have := congrArg Prod.fst h; dsimp only at this; omega)]; omega
def wtN (BB : List Bm) (i : Nat) : Int := match BB[i]? with | some b => b.wt | none => 0
theorem col_ld {c : Nat} (hc : c < LL.length) : sumI PP.length (fun j => (frF BB LL).p j c) = 216000 := by
  obtain ⟨l, hl⟩ : ∃ l, LL[c]? = some l := ⟨_, List.getElem?_eq_getElem hc⟩
  have hok := List.all_eq_true.1 (rigOk_iff.1 hr).2.2.2.2.2.2 l (List.mem_of_getElem? hl)
  rw [ldOk_iff] at hok
  have h1 := (ld_dvd hr (List.mem_of_getElem? hl)).2
  rw [← gq_tot hr BB.length l.beam l.at' 216000 BB.length (by omega) (Int.le_refl _) hok.1]
  refine sumI_congr fun j _ => ?_
  have := frF_ld hr (q := (-1, (j : Int))) ⟨.inl rfl, by show (0 : Int) ≤ j; omega⟩ hl
  rw [← this]
  unfold ob
  rw [if_pos rfl]
  show _ = (frF BB LL).p (j : Int).toNat c
  rw [Int.toNat_natCast]
theorem col_wt : sumI PP.length (fun j => (frF BB LL).p j 20) = sumI BB.length (fun i => wtN BB i * 216000) := by
  rw [sumI_congr (g := fun j => sumI BB.length (fun i => match BB[i]? with | some b => gq BB i 30 (b.wt * 216000) (-1, (j : Int)) | none => 0)) fun j _ => ?_, sumI_swap]
  · refine sumI_congr fun i hi => ?_
    obtain ⟨b, hb⟩ : ∃ b, BB[i]? = some b := ⟨_, List.getElem?_eq_getElem hi⟩
    unfold wtN
    rw [hb]
    exact gq_tot hr BB.length i 30 (b.wt * 216000) BB.length (by omega) (Int.le_refl _) (hasB_own hi)
  · have := frF_wt hr (q := (-1, (j : Int))) ⟨.inl rfl, by show (0 : Int) ≤ j; omega⟩
    refine Eq.trans ?_ this
    unfold ob
    rw [if_pos rfl]
    show _ = (frF BB LL).p (j : Int).toNat 20
    rw [Int.toNat_natCast]
omit hr in
theorem dot_sum (F : Fr) (A : List Int) (n : Nat) : ∀ k, sumI n (fun j => dotR (F.p j) A k) = sumI n (fun j => F.p j 20) + sumI k (fun i => A.getD i 0 * sumI n (fun j => F.p j i))
  | 0 => by simp [dotR, sumI]
  | k + 1 => by
    have ih := dot_sum F A n k
    have h0 : sumI n (fun j => dotR (F.p j) A (k + 1)) = sumI n (fun j => dotR (F.p j) A k + F.p j k * A.getD k 0) := sumI_congr fun j _ => rfl
    rw [h0, sumI_add, ih, show sumI (k + 1) (fun i => A.getD i 0 * sumI n (fun j => F.p j i)) = sumI k (fun i => A.getD i 0 * sumI n (fun j => F.p j i)) + A.getD k 0 * sumI n (fun j => F.p j k) from rfl]
    rw [← sumI_mul, sumI_congr (f := fun j => F.p j k * A.getD k 0) (g := fun j => A.getD k 0 * F.p j k) fun j _ => Int.mul_comm _ _]
    omega
/-- **All points together bear all pulls and all weights.** -/
theorem all_sum {A : List Int} (hA : A.length = LL.length) : sumI PP.length (fun j => dotR ((frF BB LL).p j) A A.length) - sumI A.length (fun i => A.getD i 0 * 216000) - sumI BB.length (fun i => wtN BB i * 216000) = 0 := by
  rw [dot_sum, col_wt hr, sumI_congr (f := fun i => A.getD i 0 * sumI PP.length (fun j => (frF BB LL).p j i)) (g := fun i => A.getD i 0 * 216000) fun i hi => by rw [col_ld hr (by omega)]]
  omega
omit hr in
theorem dotR_q {x : Row} {P : List Int} (hx : rowQ x) (hP : pullsB P) : ∀ k : Nat, k ≤ P.length → -5694624000000000 - 9491040000000000 * (k : Int) ≤ dotR x P k ∧ dotR x P k ≤ 5694624000000000 + 9491040000000000 * (k : Int)
  | 0, _ => by
    have := hx 20
    unfold Bb at this
    rw [if_pos rfl] at this
    show _ ≤ x 20 ∧ x 20 ≤ _
    omega
  | k + 1, hk => by
    have ih := dotR_q hx hP k (by omega)
    have h1 := hx k
    have hi20 : k ≠ 20 := by have := hP.1; omega
    unfold Bb at h1
    rw [if_neg hi20] at h1
    have h2 : (P.getD k 0).natAbs ≤ 20000000 := by
      rw [List.getD_eq_getElem?_getD, List.getElem?_eq_getElem hk]
      have := hP.2 _ (List.getElem_mem hk)
      simp only [Option.getD_some]
      omega
    have := mul_q h1 h2
    show _ ≤ dotR x P k + x k * P.getD k 0 ∧ dotR x P k + x k * P.getD k 0 ≤ _
    generalize x k * P.getD k 0 = z at *
    omega
omit hr in
theorem sum_bd {f : Nat → Int} {B : Int} (h : ∀ j, -B ≤ f j ∧ f j ≤ B) (hB : 0 ≤ B) : ∀ n : Nat, -(B * n) ≤ sumI n f ∧ sumI n f ≤ B * n
  | 0 => by simp [sumI]
  | n + 1 => by
    have ih := sum_bd h hB n
    have := h n
    rw [sumI, show B * ((n + 1 : Nat) : Int) = B * n + B from by rw [Int.natCast_add, Int.mul_add]; simp]
    omega
end
theorem pulB_fac {r r' : Rig} (h : ∀ k, r.fac k = r'.fac k) : ∀ (L : List Ld) (P : List Int), pulB r L P = pulB r' L P
  | [], [] => rfl
  | [], _ :: _ => rfl
  | _ :: _, [] => rfl
  | l :: L, n :: P => by
    rw [pulB, pulB, pulB_fac h L P]
    have : hiP r l = hiP r' l := by unfold hiP; rw [h]
    rw [this]
theorem fac_eq {r r' : Rig} (h0 : r.f0 = r'.f0) (h1 : r.f1 = r'.f1) (h2 : r.f2 = r'.f2) (k : Nat) : r.fac k = r'.fac k := by
  unfold Rig.fac
  split <;> assumption
/-- A rig of the program, out of new memory. -/
abbrev nrV (PP : List Int) (BB : List Bm) (LL : List Ld) (f0 f1 f2 : Int) (y : (Option Addr × Nat) × (Option Addr × Nat) × (Option Addr × Nat)) : Value := .agg #[sV PP.length y.1, sV BB.length y.2.1, iv f0, iv f1, iv f2, sV LL.length y.2.2]
abbrev nrR (PP : List Int) (BB : List Bm) (LL : List Ld) (f0 f1 f2 : Int) (y : (Option Addr × Nat) × (Option Addr × Nat) × (Option Addr × Nat)) : Rig := ⟨y.1.1, PP.length, y.1.2, y.2.1.1, BB.length, y.2.1.2, f0, f1, f2, y.2.2.1, LL.length, y.2.2.2⟩
def nrH (PP : List Int) (BB : List Bm) (LL : List Ld) (y : (Option Addr × Nat) × (Option Addr × Nat) × (Option Addr × Nat)) (w2 : World) : Prop := Rd 1 iF (sV PP.length y.1) PP w2 ∧ Rd 8 Bm.cs (sV BB.length y.2.1) BB w2 ∧ Rd 5 Ld.cs (sV LL.length y.2.2) LL w2
theorem nrH.rin {PP : List Int} {BB : List Bm} {LL : List Ld} {f0 f1 f2 : Int} {y : (Option Addr × Nat) × (Option Addr × Nat) × (Option Addr × Nat)} {w2 : World} (h : nrH PP BB LL y w2) (h1 : PP.length ≤ 1000000) (h2 : BB.length ≤ 1000000) (h3 : LL.length ≤ 1000000) : RigIn (nrR PP BB LL f0 f1 f2 y) PP BB LL w2 :=
  ⟨h.1, h.2.1, h.2.2, rfl, rfl, rfl, h1, h2, h3⟩
theorem YS_len {α : Type} (L : List α) (n : Nat) (h : L.length = n) (hn : 0 < n) (y : YS L) : ∃ ad, y.1.1 = some ad := y.2.resolve_left fun hc => by rw [hc] at h; simp at h; omega
/-- Bears of such a rig, of right pulls. -/
theorem Bears_nr (PP : List Int) (BB : List Bm) (LL : List Ld) (f0 f1 f2 : Int) (r : Rig) (hr : rigOk f0 f1 f2 PP BB LL = true) (hf : r.f0 = f0 ∧ r.f1 = f1 ∧ r.f2 = f2) (A : List Int) (hA : pulB r LL A = true) (y : (Option Addr × Nat) × (Option Addr × Nat) × (Option Addr × Nat)) (o : Option Addr) (c : Nat) (w : World)
    (h : nrH PP BB LL y w) (hl : BB.length ≤ 1000000) (hP : Rd 1 iF (.slice o A.length c) A w) :
    Calls Try.prog 29 #[nrV PP BB LL f0 f1 f2 y, .slice o A.length c] w fun e w' => ∃ z : YS (bPt (frF BB LL) PP.length A) × YS (bHg (frF BB LL) BB.length A), e = .returned (.tuple #[sV PP.length z.1.1, sV BB.length z.2.1, iv 0]) ∧ Below w.heap.size w w' ∧
      St w.heap.size (fun w2 => Rd 1 iF (sV PP.length z.1.1) (bPt (frF BB LL) PP.length A) w2 ∧ Rd 2 gF (sV BB.length z.2.1) (bHg (frF BB LL) BB.length A) w2) w' := by
  obtain ⟨e0, e1, e2⟩ := hf
  have hri := rigOk_iff.1 hr
  have hA' : pulB (nrR PP BB LL f0 f1 f2 y) LL A = true := by rw [← hA]; exact pulB_fac (fac_eq (r := nrR PP BB LL f0 f1 f2 y) e0.symm e1.symm e2.symm) LL A
  have hlA := pulB_len hA
  refine (Bears_ok (nrR PP BB LL f0 f1 f2 y) PP BB LL A o c w (h.rin (by omega) hl (by omega)) hP (by omega)).mono fun e w' ⟨z, h1, h2, h3⟩ => ?_
  have q1 : brP (nrR PP BB LL f0 f1 f2 y) PP BB LL A = bPt (frF BB LL) PP.length A := if_pos ⟨hr, hA'⟩
  have q2 : brH (nrR PP BB LL f0 f1 f2 y) PP BB LL A = bHg (frF BB LL) BB.length A := if_pos ⟨hr, hA'⟩
  have q3 : brE (nrR PP BB LL f0 f1 f2 y) PP BB LL A = 0 := by unfold brE; rw [if_pos hr, if_pos hA']
  have l1 : (bPt (frF BB LL) PP.length A).length = PP.length := by simp [bPt]
  have l2 : (bHg (frF BB LL) BB.length A).length = BB.length := by simp [bHg]
  rw [q1, q2, q3] at h1
  rw [q1, q2] at h3
  have s1 := rd_ys h3.now.1
  have s2 := rd_ys h3.now.2
  rw [l1, l2] at h1 h3
  exact ⟨(⟨z.1, s1⟩, ⟨z.2, s2⟩), h1, h2, h3⟩
end Go.Proofs.Ytaciigegbgnadaa
