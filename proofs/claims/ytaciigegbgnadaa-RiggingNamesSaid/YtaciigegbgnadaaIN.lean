/- Thin, Pulls, pairs; Bears of a rig out of new memory. -/
import Derived.Test.YtaciigegbgnadaaIM
import Derived.Test.YtaciigegbgnadaaIF
import Derived.Test.YtaciigegbgnadaaHF
namespace Go.Proofs.Ytaciigegbgnadaa
open Go Tx Go.RowKit
set_option linter.unusedSimpArgs false
set_option linter.unusedVariables false

def thB (pn bn ln : Nat) : Bool := decide (pn ≤ 16) && decide (bn ≤ 16) && decide (ln ≤ 24)
theorem Thin_ok (r : Rig) (w : World) (h1 : r.pn ≤ 9223372036854775807) (h2 : r.bn ≤ 9223372036854775807) (h3 : r.ln ≤ 9223372036854775807) : Calls Try.prog 33 #[r.v] w fun e w' => e = .returned (.bool (thB r.pn r.bn r.ln)) ∧ Below w.heap.size w w' := by
  obtain ⟨po, pn, pc, bo, bn, bc, f0, f1, f2, lo, ln, lc⟩ := r
  dsimp only at h1 h2 h3 ⊢
  refine calls_val env mixed Try.func33 has33 Try.ntmps33 [.agg #[.slice po pn pc, .slice bo bn bc, iv f0, iv f1, iv f2, .slice lo ln lc]] (by simp) ?_
  have hq : ∀ q : Bool, (q = true ↔ pn ≤ 16 ∧ bn ≤ 16 ∧ ln ≤ 24) → q = thB pn bn ln := fun q hq => by
    rw [Bool.eq_iff_iff, hq]
    simp [thB, and_assoc]
  repeat'
   conv => whnf
   first
    | refine zA ?_ | refine zB ?_ | refine zC ?_ | refine zD ?_ | refine zE ?_ | refine zF ?_ | refine zG ?_ | refine zH ?_ | refine zI ?_ | refine splT ?_ | refine splF ?_ | refine splNot ?_
    | ((first | refine splIn (fun hc => ?_) (fun hc => ?_) | refine splD (fun hc => ?_) (fun hc => ?_) | refine splE (fun hc => ?_) (fun hc => ?_) | refine splNE (fun hc => ?_) (fun hc => ?_)) <;> first | (exfalso; omega) | (exfalso; dsimp only at hc; omega) | skip)
  all_goals exact ⟨fun β => congrArg Value.bool (hq _ (by simp <;> omega)), fun w' h => h⟩

set_option maxHeartbeats 4000000 in
set_option maxRecDepth 100000 in
theorem pairs_ok (A B : List (Int × Int)) (o p : Option Addr) (c d : Nat) (w : World) (hA : Rd 2 gF (.slice o A.length c) A w) (hB : Rd 2 gF (.slice p B.length d) B w) (hl : A.length ≤ 1000000) (hl2 : B.length ≤ 1000000) :
    Calls Try.prog 37 #[.slice o A.length c, .slice p B.length d] w fun e w' => e = .returned (.bool (decide (A = B))) ∧ Below w.heap.size w w' := by
  refine calls_val env mixed Try.func37 has37 Try.ntmps37 [.slice o A.length c, .slice p B.length d] (by simp) ?_
  by_cases hne : A.length = B.length
  · skip
    repeat'
     conv => whnf
     first
      | refine zA ?_ | refine zB ?_ | refine zC ?_ | refine zD ?_ | refine zE ?_ | refine zF ?_ | refine zG ?_ | refine zH ?_ | refine zI ?_ | refine splT ?_ | refine splF ?_ | refine splNot ?_
      | ((first | refine splIn (fun hc => ?_) (fun hc => ?_) | refine splD (fun hc => ?_) (fun hc => ?_) | refine splE (fun hc => ?_) (fun hc => ?_) | refine splNE (fun hc => ?_) (fun hc => ?_)) <;> first | (exfalso; omega) | (exfalso; dsimp only at hc; omega) | skip)
    all_goals first | (exfalso; omega) | skip
    refine loopN 0 (fun k : Nat => [(0, .v (.slice o A.length c)), (1, .v (.slice p B.length d)), (5, .v (iv k))]) (fun _ => []) (fun k => k ≤ A.length ∧ A.take k = B.take k) (fun k => A.length - k) 0 ⟨Nat.zero_le _, rfl⟩ ⟨rfl, rfl, rfl, trivial⟩ trivial (fun _ _ => ⟨rfl, rfl⟩) ?_
    intro k ⟨hk, hkt⟩
    rcases Nat.lt_or_ge k A.length with hkl | hkl
    · obtain ⟨x, hx⟩ : ∃ x, A[k]? = some x := ⟨_, List.getElem?_eq_getElem (by omega)⟩
      obtain ⟨y, hy⟩ : ∃ x, B[k]? = some x := ⟨_, List.getElem?_eq_getElem (by omega)⟩
      obtain ⟨_, ad, rfl, _⟩ := hA.ptr (by omega)
      obtain ⟨_, ae, rfl, _⟩ := hB.ptr (by omega)
      have e0 := fun (w' : World) (hw' : Below w.heap.size w w') => rd_ati (hA.below hw') hx
      have e1 := fun (w' : World) (hw' : Below w.heap.size w w') => rd_ati (hB.below hw') hy
      have ht : x = y → A.take (k + 1) = B.take (k + 1) := fun h => by rw [List.take_add_one, List.take_add_one, hkt, hx, hy, h]
      have hf : x ≠ y → decide (A = B) = false := fun h => decide_eq_false fun hc => h (by rw [hc, hy] at hx; exact (Option.some.inj hx).symm)
      obtain ⟨x0, x1⟩ := x
      obtain ⟨y0, y1⟩ := y
      cases hq : (!(x0 == y0 && x1 == y1))
      · have hxy : (x0, x1) = (y0, y1) := by simp at hq; rw [hq.1, hq.2]
        have hA := ht hxy
        skip
        repeat'
         conv => whnf
         first
          | refine zA ?_ | refine zB ?_ | refine zC ?_ | refine zD ?_ | refine zE ?_ | refine zF ?_ | refine zG ?_ | refine zH ?_ | refine zI ?_ | refine splT ?_ | refine splF ?_ | refine splNot ?_
          | ((first | refine splIn (fun hc => ?_) (fun hc => ?_) | refine splD (fun hc => ?_) (fun hc => ?_) | refine splE (fun hc => ?_) (fun hc => ?_) | refine splNE (fun hc => ?_) (fun hc => ?_)) <;> first | (exfalso; omega) | (exfalso; dsimp only at hc; omega) | skip)
          | refine Exists.intro (α := List Value) [iv x0, iv x1] ⟨⟨rfl, fun w' hw' => e0 w' hw'⟩, ?_⟩
          | refine Exists.intro (α := List Value) [iv y0, iv y1] ⟨⟨rfl, fun w' hw' => e1 w' hw'⟩, ?_⟩
          | refine neqE71 hq ?_
        all_goals first | (exfalso; omega) | exact ⟨k + 1, ⟨by omega, hA⟩, by omega, Ent.weak rfl ⟨rfl, rfl, rfl, trivial⟩ trivial fun _ h => h⟩
      · have hxy : (x0, x1) ≠ (y0, y1) := fun h => by simp only [Prod.mk.injEq] at h; rw [h.1, h.2] at hq; simp at hq
        have hA := hf hxy
        rw [hA]
        repeat'
         conv => whnf
         first
          | refine zA ?_ | refine zB ?_ | refine zC ?_ | refine zD ?_ | refine zE ?_ | refine zF ?_ | refine zG ?_ | refine zH ?_ | refine zI ?_ | refine splT ?_ | refine splF ?_ | refine splNot ?_
          | ((first | refine splIn (fun hc => ?_) (fun hc => ?_) | refine splD (fun hc => ?_) (fun hc => ?_) | refine splE (fun hc => ?_) (fun hc => ?_) | refine splNE (fun hc => ?_) (fun hc => ?_)) <;> first | (exfalso; omega) | (exfalso; dsimp only at hc; omega) | skip)
          | refine Exists.intro (α := List Value) [iv x0, iv x1] ⟨⟨rfl, fun w' hw' => e0 w' hw'⟩, ?_⟩
          | refine Exists.intro (α := List Value) [iv y0, iv y1] ⟨⟨rfl, fun w' hw' => e1 w' hw'⟩, ?_⟩
          | refine neqE71 hq ?_
        all_goals first | (exfalso; omega) | exact ⟨fun β => rfl, fun w' h => h⟩
    · rw [List.take_of_length_le (by omega), List.take_of_length_le (by omega)] at hkt
      rw [decide_eq_true hkt]
      repeat'
       conv => whnf
       first
        | refine zA ?_ | refine zB ?_ | refine zC ?_ | refine zD ?_ | refine zE ?_ | refine zF ?_ | refine zG ?_ | refine zH ?_ | refine zI ?_ | refine splT ?_ | refine splF ?_ | refine splNot ?_
        | ((first | refine splIn (fun hc => ?_) (fun hc => ?_) | refine splD (fun hc => ?_) (fun hc => ?_) | refine splE (fun hc => ?_) (fun hc => ?_) | refine splNE (fun hc => ?_) (fun hc => ?_)) <;> first | (exfalso; omega) | (exfalso; dsimp only at hc; omega) | skip)
      all_goals first | (exfalso; omega) | exact ⟨fun β => rfl, fun w' h => h⟩
  · rw [decide_eq_false (fun h => hne (by rw [h]))]
    repeat'
     conv => whnf
     first
      | refine zA ?_ | refine zB ?_ | refine zC ?_ | refine zD ?_ | refine zE ?_ | refine zF ?_ | refine zG ?_ | refine zH ?_ | refine zI ?_ | refine splT ?_ | refine splF ?_ | refine splNot ?_
      | ((first | refine splIn (fun hc => ?_) (fun hc => ?_) | refine splD (fun hc => ?_) (fun hc => ?_) | refine splE (fun hc => ?_) (fun hc => ?_) | refine splNE (fun hc => ?_) (fun hc => ?_)) <;> first | (exfalso; omega) | (exfalso; dsimp only at hc; omega) | skip)
    all_goals first | (exfalso; omega) | exact ⟨fun β => rfl, fun w' h => h⟩

set_option maxHeartbeats 4000000 in
set_option maxRecDepth 100000 in
theorem PullsR_ok (r : Rig) (PP : List Int) (BB : List Bm) (LL : List Ld) (P : List Int) (po : Option Addr) (pc : Nat) (w : World) (h : RigX r PP BB LL w) (hr : rigOk r.f0 r.f1 r.f2 PP BB LL = true) (hPl : Rd 1 iF (.slice po P.length pc) P w) (hpl : P.length ≤ 1000000) :
    Calls Try.prog 35 #[r.v, .slice po P.length pc] w fun e w' => e = .returned (.bool (pulB r LL P)) ∧ Below w.heap.size w w' := by
  have hri := rigOk_iff.1 hr
  have hL20 : LL.length ≤ 20 := hri.2.2.2.2.1
  have hL := h.l
  have hlen := h.ln
  obtain ⟨r1, r2, r3, r4, r5, r6, f0, f1, f2, lo, ln, lc⟩ := r
  dsimp only at hL hlen hr hri
  subst hlen
  refine calls_val env mixed Try.func35 has35 Try.ntmps35 [.agg #[.slice r1 r2 r3, .slice r4 r5 r6, iv f0, iv f1, iv f2, .slice lo LL.length lc], .slice po P.length pc] (by simp) ?_
  repeat'
   conv => whnf
   first
    | refine zA ?_ | refine zB ?_ | refine zC ?_ | refine zD ?_ | refine zE ?_ | refine zF ?_ | refine zG ?_ | refine zH ?_ | refine zI ?_ | refine splT ?_ | refine splF ?_ | refine splNot ?_
    | ((first | refine splIn (fun hc => ?_) (fun hc => ?_) | refine splD (fun hc => ?_) (fun hc => ?_) | refine splE (fun hc => ?_) (fun hc => ?_) | refine splNE (fun hc => ?_) (fun hc => ?_)) <;> first | (exfalso; omega) | (exfalso; dsimp only at hc; omega) | skip)
  refine loopN 1 (fun k : Nat => [(1, .v (.slice po P.length pc)), (2, .ptr 0 0), (5, .v (iv k))]) (fun k => [(0, .cells [.v (.slice r1 r2 r3), .v (.slice r4 r5 r6), .v (iv f0), .v (iv f1), .v (iv f2), .v (.slice lo LL.length lc)] 48)])
    (fun k => k ≤ P.length ∧ k ≤ LL.length ∧ pulB ⟨r1, r2, r3, r4, r5, r6, f0, f1, f2, lo, LL.length, lc⟩ LL P = pulB ⟨r1, r2, r3, r4, r5, r6, f0, f1, f2, lo, LL.length, lc⟩ (LL.drop k) (P.drop k)) (fun k => P.length - k) 0 ⟨Nat.zero_le _, Nat.zero_le _, rfl⟩ ⟨rfl, rfl, rfl, trivial⟩ ⟨rfl, trivial⟩ (fun _ _ => ⟨rfl, rfl⟩) ?_
  intro k ⟨hk, hkL, hpu⟩
  by_cases hkl : k < P.length ∧ k < LL.length
  · obtain ⟨n, hn⟩ : ∃ b, P[k]? = some b := ⟨_, List.getElem?_eq_getElem hkl.1⟩
    obtain ⟨l, hl⟩ : ∃ b, LL[k]? = some b := ⟨_, List.getElem?_eq_getElem hkl.2⟩
    obtain ⟨_, ad, rfl, _⟩ := hPl.ptr (by omega)
    have e0 := fun (w' : World) hw' => rd_ati (hPl.below (w' := w') hw') hn
    rw [pulB_drop hl hn] at hpu
    have hlo := List.all_eq_true.1 hri.2.2.2.2.2.2 l (List.mem_of_getElem? hl)
    rw [ldOk_iff] at hlo
    have hfac := fac_bd (r := ⟨r1, r2, r3, r4, r5, r6, f0, f1, f2, lo, LL.length, lc⟩) hri.2.2.2.2.2.1 l.kind
    have hp := fun (w' : World) (hb' : Below w.heap.size w w') => PullR_ok ⟨r1, r2, r3, r4, r5, r6, f0, f1, f2, lo, LL.length, lc⟩ LL k l w' (hL.below hb') rfl hl (by omega) (by omega) (by omega) (by omega)
    have hpu1 : inB n l.lo (hiP ⟨r1, r2, r3, r4, r5, r6, f0, f1, f2, lo, LL.length, lc⟩ l) = false → pulB ⟨r1, r2, r3, r4, r5, r6, f0, f1, f2, lo, LL.length, lc⟩ LL P = false := fun h => by rw [hpu, h]; rfl
    have hpu2 : inB n l.lo (hiP ⟨r1, r2, r3, r4, r5, r6, f0, f1, f2, lo, LL.length, lc⟩ l) = true → pulB ⟨r1, r2, r3, r4, r5, r6, f0, f1, f2, lo, LL.length, lc⟩ LL P = pulB ⟨r1, r2, r3, r4, r5, r6, f0, f1, f2, lo, LL.length, lc⟩ (LL.drop (k + 1)) (P.drop (k + 1)) := fun h => by rw [hpu, h]; rfl
    clear hpu
    generalize hiP ⟨r1, r2, r3, r4, r5, r6, f0, f1, f2, lo, LL.length, lc⟩ l = hi at *
    repeat'
     conv => whnf
     first
      | refine zA ?_ | refine zB ?_ | refine zC ?_ | refine zD ?_ | refine zE ?_ | refine zF ?_ | refine zG ?_ | refine zH ?_ | refine zI ?_ | refine splT ?_ | refine splF ?_ | refine splNot ?_
      | ((first | refine splIn (fun hc => ?_) (fun hc => ?_) | refine splD (fun hc => ?_) (fun hc => ?_) | refine splE (fun hc => ?_) (fun hc => ?_) | refine splNE (fun hc => ?_) (fun hc => ?_)) <;> first | (exfalso; omega) | (exfalso; dsimp only at hc; omega) | skip)
      | refine Exists.intro (α := List Value) [iv n] ⟨⟨rfl, fun w' hw' => e0 w' hw'⟩, ?_⟩
      | ((with_reducible show CallEv _ _ 45 _ _ _ _ _); refine callE (k := 45) (fun β w' hbw => hp _ hbw) ?_)
      | ((with_reducible show CallEv _ _ 23 _ _ _ _ _); refine callE (k := 23) (fun β w' hbw => In_ok _ _ _ _) ?_)
    all_goals first
      | (exfalso; omega)
      | exact ⟨k + 1, ⟨by omega, by omega, hpu2 (inB_iff.2 (by omega))⟩, by omega, Ent.weak rfl ⟨rfl, rfl, rfl, trivial⟩ ⟨rfl, trivial⟩ fun _ h => h⟩
      | (rw [hpu1 (by rw [Bool.eq_false_iff]; intro hc; rw [inB_iff] at hc; omega)]
         exact ⟨fun β => rfl, fun w' h => h⟩)
  · have hfin : pulB ⟨r1, r2, r3, r4, r5, r6, f0, f1, f2, lo, LL.length, lc⟩ LL P = decide (P.length = LL.length) := by
      by_cases hne : P.length = LL.length
      · rw [hpu, List.drop_eq_nil_of_le (by omega), List.drop_eq_nil_of_le (by omega), decide_eq_true hne]; rfl
      · rw [pulB_ne hne, decide_eq_false hne]
    rw [hfin]
    clear hpu hfin
    have hq : ∀ q : Bool, (q = true ↔ (P.length : Int) = LL.length) → q = decide (P.length = LL.length) := fun q hq => by
      rw [Bool.eq_iff_iff, hq, decide_eq_true_eq]; omega
    repeat'
     conv => whnf
     first
      | refine zA ?_ | refine zB ?_ | refine zC ?_ | refine zD ?_ | refine zE ?_ | refine zF ?_ | refine zG ?_ | refine zH ?_ | refine zI ?_ | refine splT ?_ | refine splF ?_ | refine splNot ?_
      | ((first | refine splIn (fun hc => ?_) (fun hc => ?_) | refine splD (fun hc => ?_) (fun hc => ?_) | refine splE (fun hc => ?_) (fun hc => ?_) | refine splNE (fun hc => ?_) (fun hc => ?_)) <;> first | (exfalso; omega) | (exfalso; dsimp only at hc; omega) | skip)
    all_goals first | (exfalso; omega) | exact ⟨fun β => congrArg Value.bool (hq _ (by simp)), fun w' h => h⟩
/-- Bears of a rig out of new memory, whose rig or pulls are not right. -/
theorem Bears_bad (PP : List Int) (BB : List Bm) (LL : List Ld) (f0 f1 f2 : Int) (r : Rig) (hf : r.f0 = f0 ∧ r.f1 = f1 ∧ r.f2 = f2) (A : List Int) (E : Int) (hE : (rigOk f0 f1 f2 PP BB LL = false ∧ E = 1) ∨ (rigOk f0 f1 f2 PP BB LL = true ∧ pulB r LL A = false ∧ E = 2)) (y : (Option Addr × Nat) × (Option Addr × Nat) × (Option Addr × Nat)) (o : Option Addr) (c : Nat) (w : World)
    (h : nrH PP BB LL y w) (hl1 : PP.length ≤ 1000000) (hl2 : BB.length ≤ 1000000) (hl3 : LL.length ≤ 1000000) (hP : Rd 1 iF (.slice o A.length c) A w) (hal : A.length ≤ 1000000) :
    Calls Try.prog 29 #[nrV PP BB LL f0 f1 f2 y, .slice o A.length c] w fun e w' => ∃ z : (Option Addr × Nat) × (Option Addr × Nat), e = .returned (.tuple #[sV 0 z.1, sV 0 z.2, iv E]) ∧ Below w.heap.size w w' ∧ St w.heap.size (fun _ => True) w' := by
  obtain ⟨e0, e1, e2⟩ := hf
  have hA' : pulB (nrR PP BB LL f0 f1 f2 y) LL A = pulB r LL A := pulB_fac (fac_eq (r := nrR PP BB LL f0 f1 f2 y) e0.symm e1.symm e2.symm) LL A
  refine (Bears_ok (nrR PP BB LL f0 f1 f2 y) PP BB LL A o c w (h.rin hl1 hl2 hl3) hP hal).mono fun e w' ⟨z, h1, h2, h3⟩ => ⟨z, ?_, h2, fun _ _ => trivial⟩
  have q : ¬ (rigOk f0 f1 f2 PP BB LL = true ∧ pulB r LL A = true) := by rcases hE with ⟨h, _⟩ | ⟨_, h, _⟩ <;> rw [h] <;> simp
  have q1 : brP (nrR PP BB LL f0 f1 f2 y) PP BB LL A = [] := if_neg (by rw [hA']; exact q)
  have q2 : brH (nrR PP BB LL f0 f1 f2 y) PP BB LL A = [] := if_neg (by rw [hA']; exact q)
  have q3 : brE (nrR PP BB LL f0 f1 f2 y) PP BB LL A = E := by
    unfold brE
    rw [hA']
    show (if rigOk f0 f1 f2 PP BB LL = true then _ else _) = E
    rcases hE with ⟨h, rfl⟩ | ⟨h, h', rfl⟩
    · rw [h]; rfl
    · rw [h, h']; rfl
  rw [q1, q2, q3] at h1
  exact h1
end Go.Proofs.Ytaciigegbgnadaa
