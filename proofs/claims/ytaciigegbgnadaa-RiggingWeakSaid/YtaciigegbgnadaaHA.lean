/- What all parts of a rig bear with some pulls: what Bears returns. -/
import Derived.Test.YtaciigegbgnadaaGZ
namespace Go.Proofs.Ytaciigegbgnadaa
open Go Tx Go.RowKit
set_option linter.unusedSimpArgs false
set_option linter.unusedVariables false

/-- Are numbers pulls of loads? -/
def pulB (r : Rig) : List Ld → List Int → Bool
  | [], [] => true
  | l :: L, n :: P => inB n l.lo (hiP r l) && pulB r L P
  | _, _ => false
theorem pulB_len {r : Rig} : ∀ {L : List Ld} {P : List Int}, pulB r L P = true → P.length = L.length
  | [], [], _ => rfl
  | l :: L, n :: P, h => by
    rw [pulB, Bool.and_eq_true] at h
    simp [pulB_len h.2]
theorem pulB_at {r : Rig} : ∀ {L : List Ld} {P : List Int}, pulB r L P = true → ∀ (k : Nat) n, P[k]? = some n → ∃ l, L[k]? = some l ∧ l.lo ≤ n ∧ n ≤ hiP r l
  | [], [], _, k, n, h => by simp at h
  | l :: L, n :: P, h, 0, m, hm => by
    rw [pulB, Bool.and_eq_true, inB_iff] at h
    simp only [List.getElem?_cons_zero, Option.some.injEq] at hm
    subst hm
    exact ⟨l, rfl, h.1⟩
  | l :: L, n :: P, h, k + 1, m, hm => by
    rw [pulB, Bool.and_eq_true] at h
    simpa using pulB_at h.2 k m (by simpa using hm)
theorem pulB_drop {r : Rig} : ∀ {L : List Ld} {P : List Int} {k : Nat} {l : Ld} {n : Int}, L[k]? = some l → P[k]? = some n → pulB r (L.drop k) (P.drop k) = (inB n l.lo (hiP r l) && pulB r (L.drop (k + 1)) (P.drop (k + 1))) := by
  intro L P k l n h1 h2
  obtain ⟨a1, a2⟩ := List.getElem?_eq_some_iff.1 h1
  obtain ⟨b1, b2⟩ := List.getElem?_eq_some_iff.1 h2
  rw [List.drop_eq_getElem_cons a1, List.drop_eq_getElem_cons b1, a2, b2, pulB]
theorem pulB_ne {r : Rig} {L : List Ld} {P : List Int} (h : P.length ≠ L.length) : pulB r L P = false := by
  rw [Bool.eq_false_iff]; intro hc; exact h (pulB_len hc)
theorem pulB_B {r : Rig} {PP : List Int} {BB : List Bm} {LL : List Ld} (hr : rigOk r.f0 r.f1 r.f2 PP BB LL = true) {P : List Int} (h : pulB r LL P = true) : pullsB P := by
  rw [rigOk_iff] at hr
  obtain ⟨q1, q2, q3, q4, q5, q6, q7⟩ := hr
  refine ⟨by rw [pulB_len h]; exact q5, fun n hn => ?_⟩
  obtain ⟨k, hk⟩ := List.getElem?_of_mem hn
  obtain ⟨l, h1, h2, h3⟩ := pulB_at h k n hk
  have hlo := List.all_eq_true.1 q7 _ (List.mem_of_getElem? h1)
  rw [ldOk_iff] at hlo
  have := hiP_bd (fac_bd (r := r) q6 l.kind) hlo.2.2.2.1
  omega
/-- What the points, and the hangers, bear. -/
def bPt (F : Fr) (n : Nat) (P : List Int) : List Int := (List.range n).map fun j => dotR (F.p j) P P.length
def bHg (F : Fr) (m : Nat) (P : List Int) : List (Int × Int) := (List.range m).map fun j => (dotR (F.h j 0) P P.length, dotR (F.h j 1) P P.length)
def brP (r : Rig) (PP : List Int) (BB : List Bm) (LL : List Ld) (P : List Int) : List Int := if rigOk r.f0 r.f1 r.f2 PP BB LL = true ∧ pulB r LL P = true then bPt (frF BB LL) PP.length P else []
def brH (r : Rig) (PP : List Int) (BB : List Bm) (LL : List Ld) (P : List Int) : List (Int × Int) := if rigOk r.f0 r.f1 r.f2 PP BB LL = true ∧ pulB r LL P = true then bHg (frF BB LL) BB.length P else []
def brE (r : Rig) (PP : List Int) (BB : List Bm) (LL : List Ld) (P : List Int) : Int := if rigOk r.f0 r.f1 r.f2 PP BB LL = true then (if pulB r LL P = true then 0 else 2) else 1
theorem rng_at {α : Type} (f : Nat → α) {n k : Nat} (h : k < n) : ((List.range n).map f)[k]? = some (f k) := by
  rw [List.getElem?_map, List.getElem?_range h]; rfl
theorem rng_take {α : Type} (f : Nat → α) {n k : Nat} (h : k < n) : ((List.range n).map f).take (k + 1) = ((List.range n).map f).take k ++ [f k] := by
  rw [List.take_add_one, rng_at f h]; rfl
theorem frF_Q {f0 f1 f2 : Int} {PP : List Int} {BB : List Bm} {LL : List Ld} (hr : rigOk f0 f1 f2 PP BB LL = true) : (∀ j, rowQ ((frF BB LL).p j)) ∧ ∀ j k, rowQ ((frF BB LL).h j k) := by
  have hm : BB.length ≤ 12 := (rigOk_iff.1 hr).2.2.1
  exact ⟨fun j c => Nat.le_trans ((frF_bnd hr c).1 j) (Bb_mono hm), fun j k c => Nat.le_trans ((frF_bnd hr c).2.1 j k) (Bb_mono hm)⟩

set_option maxHeartbeats 8000000 in
set_option maxRecDepth 100000 in
theorem Bears_ok (r : Rig) (PP : List Int) (BB : List Bm) (LL : List Ld) (P : List Int) (po : Option Addr) (pc : Nat) (w : World) (h : RigIn r PP BB LL w) (hPl : Rd 1 iF (.slice po P.length pc) P w) (hpl : P.length ≤ 1000000) :
    Calls Try.prog 29 #[r.v, .slice po P.length pc] w fun e w' => ∃ y : (Option Addr × Nat) × (Option Addr × Nat), e = .returned (.tuple #[sV (brP r PP BB LL P).length y.1, sV (brH r PP BB LL P).length y.2, iv (brE r PP BB LL P)]) ∧ Below w.heap.size w w' ∧
      St w.heap.size (fun w2 => Rd 1 iF (sV (brP r PP BB LL P).length y.1) (brP r PP BB LL P) w2 ∧ Rd 2 gF (sV (brH r PP BB LL P).length y.2) (brH r PP BB LL P) w2) w' := by
  have hv := fun (w' : World) (hb : Below w.heap.size w w') => valid_ok r PP BB LL w' (h.below hb)
  have hfr := fun (w' : World) (hb : Below w.heap.size w w') (hr : rigOk r.f0 r.f1 r.f2 PP BB LL = true) => frame_ok r PP BB LL w' (h.below hb) hr (frB_of hr)
  have hL := h.l
  have hlen := h.ln
  have hll := h.ll
  obtain ⟨r1, r2, r3, r4, r5, r6, f0, f1, f2, lo, ln, lc⟩ := r
  dsimp only at hv hfr hL hlen
  subst hlen
  refine calls_fam env mixed Try.func29 has29 Try.ntmps29 [.agg #[.slice r1 r2 r3, .slice r4 r5 r6, iv f0, iv f1, iv f2, .slice lo LL.length lc], .slice po P.length pc] (by simp) ?_
  unfold brP brH brE
  dsimp only
  cases hr : rigOk f0 f1 f2 PP BB LL with
  | false =>
    rw [hr] at hv
    rw [if_neg (by simp), if_neg (by simp), if_neg (by simp)]
    repeat'
      conv => whnf
      first
        | refine And.intro (a := drawB _ = true) (by kernel_rfl) ?_
        | refine And.intro (a := (_ : Bool) = true) rfl ?_
        | refine And.intro (a := (_ : Bool) = true ∧ (_ : Bool) = true) ⟨rfl, rfl⟩ ?_
        | refine And.intro (a := (_ : Bool) = true ∧ (_ : List _) = []) ⟨rfl, rfl⟩ ?_
        | refine And.intro (a := IR _ _) (And.intro (by omega) (by omega)) ?_
        | refine wrapE (And.intro (by omega) (by omega)) ?_
        | refine And.intro (a := (0 : Int) ≤ _ ∧ _ < _) (And.intro (by omega) (by omega)) ?_
        | refine And.intro (a := (_ : Bool) = true) (by simp only [Nat.beq_refl]; rfl) ?_
        | refine And.intro (a := ((_ : Bool) = true → 1 ≤ _) ∧ _ ≤ 9223372036854775807 ∧ _ ≤ 140737488355328) ⟨fun h => (by first | omega | cases h), by omega, by omega⟩ ?_
        | refine splT ?_
        | refine splF ?_
        | refine splNot ?_
        | (refine splIn (fun hc => ?_) (fun hc => ?_) <;> first | (exfalso; omega) | (exfalso; dsimp only at hc; omega) | skip)
        | (refine splD (fun hc => ?_) (fun hc => ?_) <;> first | (exfalso; omega) | (exfalso; dsimp only at hc; omega) | skip)
        | (refine splE (fun hc => ?_) (fun hc => ?_) <;> first | (exfalso; omega) | (exfalso; dsimp only at hc; omega) | skip)
        | (refine splNE (fun hc => ?_) (fun hc => ?_) <;> first | (exfalso; omega) | (exfalso; dsimp only at hc; omega) | skip)
        | ((with_reducible show CallEv _ _ 67 _ _ _ _ _); refine callE (k := 67) (fun β w' hbw => hv _ hbw) ?_)
    all_goals exact ⟨fun w' h => h, fun β w' h _ => ⟨((none, 0), (none, 0)), rfl, fun _ _ => ⟨.inl ⟨rfl, rfl⟩, .inl ⟨rfl, rfl⟩⟩⟩⟩
  | true =>
    rw [hr] at hv
    have hfr := fun w' hb => hfr w' hb hr
    rw [if_pos rfl]
    by_cases hne : P.length = LL.length
    · skip
      repeat'
        conv => whnf
        first
          | refine And.intro (a := drawB _ = true) (by kernel_rfl) ?_
          | refine And.intro (a := (_ : Bool) = true) rfl ?_
          | refine And.intro (a := (_ : Bool) = true ∧ (_ : Bool) = true) ⟨rfl, rfl⟩ ?_
          | refine And.intro (a := (_ : Bool) = true ∧ (_ : List _) = []) ⟨rfl, rfl⟩ ?_
          | refine And.intro (a := IR _ _) (And.intro (by omega) (by omega)) ?_
          | refine wrapE (And.intro (by omega) (by omega)) ?_
          | refine And.intro (a := (0 : Int) ≤ _ ∧ _ < _) (And.intro (by omega) (by omega)) ?_
          | refine And.intro (a := (_ : Bool) = true) (by simp only [Nat.beq_refl]; rfl) ?_
          | refine And.intro (a := ((_ : Bool) = true → 1 ≤ _) ∧ _ ≤ 9223372036854775807 ∧ _ ≤ 140737488355328) ⟨fun h => (by first | omega | cases h), by omega, by omega⟩ ?_
          | refine splT ?_
          | refine splF ?_
          | refine splNot ?_
          | (refine splIn (fun hc => ?_) (fun hc => ?_) <;> first | (exfalso; omega) | (exfalso; dsimp only at hc; omega) | skip)
          | (refine splD (fun hc => ?_) (fun hc => ?_) <;> first | (exfalso; omega) | (exfalso; dsimp only at hc; omega) | skip)
          | (refine splE (fun hc => ?_) (fun hc => ?_) <;> first | (exfalso; omega) | (exfalso; dsimp only at hc; omega) | skip)
          | (refine splNE (fun hc => ?_) (fun hc => ?_) <;> first | (exfalso; omega) | (exfalso; dsimp only at hc; omega) | skip)
          | ((with_reducible show CallEv _ _ 67 _ _ _ _ _); refine callE (k := 67) (fun β w' hbw => hv _ hbw) ?_)
      all_goals first | (exfalso; omega) | skip
      have hln : (P.length : Int) = LL.length := by omega
      refine loopN 1 (fun k : Nat => [(1, .v (.slice po P.length pc)), (2, .ptr 0 0), (4, .v (.slice none 0 0)), (5, .v (.slice none 0 0)), (24, .v (.slice po P.length pc)), (25, .v (iv P.length)), (26, .v (iv k))])
        (fun k => [(0, .cells [.v (.slice r1 r2 r3), .v (.slice r4 r5 r6), .v (iv f0), .v (iv f1), .v (iv f2), .v (.slice lo LL.length lc)] 58)]) (fun k => k ≤ P.length ∧ pulB ⟨r1, r2, r3, r4, r5, r6, f0, f1, f2, lo, LL.length, lc⟩ LL P = pulB ⟨r1, r2, r3, r4, r5, r6, f0, f1, f2, lo, LL.length, lc⟩ (LL.drop k) (P.drop k)) (fun k => P.length - k) 0 ⟨Nat.zero_le _, rfl⟩ ⟨rfl, rfl, rfl, rfl, rfl, rfl, rfl, trivial⟩ ⟨rfl, trivial⟩ (fun _ _ => ⟨rfl, rfl⟩) ?_
      intro k ⟨hk, hpu⟩
      rcases Nat.lt_or_ge k P.length with hkl | hkl
      · obtain ⟨n, hn⟩ : ∃ b, P[k]? = some b := ⟨_, List.getElem?_eq_getElem hkl⟩
        obtain ⟨l, hl⟩ : ∃ b, LL[k]? = some b := ⟨_, List.getElem?_eq_getElem (by omega)⟩
        obtain ⟨_, ad, rfl, _⟩ := hPl.ptr (by omega)
        have e0 := fun (w' : World) hw' => rd_ati (hPl.below (w' := w') hw') hn
        rw [pulB_drop hl hn] at hpu
        have hri := rigOk_iff.1 hr
        have hlo := List.all_eq_true.1 hri.2.2.2.2.2.2 l (List.mem_of_getElem? hl)
        rw [ldOk_iff] at hlo
        have hfac := fac_bd (r := ⟨r1, r2, r3, r4, r5, r6, f0, f1, f2, lo, LL.length, lc⟩) hri.2.2.2.2.2.1 l.kind
        have hp := fun (w' : World) (hb' : Below w.heap.size w w') => pull_ok ⟨r1, r2, r3, r4, r5, r6, f0, f1, f2, lo, LL.length, lc⟩ LL k l w' (hL.below hb') rfl hl hll (by omega) (by omega) (by omega)
        have hpu1 : inB n l.lo (hiP ⟨r1, r2, r3, r4, r5, r6, f0, f1, f2, lo, LL.length, lc⟩ l) = false → pulB ⟨r1, r2, r3, r4, r5, r6, f0, f1, f2, lo, LL.length, lc⟩ LL P = false := fun h => by rw [hpu, h]; rfl
        have hpu2 : inB n l.lo (hiP ⟨r1, r2, r3, r4, r5, r6, f0, f1, f2, lo, LL.length, lc⟩ l) = true → pulB ⟨r1, r2, r3, r4, r5, r6, f0, f1, f2, lo, LL.length, lc⟩ LL P = pulB ⟨r1, r2, r3, r4, r5, r6, f0, f1, f2, lo, LL.length, lc⟩ (LL.drop (k + 1)) (P.drop (k + 1)) := fun h => by rw [hpu, h]; rfl
        clear hpu hfr hv
        generalize hiP ⟨r1, r2, r3, r4, r5, r6, f0, f1, f2, lo, LL.length, lc⟩ l = hi at *
        repeat'
          conv => whnf
          first
            | refine And.intro (a := drawB _ = true) (by kernel_rfl) ?_
            | refine And.intro (a := (_ : Bool) = true) rfl ?_
            | refine And.intro (a := (_ : Bool) = true ∧ (_ : Bool) = true) ⟨rfl, rfl⟩ ?_
            | refine And.intro (a := (_ : Bool) = true ∧ (_ : List _) = []) ⟨rfl, rfl⟩ ?_
            | refine And.intro (a := IR _ _) (And.intro (by omega) (by omega)) ?_
            | refine wrapE (And.intro (by omega) (by omega)) ?_
            | refine And.intro (a := (0 : Int) ≤ _ ∧ _ < _) (And.intro (by omega) (by omega)) ?_
            | refine And.intro (a := (_ : Bool) = true) (by simp only [Nat.beq_refl]; rfl) ?_
            | refine And.intro (a := ((_ : Bool) = true → 1 ≤ _) ∧ _ ≤ 9223372036854775807 ∧ _ ≤ 140737488355328) ⟨fun h => (by first | omega | cases h), by omega, by omega⟩ ?_
            | refine splT ?_
            | refine splF ?_
            | refine splNot ?_
            | (refine splIn (fun hc => ?_) (fun hc => ?_) <;> first | (exfalso; omega) | (exfalso; dsimp only at hc; omega) | skip)
            | (refine splD (fun hc => ?_) (fun hc => ?_) <;> first | (exfalso; omega) | (exfalso; dsimp only at hc; omega) | skip)
            | (refine splE (fun hc => ?_) (fun hc => ?_) <;> first | (exfalso; omega) | (exfalso; dsimp only at hc; omega) | skip)
            | (refine splNE (fun hc => ?_) (fun hc => ?_) <;> first | (exfalso; omega) | (exfalso; dsimp only at hc; omega) | skip)
            | refine Exists.intro (α := List Value) [iv n] ⟨⟨rfl, fun w' hw' => e0 w' hw'⟩, ?_⟩
            | ((with_reducible show CallEv _ _ 68 _ _ _ _ _); refine callE (k := 68) (fun β w' hbw => hp _ hbw) ?_)
            | ((with_reducible show CallEv _ _ 56 _ _ _ _ _); refine callE (k := 56) (fun β w' hbw => within_ok _ _ _ _) ?_)
        all_goals first
          | (exfalso; omega)
          | exact ⟨k + 1, ⟨by omega, hpu2 (inB_iff.2 (by omega))⟩, by omega, Ent.weak rfl ⟨rfl, rfl, rfl, rfl, rfl, rfl, rfl, trivial⟩ ⟨rfl, trivial⟩ fun _ h => h⟩
          | (rw [hpu1 (by rw [Bool.eq_false_iff]; intro hc; rw [inB_iff] at hc; omega), if_neg (by simp), if_neg (by simp), if_neg (by simp)]
             exact ⟨fun w' h => h, fun β w' h _ => ⟨((none, 0), (none, 0)), rfl, fun _ _ => ⟨.inl ⟨rfl, rfl⟩, .inl ⟨rfl, rfl⟩⟩⟩⟩)
      · rw [List.drop_eq_nil_of_le hkl, List.drop_eq_nil_of_le (by omega)] at hpu
        have hpt : pulB ⟨r1, r2, r3, r4, r5, r6, f0, f1, f2, lo, LL.length, lc⟩ LL P = true := hpu
        rw [hpt, if_pos ⟨rfl, rfl⟩, if_pos ⟨rfl, rfl⟩, if_pos rfl]
        have hPB := pulB_B (r := ⟨r1, r2, r3, r4, r5, r6, f0, f1, f2, lo, LL.length, lc⟩) (PP := PP) (BB := BB) hr hpt
        obtain ⟨hQ1, hQ2⟩ := frF_Q hr
        clear hpu hpt hne hv
        generalize frF BB LL = F at *
        repeat'
          conv => whnf
          first
            | refine And.intro (a := drawB _ = true) (by kernel_rfl) ?_
            | refine And.intro (a := (_ : Bool) = true) rfl ?_
            | refine And.intro (a := (_ : Bool) = true ∧ (_ : Bool) = true) ⟨rfl, rfl⟩ ?_
            | refine And.intro (a := (_ : Bool) = true ∧ (_ : List _) = []) ⟨rfl, rfl⟩ ?_
            | refine And.intro (a := IR _ _) (And.intro (by omega) (by omega)) ?_
            | refine wrapE (And.intro (by omega) (by omega)) ?_
            | refine And.intro (a := (0 : Int) ≤ _ ∧ _ < _) (And.intro (by omega) (by omega)) ?_
            | refine And.intro (a := (_ : Bool) = true) (by simp only [Nat.beq_refl]; rfl) ?_
            | refine And.intro (a := ((_ : Bool) = true → 1 ≤ _) ∧ _ ≤ 9223372036854775807 ∧ _ ≤ 140737488355328) ⟨fun h => (by first | omega | cases h), by omega, by omega⟩ ?_
            | refine splT ?_
            | refine splF ?_
            | refine splNot ?_
            | (refine splIn (fun hc => ?_) (fun hc => ?_) <;> first | (exfalso; omega) | (exfalso; dsimp only at hc; omega) | skip)
            | (refine splD (fun hc => ?_) (fun hc => ?_) <;> first | (exfalso; omega) | (exfalso; dsimp only at hc; omega) | skip)
            | (refine splE (fun hc => ?_) (fun hc => ?_) <;> first | (exfalso; omega) | (exfalso; dsimp only at hc; omega) | skip)
            | (refine splNE (fun hc => ?_) (fun hc => ?_) <;> first | (exfalso; omega) | (exfalso; dsimp only at hc; omega) | skip)
            | ((with_reducible show CallEv _ _ 69 _ _ _ _ _); refine callF [] (fun y : FrA => .pointer (some ⟨y.fb, 0, none⟩)) (fun y => FrIn ⟨r1, r2, r3, r4, r5, r6, f0, f1, f2, lo, LL.length, lc⟩ PP.length BB.length F y) (fun β w' _ hbw => hfr w' hbw) ?_; intro y; obtain ⟨fb, pb, qc, gb, gc, ub, uc⟩ := y; dsimp only)
            | refine nilX rfl rfl ?_
            | refine Exists.intro (α := List Value) [.slice (some ⟨pb, 0, none⟩) PP.length qc] ⟨⟨rfl, fun w' hw' j v hj => (show w'.cell? (((⟨fb, 0, none⟩ : Addr).add 6).add j) = some v from (by
          match j, hj with
          | 0, hj => cases hj; rw [Addr.add_add]; exact hw'.2.c 6 _ rfl))⟩, ?_⟩
        all_goals first | (exfalso; omega) | skip
        have hPn : (bPt F PP.length P).length = PP.length := by simp [bPt]
        have hHn : (bHg F BB.length P).length = BB.length := by simp [bHg]
        have hri := rigOk_iff.1 hr
        refine loopN 3 (fun k : Nat => [(1, .v (.slice po P.length pc)), (4, oSV 1 2 ((bPt F PP.length P).take k)), (5, .v (.slice none 0 0)), (10, .v (.pointer (some ⟨fb, 0, none⟩))), (47, .v (.slice (some ⟨pb, 0, none⟩) PP.length qc)), (48, .v (iv PP.length)), (49, .v (iv k))])
          (fun k => oM 1 2 1 iF 3 ((bPt F PP.length P).take k)) (fun k => k ≤ PP.length) (fun k => PP.length - k) 0 (Nat.zero_le _) ⟨rfl, rfl, rfl, rfl, rfl, rfl, rfl, trivial⟩ trivial (fun k _ => by cases (bPt F PP.length P).take k <;> exact ⟨rfl, rfl⟩) ?_
        intro k2 hk2
        rcases Nat.lt_or_ge k2 PP.length with hkl2 | hkl2
        · have e0 := fun (w' : World) (hw' : Below w.heap.size w w' ∧ FrIn ⟨r1, r2, r3, r4, r5, r6, f0, f1, f2, lo, LL.length, lc⟩ PP.length BB.length F ⟨fb, pb, qc, gb, gc, ub, uc⟩ w') => rd_ati hw'.2.p (rng_at F.p hkl2)
          have hd := fun (w' : World) (hb : Below w.heap.size w w') => bears_ok (F.p k2) P po pc w' (hPl.below hb) (dotB_of (hQ1 k2) hPB)
          have ht : (bPt F PP.length P).take (k2 + 1) = (bPt F PP.length P).take k2 ++ [dotR (F.p k2) P P.length] := rng_take _ hkl2
          have hlen2 : ((bPt F PP.length P).take k2).length ≤ k2 := List.length_take_le _ _
          generalize (bPt F PP.length P).take k2 = L at *
          generalize dotR (F.p k2) P P.length = D at *
          generalize F.p k2 = X at *
          cases L with
          | nil =>
            repeat'
              conv => whnf
              first
                | refine And.intro (a := drawB _ = true) (by kernel_rfl) ?_
                | refine And.intro (a := (_ : Bool) = true) rfl ?_
                | refine And.intro (a := (_ : Bool) = true ∧ (_ : Bool) = true) ⟨rfl, rfl⟩ ?_
                | refine And.intro (a := (_ : Bool) = true ∧ (_ : List _) = []) ⟨rfl, rfl⟩ ?_
                | refine And.intro (a := IR _ _) (And.intro (by omega) (by omega)) ?_
                | refine wrapE (And.intro (by omega) (by omega)) ?_
                | refine And.intro (a := (0 : Int) ≤ _ ∧ _ < _) (And.intro (by omega) (by omega)) ?_
                | refine And.intro (a := (_ : Bool) = true) (by simp only [Nat.beq_refl]; rfl) ?_
                | refine And.intro (a := ((_ : Bool) = true → 1 ≤ _) ∧ _ ≤ 9223372036854775807 ∧ _ ≤ 140737488355328) ⟨fun h => (by first | omega | cases h), by omega, by omega⟩ ?_
                | refine splT ?_
                | refine splF ?_
                | refine splNot ?_
                | (refine splIn (fun hc => ?_) (fun hc => ?_) <;> first | (exfalso; omega) | (exfalso; dsimp only at hc; omega) | skip)
                | (refine splD (fun hc => ?_) (fun hc => ?_) <;> first | (exfalso; omega) | (exfalso; dsimp only at hc; omega) | skip)
                | (refine splE (fun hc => ?_) (fun hc => ?_) <;> first | (exfalso; omega) | (exfalso; dsimp only at hc; omega) | skip)
                | (refine splNE (fun hc => ?_) (fun hc => ?_) <;> first | (exfalso; omega) | (exfalso; dsimp only at hc; omega) | skip)
                | refine Exists.intro (α := List Value) (rwL X) ⟨⟨rfl, fun w' hw' => e0 w' hw'⟩, ?_⟩
                | ((with_reducible show CallEv _ _ 70 _ _ _ _ _); refine callE (k := 70) (fun β w' hbw => hd _ hbw.1) ?_)
            exact ⟨k2 + 1, by omega, by omega, Ent.ren (rho [(1, 5), (2, 6)]) rfl (by rw [ht]; rfl) ⟨rfl, by rw [ht]; rfl, rfl, rfl, rfl, rfl, rfl, trivial⟩ (by rw [ht]; exact ⟨rfl, trivial⟩) fun _ h => h⟩
          | cons a L =>
            simp only [List.length_cons] at hlen2
            repeat'
              conv => whnf
              first
                | refine And.intro (a := drawB _ = true) (by kernel_rfl) ?_
                | refine And.intro (a := (_ : Bool) = true) rfl ?_
                | refine And.intro (a := (_ : Bool) = true ∧ (_ : Bool) = true) ⟨rfl, rfl⟩ ?_
                | refine And.intro (a := (_ : Bool) = true ∧ (_ : List _) = []) ⟨rfl, rfl⟩ ?_
                | refine And.intro (a := IR _ _) (And.intro (by omega) (by omega)) ?_
                | refine wrapE (And.intro (by omega) (by omega)) ?_
                | refine And.intro (a := (0 : Int) ≤ _ ∧ _ < _) (And.intro (by omega) (by omega)) ?_
                | refine And.intro (a := (_ : Bool) = true) (by simp only [Nat.beq_refl]; rfl) ?_
                | refine And.intro (a := ((_ : Bool) = true → 1 ≤ _) ∧ _ ≤ 9223372036854775807 ∧ _ ≤ 140737488355328) ⟨fun h => (by first | omega | cases h), by omega, by omega⟩ ?_
                | refine splT ?_
                | refine splF ?_
                | refine splNot ?_
                | (refine splIn (fun hc => ?_) (fun hc => ?_) <;> first | (exfalso; omega) | (exfalso; dsimp only at hc; omega) | skip)
                | (refine splD (fun hc => ?_) (fun hc => ?_) <;> first | (exfalso; omega) | (exfalso; dsimp only at hc; omega) | skip)
                | (refine splE (fun hc => ?_) (fun hc => ?_) <;> first | (exfalso; omega) | (exfalso; dsimp only at hc; omega) | skip)
                | (refine splNE (fun hc => ?_) (fun hc => ?_) <;> first | (exfalso; omega) | (exfalso; dsimp only at hc; omega) | skip)
                | refine Exists.intro (α := List Value) (rwL X) ⟨⟨rfl, fun w' hw' => e0 w' hw'⟩, ?_⟩
                | ((with_reducible show CallEv _ _ 70 _ _ _ _ _); refine callE (k := 70) (fun β w' hbw => hd _ hbw.1) ?_)
            exact ⟨k2 + 1, by omega, by omega, Ent.ren (rho [(1, 5), (2, 6)]) rfl (by rw [ht]; rfl) ⟨rfl, by rw [ht]; simp [oSV]; rfl, rfl, rfl, rfl, rfl, rfl, trivial⟩ (by rw [ht]; exact ⟨by simp [oM]; rfl, trivial⟩) fun _ h => h⟩
        · rw [List.take_of_length_le (show (bPt F PP.length P).length ≤ k2 by omega)]
          generalize bPt F PP.length P = A at *
          cases A with
          | nil => simp at hPn; omega
          | cons a0 A =>
            simp only [List.length_cons] at hPn
            repeat'
              conv => whnf
              first
                | refine And.intro (a := drawB _ = true) (by kernel_rfl) ?_
                | refine And.intro (a := (_ : Bool) = true) rfl ?_
                | refine And.intro (a := (_ : Bool) = true ∧ (_ : Bool) = true) ⟨rfl, rfl⟩ ?_
                | refine And.intro (a := (_ : Bool) = true ∧ (_ : List _) = []) ⟨rfl, rfl⟩ ?_
                | refine And.intro (a := IR _ _) (And.intro (by omega) (by omega)) ?_
                | refine wrapE (And.intro (by omega) (by omega)) ?_
                | refine And.intro (a := (0 : Int) ≤ _ ∧ _ < _) (And.intro (by omega) (by omega)) ?_
                | refine And.intro (a := (_ : Bool) = true) (by simp only [Nat.beq_refl]; rfl) ?_
                | refine And.intro (a := ((_ : Bool) = true → 1 ≤ _) ∧ _ ≤ 9223372036854775807 ∧ _ ≤ 140737488355328) ⟨fun h => (by first | omega | cases h), by omega, by omega⟩ ?_
                | refine splT ?_
                | refine splF ?_
                | refine splNot ?_
                | (refine splIn (fun hc => ?_) (fun hc => ?_) <;> first | (exfalso; omega) | (exfalso; dsimp only at hc; omega) | skip)
                | (refine splD (fun hc => ?_) (fun hc => ?_) <;> first | (exfalso; omega) | (exfalso; dsimp only at hc; omega) | skip)
                | (refine splE (fun hc => ?_) (fun hc => ?_) <;> first | (exfalso; omega) | (exfalso; dsimp only at hc; omega) | skip)
                | (refine splNE (fun hc => ?_) (fun hc => ?_) <;> first | (exfalso; omega) | (exfalso; dsimp only at hc; omega) | skip)
                | refine nilX rfl rfl ?_
                | refine Exists.intro (α := List Value) [.slice (some ⟨gb, 0, none⟩) BB.length gc] ⟨⟨rfl, fun w' hw' j v hj => (show w'.cell? (((⟨fb, 0, none⟩ : Addr).add 7).add j) = some v from (by
              match j, hj with
              | 0, hj => cases hj; rw [Addr.add_add]; exact hw'.2.c 7 _ rfl))⟩, ?_⟩
            refine loopN 5 (fun k : Nat => [(1, .v (.slice po P.length pc)), (4, .os 1 2 (A.length + 1)), (5, oSV 3 4 ((bHg F BB.length P).take k)), (63, .v (.slice (some ⟨gb, 0, none⟩) BB.length gc)), (64, .v (iv BB.length)), (65, .v (iv k))])
              (fun k => (1, .own 2 (A.length + 1) 1 ((a0 :: A).flatMap iF) 3) :: oM 3 4 2 gF 71 ((bHg F BB.length P).take k)) (fun k => k ≤ BB.length) (fun k => BB.length - k) 0 (Nat.zero_le _) ⟨rfl, rfl, rfl, rfl, rfl, rfl, trivial⟩ ⟨rfl, trivial⟩ (fun k _ => by cases (bHg F BB.length P).take k <;> exact ⟨rfl, rfl⟩) ?_
            intro k3 hk3
            rcases Nat.lt_or_ge k3 BB.length with hkl3 | hkl3
            · have e0 := fun (w' : World) (hw' : Below w.heap.size w w' ∧ FrIn ⟨r1, r2, r3, r4, r5, r6, f0, f1, f2, lo, LL.length, lc⟩ PP.length BB.length F ⟨fb, pb, qc, gb, gc, ub, uc⟩ w') => rd_ati hw'.2.h (rng_at (fun j => (F.h j 0, F.h j 1)) hkl3)
              have hd0 := fun (w' : World) (hb : Below w.heap.size w w') => bears_ok (F.h k3 0) P po pc w' (hPl.below hb) (dotB_of (hQ2 k3 0) hPB)
              have hd1 := fun (w' : World) (hb : Below w.heap.size w w') => bears_ok (F.h k3 1) P po pc w' (hPl.below hb) (dotB_of (hQ2 k3 1) hPB)
              have ht : (bHg F BB.length P).take (k3 + 1) = (bHg F BB.length P).take k3 ++ [(dotR (F.h k3 0) P P.length, dotR (F.h k3 1) P P.length)] := rng_take (fun j => (dotR (F.h j 0) P P.length, dotR (F.h j 1) P P.length)) hkl3
              have hlen3 : ((bHg F BB.length P).take k3).length ≤ k3 := List.length_take_le _ _
              generalize (bHg F BB.length P).take k3 = L at *
              generalize dotR (F.h k3 0) P P.length = D0 at *
              generalize dotR (F.h k3 1) P P.length = D1 at *
              generalize F.h k3 0 = X0 at *
              generalize F.h k3 1 = X1 at *
              cases L with
              | nil =>
                repeat'
                  conv => whnf
                  first
                    | refine And.intro (a := drawB _ = true) (by kernel_rfl) ?_
                    | refine And.intro (a := (_ : Bool) = true) rfl ?_
                    | refine And.intro (a := (_ : Bool) = true ∧ (_ : Bool) = true) ⟨rfl, rfl⟩ ?_
                    | refine And.intro (a := (_ : Bool) = true ∧ (_ : List _) = []) ⟨rfl, rfl⟩ ?_
                    | refine And.intro (a := IR _ _) (And.intro (by omega) (by omega)) ?_
                    | refine wrapE (And.intro (by omega) (by omega)) ?_
                    | refine And.intro (a := (0 : Int) ≤ _ ∧ _ < _) (And.intro (by omega) (by omega)) ?_
                    | refine And.intro (a := (_ : Bool) = true) (by simp only [Nat.beq_refl]; rfl) ?_
                    | refine And.intro (a := ((_ : Bool) = true → 1 ≤ _) ∧ _ ≤ 9223372036854775807 ∧ _ ≤ 140737488355328) ⟨fun h => (by first | omega | cases h), by omega, by omega⟩ ?_
                    | refine splT ?_
                    | refine splF ?_
                    | refine splNot ?_
                    | (refine splIn (fun hc => ?_) (fun hc => ?_) <;> first | (exfalso; omega) | (exfalso; dsimp only at hc; omega) | skip)
                    | (refine splD (fun hc => ?_) (fun hc => ?_) <;> first | (exfalso; omega) | (exfalso; dsimp only at hc; omega) | skip)
                    | (refine splE (fun hc => ?_) (fun hc => ?_) <;> first | (exfalso; omega) | (exfalso; dsimp only at hc; omega) | skip)
                    | (refine splNE (fun hc => ?_) (fun hc => ?_) <;> first | (exfalso; omega) | (exfalso; dsimp only at hc; omega) | skip)
                    | refine Exists.intro (α := List Value) (hgV (X0, X1)) ⟨⟨rfl, fun w' hw' => e0 w' hw'⟩, ?_⟩
                    | ((with_reducible show CallEv _ _ 70 [.agg (.v (iv (X0 0)) :: _), _] _ _ _ _); refine callE (k := 70) (fun β w' hbw => hd0 _ hbw.1) ?_)
                    | ((with_reducible show CallEv _ _ 70 [.agg (.v (iv (X1 0)) :: _), _] _ _ _ _); refine callE (k := 70) (fun β w' hbw => hd1 _ hbw.1) ?_)
                exact ⟨k3 + 1, by omega, by omega, Ent.ren (rho [(3, 7), (4, 8)]) rfl (by rw [ht]; rfl) ⟨rfl, rfl, by rw [ht]; rfl, rfl, rfl, rfl, trivial⟩ (by rw [ht]; exact ⟨rfl, rfl, trivial⟩) fun _ h => h⟩
              | cons a L =>
                simp only [List.length_cons] at hlen3
                repeat'
                  conv => whnf
                  first
                    | refine And.intro (a := drawB _ = true) (by kernel_rfl) ?_
                    | refine And.intro (a := (_ : Bool) = true) rfl ?_
                    | refine And.intro (a := (_ : Bool) = true ∧ (_ : Bool) = true) ⟨rfl, rfl⟩ ?_
                    | refine And.intro (a := (_ : Bool) = true ∧ (_ : List _) = []) ⟨rfl, rfl⟩ ?_
                    | refine And.intro (a := IR _ _) (And.intro (by omega) (by omega)) ?_
                    | refine wrapE (And.intro (by omega) (by omega)) ?_
                    | refine And.intro (a := (0 : Int) ≤ _ ∧ _ < _) (And.intro (by omega) (by omega)) ?_
                    | refine And.intro (a := (_ : Bool) = true) (by simp only [Nat.beq_refl]; rfl) ?_
                    | refine And.intro (a := ((_ : Bool) = true → 1 ≤ _) ∧ _ ≤ 9223372036854775807 ∧ _ ≤ 140737488355328) ⟨fun h => (by first | omega | cases h), by omega, by omega⟩ ?_
                    | refine splT ?_
                    | refine splF ?_
                    | refine splNot ?_
                    | (refine splIn (fun hc => ?_) (fun hc => ?_) <;> first | (exfalso; omega) | (exfalso; dsimp only at hc; omega) | skip)
                    | (refine splD (fun hc => ?_) (fun hc => ?_) <;> first | (exfalso; omega) | (exfalso; dsimp only at hc; omega) | skip)
                    | (refine splE (fun hc => ?_) (fun hc => ?_) <;> first | (exfalso; omega) | (exfalso; dsimp only at hc; omega) | skip)
                    | (refine splNE (fun hc => ?_) (fun hc => ?_) <;> first | (exfalso; omega) | (exfalso; dsimp only at hc; omega) | skip)
                    | refine Exists.intro (α := List Value) (hgV (X0, X1)) ⟨⟨rfl, fun w' hw' => e0 w' hw'⟩, ?_⟩
                    | ((with_reducible show CallEv _ _ 70 [.agg (.v (iv (X0 0)) :: _), _] _ _ _ _); refine callE (k := 70) (fun β w' hbw => hd0 _ hbw.1) ?_)
                    | ((with_reducible show CallEv _ _ 70 [.agg (.v (iv (X1 0)) :: _), _] _ _ _ _); refine callE (k := 70) (fun β w' hbw => hd1 _ hbw.1) ?_)
                exact ⟨k3 + 1, by omega, by omega, Ent.ren (rho [(3, 7), (4, 8)]) rfl (by rw [ht]; rfl) ⟨rfl, rfl, by rw [ht]; simp [oSV]; rfl, rfl, rfl, rfl, trivial⟩ (by rw [ht]; exact ⟨rfl, by simp [oM]; rfl, trivial⟩) fun _ h => h⟩
            · rw [List.take_of_length_le (show (bHg F BB.length P).length ≤ k3 by omega)]
              generalize bHg F BB.length P = B at *
              cases B with
              | nil =>
                repeat'
                  conv => whnf
                  first
                    | refine And.intro (a := drawB _ = true) (by kernel_rfl) ?_
                    | refine And.intro (a := (_ : Bool) = true) rfl ?_
                    | refine And.intro (a := (_ : Bool) = true ∧ (_ : Bool) = true) ⟨rfl, rfl⟩ ?_
                    | refine And.intro (a := (_ : Bool) = true ∧ (_ : List _) = []) ⟨rfl, rfl⟩ ?_
                    | refine And.intro (a := IR _ _) (And.intro (by omega) (by omega)) ?_
                    | refine wrapE (And.intro (by omega) (by omega)) ?_
                    | refine And.intro (a := (0 : Int) ≤ _ ∧ _ < _) (And.intro (by omega) (by omega)) ?_
                    | refine And.intro (a := (_ : Bool) = true) (by simp only [Nat.beq_refl]; rfl) ?_
                    | refine And.intro (a := ((_ : Bool) = true → 1 ≤ _) ∧ _ ≤ 9223372036854775807 ∧ _ ≤ 140737488355328) ⟨fun h => (by first | omega | cases h), by omega, by omega⟩ ?_
                    | refine splT ?_
                    | refine splF ?_
                    | refine splNot ?_
                    | (refine splIn (fun hc => ?_) (fun hc => ?_) <;> first | (exfalso; omega) | (exfalso; dsimp only at hc; omega) | skip)
                    | (refine splD (fun hc => ?_) (fun hc => ?_) <;> first | (exfalso; omega) | (exfalso; dsimp only at hc; omega) | skip)
                    | (refine splE (fun hc => ?_) (fun hc => ?_) <;> first | (exfalso; omega) | (exfalso; dsimp only at hc; omega) | skip)
                    | (refine splNE (fun hc => ?_) (fun hc => ?_) <;> first | (exfalso; omega) | (exfalso; dsimp only at hc; omega) | skip)
                exact ⟨fun w' h => h.1, fun β w' hB hblk => ⟨((some ⟨β 1, 0, none⟩, β 2), (none, 0)), rfl, (hblk 1 _ rfl rfl).imp fun _ q => ⟨Rd.of_owns (sz := 1) (f := iF) (fun _ => rfl) rfl rfl q, .inl ⟨rfl, rfl⟩⟩⟩⟩
              | cons b0 B =>
                repeat'
                  conv => whnf
                  first
                    | refine And.intro (a := drawB _ = true) (by kernel_rfl) ?_
                    | refine And.intro (a := (_ : Bool) = true) rfl ?_
                    | refine And.intro (a := (_ : Bool) = true ∧ (_ : Bool) = true) ⟨rfl, rfl⟩ ?_
                    | refine And.intro (a := (_ : Bool) = true ∧ (_ : List _) = []) ⟨rfl, rfl⟩ ?_
                    | refine And.intro (a := IR _ _) (And.intro (by omega) (by omega)) ?_
                    | refine wrapE (And.intro (by omega) (by omega)) ?_
                    | refine And.intro (a := (0 : Int) ≤ _ ∧ _ < _) (And.intro (by omega) (by omega)) ?_
                    | refine And.intro (a := (_ : Bool) = true) (by simp only [Nat.beq_refl]; rfl) ?_
                    | refine And.intro (a := ((_ : Bool) = true → 1 ≤ _) ∧ _ ≤ 9223372036854775807 ∧ _ ≤ 140737488355328) ⟨fun h => (by first | omega | cases h), by omega, by omega⟩ ?_
                    | refine splT ?_
                    | refine splF ?_
                    | refine splNot ?_
                    | (refine splIn (fun hc => ?_) (fun hc => ?_) <;> first | (exfalso; omega) | (exfalso; dsimp only at hc; omega) | skip)
                    | (refine splD (fun hc => ?_) (fun hc => ?_) <;> first | (exfalso; omega) | (exfalso; dsimp only at hc; omega) | skip)
                    | (refine splE (fun hc => ?_) (fun hc => ?_) <;> first | (exfalso; omega) | (exfalso; dsimp only at hc; omega) | skip)
                    | (refine splNE (fun hc => ?_) (fun hc => ?_) <;> first | (exfalso; omega) | (exfalso; dsimp only at hc; omega) | skip)
                exact ⟨fun w' h => h.1, fun β w' hB hblk => ⟨((some ⟨β 1, 0, none⟩, β 2), (some ⟨β 3, 0, none⟩, β 4)), rfl, ((hblk 1 _ rfl rfl).and (hblk 3 _ rfl rfl)).imp fun _ q => ⟨Rd.of_owns (sz := 1) (f := iF) (fun _ => rfl) rfl rfl q.1, Rd.of_owns (sz := 2) (f := gF) (fun _ => rfl) rfl rfl q.2⟩⟩⟩
    · rw [pulB_ne hne, if_neg (by simp), if_neg (by simp), if_neg (by simp)]
      repeat'
        conv => whnf
        first
          | refine And.intro (a := drawB _ = true) (by kernel_rfl) ?_
          | refine And.intro (a := (_ : Bool) = true) rfl ?_
          | refine And.intro (a := (_ : Bool) = true ∧ (_ : Bool) = true) ⟨rfl, rfl⟩ ?_
          | refine And.intro (a := (_ : Bool) = true ∧ (_ : List _) = []) ⟨rfl, rfl⟩ ?_
          | refine And.intro (a := IR _ _) (And.intro (by omega) (by omega)) ?_
          | refine wrapE (And.intro (by omega) (by omega)) ?_
          | refine And.intro (a := (0 : Int) ≤ _ ∧ _ < _) (And.intro (by omega) (by omega)) ?_
          | refine And.intro (a := (_ : Bool) = true) (by simp only [Nat.beq_refl]; rfl) ?_
          | refine And.intro (a := ((_ : Bool) = true → 1 ≤ _) ∧ _ ≤ 9223372036854775807 ∧ _ ≤ 140737488355328) ⟨fun h => (by first | omega | cases h), by omega, by omega⟩ ?_
          | refine splT ?_
          | refine splF ?_
          | refine splNot ?_
          | (refine splIn (fun hc => ?_) (fun hc => ?_) <;> first | (exfalso; omega) | (exfalso; dsimp only at hc; omega) | skip)
          | (refine splD (fun hc => ?_) (fun hc => ?_) <;> first | (exfalso; omega) | (exfalso; dsimp only at hc; omega) | skip)
          | (refine splE (fun hc => ?_) (fun hc => ?_) <;> first | (exfalso; omega) | (exfalso; dsimp only at hc; omega) | skip)
          | (refine splNE (fun hc => ?_) (fun hc => ?_) <;> first | (exfalso; omega) | (exfalso; dsimp only at hc; omega) | skip)
          | ((with_reducible show CallEv _ _ 67 _ _ _ _ _); refine callE (k := 67) (fun β w' hbw => hv _ hbw) ?_)
      all_goals first | (exfalso; omega) | skip
      all_goals exact ⟨fun w' h => h, fun β w' h _ => ⟨((none, 0), (none, 0)), rfl, fun _ _ => ⟨.inl ⟨rfl, rfl⟩, .inl ⟨rfl, rfl⟩⟩⟩⟩
end Go.Proofs.Ytaciigegbgnadaa
