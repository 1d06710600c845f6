import Derived.Test.YtaciigegbgnadaaGZ
/- What all parts of a rig bear with some pulls: what Bears returns. -/
namespace Go.Proofs.Ytaciigegbgnadaa
open Go Tx Go.RowKit
set_option linter.unusedSimpArgs false
set_option linter.unusedVariables false

/-- Are numbers pulls of loads? -/
def pulB (r : Rig) : List Ld → List Int → Bool
  | [], [] => true
  | l :: L, n :: P => inB n l.lo (hiP r l) && pulB r L P
  | _, _ => false
theorem pulB_len {r : Rig} : ∀ {L : List Ld} {P : List Int}, pulB r L P = true → P.length = L.length
  | [], [], _ => rfl
  | l :: L, n :: P, h => by
    rw [pulB, Bool.and_eq_true] at h
    simp [pulB_len h.2]
theorem pulB_at {r : Rig} : ∀ {L : List Ld} {P : List Int}, pulB r L P = true → ∀ (k : Nat) n, P[k]? = some n → ∃ l, L[k]? = some l ∧ l.lo ≤ n ∧ n ≤ hiP r l
  | [], [], _, k, n, h => by simp at h
  | l :: L, n :: P, h, 0, m, hm => by
    rw [pulB, Bool.and_eq_true, inB_iff] at h
    simp only [List.getElem?_cons_zero, Option.some.injEq] at hm
    subst hm
    exact ⟨l, rfl, h.1⟩
  | l :: L, n :: P, h, k + 1, m, hm => by
    rw [pulB, Bool.and_eq_true] at h
    simpa using pulB_at h.2 k m (by simpa using hm)
theorem pulB_drop {r : Rig} : ∀ {L : List Ld} {P : List Int} {k : Nat} {l : Ld} {n : Int}, L[k]? = some l → P[k]? = some n → pulB r (L.drop k) (P.drop k) = (inB n l.lo (hiP r l) && pulB r (L.drop (k + 1)) (P.drop (k + 1))) := by
  intro L P k l n h1 h2
  obtain ⟨a1, a2⟩ := List.getElem?_eq_some_iff.1 h1
  obtain ⟨b1, b2⟩ := List.getElem?_eq_some_iff.1 h2
  rw [List.drop_eq_getElem_cons a1, List.drop_eq_getElem_cons b1, a2, b2, pulB]
theorem pulB_ne {r : Rig} {L : List Ld} {P : List Int} (h : P.length ≠ L.length) : pulB r L P = false := by
  rw [Bool.eq_false_iff]; intro hc; exact h (pulB_len hc)
theorem pulB_B {r : Rig} {PP : List Int} {BB : List Bm} {LL : List Ld} (hr : rigOk r.f0 r.f1 r.f2 PP BB LL = true) {P : List Int} (h : pulB r LL P = true) : pullsB P := by
  rw [rigOk_iff] at hr
  obtain ⟨q1, q2, q3, q4, q5, q6, q7⟩ := hr
  refine ⟨by rw [pulB_len h]; exact q5, fun n hn => ?_⟩
  obtain ⟨k, hk⟩ := List.getElem?_of_mem hn
  obtain ⟨l, h1, h2, h3⟩ := pulB_at h k n hk
  have hlo := List.all_eq_true.1 q7 _ (List.mem_of_getElem? h1)
  rw [ldOk_iff] at hlo
  have := hiP_bd (fac_bd (r := r) q6 l.kind) hlo.2.2.2.1
  omega
/-- What the points, and the hangers, bear. -/
def bPt (F : Fr) (n : Nat) (P : List Int) : List Int := (List.range n).map fun j => dotR (F.p j) P P.length
def bHg (F : Fr) (m : Nat) (P : List Int) : List (Int × Int) := (List.range m).map fun j => (dotR (F.h j 0) P P.length, dotR (F.h j 1) P P.length)
def brP (r : Rig) (PP : List Int) (BB : List Bm) (LL : List Ld) (P : List Int) : List Int := if rigOk r.f0 r.f1 r.f2 PP BB LL = true ∧ pulB r LL P = true then bPt (frF BB LL) PP.length P else []
def brH (r : Rig) (PP : List Int) (BB : List Bm) (LL : List Ld) (P : List Int) : List (Int × Int) := if rigOk r.f0 r.f1 r.f2 PP BB LL = true ∧ pulB r LL P = true then bHg (frF BB LL) BB.length P else []
def brE (r : Rig) (PP : List Int) (BB : List Bm) (LL : List Ld) (P : List Int) : Int := if rigOk r.f0 r.f1 r.f2 PP BB LL = true then (if pulB r LL P = true then 0 else 2) else 1
theorem rng_at {α : Type} (f : Nat → α) {n k : Nat} (h : k < n) : ((List.range n).map f)[k]? = some (f k) := by
  rw [List.getElem?_map, List.getElem?_range h]; rfl
theorem rng_take {α : Type} (f : Nat → α) {n k : Nat} (h : k < n) : ((List.range n).map f).take (k + 1) = ((List.range n).map f).take k ++ [f k] := by
  rw [List.take_add_one, rng_at f h]; rfl
theorem frF_Q {f0 f1 f2 : Int} {PP : List Int} {BB : List Bm} {LL : List Ld} (hr : rigOk f0 f1 f2 PP BB LL = true) : (∀ j, rowQ ((frF BB LL).p j)) ∧ ∀ j k, rowQ ((frF BB LL).h j k) := by
  have hm : BB.length ≤ 12 := (rigOk_iff.1 hr).2.2.1
  exact ⟨fun j c => Nat.le_trans ((frF_bnd hr c).1 j) (Bb_mono hm), fun j k c => Nat.le_trans ((frF_bnd hr c).2.1 j k) (Bb_mono hm)⟩

set_option maxHeartbeats 8000000 in
set_option maxRecDepth 100000 in
theorem Bears_ok (r : Rig) (PP : List Int) (BB : List Bm) (LL : List Ld) (P : List Int) (po : Option Addr) (pc : Nat) (w : World) (h : RigIn r PP BB LL w) (hPl : Rd 1 iF (.slice po P.length pc) P w) (hpl : P.length ≤ 1000000) :
    Calls Try.prog 29 #[r.v, .slice po P.length pc] w fun e w' => ∃ y : (Option Addr × Nat) × (Option Addr × Nat), e = .returned (.tuple #[sV (brP r PP BB LL P).length y.1, sV (brH r PP BB LL P).length y.2, iv (brE r PP BB LL P)]) ∧ Below w.heap.size w w' ∧
      St w.heap.size (fun w2 => Rd 1 iF (sV (brP r PP BB LL P).length y.1) (brP r PP BB LL P) w2 ∧ Rd 2 gF (sV (brH r PP BB LL P).length y.2) (brH r PP BB LL P) w2) w' := by
  have hv := fun (w' : World) (hb : Below w.heap.size w w') => valid_ok r PP BB LL w' (h.below hb)
  have hfr := fun (w' : World) (hb : Below w.heap.size w w') (hr : rigOk r.f0 r.f1 r.f2 PP BB LL = true) => frame_ok r PP BB LL w' (h.below hb) hr (frB_of hr)
  have hL := h.l
  have hlen := h.ln
  have hll := h.ll
  obtain ⟨r1, r2, r3, r4, r5, r6, f0, f1, f2, lo, ln, lc⟩ := r
  dsimp only at hv hfr hL hlen
  subst hlen
  refine calls_fam env mixed Try.func29 has29 Try.ntmps29 [.agg #[.slice r1 r2 r3, .slice r4 r5 r6, iv f0, iv f1, iv f2, .slice lo LL.length lc], .slice po P.length pc] (by simp) ?_
  unfold brP brH brE
  dsimp only
  cases hr : rigOk f0 f1 f2 PP BB LL with
  | false =>
    rw [hr] at hv
    rw [if_neg (by simp), if_neg (by simp), if_neg (by simp)]
    repeat'
     conv => whnf
     first
      | refine zA ?_ | refine zB ?_ | refine zC ?_ | refine zD ?_ | refine zE ?_ | refine zF ?_ | refine zG ?_ | refine zH ?_ | refine zI ?_ | refine splT ?_ | refine splF ?_ | refine splNot ?_
      | ((first | refine splIn (fun hc => ?_) (fun hc => ?_) | refine splD (fun hc => ?_) (fun hc => ?_) | refine splE (fun hc => ?_) (fun hc => ?_) | refine splNE (fun hc => ?_) (fun hc => ?_)) <;> first | (exfalso; omega) | (exfalso; dsimp only at hc; omega) | skip)
      | ((with_reducible show CallEv _ _ 67 _ _ _ _ _); refine callE (k := 67) (fun β w' hbw => hv _ hbw) ?_)
    all_goals exact ⟨fun w' h => h, fun β w' h _ => ⟨((none, 0), (none, 0)), rfl, fun _ _ => ⟨.inl ⟨rfl, rfl⟩, .inl ⟨rfl, rfl⟩⟩⟩⟩
  | true =>
    rw [hr] at hv
    have hfr := fun w' hb => hfr w' hb hr
    rw [if_pos rfl]
    by_cases hne : P.length = LL.length
    · skip
      repeat'
       conv => whnf
       first
        | refine zA ?_ | refine zB ?_ | refine zC ?_ | refine zD ?_ | refine zE ?_ | refine zF ?_ | refine zG ?_ | refine zH ?_ | refine zI ?_ | refine splT ?_ | refine splF ?_ | refine splNot ?_
        | ((first | refine splIn (fun hc => ?_) (fun hc => ?_) | refine splD (fun hc => ?_) (fun hc => ?_) | refine splE (fun hc => ?_) (fun hc => ?_) | refine splNE (fun hc => ?_) (fun hc => ?_)) <;> first | (exfalso; omega) | (exfalso; dsimp only at hc; omega) | skip)
        | ((with_reducible show CallEv _ _ 67 _ _ _ _ _); refine callE (k := 67) (fun β w' hbw => hv _ hbw) ?_)
      all_goals first | (exfalso; omega) | skip
      have hln : (P.length : Int) = LL.length := by omega
      refine loopN 1 (fun k : Nat => [(1, .v (.slice po P.length pc)), (2, .ptr 0 0), (4, .v (.slice none 0 0)), (5, .v (.slice none 0 0)), (24, .v (.slice po P.length pc)), (25, .v (iv P.length)), (26, .v (iv k))])
        (fun k => [(0, .cells [.v (.slice r1 r2 r3), .v (.slice r4 r5 r6), .v (iv f0), .v (iv f1), .v (iv f2), .v (.slice lo LL.length lc)] 58)]) (fun k => k ≤ P.length ∧ pulB ⟨r1, r2, r3, r4, r5, r6, f0, f1, f2, lo, LL.length, lc⟩ LL P = pulB ⟨r1, r2, r3, r4, r5, r6, f0, f1, f2, lo, LL.length, lc⟩ (LL.drop k) (P.drop k)) (fun k => P.length - k) 0 ⟨Nat.zero_le _, rfl⟩ ⟨rfl, rfl, rfl, rfl, rfl, rfl, rfl, trivial⟩ ⟨rfl, trivial⟩ (fun _ _ => ⟨rfl, rfl⟩) ?_
      intro k ⟨hk, hpu⟩
      rcases Nat.lt_or_ge k P.length with hkl | hkl
      · obtain ⟨n, hn⟩ : ∃ b, P[k]? = some b := ⟨_, List.getElem?_eq_getElem hkl⟩
        obtain ⟨l, hl⟩ : ∃ b, LL[k]? = some b := ⟨_, List.getElem?_eq_getElem (by omega)⟩
        obtain ⟨_, ad, rfl, _⟩ := hPl.ptr (by omega)
        have e0 := fun (w' : World) hw' => rd_ati (hPl.below (w' := w') hw') hn
        rw [pulB_drop hl hn] at hpu
        have hri := rigOk_iff.1 hr
        have hlo := List.all_eq_true.1 hri.2.2.2.2.2.2 l (List.mem_of_getElem? hl)
        rw [ldOk_iff] at hlo
        have hfac := fac_bd (r := ⟨r1, r2, r3, r4, r5, r6, f0, f1, f2, lo, LL.length, lc⟩) hri.2.2.2.2.2.1 l.kind
        have hp := fun (w' : World) (hb' : Below w.heap.size w w') => pull_ok ⟨r1, r2, r3, r4, r5, r6, f0, f1, f2, lo, LL.length, lc⟩ LL k l w' (hL.below hb') rfl hl hll (by omega) (by omega) (by omega)
        have hpu1 : inB n l.lo (hiP ⟨r1, r2, r3, r4, r5, r6, f0, f1, f2, lo, LL.length, lc⟩ l) = false → pulB ⟨r1, r2, r3, r4, r5, r6, f0, f1, f2, lo, LL.length, lc⟩ LL P = false := fun h => by rw [hpu, h]; rfl
        have hpu2 : inB n l.lo (hiP ⟨r1, r2, r3, r4, r5, r6, f0, f1, f2, lo, LL.length, lc⟩ l) = true → pulB ⟨r1, r2, r3, r4, r5, r6, f0, f1, f2, lo, LL.length, lc⟩ LL P = pulB ⟨r1, r2, r3, r4, r5, r6, f0, f1, f2, lo, LL.length, lc⟩ (LL.drop (k + 1)) (P.drop (k + 1)) := fun h => by rw [hpu, h]; rfl
        clear hpu hfr hv
        generalize hiP ⟨r1, r2, r3, r4, r5, r6, f0, f1, f2, lo, LL.length, lc⟩ l = hi at *
        repeat'
         conv => whnf
         first
          | refine zA ?_ | refine zB ?_ | refine zC ?_ | refine zD ?_ | refine zE ?_ | refine zF ?_ | refine zG ?_ | refine zH ?_ | refine zI ?_ | refine splT ?_ | refine splF ?_ | refine splNot ?_
          | ((first | refine splIn (fun hc => ?_) (fun hc => ?_) | refine splD (fun hc => ?_) (fun hc => ?_) | refine splE (fun hc => ?_) (fun hc => ?_) | refine splNE (fun hc => ?_) (fun hc => ?_)) <;> first | (exfalso; omega) | (exfalso; dsimp only at hc; omega) | skip)
          | refine Exists.intro (α := List Value) [iv n] ⟨⟨rfl, fun w' hw' => e0 w' hw'⟩, ?_⟩
          | ((with_reducible show CallEv _ _ 68 _ _ _ _ _); refine callE (k := 68) (fun β w' hbw => hp _ hbw) ?_)
          | ((with_reducible show CallEv _ _ 56 _ _ _ _ _); refine callE (k := 56) (fun β w' hbw => within_ok _ _ _ _) ?_)
        all_goals first
          | (exfalso; omega)
          | exact ⟨k + 1, ⟨by omega, hpu2 (inB_iff.2 (by omega))⟩, by omega, Ent.weak rfl ⟨rfl, rfl, rfl, rfl, rfl, rfl, rfl, trivial⟩ ⟨rfl, trivial⟩ fun _ h => h⟩
          | (rw [hpu1 (by rw [Bool.eq_false_iff]; intro hc; rw [inB_iff] at hc; omega), if_neg (by simp), if_neg (by simp), if_neg (by simp)]
             exact ⟨fun w' h => h, fun β w' h _ => ⟨((none, 0), (none, 0)), rfl, fun _ _ => ⟨.inl ⟨rfl, rfl⟩, .inl ⟨rfl, rfl⟩⟩⟩⟩)
      · rw [List.drop_eq_nil_of_le hkl, List.drop_eq_nil_of_le (by omega)] at hpu
        have hpt : pulB ⟨r1, r2, r3, r4, r5, r6, f0, f1, f2, lo, LL.length, lc⟩ LL P = true := hpu
        rw [hpt, if_pos ⟨rfl, rfl⟩, if_pos ⟨rfl, rfl⟩, if_pos rfl]
        have hPB := pulB_B (r := ⟨r1, r2, r3, r4, r5, r6, f0, f1, f2, lo, LL.length, lc⟩) (PP := PP) (BB := BB) hr hpt
        obtain ⟨hQ1, hQ2⟩ := frF_Q hr
        clear hpu hpt hne hv
        generalize frF BB LL = F at *
        repeat'
         conv => whnf
         first
          | refine zA ?_ | refine zB ?_ | refine zC ?_ | refine zD ?_ | refine zE ?_ | refine zF ?_ | refine zG ?_ | refine zH ?_ | refine zI ?_ | refine splT ?_ | refine splF ?_ | refine splNot ?_
          | ((first | refine splIn (fun hc => ?_) (fun hc => ?_) | refine splD (fun hc => ?_) (fun hc => ?_) | refine splE (fun hc => ?_) (fun hc => ?_) | refine splNE (fun hc => ?_) (fun hc => ?_)) <;> first | (exfalso; omega) | (exfalso; dsimp only at hc; omega) | skip)
          | ((with_reducible show CallEv _ _ 69 _ _ _ _ _); refine callF [] (fun y : FrA => .pointer (some ⟨y.fb, 0, none⟩)) (fun y => FrIn ⟨r1, r2, r3, r4, r5, r6, f0, f1, f2, lo, LL.length, lc⟩ PP.length BB.length F y) (fun β w' _ hbw => hfr w' hbw) ?_; intro y; obtain ⟨fb, pb, qc, gb, gc, ub, uc⟩ := y; dsimp only)
          | refine nilX rfl rfl ?_
          | refine Exists.intro (α := List Value) [.slice (some ⟨pb, 0, none⟩) PP.length qc] ⟨⟨rfl, fun w' hw' j v hj => (show w'.cell? (((⟨fb, 0, none⟩ : Addr).add 6).add j) = some v from (by
          match j, hj with
          | 0, hj => cases hj; rw [Addr.add_add]; exact hw'.2.c 6 _ rfl))⟩, ?_⟩
        all_goals first | (exfalso; omega) | skip
        have hPn : (bPt F PP.length P).length = PP.length := by simp [bPt]
        have hHn : (bHg F BB.length P).length = BB.length := by simp [bHg]
        have hri := rigOk_iff.1 hr
        refine loopN 3 (fun k : Nat => [(1, .v (.slice po P.length pc)), (4, oSV 1 2 ((bPt F PP.length P).take k)), (5, .v (.slice none 0 0)), (10, .v (.pointer (some ⟨fb, 0, none⟩))), (47, .v (.slice (some ⟨pb, 0, none⟩) PP.length qc)), (48, .v (iv PP.length)), (49, .v (iv k))])
          (fun k => oM 1 2 1 iF 3 ((bPt F PP.length P).take k)) (fun k => k ≤ PP.length) (fun k => PP.length - k) 0 (Nat.zero_le _) ⟨rfl, rfl, rfl, rfl, rfl, rfl, rfl, trivial⟩ trivial (fun k _ => by cases (bPt F PP.length P).take k <;> exact ⟨rfl, rfl⟩) ?_
        intro k2 hk2
        rcases Nat.lt_or_ge k2 PP.length with hkl2 | hkl2
        · have e0 := fun (w' : World) (hw' : Below w.heap.size w w' ∧ FrIn ⟨r1, r2, r3, r4, r5, r6, f0, f1, f2, lo, LL.length, lc⟩ PP.length BB.length F ⟨fb, pb, qc, gb, gc, ub, uc⟩ w') => rd_ati hw'.2.p (rng_at F.p hkl2)
          have hd := fun (w' : World) (hb : Below w.heap.size w w') => bears_ok (F.p k2) P po pc w' (hPl.below hb) (dotB_of (hQ1 k2) hPB)
          have ht : (bPt F PP.length P).take (k2 + 1) = (bPt F PP.length P).take k2 ++ [dotR (F.p k2) P P.length] := rng_take _ hkl2
          have hlen2 : ((bPt F PP.length P).take k2).length ≤ k2 := List.length_take_le _ _
          generalize (bPt F PP.length P).take k2 = L at *
          generalize dotR (F.p k2) P P.length = D at *
          generalize F.p k2 = X at *
          cases L with
          | nil =>
            repeat'
             conv => whnf
             first
              | refine zA ?_ | refine zB ?_ | refine zC ?_ | refine zD ?_ | refine zE ?_ | refine zF ?_ | refine zG ?_ | refine zH ?_ | refine zI ?_ | refine splT ?_ | refine splF ?_ | refine splNot ?_
              | ((first | refine splIn (fun hc => ?_) (fun hc => ?_) | refine splD (fun hc => ?_) (fun hc => ?_) | refine splE (fun hc => ?_) (fun hc => ?_) | refine splNE (fun hc => ?_) (fun hc => ?_)) <;> first | (exfalso; omega) | (exfalso; dsimp only at hc; omega) | skip)
              | refine Exists.intro (α := List Value) (rwL X) ⟨⟨rfl, fun w' hw' => e0 w' hw'⟩, ?_⟩
              | ((with_reducible show CallEv _ _ 70 _ _ _ _ _); refine callE (k := 70) (fun β w' hbw => hd _ hbw.1) ?_)
            exact ⟨k2 + 1, by omega, by omega, Ent.ren (rho [(1, 5), (2, 6)]) rfl (by rw [ht]; rfl) ⟨rfl, by rw [ht]; rfl, rfl, rfl, rfl, rfl, rfl, trivial⟩ (by rw [ht]; exact ⟨rfl, trivial⟩) fun _ h => h⟩
          | cons a L =>
            simp only [List.length_cons] at hlen2
            repeat'
             conv => whnf
             first
              | refine zA ?_ | refine zB ?_ | refine zC ?_ | refine zD ?_ | refine zE ?_ | refine zF ?_ | refine zG ?_ | refine zH ?_ | refine zI ?_ | refine splT ?_ | refine splF ?_ | refine splNot ?_
              | ((first | refine splIn (fun hc => ?_) (fun hc => ?_) | refine splD (fun hc => ?_) (fun hc => ?_) | refine splE (fun hc => ?_) (fun hc => ?_) | refine splNE (fun hc => ?_) (fun hc => ?_)) <;> first | (exfalso; omega) | (exfalso; dsimp only at hc; omega) | skip)
              | refine Exists.intro (α := List Value) (rwL X) ⟨⟨rfl, fun w' hw' => e0 w' hw'⟩, ?_⟩
              | ((with_reducible show CallEv _ _ 70 _ _ _ _ _); refine callE (k := 70) (fun β w' hbw => hd _ hbw.1) ?_)
            exact ⟨k2 + 1, by omega, by omega, Ent.ren (rho [(1, 5), (2, 6)]) rfl (by rw [ht]; rfl) ⟨rfl, by rw [ht]; simp [oSV]; rfl, rfl, rfl, rfl, rfl, rfl, trivial⟩ (by rw [ht]; exact ⟨by simp [oM]; rfl, trivial⟩) fun _ h => h⟩
        · rw [List.take_of_length_le (show (bPt F PP.length P).length ≤ k2 by omega)]
          generalize bPt F PP.length P = A at *
          cases A with
          | nil => simp at hPn; omega
          | cons a0 A =>
            simp only [List.length_cons] at hPn
            repeat'
             conv => whnf
             first
              | refine zA ?_ | refine zB ?_ | refine zC ?_ | refine zD ?_ | refine zE ?_ | refine zF ?_ | refine zG ?_ | refine zH ?_ | refine zI ?_ | refine splT ?_ | refine splF ?_ | refine splNot ?_
              | ((first | refine splIn (fun hc => ?_) (fun hc => ?_) | refine splD (fun hc => ?_) (fun hc => ?_) | refine splE (fun hc => ?_) (fun hc => ?_) | refine splNE (fun hc => ?_) (fun hc => ?_)) <;> first | (exfalso; omega) | (exfalso; dsimp only at hc; omega) | skip)
              | refine nilX rfl rfl ?_
              | refine Exists.intro (α := List Value) [.slice (some ⟨gb, 0, none⟩) BB.length gc] ⟨⟨rfl, fun w' hw' j v hj => (show w'.cell? (((⟨fb, 0, none⟩ : Addr).add 7).add j) = some v from (by
              match j, hj with
              | 0, hj => cases hj; rw [Addr.add_add]; exact hw'.2.c 7 _ rfl))⟩, ?_⟩
            refine loopN 5 (fun k : Nat => [(1, .v (.slice po P.length pc)), (4, .os 1 2 (A.length + 1)), (5, oSV 3 4 ((bHg F BB.length P).take k)), (63, .v (.slice (some ⟨gb, 0, none⟩) BB.length gc)), (64, .v (iv BB.length)), (65, .v (iv k))])
              (fun k => (1, .own 2 (A.length + 1) 1 ((a0 :: A).flatMap iF) 3) :: oM 3 4 2 gF 71 ((bHg F BB.length P).take k)) (fun k => k ≤ BB.length) (fun k => BB.length - k) 0 (Nat.zero_le _) ⟨rfl, rfl, rfl, rfl, rfl, rfl, trivial⟩ ⟨rfl, trivial⟩ (fun k _ => by cases (bHg F BB.length P).take k <;> exact ⟨rfl, rfl⟩) ?_
            intro k3 hk3
            rcases Nat.lt_or_ge k3 BB.length with hkl3 | hkl3
            · have e0 := fun (w' : World) (hw' : Below w.heap.size w w' ∧ FrIn ⟨r1, r2, r3, r4, r5, r6, f0, f1, f2, lo, LL.length, lc⟩ PP.length BB.length F ⟨fb, pb, qc, gb, gc, ub, uc⟩ w') => rd_ati hw'.2.h (rng_at (fun j => (F.h j 0, F.h j 1)) hkl3)
              have hd0 := fun (w' : World) (hb : Below w.heap.size w w') => bears_ok (F.h k3 0) P po pc w' (hPl.below hb) (dotB_of (hQ2 k3 0) hPB)
              have hd1 := fun (w' : World) (hb : Below w.heap.size w w') => bears_ok (F.h k3 1) P po pc w' (hPl.below hb) (dotB_of (hQ2 k3 1) hPB)
              have ht : (bHg F BB.length P).take (k3 + 1) = (bHg F BB.length P).take k3 ++ [(dotR (F.h k3 0) P P.length, dotR (F.h k3 1) P P.length)] := rng_take (fun j => (dotR (F.h j 0) P P.length, dotR (F.h j 1) P P.length)) hkl3
              have hlen3 : ((bHg F BB.length P).take k3).length ≤ k3 := List.length_take_le _ _
              generalize (bHg F BB.length P).take k3 = L at *
              generalize dotR (F.h k3 0) P P.length = D0 at *
              generalize dotR (F.h k3 1) P P.length = D1 at *
              generalize F.h k3 0 = X0 at *
              generalize F.h k3 1 = X1 at *
              cases L with
              | nil =>
                repeat'
                 conv => whnf
                 first
                  | refine zA ?_ | refine zB ?_ | refine zC ?_ | refine zD ?_ | refine zE ?_ | refine zF ?_ | refine zG ?_ | refine zH ?_ | refine zI ?_ | refine splT ?_ | refine splF ?_ | refine splNot ?_
                  | ((first | refine splIn (fun hc => ?_) (fun hc => ?_) | refine splD (fun hc => ?_) (fun hc => ?_) | refine splE (fun hc => ?_) (fun hc => ?_) | refine splNE (fun hc => ?_) (fun hc => ?_)) <;> first | (exfalso; omega) | (exfalso; dsimp only at hc; omega) | skip)
                  | refine Exists.intro (α := List Value) (hgV (X0, X1)) ⟨⟨rfl, fun w' hw' => e0 w' hw'⟩, ?_⟩
                  | ((with_reducible show CallEv _ _ 70 [.agg (.v (iv (X0 0)) :: _), _] _ _ _ _); refine callE (k := 70) (fun β w' hbw => hd0 _ hbw.1) ?_)
                  | ((with_reducible show CallEv _ _ 70 [.agg (.v (iv (X1 0)) :: _), _] _ _ _ _); refine callE (k := 70) (fun β w' hbw => hd1 _ hbw.1) ?_)
                exact ⟨k3 + 1, by omega, by omega, Ent.ren (rho [(3, 7), (4, 8)]) rfl (by rw [ht]; rfl) ⟨rfl, rfl, by rw [ht]; rfl, rfl, rfl, rfl, trivial⟩ (by rw [ht]; exact ⟨rfl, rfl, trivial⟩) fun _ h => h⟩
              | cons a L =>
                simp only [List.length_cons] at hlen3
                repeat'
                 conv => whnf
                 first
                  | refine zA ?_ | refine zB ?_ | refine zC ?_ | refine zD ?_ | refine zE ?_ | refine zF ?_ | refine zG ?_ | refine zH ?_ | refine zI ?_ | refine splT ?_ | refine splF ?_ | refine splNot ?_
                  | ((first | refine splIn (fun hc => ?_) (fun hc => ?_) | refine splD (fun hc => ?_) (fun hc => ?_) | refine splE (fun hc => ?_) (fun hc => ?_) | refine splNE (fun hc => ?_) (fun hc => ?_)) <;> first | (exfalso; omega) | (exfalso; dsimp only at hc; omega) | skip)
                  | refine Exists.intro (α := List Value) (hgV (X0, X1)) ⟨⟨rfl, fun w' hw' => e0 w' hw'⟩, ?_⟩
                  | ((with_reducible show CallEv _ _ 70 [.agg (.v (iv (X0 0)) :: _), _] _ _ _ _); refine callE (k := 70) (fun β w' hbw => hd0 _ hbw.1) ?_)
                  | ((with_reducible show CallEv _ _ 70 [.agg (.v (iv (X1 0)) :: _), _] _ _ _ _); refine callE (k := 70) (fun β w' hbw => hd1 _ hbw.1) ?_)
                exact ⟨k3 + 1, by omega, by omega, Ent.ren (rho [(3, 7), (4, 8)]) rfl (by rw [ht]; rfl) ⟨rfl, rfl, by rw [ht]; simp [oSV]; rfl, rfl, rfl, rfl, trivial⟩ (by rw [ht]; exact ⟨rfl, by simp [oM]; rfl, trivial⟩) fun _ h => h⟩
            · rw [List.take_of_length_le (show (bHg F BB.length P).length ≤ k3 by omega)]
              generalize bHg F BB.length P = B at *
              cases B with
              | nil =>
                repeat'
                 conv => whnf
                 first
                  | refine zA ?_ | refine zB ?_ | refine zC ?_ | refine zD ?_ | refine zE ?_ | refine zF ?_ | refine zG ?_ | refine zH ?_ | refine zI ?_ | refine splT ?_ | refine splF ?_ | refine splNot ?_
                  | ((first | refine splIn (fun hc => ?_) (fun hc => ?_) | refine splD (fun hc => ?_) (fun hc => ?_) | refine splE (fun hc => ?_) (fun hc => ?_) | refine splNE (fun hc => ?_) (fun hc => ?_)) <;> first | (exfalso; omega) | (exfalso; dsimp only at hc; omega) | skip)
                exact ⟨fun w' h => h.1, fun β w' hB hblk => ⟨((some ⟨β 1, 0, none⟩, β 2), (none, 0)), rfl, (hblk 1 _ rfl rfl).imp fun _ q => ⟨Rd.of_owns (sz := 1) (f := iF) (fun _ => rfl) rfl rfl q, .inl ⟨rfl, rfl⟩⟩⟩⟩
              | cons b0 B =>
                repeat'
                 conv => whnf
                 first
                  | refine zA ?_ | refine zB ?_ | refine zC ?_ | refine zD ?_ | refine zE ?_ | refine zF ?_ | refine zG ?_ | refine zH ?_ | refine zI ?_ | refine splT ?_ | refine splF ?_ | refine splNot ?_
                  | ((first | refine splIn (fun hc => ?_) (fun hc => ?_) | refine splD (fun hc => ?_) (fun hc => ?_) | refine splE (fun hc => ?_) (fun hc => ?_) | refine splNE (fun hc => ?_) (fun hc => ?_)) <;> first | (exfalso; omega) | (exfalso; dsimp only at hc; omega) | skip)
                exact ⟨fun w' h => h.1, fun β w' hB hblk => ⟨((some ⟨β 1, 0, none⟩, β 2), (some ⟨β 3, 0, none⟩, β 4)), rfl, ((hblk 1 _ rfl rfl).and (hblk 3 _ rfl rfl)).imp fun _ q => ⟨Rd.of_owns (sz := 1) (f := iF) (fun _ => rfl) rfl rfl q.1, Rd.of_owns (sz := 2) (f := gF) (fun _ => rfl) rfl rfl q.2⟩⟩⟩
    · rw [pulB_ne hne, if_neg (by simp), if_neg (by simp), if_neg (by simp)]
      repeat'
       conv => whnf
       first
        | refine zA ?_ | refine zB ?_ | refine zC ?_ | refine zD ?_ | refine zE ?_ | refine zF ?_ | refine zG ?_ | refine zH ?_ | refine zI ?_ | refine splT ?_ | refine splF ?_ | refine splNot ?_
        | ((first | refine splIn (fun hc => ?_) (fun hc => ?_) | refine splD (fun hc => ?_) (fun hc => ?_) | refine splE (fun hc => ?_) (fun hc => ?_) | refine splNE (fun hc => ?_) (fun hc => ?_)) <;> first | (exfalso; omega) | (exfalso; dsimp only at hc; omega) | skip)
        | ((with_reducible show CallEv _ _ 67 _ _ _ _ _); refine callE (k := 67) (fun β w' hbw => hv _ hbw) ?_)
      all_goals first | (exfalso; omega) | skip
      all_goals exact ⟨fun w' h => h, fun β w' h _ => ⟨((none, 0), (none, 0)), rfl, fun _ _ => ⟨.inl ⟨rfl, rfl⟩, .inl ⟨rfl, rfl⟩⟩⟩⟩
end Go.Proofs.Ytaciigegbgnadaa

/- The first hanger that may be slack: what slack returns. -/
namespace Go.Proofs.Ytaciigegbgnadaa
open Go Tx Go.RowKit
set_option linter.unusedSimpArgs false
set_option linter.unusedVariables false

/-- The first hanger, from a beam on, of which something holds. -/
def hgS (is : Nat → Nat → Bool) : Nat → Nat → Option (Nat × Nat)
  | 0, _ => none
  | n + 1, i => if is i 0 = true then some (i, 0) else if is i 1 = true then some (i, 1) else hgS is n (i + 1)
def hgO (is : Nat → Nat → Bool) (m : Nat) : Option (Nat × Nat) := hgS is m 0
theorem hgS_at (is : Nat → Nat → Bool) {m i : Nat} (h : i < m) : hgS is (m - i) i = if is i 0 = true then some (i, 0) else if is i 1 = true then some (i, 1) else hgS is (m - (i + 1)) (i + 1) := by
  rw [show m - i = (m - (i + 1)) + 1 from by omega, hgS]
/-- A part, its row, and whether there is one. -/
def ptV (F : Fr) : Option (Nat × Nat) → Value
  | none => .tuple #[.agg #[iv 0, iv 0], .agg (rwL zr).toArray, .bool false]
  | some (i, k) => .tuple #[.agg #[iv i, iv k], .agg (rwL (F.h i k)).toArray, .bool true]

set_option maxHeartbeats 8000000 in
set_option maxRecDepth 100000 in
theorem slack_ok (r : Rig) (PP : List Int) (BB : List Bm) (LL : List Ld) (F : Fr) (y : FrA) (w : World) (h : RigIn r PP BB LL w) (hr : rigOk r.f0 r.f1 r.f2 PP BB LL = true) (hy : FrIn r PP.length BB.length F y w) (hQ : ∀ j k, rowQ (F.h j k)) :
    Calls Try.prog 77 #[.pointer (some ⟨y.fb, 0, none⟩)] w fun e w' => e = .returned (ptV F (hgO (fun i k => decide (endD r LL (F.h i k) false < 0)) BB.length)) ∧ Below w.heap.size w w' := by
  refine calls_val env mixed Try.func77 has77 Try.ntmps77 [.pointer (some ⟨y.fb, 0, none⟩)] (by simp) ?_
  have hB := h.b
  have hbn := h.bn
  have hm := (rigOk_iff.1 hr).2.2.1
  have h95 := fun (i k : Nat) (w' : World) (hb : Below w.heap.size w w') => least_ok r PP BB LL F y (F.h i k) w' (h.below hb) hr (hy.below hb) (hQ i k)
  have hc := hy.c
  have hh := hy.h
  obtain ⟨po, pn, pc, bo, bn, bc, f0, f1, f2, lo, ln, lc⟩ := r
  obtain ⟨fb, pb, qc, gb, gc, ub, uc⟩ := y
  dsimp only at hB hbn h95 hc hh ⊢
  subst hbn
  generalize hD : (fun i k => endD ⟨po, pn, pc, bo, BB.length, bc, f0, f1, f2, lo, ln, lc⟩ LL (F.h i k) false) = D at *
  have hDi : ∀ i k, endD ⟨po, pn, pc, bo, BB.length, bc, f0, f1, f2, lo, ln, lc⟩ LL (F.h i k) false = D i k := fun i k => by rw [← hD]
  simp only [hDi] at h95 ⊢
  have g1 := fun (w' : World) (hb : Below w.heap.size w w') => fun j v (h : [Value.slice bo BB.length bc][j]? = some v) => (show w'.cell? ((((⟨fb, 0, none⟩ : Addr).add 0).add 1).add j) = some v from by
    match j, h with
    | 0, h => cases h; rw [Addr.add_add, Addr.add_add]; exact ext_below hb (hc 1 _ rfl))
  have g7 := fun (w' : World) (hb : Below w.heap.size w w') => fun j v (h : [Value.slice (some ⟨gb, 0, none⟩) BB.length gc][j]? = some v) => (show w'.cell? (((⟨fb, 0, none⟩ : Addr).add 7).add j) = some v from by
    match j, h with
    | 0, h => cases h; rw [Addr.add_add]; exact ext_below hb (hc 7 _ rfl))
  repeat'
   conv => whnf
   first
    | refine zA ?_ | refine zB ?_ | refine zC ?_ | refine zD ?_ | refine zE ?_ | refine zF ?_ | refine zG ?_ | refine zH ?_ | refine zI ?_ | refine splT ?_ | refine splF ?_ | refine splNot ?_
    | ((first | refine splIn (fun hc => ?_) (fun hc => ?_) | refine splD (fun hc => ?_) (fun hc => ?_) | refine splE (fun hc => ?_) (fun hc => ?_) | refine splNE (fun hc => ?_) (fun hc => ?_)) <;> first | (exfalso; omega) | (exfalso; dsimp only at hc; omega) | skip)
    | ((with_reducible show CallEv _ _ 97 _ _ _ _ _); refine callI env mixed 1000 [2, 3] Try.func97 has97 Try.ntmps97 (Nat.le_of_ble_eq_true rfl) rfl rfl rfl ?_)
    | refine nilX rfl rfl ?_
    | refine Exists.intro (α := List Value) [.slice bo BB.length bc] ⟨⟨rfl, fun w' hw' => g1 w' hw'⟩, ?_⟩
  conv => whnf
  refine loopN 5 (fun i : Nat => [(0, .v (.pointer (some ⟨fb, 0, none⟩))), (1, .fn (.func 100) [.ptr 0 0]), (4, .ptr 3 0), (5, .ptr 4 0), (6, .v (.bool false)), (15, .v (.slice bo BB.length bc)), (16, .v (iv BB.length)), (17, .v (iv i))])
    (fun _ => [(0, .cells [.v (.pointer (some ⟨fb, 0, none⟩))] 134), (1, .cells [.v (iv 0), .v (iv 0)] 95), (2, .cells (rwS zr) 142), (3, .cells [.v (iv 0), .v (iv 0)] 95), (4, .cells (rwS zr) 142)])
    (fun i => i ≤ BB.length ∧ hgO (fun i k => decide (D i k < 0)) BB.length = hgS (fun i k => decide (D i k < 0)) (BB.length - i) i) (fun i => BB.length - i) 0 ⟨Nat.zero_le _, rfl⟩ ⟨rfl, rfl, rfl, rfl, rfl, rfl, rfl, rfl, trivial⟩ ⟨rfl, rfl, rfl, rfl, rfl, trivial⟩ (fun _ _ => ⟨rfl, rfl⟩) ?_
  intro i ⟨hi, hO⟩
  rcases Nat.lt_or_ge i BB.length with hil | hil
  · obtain ⟨b, hb⟩ : ∃ b, BB[i]? = some b := ⟨_, List.getElem?_eq_getElem hil⟩
    obtain ⟨_, ad, rfl, _⟩ := hB.ptr (by omega)
    have e0 := fun (w' : World) hw' => rd_ati (hB.below (w' := w') hw') hb
    have e1 := fun (w' : World) hw' => rd_ati (hh.below (w' := w') hw') (rng_at (fun j => (F.h j 0, F.h j 1)) hil)
    rw [hgS_at _ hil] at hO
    have h0 := h95 i 0
    have h1 := h95 i 1
    obtain ⟨b1, b2, b3, b4, b5, b6, b7, b8⟩ := b
    have hV : ∀ k, ptV F (some (i, k)) = .tuple #[.agg #[iv i, iv k], .agg (rwL (F.h i k)).toArray, .bool true] := fun k => rfl
    generalize D i 0 = D0 at *
    generalize D i 1 = D1 at *
    have hV0 := hV 0
    have hV1 := hV 1
    generalize F.h i 0 = X0 at *
    generalize F.h i 1 = X1 at *
    repeat'
     conv => whnf
     first
      | refine zA ?_ | refine zB ?_ | refine zC ?_ | refine zD ?_ | refine zE ?_ | refine zF ?_ | refine zG ?_ | refine zH ?_ | refine zI ?_ | refine splT ?_ | refine splF ?_ | refine splNot ?_
      | ((first | refine splIn (fun hc => ?_) (fun hc => ?_) | refine splD (fun hc => ?_) (fun hc => ?_) | refine splE (fun hc => ?_) (fun hc => ?_) | refine splNE (fun hc => ?_) (fun hc => ?_)) <;> first | (exfalso; omega) | (exfalso; dsimp only at hc; omega) | skip)
      | refine nilX rfl rfl ?_
      | refine Exists.intro (α := List Value) [iv b1, iv b2, iv b3, iv b4, iv b5, iv b6, iv b7, iv b8] ⟨⟨rfl, fun w' hw' => e0 w' hw'⟩, ?_⟩
      | refine Exists.intro (α := List Value) [.slice (some ⟨gb, 0, none⟩) BB.length gc] ⟨⟨rfl, fun w' hw' => g7 w' hw'⟩, ?_⟩
      | refine Exists.intro (α := List Value) (hgV (X0, X1)) ⟨⟨rfl, fun w' hw' => e1 w' hw'⟩, ?_⟩
    conv => whnf
    refine loopN 6 (fun k : Nat => [(0, .v (.pointer (some ⟨fb, 0, none⟩))), (1, .fn (.func 100) [.ptr 0 0]), (4, .ptr 3 0), (5, .ptr 4 0), (6, .v (.bool false)), (7, .v (iv i)), (8, .ptr 5 0), (15, .v (.slice (some ad) BB.length bc)), (16, .v (iv BB.length)), (17, .v (iv i)), (28, .agg ((hgV (X0, X1)).map .v)), (29, .v (iv k))])
      (fun _ => [(0, .cells [.v (.pointer (some ⟨fb, 0, none⟩))] 134), (1, .cells [.v (iv 0), .v (iv 0)] 95), (2, .cells (rwS zr) 142), (3, .cells [.v (iv 0), .v (iv 0)] 95), (4, .cells (rwS zr) 142), (5, .cells [.v (iv b1), .v (iv b2), .v (iv b3), .v (iv b4), .v (iv b5), .v (iv b6), .v (iv b7), .v (iv b8)] 107)])
      (fun k => k ≤ 2 ∧ (1 ≤ k → ¬ D0 < 0) ∧ (2 ≤ k → ¬ D1 < 0)) (fun k => 2 - k) 0 ⟨by omega, fun h => absurd h (by omega), fun h => absurd h (by omega)⟩ ⟨rfl, rfl, rfl, rfl, rfl, rfl, rfl, rfl, rfl, rfl, rfl, rfl, trivial⟩ ⟨rfl, rfl, rfl, rfl, rfl, rfl, trivial⟩ (fun _ _ => ⟨rfl, rfl⟩) ?_
    intro k ⟨hk, hk0, hk1⟩
    obtain rfl | rfl | rfl : k = 0 ∨ k = 1 ∨ k = 2 := by omega
    · by_cases hd : D0 < 0
      · rw [if_pos (decide_eq_true hd)] at hO
        rw [hO, hV0]
        repeat'
         conv => whnf
         first
          | refine zA ?_ | refine zB ?_ | refine zC ?_ | refine zD ?_ | refine zE ?_ | refine zF ?_ | refine zG ?_ | refine zH ?_ | refine zI ?_ | refine splT ?_ | refine splF ?_ | refine splNot ?_
          | ((first | refine splIn (fun hc => ?_) (fun hc => ?_) | refine splD (fun hc => ?_) (fun hc => ?_) | refine splE (fun hc => ?_) (fun hc => ?_) | refine splNE (fun hc => ?_) (fun hc => ?_)) <;> first | (exfalso; omega) | (exfalso; dsimp only at hc; omega) | skip)
          | refine idxL env (rwS X0) rfl rfl rfl rfl (And.intro (by omega) (by omega)) rfl rfl rfl rfl rfl ?_
          | ((with_reducible show CallEv _ _ 100 _ _ _ _ _); refine callI env mixed 2000 [0, 1, 4, 5, 6, 7, 8, 9, 10, 15, 16, 17, 28, 29] Try.func100 has100 Try.ntmps100 (Nat.le_of_ble_eq_true rfl) rfl rfl rfl ?_)
          | ((with_reducible show CallEv _ _ 95 _ _ _ _ _); refine callE (k := 95) (fun β w' hbw => h0 _ hbw) ?_)
        all_goals first | exact ⟨fun β => rfl, fun w' h => h⟩ | (exfalso; omega)
      · skip
        repeat'
         conv => whnf
         first
          | refine zA ?_ | refine zB ?_ | refine zC ?_ | refine zD ?_ | refine zE ?_ | refine zF ?_ | refine zG ?_ | refine zH ?_ | refine zI ?_ | refine splT ?_ | refine splF ?_ | refine splNot ?_
          | ((first | refine splIn (fun hc => ?_) (fun hc => ?_) | refine splD (fun hc => ?_) (fun hc => ?_) | refine splE (fun hc => ?_) (fun hc => ?_) | refine splNE (fun hc => ?_) (fun hc => ?_)) <;> first | (exfalso; omega) | (exfalso; dsimp only at hc; omega) | skip)
          | refine idxL env (rwS X0) rfl rfl rfl rfl (And.intro (by omega) (by omega)) rfl rfl rfl rfl rfl ?_
          | ((with_reducible show CallEv _ _ 100 _ _ _ _ _); refine callI env mixed 2000 [0, 1, 4, 5, 6, 7, 8, 9, 10, 15, 16, 17, 28, 29] Try.func100 has100 Try.ntmps100 (Nat.le_of_ble_eq_true rfl) rfl rfl rfl ?_)
          | ((with_reducible show CallEv _ _ 95 _ _ _ _ _); refine callE (k := 95) (fun β w' hbw => h0 _ hbw) ?_)
        all_goals first | exact ⟨1, ⟨by omega, fun _ => hd, fun h => absurd h (by omega)⟩, by omega, Ent.weak rfl ⟨rfl, rfl, rfl, rfl, rfl, rfl, rfl, rfl, rfl, rfl, rfl, rfl, trivial⟩ ⟨rfl, rfl, rfl, rfl, rfl, rfl, trivial⟩ fun _ h => h⟩ | (exfalso; omega)
    · have hd0 := hk0 (by omega)
      by_cases hd : D1 < 0
      · rw [if_neg (by simpa using hd0), if_pos (decide_eq_true hd)] at hO
        rw [hO, hV1]
        repeat'
         conv => whnf
         first
          | refine zA ?_ | refine zB ?_ | refine zC ?_ | refine zD ?_ | refine zE ?_ | refine zF ?_ | refine zG ?_ | refine zH ?_ | refine zI ?_ | refine splT ?_ | refine splF ?_ | refine splNot ?_
          | ((first | refine splIn (fun hc => ?_) (fun hc => ?_) | refine splD (fun hc => ?_) (fun hc => ?_) | refine splE (fun hc => ?_) (fun hc => ?_) | refine splNE (fun hc => ?_) (fun hc => ?_)) <;> first | (exfalso; omega) | (exfalso; dsimp only at hc; omega) | skip)
          | refine idxL env (rwS X1) rfl rfl rfl rfl (And.intro (by omega) (by omega)) rfl rfl rfl rfl rfl ?_
          | ((with_reducible show CallEv _ _ 100 _ _ _ _ _); refine callI env mixed 2000 [0, 1, 4, 5, 6, 7, 8, 9, 10, 15, 16, 17, 28, 29] Try.func100 has100 Try.ntmps100 (Nat.le_of_ble_eq_true rfl) rfl rfl rfl ?_)
          | ((with_reducible show CallEv _ _ 95 _ _ _ _ _); refine callE (k := 95) (fun β w' hbw => h1 _ hbw) ?_)
        all_goals first | exact ⟨fun β => rfl, fun w' h => h⟩ | (exfalso; omega)
      · skip
        repeat'
         conv => whnf
         first
          | refine zA ?_ | refine zB ?_ | refine zC ?_ | refine zD ?_ | refine zE ?_ | refine zF ?_ | refine zG ?_ | refine zH ?_ | refine zI ?_ | refine splT ?_ | refine splF ?_ | refine splNot ?_
          | ((first | refine splIn (fun hc => ?_) (fun hc => ?_) | refine splD (fun hc => ?_) (fun hc => ?_) | refine splE (fun hc => ?_) (fun hc => ?_) | refine splNE (fun hc => ?_) (fun hc => ?_)) <;> first | (exfalso; omega) | (exfalso; dsimp only at hc; omega) | skip)
          | refine idxL env (rwS X1) rfl rfl rfl rfl (And.intro (by omega) (by omega)) rfl rfl rfl rfl rfl ?_
          | ((with_reducible show CallEv _ _ 100 _ _ _ _ _); refine callI env mixed 2000 [0, 1, 4, 5, 6, 7, 8, 9, 10, 15, 16, 17, 28, 29] Try.func100 has100 Try.ntmps100 (Nat.le_of_ble_eq_true rfl) rfl rfl rfl ?_)
          | ((with_reducible show CallEv _ _ 95 _ _ _ _ _); refine callE (k := 95) (fun β w' hbw => h1 _ hbw) ?_)
        all_goals first | exact ⟨2, ⟨by omega, fun _ => hd0, fun _ => hd⟩, by omega, Ent.weak rfl ⟨rfl, rfl, rfl, rfl, rfl, rfl, rfl, rfl, rfl, rfl, rfl, rfl, trivial⟩ ⟨rfl, rfl, rfl, rfl, rfl, rfl, trivial⟩ fun _ h => h⟩ | (exfalso; omega)
    · have hd0 := hk0 (by omega)
      have hd1 := hk1 (by omega)
      rw [if_neg (by simpa using hd0), if_neg (by simpa using hd1)] at hO
      repeat'
       conv => whnf
       first
        | refine zA ?_ | refine zB ?_ | refine zC ?_ | refine zD ?_ | refine zE ?_ | refine zF ?_ | refine zG ?_ | refine zH ?_ | refine zI ?_ | refine splT ?_ | refine splF ?_ | refine splNot ?_
        | ((first | refine splIn (fun hc => ?_) (fun hc => ?_) | refine splD (fun hc => ?_) (fun hc => ?_) | refine splE (fun hc => ?_) (fun hc => ?_) | refine splNE (fun hc => ?_) (fun hc => ?_)) <;> first | (exfalso; omega) | (exfalso; dsimp only at hc; omega) | skip)
      all_goals first | exact ⟨i + 1, ⟨by omega, hO⟩, by omega, Ent.weak rfl ⟨rfl, rfl, rfl, rfl, rfl, rfl, rfl, rfl, trivial⟩ ⟨rfl, rfl, rfl, rfl, rfl, trivial⟩ fun _ h => h⟩ | (exfalso; omega)
  · rw [show BB.length - i = 0 from by omega, hgS] at hO
    rw [hO]
    repeat'
     conv => whnf
     first
      | refine zA ?_ | refine zB ?_ | refine zC ?_ | refine zD ?_ | refine zE ?_ | refine zF ?_ | refine zG ?_ | refine zH ?_ | refine zI ?_ | refine splT ?_ | refine splF ?_ | refine splNot ?_
      | ((first | refine splIn (fun hc => ?_) (fun hc => ?_) | refine splD (fun hc => ?_) (fun hc => ?_) | refine splE (fun hc => ?_) (fun hc => ?_) | refine splNE (fun hc => ?_) (fun hc => ?_)) <;> first | (exfalso; omega) | (exfalso; dsimp only at hc; omega) | skip)
    all_goals first | exact ⟨fun β => rfl, fun w' h => h⟩ | (exfalso; omega)
end Go.Proofs.Ytaciigegbgnadaa

/- The first part that may be over: what over returns. -/
namespace Go.Proofs.Ytaciigegbgnadaa
open Go Tx Go.RowKit
set_option linter.unusedSimpArgs false
set_option linter.unusedVariables false

/-- What a beam may bear. -/
def capN (BB : List Bm) (i : Nat) : Int := match BB[i]? with | some b => b.cap | none => 0
/-- The first part that may be over, its row, and whether there is one. -/
def ovV (r : Rig) (PP : List Int) (BB : List Bm) (LL : List Ld) (F : Fr) : Value :=
  if fstN (fun j => decide (endD r LL (F.p j) true > PP.getD j 0 * 216000)) PP.length 0 < PP.length then
    .tuple #[.agg #[iv (-1), iv (fstN (fun j => decide (endD r LL (F.p j) true > PP.getD j 0 * 216000)) PP.length 0)], .agg (rwL (F.p (fstN (fun j => decide (endD r LL (F.p j) true > PP.getD j 0 * 216000)) PP.length 0))).toArray, .bool true]
  else ptV F (hgO (fun i k => decide (endD r LL (F.h i k) true > capN BB i * 216000)) BB.length)

set_option maxHeartbeats 8000000 in
set_option maxRecDepth 100000 in
theorem over_ok (r : Rig) (PP : List Int) (BB : List Bm) (LL : List Ld) (F : Fr) (y : FrA) (w : World) (h : RigIn r PP BB LL w) (hr : rigOk r.f0 r.f1 r.f2 PP BB LL = true) (hy : FrIn r PP.length BB.length F y w) (hQ : ∀ j k, rowQ (F.h j k)) (hQ1 : ∀ j, rowQ (F.p j)) :
    Calls Try.prog 75 #[.pointer (some ⟨y.fb, 0, none⟩)] w fun e w' => e = .returned (ovV r PP BB LL F) ∧ Below w.heap.size w w' := by
  refine calls_val env mixed Try.func75 has75 Try.ntmps75 [.pointer (some ⟨y.fb, 0, none⟩)] (by simp) ?_
  have hB := h.b
  have hP := h.p
  have hpn := h.pn
  have hpl := h.pl
  have hq2 := (rigOk_iff.1 hr).2.1
  have hm1 := (rigOk_iff.1 hr).1
  have hp96 := fun (k : Nat) (w' : World) (hb : Below w.heap.size w w') => most_ok r PP BB LL F y (F.p k) w' (h.below hb) hr (hy.below hb) (hQ1 k)
  have hhp := hy.p
  have hbb := fun (i : Nat) (b : Bm) (hb : BB[i]? = some b) => bm_at hr hb
  have hbn := h.bn
  have hm := (rigOk_iff.1 hr).2.2.1
  have h96 := fun (i k : Nat) (w' : World) (hb : Below w.heap.size w w') => most_ok r PP BB LL F y (F.h i k) w' (h.below hb) hr (hy.below hb) (hQ i k)
  have hc := hy.c
  have hh := hy.h
  obtain ⟨po, pn, pc, bo, bn, bc, f0, f1, f2, lo, ln, lc⟩ := r
  obtain ⟨fb, pb, qc, gb, gc, ub, uc⟩ := y
  dsimp only at hB hbn h96 hc hh hP hpn hp96 hhp ⊢
  subst hbn
  subst hpn
  unfold ovV
  generalize hD : (fun i k => endD ⟨po, PP.length, pc, bo, BB.length, bc, f0, f1, f2, lo, ln, lc⟩ LL (F.h i k) true) = D at *
  have hDi : ∀ i k, endD ⟨po, PP.length, pc, bo, BB.length, bc, f0, f1, f2, lo, ln, lc⟩ LL (F.h i k) true = D i k := fun i k => by rw [← hD]
  simp only [hDi] at h96 ⊢
  generalize hE : (fun j => endD ⟨po, PP.length, pc, bo, BB.length, bc, f0, f1, f2, lo, ln, lc⟩ LL (F.p j) true) = E at *
  have hEj : ∀ j, endD ⟨po, PP.length, pc, bo, BB.length, bc, f0, f1, f2, lo, ln, lc⟩ LL (F.p j) true = E j := fun j => by rw [← hE]
  simp only [hEj] at hp96 ⊢
  have g0 := fun (w' : World) (hb : Below w.heap.size w w') => fun j v (h : [Value.slice po PP.length pc][j]? = some v) => (show w'.cell? ((((⟨fb, 0, none⟩ : Addr).add 0).add 0).add j) = some v from by
    match j, h with
    | 0, h => cases h; rw [Addr.add_add, Addr.add_add]; exact ext_below hb (hc 0 _ rfl))
  have g6 := fun (w' : World) (hb : Below w.heap.size w w') => fun j v (h : [Value.slice (some ⟨pb, 0, none⟩) PP.length qc][j]? = some v) => (show w'.cell? (((⟨fb, 0, none⟩ : Addr).add 6).add j) = some v from by
    match j, h with
    | 0, h => cases h; rw [Addr.add_add]; exact ext_below hb (hc 6 _ rfl))
  have g1 := fun (w' : World) (hb : Below w.heap.size w w') => fun j v (h : [Value.slice bo BB.length bc][j]? = some v) => (show w'.cell? ((((⟨fb, 0, none⟩ : Addr).add 0).add 1).add j) = some v from by
    match j, h with
    | 0, h => cases h; rw [Addr.add_add, Addr.add_add]; exact ext_below hb (hc 1 _ rfl))
  have g7 := fun (w' : World) (hb : Below w.heap.size w w') => fun j v (h : [Value.slice (some ⟨gb, 0, none⟩) BB.length gc][j]? = some v) => (show w'.cell? (((⟨fb, 0, none⟩ : Addr).add 7).add j) = some v from by
    match j, h with
    | 0, h => cases h; rw [Addr.add_add]; exact ext_below hb (hc 7 _ rfl))
  obtain ⟨_, hf2, hf3, hf4⟩ := fstN_spec (p := fun j => decide (E j > PP.getD j 0 * 216000)) PP.length 0
  generalize fstN (fun j => decide (E j > PP.getD j 0 * 216000)) PP.length 0 = N at *
  repeat'
   conv => whnf
   first
    | refine zA ?_ | refine zB ?_ | refine zC ?_ | refine zD ?_ | refine zE ?_ | refine zF ?_ | refine zG ?_ | refine zH ?_ | refine zI ?_ | refine splT ?_ | refine splF ?_ | refine splNot ?_
    | ((first | refine splIn (fun hc => ?_) (fun hc => ?_) | refine splD (fun hc => ?_) (fun hc => ?_) | refine splE (fun hc => ?_) (fun hc => ?_) | refine splNE (fun hc => ?_) (fun hc => ?_)) <;> first | (exfalso; omega) | (exfalso; dsimp only at hc; omega) | skip)
    | refine nilX rfl rfl ?_
    | refine Exists.intro (α := List Value) [.slice (some ⟨pb, 0, none⟩) PP.length qc] ⟨⟨rfl, fun w' hw' => g6 w' hw'⟩, ?_⟩
  conv => whnf
  refine loopN 3 (fun k : Nat => [(1, .ptr 0 0), (2, .ptr 1 0), (3, .ptr 2 0), (4, .v (.bool false)), (10, .v (.slice (some ⟨pb, 0, none⟩) PP.length qc)), (11, .v (iv PP.length)), (12, .v (iv k))])
    (fun _ => [(0, .cells [.v (.pointer (some ⟨fb, 0, none⟩))] 134), (1, .cells [.v (iv 0), .v (iv 0)] 95), (2, .cells (rwS zr) 142)])
    (fun k => k ≤ PP.length ∧ k ≤ N) (fun k => PP.length - k) 0 ⟨Nat.zero_le _, Nat.zero_le _⟩ ⟨rfl, rfl, rfl, rfl, rfl, rfl, rfl, trivial⟩ ⟨rfl, rfl, rfl, trivial⟩ (fun _ _ => ⟨rfl, rfl⟩) ?_
  intro k ⟨hk, hkN⟩
  rcases Nat.lt_or_ge k PP.length with hkl | hkl
  · obtain ⟨p, hp⟩ : ∃ b, PP[k]? = some b := ⟨_, List.getElem?_eq_getElem hkl⟩
    obtain ⟨_, ad, rfl, _⟩ := hP.ptr (by omega)
    have e0 := fun (w' : World) hw' => rd_ati (hP.below (w' := w') hw') hp
    have e1 := fun (w' : World) hw' => rd_ati (hhp.below (w' := w') hw') (rng_at F.p hkl)
    have hpb := List.all_eq_true.1 hq2 p (List.mem_of_getElem? hp)
    rw [inB_iff] at hpb
    have h0 := hp96 k
    have hgd : PP.getD k 0 = p := by rw [List.getD_eq_getElem?_getD, hp]; rfl
    have hf3k := hf3 k (Nat.zero_le _)
    have hf4k : N = k → N < PP.length → decide (E N > PP.getD N 0 * 216000) = true := fun _ h => hf4 (by omega)
    clear hp96 h96 hbb
    by_cases hd : E k > p * 216000
    · have hNk : N = k := by
        rcases Nat.lt_or_ge k N with h | h
        · have := hf3k h
          rw [hgd, decide_eq_false_iff_not] at this
          exact absurd hd this
        · omega
      subst hNk
      rw [if_pos hkl]
      generalize E N = e at *
      generalize F.p N = X at *
      repeat'
       conv => whnf
       first
        | refine zA ?_ | refine zB ?_ | refine zC ?_ | refine zD ?_ | refine zE ?_ | refine zF ?_ | refine zG ?_ | refine zH ?_ | refine zI ?_ | refine splT ?_ | refine splF ?_ | refine splNot ?_
        | ((first | refine splIn (fun hc => ?_) (fun hc => ?_) | refine splD (fun hc => ?_) (fun hc => ?_) | refine splE (fun hc => ?_) (fun hc => ?_) | refine splNE (fun hc => ?_) (fun hc => ?_)) <;> first | (exfalso; omega) | (exfalso; dsimp only at hc; omega) | skip)
        | refine nilX rfl rfl ?_
        | refine Exists.intro (α := List Value) (rwL X) ⟨⟨rfl, fun w' hw' => e1 w' hw'⟩, ?_⟩
        | ((with_reducible show CallEv _ _ 96 _ _ _ _ _); refine callE (k := 96) (fun β w' hbw => h0 _ hbw) ?_)
        | refine Exists.intro (α := List Value) [.slice (some ad) PP.length pc] ⟨⟨rfl, fun w' hw' => g0 w' hw'⟩, ?_⟩
        | refine Exists.intro (α := List Value) [iv p] ⟨⟨rfl, fun w' hw' => e0 w' hw'⟩, ?_⟩
      all_goals first | exact ⟨fun β => rfl, fun w' h => h⟩ | (exfalso; omega)
    · have hNk : k + 1 ≤ N := by
        rcases Nat.lt_or_ge k N with h | h
        · exact h
        · have hNk : N = k := by omega
          have := hf4k hNk (by omega)
          rw [hNk, hgd, decide_eq_true_eq] at this
          exact absurd this hd
      generalize E k = e at *
      generalize F.p k = X at *
      repeat'
       conv => whnf
       first
        | refine zA ?_ | refine zB ?_ | refine zC ?_ | refine zD ?_ | refine zE ?_ | refine zF ?_ | refine zG ?_ | refine zH ?_ | refine zI ?_ | refine splT ?_ | refine splF ?_ | refine splNot ?_
        | ((first | refine splIn (fun hc => ?_) (fun hc => ?_) | refine splD (fun hc => ?_) (fun hc => ?_) | refine splE (fun hc => ?_) (fun hc => ?_) | refine splNE (fun hc => ?_) (fun hc => ?_)) <;> first | (exfalso; omega) | (exfalso; dsimp only at hc; omega) | skip)
        | refine nilX rfl rfl ?_
        | refine Exists.intro (α := List Value) (rwL X) ⟨⟨rfl, fun w' hw' => e1 w' hw'⟩, ?_⟩
        | ((with_reducible show CallEv _ _ 96 _ _ _ _ _); refine callE (k := 96) (fun β w' hbw => h0 _ hbw) ?_)
        | refine Exists.intro (α := List Value) [.slice (some ad) PP.length pc] ⟨⟨rfl, fun w' hw' => g0 w' hw'⟩, ?_⟩
        | refine Exists.intro (α := List Value) [iv p] ⟨⟨rfl, fun w' hw' => e0 w' hw'⟩, ?_⟩
      all_goals first | exact ⟨k + 1, ⟨by omega, hNk⟩, by omega, Ent.weak rfl ⟨rfl, rfl, rfl, rfl, rfl, rfl, rfl, trivial⟩ ⟨rfl, rfl, rfl, trivial⟩ fun _ h => h⟩ | (exfalso; omega)
  rw [if_neg (by omega)]
  clear hf2 hf3 hf4 hp96
  repeat'
   conv => whnf
   first
    | refine zA ?_ | refine zB ?_ | refine zC ?_ | refine zD ?_ | refine zE ?_ | refine zF ?_ | refine zG ?_ | refine zH ?_ | refine zI ?_ | refine splT ?_ | refine splF ?_ | refine splNot ?_
    | ((first | refine splIn (fun hc => ?_) (fun hc => ?_) | refine splD (fun hc => ?_) (fun hc => ?_) | refine splE (fun hc => ?_) (fun hc => ?_) | refine splNE (fun hc => ?_) (fun hc => ?_)) <;> first | (exfalso; omega) | (exfalso; dsimp only at hc; omega) | skip)
    | ((with_reducible show CallEv _ _ 97 _ _ _ _ _); refine callI env mixed 1000 [2, 3] Try.func97 has97 Try.ntmps97 (Nat.le_of_ble_eq_true rfl) rfl rfl rfl ?_)
    | refine nilX rfl rfl ?_
    | refine Exists.intro (α := List Value) [.slice bo BB.length bc] ⟨⟨rfl, fun w' hw' => g1 w' hw'⟩, ?_⟩
  all_goals first | (exfalso; omega) | skip
  conv => whnf
  refine loopN 5 (fun i : Nat => [(0, .v (.pointer (some ⟨fb, 0, none⟩))), (1, .fn (.func 98) [.ptr 0 0]), (4, .ptr 3 0), (5, .ptr 4 0), (6, .v (.bool false)), (15, .v (.slice bo BB.length bc)), (16, .v (iv BB.length)), (17, .v (iv i))])
    (fun _ => [(0, .cells [.v (.pointer (some ⟨fb, 0, none⟩))] 134), (1, .cells [.v (iv 0), .v (iv 0)] 95), (2, .cells (rwS zr) 142), (3, .cells [.v (iv 0), .v (iv 0)] 95), (4, .cells (rwS zr) 142)])
    (fun i => i ≤ BB.length ∧ hgO (fun i k => decide (D i k > capN BB i * 216000)) BB.length = hgS (fun i k => decide (D i k > capN BB i * 216000)) (BB.length - i) i) (fun i => BB.length - i) 0 ⟨Nat.zero_le _, rfl⟩ ⟨rfl, rfl, rfl, rfl, rfl, rfl, rfl, rfl, trivial⟩ ⟨rfl, rfl, rfl, rfl, rfl, trivial⟩ (fun _ _ => ⟨rfl, rfl⟩) ?_
  intro i ⟨hi, hO⟩
  rcases Nat.lt_or_ge i BB.length with hil | hil
  · obtain ⟨b, hb⟩ : ∃ b, BB[i]? = some b := ⟨_, List.getElem?_eq_getElem hil⟩
    obtain ⟨_, ad, rfl, _⟩ := hB.ptr (by omega)
    have e0 := fun (w' : World) hw' => rd_ati (hB.below (w' := w') hw') hb
    have e1 := fun (w' : World) hw' => rd_ati (hh.below (w' := w') hw') (rng_at (fun j => (F.h j 0, F.h j 1)) hil)
    rw [hgS_at _ hil] at hO
    have h0 := h96 i 0
    have h1 := h96 i 1
    have hcap : capN BB i = b.cap := by unfold capN; rw [hb]
    have hbk := hbb _ _ hb
    rw [bmOk_iff] at hbk
    rw [hcap] at hO
    obtain ⟨b1, b2, b3, b4, b5, b6, b7, b8⟩ := b
    dsimp only at hO hbk
    have hV : ∀ k, ptV F (some (i, k)) = .tuple #[.agg #[iv i, iv k], .agg (rwL (F.h i k)).toArray, .bool true] := fun k => rfl
    generalize D i 0 = D0 at *
    generalize D i 1 = D1 at *
    have hV0 := hV 0
    have hV1 := hV 1
    generalize F.h i 0 = X0 at *
    generalize F.h i 1 = X1 at *
    repeat'
     conv => whnf
     first
      | refine zA ?_ | refine zB ?_ | refine zC ?_ | refine zD ?_ | refine zE ?_ | refine zF ?_ | refine zG ?_ | refine zH ?_ | refine zI ?_ | refine splT ?_ | refine splF ?_ | refine splNot ?_
      | ((first | refine splIn (fun hc => ?_) (fun hc => ?_) | refine splD (fun hc => ?_) (fun hc => ?_) | refine splE (fun hc => ?_) (fun hc => ?_) | refine splNE (fun hc => ?_) (fun hc => ?_)) <;> first | (exfalso; omega) | (exfalso; dsimp only at hc; omega) | skip)
      | refine nilX rfl rfl ?_
      | refine Exists.intro (α := List Value) [iv b1, iv b2, iv b3, iv b4, iv b5, iv b6, iv b7, iv b8] ⟨⟨rfl, fun w' hw' => e0 w' hw'⟩, ?_⟩
      | refine Exists.intro (α := List Value) [.slice (some ⟨gb, 0, none⟩) BB.length gc] ⟨⟨rfl, fun w' hw' => g7 w' hw'⟩, ?_⟩
      | refine Exists.intro (α := List Value) (hgV (X0, X1)) ⟨⟨rfl, fun w' hw' => e1 w' hw'⟩, ?_⟩
    conv => whnf
    refine loopN 6 (fun k : Nat => [(0, .v (.pointer (some ⟨fb, 0, none⟩))), (1, .fn (.func 98) [.ptr 0 0]), (4, .ptr 3 0), (5, .ptr 4 0), (6, .v (.bool false)), (7, .v (iv i)), (8, .ptr 5 0), (15, .v (.slice (some ad) BB.length bc)), (16, .v (iv BB.length)), (17, .v (iv i)), (28, .agg ((hgV (X0, X1)).map .v)), (29, .v (iv k))])
      (fun _ => [(0, .cells [.v (.pointer (some ⟨fb, 0, none⟩))] 134), (1, .cells [.v (iv 0), .v (iv 0)] 95), (2, .cells (rwS zr) 142), (3, .cells [.v (iv 0), .v (iv 0)] 95), (4, .cells (rwS zr) 142), (5, .cells [.v (iv b1), .v (iv b2), .v (iv b3), .v (iv b4), .v (iv b5), .v (iv b6), .v (iv b7), .v (iv b8)] 107)])
      (fun k => k ≤ 2 ∧ (1 ≤ k → ¬ D0 > b8 * 216000) ∧ (2 ≤ k → ¬ D1 > b8 * 216000)) (fun k => 2 - k) 0 ⟨by omega, fun h => absurd h (by omega), fun h => absurd h (by omega)⟩ ⟨rfl, rfl, rfl, rfl, rfl, rfl, rfl, rfl, rfl, rfl, rfl, rfl, trivial⟩ ⟨rfl, rfl, rfl, rfl, rfl, rfl, trivial⟩ (fun _ _ => ⟨rfl, rfl⟩) ?_
    intro k ⟨hk, hk0, hk1⟩
    obtain rfl | rfl | rfl : k = 0 ∨ k = 1 ∨ k = 2 := by omega
    · by_cases hd : D0 > b8 * 216000
      · rw [if_pos (decide_eq_true hd)] at hO
        rw [hO, hV0]
        repeat'
         conv => whnf
         first
          | refine zA ?_ | refine zB ?_ | refine zC ?_ | refine zD ?_ | refine zE ?_ | refine zF ?_ | refine zG ?_ | refine zH ?_ | refine zI ?_ | refine splT ?_ | refine splF ?_ | refine splNot ?_
          | ((first | refine splIn (fun hc => ?_) (fun hc => ?_) | refine splD (fun hc => ?_) (fun hc => ?_) | refine splE (fun hc => ?_) (fun hc => ?_) | refine splNE (fun hc => ?_) (fun hc => ?_)) <;> first | (exfalso; omega) | (exfalso; dsimp only at hc; omega) | skip)
          | refine idxL env (rwS X0) rfl rfl rfl rfl (And.intro (by omega) (by omega)) rfl rfl rfl rfl rfl ?_
          | ((with_reducible show CallEv _ _ 98 _ _ _ _ _); refine callI env mixed 2000 [0, 1, 4, 5, 6, 7, 8, 9, 10, 15, 16, 17, 28, 29] Try.func98 has98 Try.ntmps98 (Nat.le_of_ble_eq_true rfl) rfl rfl rfl ?_)
          | ((with_reducible show CallEv _ _ 96 _ _ _ _ _); refine callE (k := 96) (fun β w' hbw => h0 _ hbw) ?_)
        all_goals first | exact ⟨fun β => rfl, fun w' h => h⟩ | (exfalso; omega)
      · skip
        repeat'
         conv => whnf
         first
          | refine zA ?_ | refine zB ?_ | refine zC ?_ | refine zD ?_ | refine zE ?_ | refine zF ?_ | refine zG ?_ | refine zH ?_ | refine zI ?_ | refine splT ?_ | refine splF ?_ | refine splNot ?_
          | ((first | refine splIn (fun hc => ?_) (fun hc => ?_) | refine splD (fun hc => ?_) (fun hc => ?_) | refine splE (fun hc => ?_) (fun hc => ?_) | refine splNE (fun hc => ?_) (fun hc => ?_)) <;> first | (exfalso; omega) | (exfalso; dsimp only at hc; omega) | skip)
          | refine idxL env (rwS X0) rfl rfl rfl rfl (And.intro (by omega) (by omega)) rfl rfl rfl rfl rfl ?_
          | ((with_reducible show CallEv _ _ 98 _ _ _ _ _); refine callI env mixed 2000 [0, 1, 4, 5, 6, 7, 8, 9, 10, 15, 16, 17, 28, 29] Try.func98 has98 Try.ntmps98 (Nat.le_of_ble_eq_true rfl) rfl rfl rfl ?_)
          | ((with_reducible show CallEv _ _ 96 _ _ _ _ _); refine callE (k := 96) (fun β w' hbw => h0 _ hbw) ?_)
        all_goals first | exact ⟨1, ⟨by omega, fun _ => hd, fun h => absurd h (by omega)⟩, by omega, Ent.weak rfl ⟨rfl, rfl, rfl, rfl, rfl, rfl, rfl, rfl, rfl, rfl, rfl, rfl, trivial⟩ ⟨rfl, rfl, rfl, rfl, rfl, rfl, trivial⟩ fun _ h => h⟩ | (exfalso; omega)
    · have hd0 := hk0 (by omega)
      by_cases hd : D1 > b8 * 216000
      · rw [if_neg (by simpa using hd0), if_pos (decide_eq_true hd)] at hO
        rw [hO, hV1]
        repeat'
         conv => whnf
         first
          | refine zA ?_ | refine zB ?_ | refine zC ?_ | refine zD ?_ | refine zE ?_ | refine zF ?_ | refine zG ?_ | refine zH ?_ | refine zI ?_ | refine splT ?_ | refine splF ?_ | refine splNot ?_
          | ((first | refine splIn (fun hc => ?_) (fun hc => ?_) | refine splD (fun hc => ?_) (fun hc => ?_) | refine splE (fun hc => ?_) (fun hc => ?_) | refine splNE (fun hc => ?_) (fun hc => ?_)) <;> first | (exfalso; omega) | (exfalso; dsimp only at hc; omega) | skip)
          | refine idxL env (rwS X1) rfl rfl rfl rfl (And.intro (by omega) (by omega)) rfl rfl rfl rfl rfl ?_
          | ((with_reducible show CallEv _ _ 98 _ _ _ _ _); refine callI env mixed 2000 [0, 1, 4, 5, 6, 7, 8, 9, 10, 15, 16, 17, 28, 29] Try.func98 has98 Try.ntmps98 (Nat.le_of_ble_eq_true rfl) rfl rfl rfl ?_)
          | ((with_reducible show CallEv _ _ 96 _ _ _ _ _); refine callE (k := 96) (fun β w' hbw => h1 _ hbw) ?_)
        all_goals first | exact ⟨fun β => rfl, fun w' h => h⟩ | (exfalso; omega)
      · skip
        repeat'
         conv => whnf
         first
          | refine zA ?_ | refine zB ?_ | refine zC ?_ | refine zD ?_ | refine zE ?_ | refine zF ?_ | refine zG ?_ | refine zH ?_ | refine zI ?_ | refine splT ?_ | refine splF ?_ | refine splNot ?_
          | ((first | refine splIn (fun hc => ?_) (fun hc => ?_) | refine splD (fun hc => ?_) (fun hc => ?_) | refine splE (fun hc => ?_) (fun hc => ?_) | refine splNE (fun hc => ?_) (fun hc => ?_)) <;> first | (exfalso; omega) | (exfalso; dsimp only at hc; omega) | skip)
          | refine idxL env (rwS X1) rfl rfl rfl rfl (And.intro (by omega) (by omega)) rfl rfl rfl rfl rfl ?_
          | ((with_reducible show CallEv _ _ 98 _ _ _ _ _); refine callI env mixed 2000 [0, 1, 4, 5, 6, 7, 8, 9, 10, 15, 16, 17, 28, 29] Try.func98 has98 Try.ntmps98 (Nat.le_of_ble_eq_true rfl) rfl rfl rfl ?_)
          | ((with_reducible show CallEv _ _ 96 _ _ _ _ _); refine callE (k := 96) (fun β w' hbw => h1 _ hbw) ?_)
        all_goals first | exact ⟨2, ⟨by omega, fun _ => hd0, fun _ => hd⟩, by omega, Ent.weak rfl ⟨rfl, rfl, rfl, rfl, rfl, rfl, rfl, rfl, rfl, rfl, rfl, rfl, trivial⟩ ⟨rfl, rfl, rfl, rfl, rfl, rfl, trivial⟩ fun _ h => h⟩ | (exfalso; omega)
    · have hd0 := hk0 (by omega)
      have hd1 := hk1 (by omega)
      rw [if_neg (by simpa using hd0), if_neg (by simpa using hd1)] at hO
      repeat'
       conv => whnf
       first
        | refine zA ?_ | refine zB ?_ | refine zC ?_ | refine zD ?_ | refine zE ?_ | refine zF ?_ | refine zG ?_ | refine zH ?_ | refine zI ?_ | refine splT ?_ | refine splF ?_ | refine splNot ?_
        | ((first | refine splIn (fun hc => ?_) (fun hc => ?_) | refine splD (fun hc => ?_) (fun hc => ?_) | refine splE (fun hc => ?_) (fun hc => ?_) | refine splNE (fun hc => ?_) (fun hc => ?_)) <;> first | (exfalso; omega) | (exfalso; dsimp only at hc; omega) | skip)
      all_goals first | exact ⟨i + 1, ⟨by omega, hO⟩, by omega, Ent.weak rfl ⟨rfl, rfl, rfl, rfl, rfl, rfl, rfl, rfl, trivial⟩ ⟨rfl, rfl, rfl, rfl, rfl, trivial⟩ fun _ h => h⟩ | (exfalso; omega)
  · rw [show BB.length - i = 0 from by omega, hgS] at hO
    rw [hO]
    repeat'
     conv => whnf
     first
      | refine zA ?_ | refine zB ?_ | refine zC ?_ | refine zD ?_ | refine zE ?_ | refine zF ?_ | refine zG ?_ | refine zH ?_ | refine zI ?_ | refine splT ?_ | refine splF ?_ | refine splNot ?_
      | ((first | refine splIn (fun hc => ?_) (fun hc => ?_) | refine splD (fun hc => ?_) (fun hc => ?_) | refine splE (fun hc => ?_) (fun hc => ?_) | refine splNE (fun hc => ?_) (fun hc => ?_)) <;> first | (exfalso; omega) | (exfalso; dsimp only at hc; omega) | skip)
    all_goals first | exact ⟨fun β => rfl, fun w' h => h⟩ | (exfalso; omega)
end Go.Proofs.Ytaciigegbgnadaa

/- The first part that may be over, the first hanger that may be slack, with their witnesses: what Over, Slack and CheckRig return. -/
namespace Go.Proofs.Ytaciigegbgnadaa
open Go Tx Go.RowKit
set_option linter.unusedSimpArgs false
set_option linter.unusedVariables false

/-- A part that was found: its two numbers, and its row. -/
abbrev Wk := Option (Int × Int × Row)
def Wk.b : Wk → Int
  | some (b, _, _) => b
  | none => 0
def Wk.a : Wk → Int
  | some (_, a, _) => a
  | none => 0
def Wk.pl (r : Rig) (LL : List Ld) (most : Bool) : Wk → List Int
  | some (_, _, x) => endL r x most LL
  | none => []
def Wk.v : Wk → Value
  | some (b, a, x) => .tuple #[.agg #[iv b, iv a], .agg (rwL x).toArray, .bool true]
  | none => .tuple #[.agg #[iv 0, iv 0], .agg (rwL zr).toArray, .bool false]
def Wk.e (rok : Bool) : Wk → Int
  | some _ => 0
  | none => if rok = true then 7 else 1
def hgW (F : Fr) (o : Option (Nat × Nat)) : Wk := o.map fun q => ((q.1 : Int), (q.2 : Int), F.h q.1 q.2)
def ovF (r : Rig) (PP : List Int) (LL : List Ld) (F : Fr) : Nat := fstN (fun j => decide (endD r LL (F.p j) true > PP.getD j 0 * 216000)) PP.length 0
def ovO (r : Rig) (PP : List Int) (BB : List Bm) (LL : List Ld) (F : Fr) : Wk :=
  if ovF r PP LL F < PP.length then some (-1, (ovF r PP LL F : Int), F.p (ovF r PP LL F)) else hgW F (hgO (fun i k => decide (endD r LL (F.h i k) true > capN BB i * 216000)) BB.length)
def slO (r : Rig) (BB : List Bm) (LL : List Ld) (F : Fr) : Wk := hgW F (hgO (fun i k => decide (endD r LL (F.h i k) false < 0)) BB.length)
theorem ptV_eq (F : Fr) (o : Option (Nat × Nat)) : ptV F o = (hgW F o).v := by cases o <;> rfl
theorem ovV_eq (r : Rig) (PP : List Int) (BB : List Bm) (LL : List Ld) (F : Fr) : ovV r PP BB LL F = (ovO r PP BB LL F).v := by
  unfold ovV ovO
  show (if ovF r PP LL F < PP.length then _ else _) = _
  split
  · rfl
  · exact ptV_eq _ _
def ovR (r : Rig) (PP : List Int) (BB : List Bm) (LL : List Ld) : Wk := if rigOk r.f0 r.f1 r.f2 PP BB LL = true then ovO r PP BB LL (frF BB LL) else none
def slR (r : Rig) (PP : List Int) (BB : List Bm) (LL : List Ld) : Wk := if rigOk r.f0 r.f1 r.f2 PP BB LL = true then slO r BB LL (frF BB LL) else none

set_option maxRecDepth 100000 in
theorem CheckRig_ok (r : Rig) (PP : List Int) (BB : List Bm) (LL : List Ld) (w : World) (h : RigIn r PP BB LL w) :
    Calls Try.prog 34 #[r.v] w fun e w' => e = .returned (iv (if rigOk r.f0 r.f1 r.f2 PP BB LL = true then 0 else 1)) ∧ Below w.heap.size w w' := by
  have hv := fun (w' : World) (hb : Below w.heap.size w w') => valid_ok r PP BB LL w' (h.below hb)
  obtain ⟨r1, r2, r3, r4, r5, r6, f0, f1, f2, lo, ln, lc⟩ := r
  dsimp only at hv ⊢
  refine calls_val env mixed Try.func34 has34 Try.ntmps34 [.agg #[.slice r1 r2 r3, .slice r4 r5 r6, iv f0, iv f1, iv f2, .slice lo ln lc]] (by simp) ?_
  cases hr : rigOk f0 f1 f2 PP BB LL
  all_goals rw [hr] at hv
  all_goals skip
  repeat'
   conv => whnf
   first
    | refine zA ?_ | refine zB ?_ | refine zC ?_ | refine zD ?_ | refine zE ?_ | refine zF ?_ | refine zG ?_ | refine zH ?_ | refine zI ?_ | refine splT ?_ | refine splF ?_ | refine splNot ?_
    | ((first | refine splIn (fun hc => ?_) (fun hc => ?_) | refine splD (fun hc => ?_) (fun hc => ?_) | refine splE (fun hc => ?_) (fun hc => ?_) | refine splNE (fun hc => ?_) (fun hc => ?_)) <;> first | (exfalso; omega) | (exfalso; dsimp only at hc; omega) | skip)
    | ((with_reducible show CallEv _ _ 67 _ _ _ _ _); refine callE (k := 67) (fun β w' hbw => hv _ hbw) ?_)
  all_goals exact ⟨fun β => rfl, fun w' h => h⟩

set_option maxHeartbeats 8000000 in
set_option maxRecDepth 100000 in
theorem Over_ok (r : Rig) (PP : List Int) (BB : List Bm) (LL : List Ld) (w : World) (h : RigIn r PP BB LL w) :
    Calls Try.prog 41 #[r.v] w fun e w' => ∃ y : Option Addr × Nat, e = .returned (.tuple #[.agg #[iv (ovR r PP BB LL).b, iv (ovR r PP BB LL).a], sV ((ovR r PP BB LL).pl r LL true).length y, iv ((ovR r PP BB LL).e (rigOk r.f0 r.f1 r.f2 PP BB LL))]) ∧ Below w.heap.size w w' ∧
      St w.heap.size (Rd 1 iF (sV ((ovR r PP BB LL).pl r LL true).length y) ((ovR r PP BB LL).pl r LL true)) w' := by
  have hv := fun (w' : World) (hb : Below w.heap.size w w') => valid_ok r PP BB LL w' (h.below hb)
  have hfr := fun (w' : World) (hb : Below w.heap.size w w') (hr : rigOk r.f0 r.f1 r.f2 PP BB LL = true) => frame_ok r PP BB LL w' (h.below hb) hr (frB_of hr)
  unfold ovR
  cases hr : rigOk r.f0 r.f1 r.f2 PP BB LL with
  | false =>
    rw [hr] at hv
    obtain ⟨r1, r2, r3, r4, r5, r6, f0, f1, f2, lo, ln, lc⟩ := r
    dsimp only at hv hfr
    refine calls_fam env mixed Try.func41 has41 Try.ntmps41 [.agg #[.slice r1 r2 r3, .slice r4 r5 r6, iv f0, iv f1, iv f2, .slice lo ln lc]] (by simp) ?_
    rw [if_neg (by simp)]
    repeat'
     conv => whnf
     first
      | refine zA ?_ | refine zB ?_ | refine zC ?_ | refine zD ?_ | refine zE ?_ | refine zF ?_ | refine zG ?_ | refine zH ?_ | refine zI ?_ | refine splT ?_ | refine splF ?_ | refine splNot ?_
      | ((first | refine splIn (fun hc => ?_) (fun hc => ?_) | refine splD (fun hc => ?_) (fun hc => ?_) | refine splE (fun hc => ?_) (fun hc => ?_) | refine splNE (fun hc => ?_) (fun hc => ?_)) <;> first | (exfalso; omega) | (exfalso; dsimp only at hc; omega) | skip)
      | ((with_reducible show CallEv _ _ 67 _ _ _ _ _); refine callE (k := 67) (fun β w' hbw => hv _ hbw) ?_)
    all_goals exact ⟨fun w' h => h, fun β w' h _ => ⟨(none, 0), rfl, fun _ _ => .inl ⟨rfl, rfl⟩⟩⟩
  | true =>
    rw [hr] at hv
    have hfr := fun w' hb => hfr w' hb hr
    rw [if_pos rfl]
    obtain ⟨hQ1, hQ2⟩ := frF_Q hr
    generalize frF BB LL = F at *
    have hin := fun (y : FrA) (w' : World) (hb : Below w.heap.size w w' ∧ FrIn r PP.length BB.length F y w') => over_ok r PP BB LL F y w' (h.below hb.1) hr hb.2 hQ2 hQ1
    have hend := fun (y : FrA) (x : Row) (w' : World) (hb : Below w.heap.size w w' ∧ FrIn r PP.length BB.length F y w') => end_ok r PP BB LL F y x true w' (h.below hb.1) hr hb.2
    simp only [ovV_eq] at hin
    skip
    generalize ovO r PP BB LL F = o at *
    cases o with
    | none =>
      obtain ⟨r1, r2, r3, r4, r5, r6, f0, f1, f2, lo, ln, lc⟩ := r
      refine calls_fam env mixed Try.func41 has41 Try.ntmps41 [.agg #[.slice r1 r2 r3, .slice r4 r5 r6, iv f0, iv f1, iv f2, .slice lo ln lc]] (by simp) ?_
      repeat'
       conv => whnf
       first
        | refine zA ?_ | refine zB ?_ | refine zC ?_ | refine zD ?_ | refine zE ?_ | refine zF ?_ | refine zG ?_ | refine zH ?_ | refine zI ?_ | refine splT ?_ | refine splF ?_ | refine splNot ?_
        | ((first | refine splIn (fun hc => ?_) (fun hc => ?_) | refine splD (fun hc => ?_) (fun hc => ?_) | refine splE (fun hc => ?_) (fun hc => ?_) | refine splNE (fun hc => ?_) (fun hc => ?_)) <;> first | (exfalso; omega) | (exfalso; dsimp only at hc; omega) | skip)
        | ((with_reducible show CallEv _ _ 67 _ _ _ _ _); refine callE (k := 67) (fun β w' hbw => hv _ hbw) ?_)
        | ((with_reducible show CallEv _ _ 69 _ _ _ _ _); refine callF [] (fun y : FrA => .pointer (some ⟨y.fb, 0, none⟩)) (fun y => FrIn ⟨r1, r2, r3, r4, r5, r6, f0, f1, f2, lo, ln, lc⟩ PP.length BB.length F y) (fun β w' _ hbw => hfr w' hbw) ?_; intro y; have hin := hin y; have hend := hend y; obtain ⟨fb, pb, qc, gb, gc, ub, uc⟩ := y; dsimp only at hin hend ⊢)
        | ((with_reducible show CallEv _ _ 75 _ _ _ _ _); refine callE (k := 75) (fun β w' hbw => hin _ hbw) ?_)
      all_goals first | exact ⟨fun w' h => h.1, fun β w' h _ => ⟨(none, 0), rfl, fun _ _ => .inl ⟨rfl, rfl⟩⟩⟩
    | some q =>
      obtain ⟨b, a, x⟩ := q
      have hend := fun y => hend y x
      show Calls _ _ _ _ fun e w' => ∃ y : Option Addr × Nat, e = .returned (.tuple #[.agg #[iv b, iv a], sV (endL r x true LL).length y, iv 0]) ∧ Below w.heap.size w w' ∧ St w.heap.size (Rd 1 iF (sV (endL r x true LL).length y) (endL r x true LL)) w'
      have hl := endL_len r x true LL
      generalize endL r x true LL = E at *
      rw [hl]
      obtain ⟨r1, r2, r3, r4, r5, r6, f0, f1, f2, lo, ln, lc⟩ := r
      refine calls_fam env mixed Try.func41 has41 Try.ntmps41 [.agg #[.slice r1 r2 r3, .slice r4 r5 r6, iv f0, iv f1, iv f2, .slice lo ln lc]] (by simp) ?_
      repeat'
       conv => whnf
       first
        | refine zA ?_ | refine zB ?_ | refine zC ?_ | refine zD ?_ | refine zE ?_ | refine zF ?_ | refine zG ?_ | refine zH ?_ | refine zI ?_ | refine splT ?_ | refine splF ?_ | refine splNot ?_
        | ((first | refine splIn (fun hc => ?_) (fun hc => ?_) | refine splD (fun hc => ?_) (fun hc => ?_) | refine splE (fun hc => ?_) (fun hc => ?_) | refine splNE (fun hc => ?_) (fun hc => ?_)) <;> first | (exfalso; omega) | (exfalso; dsimp only at hc; omega) | skip)
        | ((with_reducible show CallEv _ _ 67 _ _ _ _ _); refine callE (k := 67) (fun β w' hbw => hv _ hbw) ?_)
        | ((with_reducible show CallEv _ _ 69 _ _ _ _ _); refine callF [] (fun y : FrA => .pointer (some ⟨y.fb, 0, none⟩)) (fun y => FrIn ⟨r1, r2, r3, r4, r5, r6, f0, f1, f2, lo, ln, lc⟩ PP.length BB.length F y) (fun β w' _ hbw => hfr w' hbw) ?_; intro y; have hin := hin y; have hend := hend y; obtain ⟨fb, pb, qc, gb, gc, ub, uc⟩ := y; dsimp only at hin hend ⊢)
        | ((with_reducible show CallEv _ _ 75 _ _ _ _ _); refine callE (k := 75) (fun β w' hbw => hin _ hbw) ?_)
        | ((with_reducible show CallEv _ _ 76 _ _ _ _ _); refine callO 4 [] (.os 4 5 LL.length) LL.length 1 (E.flatMap iF) 3 rfl (fun β w' _ hbw => (hend w' hbw).mono fun _ _ ⟨b, c, h1, h2, h3, h4⟩ => ⟨b, c, h1, h2, h3, h4⟩) ?_)
      all_goals first | exact ⟨fun w' h => h.1, fun β w' h hblk => ⟨(some ⟨β 4, 0, none⟩, β 5), rfl, (hblk 4 _ rfl rfl).imp fun _ q => Rd.of_owns (sz := 1) (f := iF) (fun _ => rfl) rfl hl.symm q⟩⟩

set_option maxHeartbeats 8000000 in
set_option maxRecDepth 100000 in
theorem Slack_ok (r : Rig) (PP : List Int) (BB : List Bm) (LL : List Ld) (w : World) (h : RigIn r PP BB LL w) :
    Calls Try.prog 42 #[r.v] w fun e w' => ∃ y : Option Addr × Nat, e = .returned (.tuple #[.agg #[iv (slR r PP BB LL).b, iv (slR r PP BB LL).a], sV ((slR r PP BB LL).pl r LL false).length y, iv ((slR r PP BB LL).e (rigOk r.f0 r.f1 r.f2 PP BB LL))]) ∧ Below w.heap.size w w' ∧
      St w.heap.size (Rd 1 iF (sV ((slR r PP BB LL).pl r LL false).length y) ((slR r PP BB LL).pl r LL false)) w' := by
  have hv := fun (w' : World) (hb : Below w.heap.size w w') => valid_ok r PP BB LL w' (h.below hb)
  have hfr := fun (w' : World) (hb : Below w.heap.size w w') (hr : rigOk r.f0 r.f1 r.f2 PP BB LL = true) => frame_ok r PP BB LL w' (h.below hb) hr (frB_of hr)
  unfold slR
  cases hr : rigOk r.f0 r.f1 r.f2 PP BB LL with
  | false =>
    rw [hr] at hv
    obtain ⟨r1, r2, r3, r4, r5, r6, f0, f1, f2, lo, ln, lc⟩ := r
    dsimp only at hv hfr
    refine calls_fam env mixed Try.func42 has42 Try.ntmps42 [.agg #[.slice r1 r2 r3, .slice r4 r5 r6, iv f0, iv f1, iv f2, .slice lo ln lc]] (by simp) ?_
    rw [if_neg (by simp)]
    repeat'
     conv => whnf
     first
      | refine zA ?_ | refine zB ?_ | refine zC ?_ | refine zD ?_ | refine zE ?_ | refine zF ?_ | refine zG ?_ | refine zH ?_ | refine zI ?_ | refine splT ?_ | refine splF ?_ | refine splNot ?_
      | ((first | refine splIn (fun hc => ?_) (fun hc => ?_) | refine splD (fun hc => ?_) (fun hc => ?_) | refine splE (fun hc => ?_) (fun hc => ?_) | refine splNE (fun hc => ?_) (fun hc => ?_)) <;> first | (exfalso; omega) | (exfalso; dsimp only at hc; omega) | skip)
      | ((with_reducible show CallEv _ _ 67 _ _ _ _ _); refine callE (k := 67) (fun β w' hbw => hv _ hbw) ?_)
    all_goals exact ⟨fun w' h => h, fun β w' h _ => ⟨(none, 0), rfl, fun _ _ => .inl ⟨rfl, rfl⟩⟩⟩
  | true =>
    rw [hr] at hv
    have hfr := fun w' hb => hfr w' hb hr
    rw [if_pos rfl]
    obtain ⟨hQ1, hQ2⟩ := frF_Q hr
    generalize frF BB LL = F at *
    have hin := fun (y : FrA) (w' : World) (hb : Below w.heap.size w w' ∧ FrIn r PP.length BB.length F y w') => slack_ok r PP BB LL F y w' (h.below hb.1) hr hb.2 hQ2
    have hend := fun (y : FrA) (x : Row) (w' : World) (hb : Below w.heap.size w w' ∧ FrIn r PP.length BB.length F y w') => end_ok r PP BB LL F y x false w' (h.below hb.1) hr hb.2
    simp only [ptV_eq] at hin
    change ∀ (y : FrA) (w_1 : World) (hb : Below w.heap.size w w_1 ∧ FrIn r PP.length BB.length F y w_1), Calls Try.prog 77 #[Value.pointer (some ⟨y.fb, 0, none⟩)] w_1 fun e w2 => e = .returned (slO r BB LL F).v ∧ Below w_1.heap.size w_1 w2 at hin
    generalize slO r BB LL F = o at *
    cases o with
    | none =>
      obtain ⟨r1, r2, r3, r4, r5, r6, f0, f1, f2, lo, ln, lc⟩ := r
      refine calls_fam env mixed Try.func42 has42 Try.ntmps42 [.agg #[.slice r1 r2 r3, .slice r4 r5 r6, iv f0, iv f1, iv f2, .slice lo ln lc]] (by simp) ?_
      repeat'
       conv => whnf
       first
        | refine zA ?_ | refine zB ?_ | refine zC ?_ | refine zD ?_ | refine zE ?_ | refine zF ?_ | refine zG ?_ | refine zH ?_ | refine zI ?_ | refine splT ?_ | refine splF ?_ | refine splNot ?_
        | ((first | refine splIn (fun hc => ?_) (fun hc => ?_) | refine splD (fun hc => ?_) (fun hc => ?_) | refine splE (fun hc => ?_) (fun hc => ?_) | refine splNE (fun hc => ?_) (fun hc => ?_)) <;> first | (exfalso; omega) | (exfalso; dsimp only at hc; omega) | skip)
        | ((with_reducible show CallEv _ _ 67 _ _ _ _ _); refine callE (k := 67) (fun β w' hbw => hv _ hbw) ?_)
        | ((with_reducible show CallEv _ _ 69 _ _ _ _ _); refine callF [] (fun y : FrA => .pointer (some ⟨y.fb, 0, none⟩)) (fun y => FrIn ⟨r1, r2, r3, r4, r5, r6, f0, f1, f2, lo, ln, lc⟩ PP.length BB.length F y) (fun β w' _ hbw => hfr w' hbw) ?_; intro y; have hin := hin y; have hend := hend y; obtain ⟨fb, pb, qc, gb, gc, ub, uc⟩ := y; dsimp only at hin hend ⊢)
        | ((with_reducible show CallEv _ _ 77 _ _ _ _ _); refine callE (k := 77) (fun β w' hbw => hin _ hbw) ?_)
      all_goals first | exact ⟨fun w' h => h.1, fun β w' h _ => ⟨(none, 0), rfl, fun _ _ => .inl ⟨rfl, rfl⟩⟩⟩
    | some q =>
      obtain ⟨b, a, x⟩ := q
      have hend := fun y => hend y x
      show Calls _ _ _ _ fun e w' => ∃ y : Option Addr × Nat, e = .returned (.tuple #[.agg #[iv b, iv a], sV (endL r x false LL).length y, iv 0]) ∧ Below w.heap.size w w' ∧ St w.heap.size (Rd 1 iF (sV (endL r x false LL).length y) (endL r x false LL)) w'
      have hl := endL_len r x false LL
      generalize endL r x false LL = E at *
      rw [hl]
      obtain ⟨r1, r2, r3, r4, r5, r6, f0, f1, f2, lo, ln, lc⟩ := r
      refine calls_fam env mixed Try.func42 has42 Try.ntmps42 [.agg #[.slice r1 r2 r3, .slice r4 r5 r6, iv f0, iv f1, iv f2, .slice lo ln lc]] (by simp) ?_
      repeat'
       conv => whnf
       first
        | refine zA ?_ | refine zB ?_ | refine zC ?_ | refine zD ?_ | refine zE ?_ | refine zF ?_ | refine zG ?_ | refine zH ?_ | refine zI ?_ | refine splT ?_ | refine splF ?_ | refine splNot ?_
        | ((first | refine splIn (fun hc => ?_) (fun hc => ?_) | refine splD (fun hc => ?_) (fun hc => ?_) | refine splE (fun hc => ?_) (fun hc => ?_) | refine splNE (fun hc => ?_) (fun hc => ?_)) <;> first | (exfalso; omega) | (exfalso; dsimp only at hc; omega) | skip)
        | ((with_reducible show CallEv _ _ 67 _ _ _ _ _); refine callE (k := 67) (fun β w' hbw => hv _ hbw) ?_)
        | ((with_reducible show CallEv _ _ 69 _ _ _ _ _); refine callF [] (fun y : FrA => .pointer (some ⟨y.fb, 0, none⟩)) (fun y => FrIn ⟨r1, r2, r3, r4, r5, r6, f0, f1, f2, lo, ln, lc⟩ PP.length BB.length F y) (fun β w' _ hbw => hfr w' hbw) ?_; intro y; have hin := hin y; have hend := hend y; obtain ⟨fb, pb, qc, gb, gc, ub, uc⟩ := y; dsimp only at hin hend ⊢)
        | ((with_reducible show CallEv _ _ 77 _ _ _ _ _); refine callE (k := 77) (fun β w' hbw => hin _ hbw) ?_)
        | ((with_reducible show CallEv _ _ 76 _ _ _ _ _); refine callO 4 [] (.os 4 5 LL.length) LL.length 1 (E.flatMap iF) 3 rfl (fun β w' _ hbw => (hend w' hbw).mono fun _ _ ⟨b, c, h1, h2, h3, h4⟩ => ⟨b, c, h1, h2, h3, h4⟩) ?_)
      all_goals first | exact ⟨fun w' h => h.1, fun β w' h hblk => ⟨(some ⟨β 4, 0, none⟩, β 5), rfl, (hblk 4 _ rfl rfl).imp fun _ q => Rd.of_owns (sz := 1) (f := iF) (fun _ => rfl) rfl hl.symm q⟩⟩
end Go.Proofs.Ytaciigegbgnadaa
