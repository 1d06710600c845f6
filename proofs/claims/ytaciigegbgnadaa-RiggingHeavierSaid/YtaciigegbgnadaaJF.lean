/- Bears, of right pulls: its rows as the caller's own. -/
import Derived.Test.YtaciigegbgnadaaJE
import Derived.Test.YtaciigegbgnadaaIG
namespace Go.Proofs.Ytaciigegbgnadaa
open Go Tx Go.RowKit
set_option linter.unusedSimpArgs false
set_option linter.unusedVariables false

/-- What Bears returns, with names nb .. nb + 3 for its rows. -/
abbrev brS (nb n : Nat) (B : List (Int × Int)) : SV := .tup [.os nb (nb + 1) n, oSV (nb + 2) (nb + 3) B, .v (iv 0)]
abbrev brM (nb : Nat) (A : List Int) (B : List (Int × Int)) : List (Nat × Blk) := (nb, .own (nb + 1) A.length 1 (A.flatMap iF) 3) :: oM (nb + 2) (nb + 3) 2 gF 71 B
set_option maxHeartbeats 8000000 in
set_option maxRecDepth 100000 in
theorem Bears_own (r : Rig) (PP : List Int) (BB : List Bm) (LL : List Ld) (P : List Int) (po : Option Addr) (pc : Nat) (w : World) (h : RigIn r PP BB LL w) (hPl : Rd 1 iF (.slice po P.length pc) P w) (hpl : P.length ≤ 1000000)
    (hr : rigOk r.f0 r.f1 r.f2 PP BB LL = true) (hpt0 : pulB r LL P = true) :
    Calls Try.prog 29 #[r.v, .slice po P.length pc] w fun e w' => ∃ γ : Nat → Nat, e = .returned ((brS 0 PP.length (bHg (frF BB LL) BB.length P)).c γ) ∧ Below w.heap.size w w' ∧
      (∀ i b, (i, b) ∈ brM 0 (bPt (frF BB LL) PP.length P) (bHg (frF BB LL) BB.length P) → w.heap.size ≤ γ i ∧ b.ok γ w' (γ i)) ∧ ∀ i b j b', (i, b) ∈ brM 0 (bPt (frF BB LL) PP.length P) (bHg (frF BB LL) BB.length P) → (j, b') ∈ brM 0 (bPt (frF BB LL) PP.length P) (bHg (frF BB LL) BB.length P) → i ≠ j → γ i ≠ γ j := by
  have hv := fun (w' : World) (hb : Below w.heap.size w w') => valid_ok r PP BB LL w' (h.below hb)
  have hfr := fun (w' : World) (hb : Below w.heap.size w w') (hr : rigOk r.f0 r.f1 r.f2 PP BB LL = true) => frame_ok r PP BB LL w' (h.below hb) hr (frB_of hr)
  have hL := h.l
  have hlen := h.ln
  have hll := h.ll
  have hne := pulB_len hpt0
  obtain ⟨r1, r2, r3, r4, r5, r6, f0, f1, f2, lo, ln, lc⟩ := r
  dsimp only at hv hfr hL hlen hr
  subst hlen
  refine calls_fam3 env mixed Try.func29 has29 Try.ntmps29 [.agg #[.slice r1 r2 r3, .slice r4 r5 r6, iv f0, iv f1, iv f2, .slice lo LL.length lc], .slice po P.length pc] (by simp) ?_
  rw [hr] at hv
  have hfr := fun w' hb => hfr w' hb hr
  · skip
    · skip
      repeat'
       conv => whnf
       first
        | refine zA ?_ | refine zB ?_ | refine zC ?_ | refine zD ?_ | refine zE ?_ | refine zF ?_ | refine zG ?_ | refine zH ?_ | refine zI ?_ | refine splT ?_ | refine splF ?_ | refine splNot ?_
        | ((first | refine splIn (fun hc => ?_) (fun hc => ?_) | refine splD (fun hc => ?_) (fun hc => ?_) | refine splE (fun hc => ?_) (fun hc => ?_) | refine splNE (fun hc => ?_) (fun hc => ?_)) <;> first | (exfalso; omega) | (exfalso; dsimp only at hc; omega) | skip)
        | ((with_reducible show CallEv _ _ 67 _ _ _ _ _); refine callE (k := 67) (fun β w' hbw => hv _ hbw) ?_)
      all_goals first | (exfalso; omega) | skip
      have hln : (P.length : Int) = LL.length := by omega
      refine loopN 1 (fun k : Nat => [(1, .v (.slice po P.length pc)), (2, .ptr 0 0), (4, .v (.slice none 0 0)), (5, .v (.slice none 0 0)), (24, .v (.slice po P.length pc)), (25, .v (iv P.length)), (26, .v (iv k))])
        (fun k => [(0, .cells [.v (.slice r1 r2 r3), .v (.slice r4 r5 r6), .v (iv f0), .v (iv f1), .v (iv f2), .v (.slice lo LL.length lc)] 58)]) (fun k => k ≤ P.length ∧ pulB ⟨r1, r2, r3, r4, r5, r6, f0, f1, f2, lo, LL.length, lc⟩ LL P = pulB ⟨r1, r2, r3, r4, r5, r6, f0, f1, f2, lo, LL.length, lc⟩ (LL.drop k) (P.drop k)) (fun k => P.length - k) 0 ⟨Nat.zero_le _, rfl⟩ ⟨rfl, rfl, rfl, rfl, rfl, rfl, rfl, trivial⟩ ⟨rfl, trivial⟩ (fun _ _ => ⟨rfl, rfl⟩) ?_
      intro k ⟨hk, hpu⟩
      rcases Nat.lt_or_ge k P.length with hkl | hkl
      · obtain ⟨n, hn⟩ : ∃ b, P[k]? = some b := ⟨_, List.getElem?_eq_getElem hkl⟩
        obtain ⟨l, hl⟩ : ∃ b, LL[k]? = some b := ⟨_, List.getElem?_eq_getElem (by omega)⟩
        obtain ⟨_, ad, rfl, _⟩ := hPl.ptr (by omega)
        have e0 := fun (w' : World) hw' => rd_ati (hPl.below (w' := w') hw') hn
        rw [pulB_drop hl hn] at hpu
        have hri := rigOk_iff.1 hr
        have hlo := List.all_eq_true.1 hri.2.2.2.2.2.2 l (List.mem_of_getElem? hl)
        rw [ldOk_iff] at hlo
        have hfac := fac_bd (r := ⟨r1, r2, r3, r4, r5, r6, f0, f1, f2, lo, LL.length, lc⟩) hri.2.2.2.2.2.1 l.kind
        have hp := fun (w' : World) (hb' : Below w.heap.size w w') => pull_ok ⟨r1, r2, r3, r4, r5, r6, f0, f1, f2, lo, LL.length, lc⟩ LL k l w' (hL.below hb') rfl hl hll (by omega) (by omega) (by omega)
        have hpu1 : inB n l.lo (hiP ⟨r1, r2, r3, r4, r5, r6, f0, f1, f2, lo, LL.length, lc⟩ l) = false → pulB ⟨r1, r2, r3, r4, r5, r6, f0, f1, f2, lo, LL.length, lc⟩ LL P = false := fun h => by rw [hpu, h]; rfl
        have hpu2 : inB n l.lo (hiP ⟨r1, r2, r3, r4, r5, r6, f0, f1, f2, lo, LL.length, lc⟩ l) = true → pulB ⟨r1, r2, r3, r4, r5, r6, f0, f1, f2, lo, LL.length, lc⟩ LL P = pulB ⟨r1, r2, r3, r4, r5, r6, f0, f1, f2, lo, LL.length, lc⟩ (LL.drop (k + 1)) (P.drop (k + 1)) := fun h => by rw [hpu, h]; rfl
        clear hpu hfr hv
        generalize hiP ⟨r1, r2, r3, r4, r5, r6, f0, f1, f2, lo, LL.length, lc⟩ l = hi at *
        repeat'
         conv => whnf
         first
          | refine zA ?_ | refine zB ?_ | refine zC ?_ | refine zD ?_ | refine zE ?_ | refine zF ?_ | refine zG ?_ | refine zH ?_ | refine zI ?_ | refine splT ?_ | refine splF ?_ | refine splNot ?_
          | ((first | refine splIn (fun hc => ?_) (fun hc => ?_) | refine splD (fun hc => ?_) (fun hc => ?_) | refine splE (fun hc => ?_) (fun hc => ?_) | refine splNE (fun hc => ?_) (fun hc => ?_)) <;> first | (exfalso; omega) | (exfalso; dsimp only at hc; omega) | skip)
          | refine Exists.intro (α := List Value) [iv n] ⟨⟨rfl, fun w' hw' => e0 w' hw'⟩, ?_⟩
          | ((with_reducible show CallEv _ _ 68 _ _ _ _ _); refine callE (k := 68) (fun β w' hbw => hp _ hbw) ?_)
          | ((with_reducible show CallEv _ _ 56 _ _ _ _ _); refine callE (k := 56) (fun β w' hbw => within_ok _ _ _ _) ?_)
        all_goals first
          | (exfalso; omega)
          | exact ⟨k + 1, ⟨by omega, hpu2 (inB_iff.2 (by omega))⟩, by omega, Ent.weak rfl ⟨rfl, rfl, rfl, rfl, rfl, rfl, rfl, trivial⟩ ⟨rfl, trivial⟩ fun _ h => h⟩
          | (exfalso; have := hpu1 (by rw [Bool.eq_false_iff]; intro hc; rw [inB_iff] at hc; omega); rw [hpt0] at this; cases this)
      · rw [List.drop_eq_nil_of_le hkl, List.drop_eq_nil_of_le (by omega)] at hpu
        have hpt : pulB ⟨r1, r2, r3, r4, r5, r6, f0, f1, f2, lo, LL.length, lc⟩ LL P = true := hpu
        have hPB := pulB_B (r := ⟨r1, r2, r3, r4, r5, r6, f0, f1, f2, lo, LL.length, lc⟩) (PP := PP) (BB := BB) hr hpt
        obtain ⟨hQ1, hQ2⟩ := frF_Q hr
        clear hpu hpt hpt0 hv
        generalize frF BB LL = F at *
        repeat'
         conv => whnf
         first
          | refine zA ?_ | refine zB ?_ | refine zC ?_ | refine zD ?_ | refine zE ?_ | refine zF ?_ | refine zG ?_ | refine zH ?_ | refine zI ?_ | refine splT ?_ | refine splF ?_ | refine splNot ?_
          | ((first | refine splIn (fun hc => ?_) (fun hc => ?_) | refine splD (fun hc => ?_) (fun hc => ?_) | refine splE (fun hc => ?_) (fun hc => ?_) | refine splNE (fun hc => ?_) (fun hc => ?_)) <;> first | (exfalso; omega) | (exfalso; dsimp only at hc; omega) | skip)
          | ((with_reducible show CallEv _ _ 69 _ _ _ _ _); refine callF [] (fun y : FrA => .pointer (some ⟨y.fb, 0, none⟩)) (fun y => FrIn ⟨r1, r2, r3, r4, r5, r6, f0, f1, f2, lo, LL.length, lc⟩ PP.length BB.length F y) (fun β w' _ hbw => hfr w' hbw) ?_; intro y; obtain ⟨fb, pb, qc, gb, gc, ub, uc⟩ := y; dsimp only)
          | refine nilX rfl rfl ?_
          | refine Exists.intro (α := List Value) [.slice (some ⟨pb, 0, none⟩) PP.length qc] ⟨⟨rfl, fun w' hw' j v hj => (show w'.cell? (((⟨fb, 0, none⟩ : Addr).add 6).add j) = some v from (by
          match j, hj with
          | 0, hj => cases hj; rw [Addr.add_add]; exact hw'.2.c 6 _ rfl))⟩, ?_⟩
        all_goals first | (exfalso; omega) | skip
        have hPn : (bPt F PP.length P).length = PP.length := by simp [bPt]
        have hHn : (bHg F BB.length P).length = BB.length := by simp [bHg]
        have hri := rigOk_iff.1 hr
        refine loopN 3 (fun k : Nat => [(1, .v (.slice po P.length pc)), (4, oSV 1 2 ((bPt F PP.length P).take k)), (5, .v (.slice none 0 0)), (10, .v (.pointer (some ⟨fb, 0, none⟩))), (47, .v (.slice (some ⟨pb, 0, none⟩) PP.length qc)), (48, .v (iv PP.length)), (49, .v (iv k))])
          (fun k => oM 1 2 1 iF 3 ((bPt F PP.length P).take k)) (fun k => k ≤ PP.length) (fun k => PP.length - k) 0 (Nat.zero_le _) ⟨rfl, rfl, rfl, rfl, rfl, rfl, rfl, trivial⟩ trivial (fun k _ => by cases (bPt F PP.length P).take k <;> exact ⟨rfl, rfl⟩) ?_
        intro k2 hk2
        rcases Nat.lt_or_ge k2 PP.length with hkl2 | hkl2
        · have e0 := fun (w' : World) (hw' : Below w.heap.size w w' ∧ FrIn ⟨r1, r2, r3, r4, r5, r6, f0, f1, f2, lo, LL.length, lc⟩ PP.length BB.length F ⟨fb, pb, qc, gb, gc, ub, uc⟩ w') => rd_ati hw'.2.p (rng_at F.p hkl2)
          have hd := fun (w' : World) (hb : Below w.heap.size w w') => bears_ok (F.p k2) P po pc w' (hPl.below hb) (dotB_of (hQ1 k2) hPB)
          have ht : (bPt F PP.length P).take (k2 + 1) = (bPt F PP.length P).take k2 ++ [dotR (F.p k2) P P.length] := rng_take _ hkl2
          have hlen2 : ((bPt F PP.length P).take k2).length ≤ k2 := List.length_take_le _ _
          generalize (bPt F PP.length P).take k2 = L at *
          generalize dotR (F.p k2) P P.length = D at *
          generalize F.p k2 = X at *
          cases L with
          | nil =>
            repeat'
             conv => whnf
             first
              | refine zA ?_ | refine zB ?_ | refine zC ?_ | refine zD ?_ | refine zE ?_ | refine zF ?_ | refine zG ?_ | refine zH ?_ | refine zI ?_ | refine splT ?_ | refine splF ?_ | refine splNot ?_
              | ((first | refine splIn (fun hc => ?_) (fun hc => ?_) | refine splD (fun hc => ?_) (fun hc => ?_) | refine splE (fun hc => ?_) (fun hc => ?_) | refine splNE (fun hc => ?_) (fun hc => ?_)) <;> first | (exfalso; omega) | (exfalso; dsimp only at hc; omega) | skip)
              | refine Exists.intro (α := List Value) (rwL X) ⟨⟨rfl, fun w' hw' => e0 w' hw'⟩, ?_⟩
              | ((with_reducible show CallEv _ _ 70 _ _ _ _ _); refine callE (k := 70) (fun β w' hbw => hd _ hbw.1) ?_)
            exact ⟨k2 + 1, by omega, by omega, Ent.ren (rho [(1, 5), (2, 6)]) rfl (by rw [ht]; rfl) ⟨rfl, by rw [ht]; rfl, rfl, rfl, rfl, rfl, rfl, trivial⟩ (by rw [ht]; exact ⟨rfl, trivial⟩) fun _ h => h⟩
          | cons a L =>
            simp only [List.length_cons] at hlen2
            repeat'
             conv => whnf
             first
              | refine zA ?_ | refine zB ?_ | refine zC ?_ | refine zD ?_ | refine zE ?_ | refine zF ?_ | refine zG ?_ | refine zH ?_ | refine zI ?_ | refine splT ?_ | refine splF ?_ | refine splNot ?_
              | ((first | refine splIn (fun hc => ?_) (fun hc => ?_) | refine splD (fun hc => ?_) (fun hc => ?_) | refine splE (fun hc => ?_) (fun hc => ?_) | refine splNE (fun hc => ?_) (fun hc => ?_)) <;> first | (exfalso; omega) | (exfalso; dsimp only at hc; omega) | skip)
              | refine Exists.intro (α := List Value) (rwL X) ⟨⟨rfl, fun w' hw' => e0 w' hw'⟩, ?_⟩
              | ((with_reducible show CallEv _ _ 70 _ _ _ _ _); refine callE (k := 70) (fun β w' hbw => hd _ hbw.1) ?_)
            exact ⟨k2 + 1, by omega, by omega, Ent.ren (rho [(1, 5), (2, 6)]) rfl (by rw [ht]; rfl) ⟨rfl, by rw [ht]; simp [oSV]; rfl, rfl, rfl, rfl, rfl, rfl, trivial⟩ (by rw [ht]; exact ⟨by simp [oM]; rfl, trivial⟩) fun _ h => h⟩
        · rw [List.take_of_length_le (show (bPt F PP.length P).length ≤ k2 by omega)]
          generalize bPt F PP.length P = A at *
          cases A with
          | nil => simp at hPn; omega
          | cons a0 A =>
            simp only [List.length_cons] at hPn
            repeat'
             conv => whnf
             first
              | refine zA ?_ | refine zB ?_ | refine zC ?_ | refine zD ?_ | refine zE ?_ | refine zF ?_ | refine zG ?_ | refine zH ?_ | refine zI ?_ | refine splT ?_ | refine splF ?_ | refine splNot ?_
              | ((first | refine splIn (fun hc => ?_) (fun hc => ?_) | refine splD (fun hc => ?_) (fun hc => ?_) | refine splE (fun hc => ?_) (fun hc => ?_) | refine splNE (fun hc => ?_) (fun hc => ?_)) <;> first | (exfalso; omega) | (exfalso; dsimp only at hc; omega) | skip)
              | refine nilX rfl rfl ?_
              | refine Exists.intro (α := List Value) [.slice (some ⟨gb, 0, none⟩) BB.length gc] ⟨⟨rfl, fun w' hw' j v hj => (show w'.cell? (((⟨fb, 0, none⟩ : Addr).add 7).add j) = some v from (by
              match j, hj with
              | 0, hj => cases hj; rw [Addr.add_add]; exact hw'.2.c 7 _ rfl))⟩, ?_⟩
            refine loopN 5 (fun k : Nat => [(1, .v (.slice po P.length pc)), (4, .os 1 2 (A.length + 1)), (5, oSV 3 4 ((bHg F BB.length P).take k)), (63, .v (.slice (some ⟨gb, 0, none⟩) BB.length gc)), (64, .v (iv BB.length)), (65, .v (iv k))])
              (fun k => (1, .own 2 (A.length + 1) 1 ((a0 :: A).flatMap iF) 3) :: oM 3 4 2 gF 71 ((bHg F BB.length P).take k)) (fun k => k ≤ BB.length) (fun k => BB.length - k) 0 (Nat.zero_le _) ⟨rfl, rfl, rfl, rfl, rfl, rfl, trivial⟩ ⟨rfl, trivial⟩ (fun k _ => by cases (bHg F BB.length P).take k <;> exact ⟨rfl, rfl⟩) ?_
            intro k3 hk3
            rcases Nat.lt_or_ge k3 BB.length with hkl3 | hkl3
            · have e0 := fun (w' : World) (hw' : Below w.heap.size w w' ∧ FrIn ⟨r1, r2, r3, r4, r5, r6, f0, f1, f2, lo, LL.length, lc⟩ PP.length BB.length F ⟨fb, pb, qc, gb, gc, ub, uc⟩ w') => rd_ati hw'.2.h (rng_at (fun j => (F.h j 0, F.h j 1)) hkl3)
              have hd0 := fun (w' : World) (hb : Below w.heap.size w w') => bears_ok (F.h k3 0) P po pc w' (hPl.below hb) (dotB_of (hQ2 k3 0) hPB)
              have hd1 := fun (w' : World) (hb : Below w.heap.size w w') => bears_ok (F.h k3 1) P po pc w' (hPl.below hb) (dotB_of (hQ2 k3 1) hPB)
              have ht : (bHg F BB.length P).take (k3 + 1) = (bHg F BB.length P).take k3 ++ [(dotR (F.h k3 0) P P.length, dotR (F.h k3 1) P P.length)] := rng_take (fun j => (dotR (F.h j 0) P P.length, dotR (F.h j 1) P P.length)) hkl3
              have hlen3 : ((bHg F BB.length P).take k3).length ≤ k3 := List.length_take_le _ _
              generalize (bHg F BB.length P).take k3 = L at *
              generalize dotR (F.h k3 0) P P.length = D0 at *
              generalize dotR (F.h k3 1) P P.length = D1 at *
              generalize F.h k3 0 = X0 at *
              generalize F.h k3 1 = X1 at *
              cases L with
              | nil =>
                repeat'
                 conv => whnf
                 first
                  | refine zA ?_ | refine zB ?_ | refine zC ?_ | refine zD ?_ | refine zE ?_ | refine zF ?_ | refine zG ?_ | refine zH ?_ | refine zI ?_ | refine splT ?_ | refine splF ?_ | refine splNot ?_
                  | ((first | refine splIn (fun hc => ?_) (fun hc => ?_) | refine splD (fun hc => ?_) (fun hc => ?_) | refine splE (fun hc => ?_) (fun hc => ?_) | refine splNE (fun hc => ?_) (fun hc => ?_)) <;> first | (exfalso; omega) | (exfalso; dsimp only at hc; omega) | skip)
                  | refine Exists.intro (α := List Value) (hgV (X0, X1)) ⟨⟨rfl, fun w' hw' => e0 w' hw'⟩, ?_⟩
                  | ((with_reducible show CallEv _ _ 70 [.agg (.v (iv (X0 0)) :: _), _] _ _ _ _); refine callE (k := 70) (fun β w' hbw => hd0 _ hbw.1) ?_)
                  | ((with_reducible show CallEv _ _ 70 [.agg (.v (iv (X1 0)) :: _), _] _ _ _ _); refine callE (k := 70) (fun β w' hbw => hd1 _ hbw.1) ?_)
                exact ⟨k3 + 1, by omega, by omega, Ent.ren (rho [(3, 7), (4, 8)]) rfl (by rw [ht]; rfl) ⟨rfl, rfl, by rw [ht]; rfl, rfl, rfl, rfl, trivial⟩ (by rw [ht]; exact ⟨rfl, rfl, trivial⟩) fun _ h => h⟩
              | cons a L =>
                simp only [List.length_cons] at hlen3
                repeat'
                 conv => whnf
                 first
                  | refine zA ?_ | refine zB ?_ | refine zC ?_ | refine zD ?_ | refine zE ?_ | refine zF ?_ | refine zG ?_ | refine zH ?_ | refine zI ?_ | refine splT ?_ | refine splF ?_ | refine splNot ?_
                  | ((first | refine splIn (fun hc => ?_) (fun hc => ?_) | refine splD (fun hc => ?_) (fun hc => ?_) | refine splE (fun hc => ?_) (fun hc => ?_) | refine splNE (fun hc => ?_) (fun hc => ?_)) <;> first | (exfalso; omega) | (exfalso; dsimp only at hc; omega) | skip)
                  | refine Exists.intro (α := List Value) (hgV (X0, X1)) ⟨⟨rfl, fun w' hw' => e0 w' hw'⟩, ?_⟩
                  | ((with_reducible show CallEv _ _ 70 [.agg (.v (iv (X0 0)) :: _), _] _ _ _ _); refine callE (k := 70) (fun β w' hbw => hd0 _ hbw.1) ?_)
                  | ((with_reducible show CallEv _ _ 70 [.agg (.v (iv (X1 0)) :: _), _] _ _ _ _); refine callE (k := 70) (fun β w' hbw => hd1 _ hbw.1) ?_)
                exact ⟨k3 + 1, by omega, by omega, Ent.ren (rho [(3, 7), (4, 8)]) rfl (by rw [ht]; rfl) ⟨rfl, rfl, by rw [ht]; simp [oSV]; rfl, rfl, rfl, rfl, trivial⟩ (by rw [ht]; exact ⟨rfl, by simp [oM]; rfl, trivial⟩) fun _ h => h⟩
            · rw [List.take_of_length_le (show (bHg F BB.length P).length ≤ k3 by omega)]
              generalize bHg F BB.length P = B at *
              cases B with
              | nil =>
                repeat'
                 conv => whnf
                 first
                  | refine zA ?_ | refine zB ?_ | refine zC ?_ | refine zD ?_ | refine zE ?_ | refine zF ?_ | refine zG ?_ | refine zH ?_ | refine zI ?_ | refine splT ?_ | refine splF ?_ | refine splNot ?_
                  | ((first | refine splIn (fun hc => ?_) (fun hc => ?_) | refine splD (fun hc => ?_) (fun hc => ?_) | refine splE (fun hc => ?_) (fun hc => ?_) | refine splNE (fun hc => ?_) (fun hc => ?_)) <;> first | (exfalso; omega) | (exfalso; dsimp only at hc; omega) | skip)
                refine ⟨fun w' h => h.1, fun β w' hBB hB2 hblk hinj => ⟨fun i => β (i + 1), ?_, hB2, fun i b hm => ?_, fun i b j b' hm hm' hne => ?_⟩⟩
                · rw [← hPn]; rfl
                · simp only [brM, oM, List.mem_cons, List.mem_append, List.nil_append, List.append_nil, List.cons_append, Prod.mk.injEq, List.not_mem_nil, or_false] at hm
                  obtain ⟨rfl, rfl⟩ := hm
                  exact ⟨(hblk 1 _ rfl rfl).1, (hblk 1 _ rfl rfl).2⟩
                · simp only [brM, oM, List.mem_cons, List.mem_append, List.nil_append, List.append_nil, List.cons_append, Prod.mk.injEq, List.not_mem_nil, or_false] at hm hm'
                  exact absurd (hm.1.trans hm'.1.symm) hne
              | cons b0 B =>
                repeat'
                 conv => whnf
                 first
                  | refine zA ?_ | refine zB ?_ | refine zC ?_ | refine zD ?_ | refine zE ?_ | refine zF ?_ | refine zG ?_ | refine zH ?_ | refine zI ?_ | refine splT ?_ | refine splF ?_ | refine splNot ?_
                  | ((first | refine splIn (fun hc => ?_) (fun hc => ?_) | refine splD (fun hc => ?_) (fun hc => ?_) | refine splE (fun hc => ?_) (fun hc => ?_) | refine splNE (fun hc => ?_) (fun hc => ?_)) <;> first | (exfalso; omega) | (exfalso; dsimp only at hc; omega) | skip)
                refine ⟨fun w' h => h.1, fun β w' hBB hB2 hblk hinj => ⟨fun i => β (i + 1), ?_, hB2, fun i b hm => ?_, fun i b j b' hm hm' hne => ?_⟩⟩
                · rw [← hPn]; rfl
                · simp only [brM, oM, List.mem_cons, List.mem_append, List.nil_append, List.append_nil, List.cons_append, Prod.mk.injEq, List.not_mem_nil, or_false] at hm
                  rcases hm with ⟨rfl, rfl⟩ | ⟨rfl, rfl⟩
                  · exact ⟨(hblk 1 _ rfl rfl).1, (hblk 1 _ rfl rfl).2⟩
                  · exact ⟨(hblk 3 _ rfl rfl).1, (hblk 3 _ rfl rfl).2⟩
                · simp only [brM, oM, List.mem_cons, List.mem_append, List.nil_append, List.append_nil, List.cons_append, Prod.mk.injEq, List.not_mem_nil, or_false] at hm hm'
                  rcases hm with ⟨rfl, rfl⟩ | ⟨rfl, rfl⟩ <;> rcases hm' with ⟨rfl, rfl⟩ | ⟨rfl, rfl⟩ <;> first | exact absurd rfl hne | exact hinj _ _ _ _ rfl rfl rfl rfl (by decide)
end Go.Proofs.Ytaciigegbgnadaa
