/- Ranges of all parts. -/
import Derived.Test.YtaciigegbgnadaaHD
import Derived.Test.YtaciigegbgnadaaGZ
namespace Go.Proofs.Ytaciigegbgnadaa
open Go Tx Go.RowKit
set_option linter.unusedSimpArgs false
set_option linter.unusedVariables false

abbrev f4 (x : (Int × Int) × (Int × Int)) : List Value := [iv x.1.1, iv x.1.2, iv x.2.1, iv x.2.2]
def rgW (r : Rig) (LL : List Ld) (x : Row) : Int × Int := (endD r LL x false, endD r LL x true)
def rgPt (r : Rig) (LL : List Ld) (F : Fr) (n : Nat) : List (Int × Int) := (List.range n).map fun j => rgW r LL (F.p j)
def rgHg (r : Rig) (LL : List Ld) (F : Fr) (m : Nat) : List ((Int × Int) × (Int × Int)) := (List.range m).map fun j => (rgW r LL (F.h j 0), rgW r LL (F.h j 1))
def rgP (r : Rig) (PP : List Int) (BB : List Bm) (LL : List Ld) : List (Int × Int) := if rigOk r.f0 r.f1 r.f2 PP BB LL = true then rgPt r LL (frF BB LL) PP.length else []
def rgH (r : Rig) (PP : List Int) (BB : List Bm) (LL : List Ld) : List ((Int × Int) × (Int × Int)) := if rigOk r.f0 r.f1 r.f2 PP BB LL = true then rgHg r LL (frF BB LL) BB.length else []
def rgE (r : Rig) (PP : List Int) (BB : List Bm) (LL : List Ld) : Int := if rigOk r.f0 r.f1 r.f2 PP BB LL = true then 0 else 1

set_option maxHeartbeats 8000000 in
set_option maxRecDepth 100000 in
theorem Ranges_ok (r : Rig) (PP : List Int) (BB : List Bm) (LL : List Ld) (w : World) (h : RigIn r PP BB LL w) :
    Calls Try.prog 38 #[r.v] w fun e w' => ∃ y : (Option Addr × Nat) × (Option Addr × Nat), e = .returned (.tuple #[sV (rgP r PP BB LL).length y.1, sV (rgH r PP BB LL).length y.2, iv (rgE r PP BB LL)]) ∧ Below w.heap.size w w' ∧
      St w.heap.size (fun w2 => Rd 2 gF (sV (rgP r PP BB LL).length y.1) (rgP r PP BB LL) w2 ∧ Rd 4 f4 (sV (rgH r PP BB LL).length y.2) (rgH r PP BB LL) w2) w' := by
  have hv := fun (w' : World) (hb : Below w.heap.size w w') => valid_ok r PP BB LL w' (h.below hb)
  have hfr := fun (w' : World) (hb : Below w.heap.size w w') (hr : rigOk r.f0 r.f1 r.f2 PP BB LL = true) => frame_ok r PP BB LL w' (h.below hb) hr (frB_of hr)
  have hin := h
  obtain ⟨r1, r2, r3, r4, r5, r6, f0, f1, f2, lo, ln, lc⟩ := r
  dsimp only at hv hfr
  refine calls_fam env mixed Try.func38 has38 Try.ntmps38 [.agg #[.slice r1 r2 r3, .slice r4 r5 r6, iv f0, iv f1, iv f2, .slice lo ln lc]] (by simp) ?_
  unfold rgP rgH rgE
  dsimp only
  cases hr : rigOk f0 f1 f2 PP BB LL with
  | false =>
    rw [hr] at hv
    rw [if_neg (by simp), if_neg (by simp), if_neg (by simp)]
    repeat'
     conv => whnf
     first
      | refine zA ?_ | refine zB ?_ | refine zC ?_ | refine zD ?_ | refine zE ?_ | refine zF ?_ | refine zG ?_ | refine zH ?_ | refine zI ?_ | refine splT ?_ | refine splF ?_ | refine splNot ?_
      | ((first | refine splIn (fun hc => ?_) (fun hc => ?_) | refine splD (fun hc => ?_) (fun hc => ?_) | refine splE (fun hc => ?_) (fun hc => ?_) | refine splNE (fun hc => ?_) (fun hc => ?_)) <;> first | (exfalso; omega) | (exfalso; dsimp only at hc; omega) | skip)
      | ((with_reducible show CallEv _ _ 67 _ _ _ _ _); refine callE (k := 67) (fun β w' hbw => hv _ hbw) ?_)
    all_goals exact ⟨fun w' h => h, fun β w' h _ => ⟨((none, 0), (none, 0)), rfl, fun _ _ => ⟨.inl ⟨rfl, rfl⟩, .inl ⟨rfl, rfl⟩⟩⟩⟩
  | true =>
    rw [hr] at hv
    have hfr := fun w' hb => hfr w' hb hr
    rw [if_pos rfl, if_pos rfl, if_pos rfl]
    have hof := fun (y : FrA) (x : Row) (hx : rowQ x) (w' : World) (hw' : Below w.heap.size w w' ∧ FrIn ⟨r1, r2, r3, r4, r5, r6, f0, f1, f2, lo, ln, lc⟩ PP.length BB.length (frF BB LL) y w') => of_ok ⟨r1, r2, r3, r4, r5, r6, f0, f1, f2, lo, ln, lc⟩ PP BB LL (frF BB LL) y x w' (hin.below hw'.1) hr hw'.2 hx
    obtain ⟨hQ1, hQ2⟩ := frF_Q hr
    have hri := rigOk_iff.1 hr
    have hP12 : 1 ≤ PP.length ∧ PP.length ≤ 12 := by omega
    have hB12 : BB.length ≤ 12 := hri.2.2.1
    clear hri
    generalize frF BB LL = F at *
    have hPn : (rgPt ⟨r1, r2, r3, r4, r5, r6, f0, f1, f2, lo, ln, lc⟩ LL F PP.length).length = PP.length := by simp [rgPt]
    have hHn : (rgHg ⟨r1, r2, r3, r4, r5, r6, f0, f1, f2, lo, ln, lc⟩ LL F BB.length).length = BB.length := by simp [rgHg]
    have htP : ∀ k, k < PP.length → (rgPt ⟨r1, r2, r3, r4, r5, r6, f0, f1, f2, lo, ln, lc⟩ LL F PP.length).take (k + 1) = (rgPt ⟨r1, r2, r3, r4, r5, r6, f0, f1, f2, lo, ln, lc⟩ LL F PP.length).take k ++ [(endD ⟨r1, r2, r3, r4, r5, r6, f0, f1, f2, lo, ln, lc⟩ LL (F.p k) false, endD ⟨r1, r2, r3, r4, r5, r6, f0, f1, f2, lo, ln, lc⟩ LL (F.p k) true)] := fun k hk => rng_take (fun j => rgW _ LL (F.p j)) hk
    have htH : ∀ k, k < BB.length → (rgHg ⟨r1, r2, r3, r4, r5, r6, f0, f1, f2, lo, ln, lc⟩ LL F BB.length).take (k + 1) = (rgHg ⟨r1, r2, r3, r4, r5, r6, f0, f1, f2, lo, ln, lc⟩ LL F BB.length).take k ++ [((endD ⟨r1, r2, r3, r4, r5, r6, f0, f1, f2, lo, ln, lc⟩ LL (F.h k 0) false, endD ⟨r1, r2, r3, r4, r5, r6, f0, f1, f2, lo, ln, lc⟩ LL (F.h k 0) true), (endD ⟨r1, r2, r3, r4, r5, r6, f0, f1, f2, lo, ln, lc⟩ LL (F.h k 1) false, endD ⟨r1, r2, r3, r4, r5, r6, f0, f1, f2, lo, ln, lc⟩ LL (F.h k 1) true))] := fun k hk => rng_take (fun j => (rgW _ LL (F.h j 0), rgW _ LL (F.h j 1))) hk
    have hfI := fun (y : FrA) (w' : World) (hy : FrIn ⟨r1, r2, r3, r4, r5, r6, f0, f1, f2, lo, ln, lc⟩ PP.length BB.length F y w') => hy
    generalize rgPt ⟨r1, r2, r3, r4, r5, r6, f0, f1, f2, lo, ln, lc⟩ LL F PP.length = TP at *
    generalize rgHg ⟨r1, r2, r3, r4, r5, r6, f0, f1, f2, lo, ln, lc⟩ LL F BB.length = TH at *
    generalize endD ⟨r1, r2, r3, r4, r5, r6, f0, f1, f2, lo, ln, lc⟩ LL = ed at *
    have hpn : r2 = PP.length := hin.pn
    have hbn : r5 = BB.length := hin.bn
    repeat'
     conv => whnf
     first
      | refine zA ?_ | refine zB ?_ | refine zC ?_ | refine zD ?_ | refine zE ?_ | refine zF ?_ | refine zG ?_ | refine zH ?_ | refine zI ?_ | refine splT ?_ | refine splF ?_ | refine splNot ?_
      | ((first | refine splIn (fun hc => ?_) (fun hc => ?_) | refine splD (fun hc => ?_) (fun hc => ?_) | refine splE (fun hc => ?_) (fun hc => ?_) | refine splNE (fun hc => ?_) (fun hc => ?_)) <;> first | (exfalso; omega) | (exfalso; dsimp only at hc; omega) | skip)
      | ((with_reducible show CallEv _ _ 67 _ _ _ _ _); refine callE (k := 67) (fun β w' hbw => hv _ hbw) ?_)
      | ((with_reducible show CallEv _ _ 69 _ _ _ _ _); refine callF [] (fun y : FrA => .pointer (some ⟨y.fb, 0, none⟩)) (fun y => FrIn ⟨r1, r2, r3, r4, r5, r6, f0, f1, f2, lo, ln, lc⟩ PP.length BB.length F y) (fun β w' _ hbw => hfr w' hbw) ?_; intro y; obtain ⟨fb, pb, qc, gb, gc, ub, uc⟩ := y; dsimp only)
      | refine nilX rfl rfl ?_
      | refine Exists.intro (α := List Value) [.slice (some ⟨pb, 0, none⟩) PP.length qc] ⟨⟨rfl, fun w' hw' j v hj => (show w'.cell? (((⟨fb, 0, none⟩ : Addr).add 6).add j) = some v from (by
      match j, hj with
      | 0, hj => cases hj; rw [Addr.add_add]; exact hw'.2.c 6 _ rfl))⟩, ?_⟩
    all_goals first | (exfalso; omega) | skip
    have hof := hof ⟨fb, pb, qc, gb, gc, ub, uc⟩
    refine loopN 3 (fun k : Nat => [(2, oSV 1 2 (TP.take k)), (3, .v (.slice none 0 0)), (5, .v (.pointer (some ⟨fb, 0, none⟩))), (18, .v (.slice (some ⟨pb, 0, none⟩) PP.length qc)), (19, .v (iv PP.length)), (20, .v (iv k))])
      (fun k => oM 1 2 2 gF 93 (TP.take k)) (fun k => k ≤ PP.length) (fun k => PP.length - k) 0 (Nat.zero_le _) ⟨rfl, rfl, rfl, rfl, rfl, rfl, trivial⟩ trivial (fun k _ => by cases TP.take k <;> exact ⟨rfl, rfl⟩) ?_
    intro k2 hk2
    rcases Nat.lt_or_ge k2 PP.length with hkl2 | hkl2
    · have e0 := fun (w' : World) (hw' : Below w.heap.size w w' ∧ FrIn ⟨r1, r2, r3, r4, r5, r6, f0, f1, f2, lo, ln, lc⟩ PP.length BB.length F ⟨fb, pb, qc, gb, gc, ub, uc⟩ w') => rd_ati hw'.2.p (rng_at F.p hkl2)
      have hd := hof (F.p k2) (hQ1 k2)
      have ht := htP k2 hkl2
      have hlen2 : (TP.take k2).length ≤ k2 := List.length_take_le _ _
      generalize TP.take k2 = L at *
      generalize F.p k2 = X at *
      generalize ed X false = D0 at *
      generalize ed X true = D1 at *
      cases L with
      | nil =>
        repeat'
         conv => whnf
         first
          | refine zA ?_ | refine zB ?_ | refine zC ?_ | refine zD ?_ | refine zE ?_ | refine zF ?_ | refine zG ?_ | refine zH ?_ | refine zI ?_ | refine splT ?_ | refine splF ?_ | refine splNot ?_
          | ((first | refine splIn (fun hc => ?_) (fun hc => ?_) | refine splD (fun hc => ?_) (fun hc => ?_) | refine splE (fun hc => ?_) (fun hc => ?_) | refine splNE (fun hc => ?_) (fun hc => ?_)) <;> first | (exfalso; omega) | (exfalso; dsimp only at hc; omega) | skip)
          | refine Exists.intro (α := List Value) (rwL X) ⟨⟨rfl, fun w' hw' => e0 w' hw'⟩, ?_⟩
          | ((with_reducible show CallEv _ _ 72 _ _ _ _ _); refine callE (k := 72) (fun β w' hbw => hd _ hbw) ?_)
        all_goals first | (exfalso; omega) | exact ⟨k2 + 1, by omega, by omega, Ent.ren (rho [(1, 5), (2, 6)]) rfl (by rw [ht]; rfl) ⟨by rw [ht]; rfl, rfl, rfl, rfl, rfl, rfl, trivial⟩ (by rw [ht]; exact ⟨rfl, trivial⟩) fun _ h => h⟩
      | cons a L =>
        simp only [List.length_cons] at hlen2
        repeat'
         conv => whnf
         first
          | refine zA ?_ | refine zB ?_ | refine zC ?_ | refine zD ?_ | refine zE ?_ | refine zF ?_ | refine zG ?_ | refine zH ?_ | refine zI ?_ | refine splT ?_ | refine splF ?_ | refine splNot ?_
          | ((first | refine splIn (fun hc => ?_) (fun hc => ?_) | refine splD (fun hc => ?_) (fun hc => ?_) | refine splE (fun hc => ?_) (fun hc => ?_) | refine splNE (fun hc => ?_) (fun hc => ?_)) <;> first | (exfalso; omega) | (exfalso; dsimp only at hc; omega) | skip)
          | refine Exists.intro (α := List Value) (rwL X) ⟨⟨rfl, fun w' hw' => e0 w' hw'⟩, ?_⟩
          | ((with_reducible show CallEv _ _ 72 _ _ _ _ _); refine callE (k := 72) (fun β w' hbw => hd _ hbw) ?_)
        all_goals first | (exfalso; omega) | exact ⟨k2 + 1, by omega, by omega, Ent.ren (rho [(1, 5), (2, 6)]) rfl (by rw [ht]; rfl) ⟨by rw [ht]; simp [oSV]; rfl, rfl, rfl, rfl, rfl, rfl, trivial⟩ (by rw [ht]; exact ⟨by simp [oM]; rfl, trivial⟩) fun _ h => h⟩
    · rw [List.take_of_length_le (show TP.length ≤ k2 by omega)]
      cases hTP : TP with
      | nil => rw [hTP] at hPn; simp at hPn; omega
      | cons a0 A =>
        rw [hTP] at hPn
        simp only [List.length_cons] at hPn
        clear htP
        repeat'
         conv => whnf
         first
          | refine zA ?_ | refine zB ?_ | refine zC ?_ | refine zD ?_ | refine zE ?_ | refine zF ?_ | refine zG ?_ | refine zH ?_ | refine zI ?_ | refine splT ?_ | refine splF ?_ | refine splNot ?_
          | ((first | refine splIn (fun hc => ?_) (fun hc => ?_) | refine splD (fun hc => ?_) (fun hc => ?_) | refine splE (fun hc => ?_) (fun hc => ?_) | refine splNE (fun hc => ?_) (fun hc => ?_)) <;> first | (exfalso; omega) | (exfalso; dsimp only at hc; omega) | skip)
          | refine nilX rfl rfl ?_
          | refine Exists.intro (α := List Value) [.slice (some ⟨gb, 0, none⟩) BB.length gc] ⟨⟨rfl, fun w' hw' j v hj => (show w'.cell? (((⟨fb, 0, none⟩ : Addr).add 7).add j) = some v from (by
          match j, hj with
          | 0, hj => cases hj; rw [Addr.add_add]; exact hw'.2.c 7 _ rfl))⟩, ?_⟩
        all_goals first | (exfalso; omega) | skip
        refine loopN 5 (fun k : Nat => [(2, .os 1 2 (A.length + 1)), (3, oSV 3 4 (TH.take k)), (5, .v (.pointer (some ⟨fb, 0, none⟩))), (34, .v (.slice (some ⟨gb, 0, none⟩) BB.length gc)), (35, .v (iv BB.length)), (36, .v (iv k))])
          (fun k => (1, .own 2 (A.length + 1) 2 ((a0 :: A).flatMap gF) 93) :: oM 3 4 4 f4 94 (TH.take k)) (fun k => k ≤ BB.length) (fun k => BB.length - k) 0 (Nat.zero_le _) ⟨rfl, rfl, rfl, rfl, rfl, rfl, trivial⟩ ⟨rfl, trivial⟩ (fun k _ => by cases TH.take k <;> exact ⟨rfl, rfl⟩) ?_
        intro k3 hk3
        rcases Nat.lt_or_ge k3 BB.length with hkl3 | hkl3
        · have e0 := fun (w' : World) (hw' : Below w.heap.size w w' ∧ FrIn ⟨r1, r2, r3, r4, r5, r6, f0, f1, f2, lo, ln, lc⟩ PP.length BB.length F ⟨fb, pb, qc, gb, gc, ub, uc⟩ w') => rd_ati hw'.2.h (rng_at (fun j => (F.h j 0, F.h j 1)) hkl3)
          have hd0 := hof (F.h k3 0) (hQ2 k3 0)
          have hd1 := hof (F.h k3 1) (hQ2 k3 1)
          have ht := htH k3 hkl3
          have hlen3 : (TH.take k3).length ≤ k3 := List.length_take_le _ _
          generalize TH.take k3 = L at *
          generalize F.h k3 0 = X0 at *
          generalize F.h k3 1 = X1 at *
          generalize ed X0 false = D0 at *
          generalize ed X0 true = D1 at *
          generalize ed X1 false = D2 at *
          generalize ed X1 true = D3 at *
          cases L with
          | nil =>
            repeat'
             conv => whnf
             first
              | refine zA ?_ | refine zB ?_ | refine zC ?_ | refine zD ?_ | refine zE ?_ | refine zF ?_ | refine zG ?_ | refine zH ?_ | refine zI ?_ | refine splT ?_ | refine splF ?_ | refine splNot ?_
              | ((first | refine splIn (fun hc => ?_) (fun hc => ?_) | refine splD (fun hc => ?_) (fun hc => ?_) | refine splE (fun hc => ?_) (fun hc => ?_) | refine splNE (fun hc => ?_) (fun hc => ?_)) <;> first | (exfalso; omega) | (exfalso; dsimp only at hc; omega) | skip)
              | refine Exists.intro (α := List Value) (hgV (X0, X1)) ⟨⟨rfl, fun w' hw' => e0 w' hw'⟩, ?_⟩
              | ((with_reducible show CallEv _ _ 72 [_, .agg (.v (iv (X0 0)) :: _)] _ _ _ _); refine callE (k := 72) (fun β w' hbw => hd0 _ hbw) ?_)
              | ((with_reducible show CallEv _ _ 72 [_, .agg (.v (iv (X1 0)) :: _)] _ _ _ _); refine callE (k := 72) (fun β w' hbw => hd1 _ hbw) ?_)
            all_goals first | (exfalso; omega) | exact ⟨k3 + 1, by omega, by omega, Ent.ren (rho [(3, 7), (4, 8)]) rfl (by rw [ht]; rfl) ⟨rfl, by rw [ht]; rfl, rfl, rfl, rfl, rfl, trivial⟩ (by rw [ht]; exact ⟨rfl, rfl, trivial⟩) fun _ h => h⟩
          | cons a L =>
            simp only [List.length_cons] at hlen3
            repeat'
             conv => whnf
             first
              | refine zA ?_ | refine zB ?_ | refine zC ?_ | refine zD ?_ | refine zE ?_ | refine zF ?_ | refine zG ?_ | refine zH ?_ | refine zI ?_ | refine splT ?_ | refine splF ?_ | refine splNot ?_
              | ((first | refine splIn (fun hc => ?_) (fun hc => ?_) | refine splD (fun hc => ?_) (fun hc => ?_) | refine splE (fun hc => ?_) (fun hc => ?_) | refine splNE (fun hc => ?_) (fun hc => ?_)) <;> first | (exfalso; omega) | (exfalso; dsimp only at hc; omega) | skip)
              | refine Exists.intro (α := List Value) (hgV (X0, X1)) ⟨⟨rfl, fun w' hw' => e0 w' hw'⟩, ?_⟩
              | ((with_reducible show CallEv _ _ 72 [_, .agg (.v (iv (X0 0)) :: _)] _ _ _ _); refine callE (k := 72) (fun β w' hbw => hd0 _ hbw) ?_)
              | ((with_reducible show CallEv _ _ 72 [_, .agg (.v (iv (X1 0)) :: _)] _ _ _ _); refine callE (k := 72) (fun β w' hbw => hd1 _ hbw) ?_)
            all_goals first | (exfalso; omega) | exact ⟨k3 + 1, by omega, by omega, Ent.ren (rho [(3, 7), (4, 8)]) rfl (by rw [ht]; rfl) ⟨rfl, by rw [ht]; simp [oSV]; rfl, rfl, rfl, rfl, rfl, trivial⟩ (by rw [ht]; exact ⟨rfl, by simp [oM]; rfl, trivial⟩) fun _ h => h⟩
        · rw [List.take_of_length_le (show TH.length ≤ k3 by omega)]
          cases TH with
          | nil =>
            repeat'
             conv => whnf
             first
              | refine zA ?_ | refine zB ?_ | refine zC ?_ | refine zD ?_ | refine zE ?_ | refine zF ?_ | refine zG ?_ | refine zH ?_ | refine zI ?_ | refine splT ?_ | refine splF ?_ | refine splNot ?_
              | ((first | refine splIn (fun hc => ?_) (fun hc => ?_) | refine splD (fun hc => ?_) (fun hc => ?_) | refine splE (fun hc => ?_) (fun hc => ?_) | refine splNE (fun hc => ?_) (fun hc => ?_)) <;> first | (exfalso; omega) | (exfalso; dsimp only at hc; omega) | skip)
            all_goals first | (exfalso; omega) | exact ⟨fun w' h => h.1, fun β w' hB hblk => ⟨((some ⟨β 1, 0, none⟩, β 2), (none, 0)), rfl, (hblk 1 _ rfl rfl).imp fun _ q => ⟨Rd.of_owns (sz := 2) (f := gF) (fun _ => rfl) rfl rfl q, .inl ⟨rfl, rfl⟩⟩⟩⟩
          | cons b0 B =>
            repeat'
             conv => whnf
             first
              | refine zA ?_ | refine zB ?_ | refine zC ?_ | refine zD ?_ | refine zE ?_ | refine zF ?_ | refine zG ?_ | refine zH ?_ | refine zI ?_ | refine splT ?_ | refine splF ?_ | refine splNot ?_
              | ((first | refine splIn (fun hc => ?_) (fun hc => ?_) | refine splD (fun hc => ?_) (fun hc => ?_) | refine splE (fun hc => ?_) (fun hc => ?_) | refine splNE (fun hc => ?_) (fun hc => ?_)) <;> first | (exfalso; omega) | (exfalso; dsimp only at hc; omega) | skip)
            all_goals first | (exfalso; omega) | exact ⟨fun w' h => h.1, fun β w' hB hblk => ⟨((some ⟨β 1, 0, none⟩, β 2), (some ⟨β 3, 0, none⟩, β 4)), rfl, ((hblk 1 _ rfl rfl).and (hblk 3 _ rfl rfl)).imp fun _ q => ⟨Rd.of_owns (sz := 2) (f := gF) (fun _ => rfl) rfl rfl q.1, Rd.of_owns (sz := 4) (f := f4) (fun _ => rfl) rfl rfl q.2⟩⟩⟩
end Go.Proofs.Ytaciigegbgnadaa
