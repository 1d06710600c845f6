/- Part 6 of the proof: texts merged. -/
import Derived.Test.YtfbokllafdnglaaRGe
namespace Go.Proofs.Ytfbokllafdnglaa
open Go Tx Go.RowKit
set_option linter.unusedSimpArgs false
set_option linter.unusedVariables false
abbrev f4 (x : (Int × Int) × (Int × Int)) : List Value := [iv x.1.1, iv x.1.2, iv x.2.1, iv x.2.2]
def rgW (r : Rig) (LL : List Ld) (x : Row) : Int × Int := (endD r LL x false, endD r LL x true)
def rgPt (r : Rig) (LL : List Ld) (F : Fr) (n : Nat) : List (Int × Int) := (List.range n).map fun j => rgW r LL (F.p j)
def rgHg (r : Rig) (LL : List Ld) (F : Fr) (m : Nat) : List ((Int × Int) × (Int × Int)) := (List.range m).map fun j => (rgW r LL (F.h j 0), rgW r LL (F.h j 1))
def rgP (r : Rig) (PP : List Int) (BB : List Bm) (LL : List Ld) : List (Int × Int) := if rigOk r.f0 r.f1 r.f2 PP BB LL = true then rgPt r LL (frF BB LL) PP.length else []
def rgH (r : Rig) (PP : List Int) (BB : List Bm) (LL : List Ld) : List ((Int × Int) × (Int × Int)) := if rigOk r.f0 r.f1 r.f2 PP BB LL = true then rgHg r LL (frF BB LL) BB.length else []
def rgE (r : Rig) (PP : List Int) (BB : List Bm) (LL : List Ld) : Int := if rigOk r.f0 r.f1 r.f2 PP BB LL = true then 0 else 1
set_option maxHeartbeats 8000000 in
set_option maxRecDepth 100000 in
theorem Ranges_ok (r : Rig) (PP : List Int) (BB : List Bm) (LL : List Ld) (w : World) (h : RigIn r PP BB LL w) :
 Calls Try.prog 23 #[r.v] w fun e w' => ∃ y : (Option Addr × Nat) × (Option Addr × Nat), e = .returned (.tuple #[sV (rgP r PP BB LL).length y.1, sV (rgH r PP BB LL).length y.2, iv (rgE r PP BB LL)]) ∧ Below w.heap.size w w' ∧
  St w.heap.size (fun w2 => Rd 2 gF (sV (rgP r PP BB LL).length y.1) (rgP r PP BB LL) w2 ∧ Rd 4 f4 (sV (rgH r PP BB LL).length y.2) (rgH r PP BB LL) w2) w' := by
 have hv := fun (w' : World) (hb : Below w.heap.size w w') => valid_ok r PP BB LL w' (h.below hb)
 have hfr := fun (w' : World) (hb : Below w.heap.size w w') (hr : rigOk r.f0 r.f1 r.f2 PP BB LL = true) => frame_ok r PP BB LL w' (h.below hb) hr (frB_of hr)
 have hin := h
 obtain ⟨r1, r2, r3, r4, r5, r6, f0, f1, f2, lo, ln, lc⟩ := r
 dsimp only at hv hfr
 refine calls_fam env mixed Try.func23 has23 Try.ntmps23 [.agg #[.slice r1 r2 r3, .slice r4 r5 r6, iv f0, iv f1, iv f2, .slice lo ln lc]] (by simp) ?_
 unfold rgP rgH rgE
 dsimp only
 cases hr : rigOk f0 f1 f2 PP BB LL with
 | false =>
  rw [hr] at hv
  rw [if_neg (by simp), if_neg (by simp), if_neg (by simp)]
  repeat'
   conv => whnf
   first
    | refine zA ?_ | refine zB ?_ | refine zC ?_ | refine zD ?_ | refine zE ?_ | refine zF ?_ | refine zG ?_ | refine zH ?_ | refine zI ?_ | refine splT ?_ | refine splF ?_ | refine splNot ?_
    | ((first | refine splIn ?_ ?_ | refine splD ?_ ?_ | refine splE ?_ ?_ | refine splNE ?_ ?_) <;> intro hc <;> first | (exfalso; omega) | (exfalso; dsimp only at hc; omega) | skip)
    | ((with_reducible show CallEv _ _ 27 _ _ _ _ _); refine callE (k := 27) (fun β w' hbw => hv _ hbw) ?_)
  all_goals exact ⟨fun w' h => h, fun β w' h _ => ⟨((none, 0), (none, 0)), rfl, fun _ _ => ⟨.inl ⟨rfl, rfl⟩, .inl ⟨rfl, rfl⟩⟩⟩⟩
 | true =>
  rw [hr] at hv
  have hfr := fun w' hb => hfr w' hb hr
  rw [if_pos rfl, if_pos rfl, if_pos rfl]
  have hof := fun (y : FrA) (x : Row) (hx : rowQ x) (w' : World) (hw' : Below w.heap.size w w' ∧ FrIn ⟨r1, r2, r3, r4, r5, r6, f0, f1, f2, lo, ln, lc⟩ PP.length BB.length (frF BB LL) y w') => of_ok ⟨r1, r2, r3, r4, r5, r6, f0, f1, f2, lo, ln, lc⟩ PP BB LL (frF BB LL) y x w' (hin.below hw'.1) hr hw'.2 hx
  obtain ⟨hQ1, hQ2⟩ := frF_Q hr
  have hri := rigOk_iff.1 hr
  have hP12 : 1 ≤ PP.length ∧ PP.length ≤ 12 := by omega
  have hB12 : BB.length ≤ 12 := hri.2.2.1
  clear hri
  generalize frF BB LL = F at *
  have hPn : (rgPt ⟨r1, r2, r3, r4, r5, r6, f0, f1, f2, lo, ln, lc⟩ LL F PP.length).length = PP.length := by simp [rgPt]
  have hHn : (rgHg ⟨r1, r2, r3, r4, r5, r6, f0, f1, f2, lo, ln, lc⟩ LL F BB.length).length = BB.length := by simp [rgHg]
  have htP : ∀ k, k < PP.length → (rgPt ⟨r1, r2, r3, r4, r5, r6, f0, f1, f2, lo, ln, lc⟩ LL F PP.length).take (k + 1) = (rgPt ⟨r1, r2, r3, r4, r5, r6, f0, f1, f2, lo, ln, lc⟩ LL F PP.length).take k ++ [(endD ⟨r1, r2, r3, r4, r5, r6, f0, f1, f2, lo, ln, lc⟩ LL (F.p k) false, endD ⟨r1, r2, r3, r4, r5, r6, f0, f1, f2, lo, ln, lc⟩ LL (F.p k) true)] := fun k hk => rng_take (fun j => rgW _ LL (F.p j)) hk
  have htH : ∀ k, k < BB.length → (rgHg ⟨r1, r2, r3, r4, r5, r6, f0, f1, f2, lo, ln, lc⟩ LL F BB.length).take (k + 1) = (rgHg ⟨r1, r2, r3, r4, r5, r6, f0, f1, f2, lo, ln, lc⟩ LL F BB.length).take k ++ [((endD ⟨r1, r2, r3, r4, r5, r6, f0, f1, f2, lo, ln, lc⟩ LL (F.h k 0) false, endD ⟨r1, r2, r3, r4, r5, r6, f0, f1, f2, lo, ln, lc⟩ LL (F.h k 0) true), (endD ⟨r1, r2, r3, r4, r5, r6, f0, f1, f2, lo, ln, lc⟩ LL (F.h k 1) false, endD ⟨r1, r2, r3, r4, r5, r6, f0, f1, f2, lo, ln, lc⟩ LL (F.h k 1) true))] := fun k hk => rng_take (fun j => (rgW _ LL (F.h j 0), rgW _ LL (F.h j 1))) hk
  have hfI := fun (y : FrA) (w' : World) (hy : FrIn ⟨r1, r2, r3, r4, r5, r6, f0, f1, f2, lo, ln, lc⟩ PP.length BB.length F y w') => hy
  generalize rgPt ⟨r1, r2, r3, r4, r5, r6, f0, f1, f2, lo, ln, lc⟩ LL F PP.length = TP at *
  generalize rgHg ⟨r1, r2, r3, r4, r5, r6, f0, f1, f2, lo, ln, lc⟩ LL F BB.length = TH at *
  generalize endD ⟨r1, r2, r3, r4, r5, r6, f0, f1, f2, lo, ln, lc⟩ LL = ed at *
  have hpn : r2 = PP.length := hin.pn
  have hbn : r5 = BB.length := hin.bn
  repeat'
   conv => whnf
   first
    | refine zA ?_ | refine zB ?_ | refine zC ?_ | refine zD ?_ | refine zE ?_ | refine zF ?_ | refine zG ?_ | refine zH ?_ | refine zI ?_ | refine splT ?_ | refine splF ?_ | refine splNot ?_
    | ((first | refine splIn ?_ ?_ | refine splD ?_ ?_ | refine splE ?_ ?_ | refine splNE ?_ ?_) <;> intro hc <;> first | (exfalso; omega) | (exfalso; dsimp only at hc; omega) | skip)
    | ((with_reducible show CallEv _ _ 27 _ _ _ _ _); refine callE (k := 27) (fun β w' hbw => hv _ hbw) ?_)
    | ((with_reducible show CallEv _ _ 28 _ _ _ _ _); refine callF [] (fun y : FrA => .pointer (some ⟨y.fb, 0, none⟩)) (fun y => FrIn ⟨r1, r2, r3, r4, r5, r6, f0, f1, f2, lo, ln, lc⟩ PP.length BB.length F y) (fun β w' _ hbw => hfr w' hbw) ?_; intro y; obtain ⟨fb, pb, qc, gb, gc, ub, uc⟩ := y; dsimp only)
    | refine nilX rfl rfl ?_
    | refine Exists.intro (α := List Value) [.slice (some ⟨pb, 0, none⟩) PP.length qc] ⟨⟨rfl, fun w' hw' j v hj => (show w'.cell? (((⟨fb, 0, none⟩ : Addr).add 6).add j) = some v from (by
    match j, hj with
    | 0, hj => cases hj; rw [Addr.add_add]; exact hw'.2.c 6 _ rfl))⟩, ?_⟩
  all_goals first | (exfalso; omega) | skip
  have hof := hof ⟨fb, pb, qc, gb, gc, ub, uc⟩
  refine loopN 3 (fun k : Nat => [(2, oSV 1 2 (TP.take k)), (3, .v (.slice none 0 0)), (5, .v (.pointer (some ⟨fb, 0, none⟩))), (18, .v (.slice (some ⟨pb, 0, none⟩) PP.length qc)), (19, .v (iv PP.length)), (20, .v (iv k))])
   (fun k => oM 1 2 2 gF 106 (TP.take k)) (fun k => k ≤ PP.length) (fun k => PP.length - k) 0 (Nat.zero_le _) ⟨rfl, rfl, rfl, rfl, rfl, rfl, trivial⟩ trivial (fun k _ => by cases TP.take k <;> exact ⟨rfl, rfl⟩) ?_
  intro k2 hk2
  rcases Nat.lt_or_ge k2 PP.length with hkl2 | hkl2
  · have e0 := fun (w' : World) (hw' : Below w.heap.size w w' ∧ FrIn ⟨r1, r2, r3, r4, r5, r6, f0, f1, f2, lo, ln, lc⟩ PP.length BB.length F ⟨fb, pb, qc, gb, gc, ub, uc⟩ w') => rd_ati hw'.2.p (rng_at F.p hkl2)
    have hd := hof (F.p k2) (hQ1 k2)
    have ht := htP k2 hkl2
    have hlen2 : (TP.take k2).length ≤ k2 := List.length_take_le _ _
    generalize TP.take k2 = L at *
    generalize F.p k2 = X at *
    generalize ed X false = D0 at *
    generalize ed X true = D1 at *
    cases L with
    | nil =>
     repeat'
      conv => whnf
      first
       | refine zA ?_ | refine zB ?_ | refine zC ?_ | refine zD ?_ | refine zE ?_ | refine zF ?_ | refine zG ?_ | refine zH ?_ | refine zI ?_ | refine splT ?_ | refine splF ?_ | refine splNot ?_
       | ((first | refine splIn ?_ ?_ | refine splD ?_ ?_ | refine splE ?_ ?_ | refine splNE ?_ ?_) <;> intro hc <;> first | (exfalso; omega) | (exfalso; dsimp only at hc; omega) | skip)
       | refine Exists.intro (α := List Value) (rwL X) ⟨⟨rfl, fun w' hw' => e0 w' hw'⟩, ?_⟩
       | ((with_reducible show CallEv _ _ 54 _ _ _ _ _); refine callE (k := 54) (fun β w' hbw => hd _ hbw) ?_)
     all_goals first | (exfalso; omega) | exact ⟨k2 + 1, by omega, by omega, Ent.ren (rho [(1, 5), (2, 6)]) rfl (by rw [ht]; rfl) ⟨by rw [ht]; rfl, rfl, rfl, rfl, rfl, rfl, trivial⟩ (by rw [ht]; exact ⟨rfl, trivial⟩) fun _ h => h⟩
    | cons a L =>
     simp only [List.length_cons] at hlen2
     repeat'
      conv => whnf
      first
       | refine zA ?_ | refine zB ?_ | refine zC ?_ | refine zD ?_ | refine zE ?_ | refine zF ?_ | refine zG ?_ | refine zH ?_ | refine zI ?_ | refine splT ?_ | refine splF ?_ | refine splNot ?_
       | ((first | refine splIn ?_ ?_ | refine splD ?_ ?_ | refine splE ?_ ?_ | refine splNE ?_ ?_) <;> intro hc <;> first | (exfalso; omega) | (exfalso; dsimp only at hc; omega) | skip)
       | refine Exists.intro (α := List Value) (rwL X) ⟨⟨rfl, fun w' hw' => e0 w' hw'⟩, ?_⟩
       | ((with_reducible show CallEv _ _ 54 _ _ _ _ _); refine callE (k := 54) (fun β w' hbw => hd _ hbw) ?_)
     all_goals first | (exfalso; omega) | exact ⟨k2 + 1, by omega, by omega, Ent.ren (rho [(1, 5), (2, 6)]) rfl (by rw [ht]; rfl) ⟨by rw [ht]; simp [oSV]; rfl, rfl, rfl, rfl, rfl, rfl, trivial⟩ (by rw [ht]; exact ⟨by simp [oM]; rfl, trivial⟩) fun _ h => h⟩
  · rw [List.take_of_length_le (show TP.length ≤ k2 by omega)]
    cases hTP : TP with
    | nil => rw [hTP] at hPn; simp at hPn; omega
    | cons a0 A =>
     rw [hTP] at hPn
     simp only [List.length_cons] at hPn
     clear htP
     repeat'
      conv => whnf
      first
       | refine zA ?_ | refine zB ?_ | refine zC ?_ | refine zD ?_ | refine zE ?_ | refine zF ?_ | refine zG ?_ | refine zH ?_ | refine zI ?_ | refine splT ?_ | refine splF ?_ | refine splNot ?_
       | ((first | refine splIn ?_ ?_ | refine splD ?_ ?_ | refine splE ?_ ?_ | refine splNE ?_ ?_) <;> intro hc <;> first | (exfalso; omega) | (exfalso; dsimp only at hc; omega) | skip)
       | refine nilX rfl rfl ?_
       | refine Exists.intro (α := List Value) [.slice (some ⟨gb, 0, none⟩) BB.length gc] ⟨⟨rfl, fun w' hw' j v hj => (show w'.cell? (((⟨fb, 0, none⟩ : Addr).add 7).add j) = some v from (by
       match j, hj with
       | 0, hj => cases hj; rw [Addr.add_add]; exact hw'.2.c 7 _ rfl))⟩, ?_⟩
     all_goals first | (exfalso; omega) | skip
     refine loopN 5 (fun k : Nat => [(2, .os 1 2 (A.length + 1)), (3, oSV 3 4 (TH.take k)), (5, .v (.pointer (some ⟨fb, 0, none⟩))), (34, .v (.slice (some ⟨gb, 0, none⟩) BB.length gc)), (35, .v (iv BB.length)), (36, .v (iv k))])
      (fun k => (1, .own 2 (A.length + 1) 2 ((a0 :: A).flatMap gF) 106) :: oM 3 4 4 f4 149 (TH.take k)) (fun k => k ≤ BB.length) (fun k => BB.length - k) 0 (Nat.zero_le _) ⟨rfl, rfl, rfl, rfl, rfl, rfl, trivial⟩ ⟨rfl, trivial⟩ (fun k _ => by cases TH.take k <;> exact ⟨rfl, rfl⟩) ?_
     intro k3 hk3
     rcases Nat.lt_or_ge k3 BB.length with hkl3 | hkl3
     · have e0 := fun (w' : World) (hw' : Below w.heap.size w w' ∧ FrIn ⟨r1, r2, r3, r4, r5, r6, f0, f1, f2, lo, ln, lc⟩ PP.length BB.length F ⟨fb, pb, qc, gb, gc, ub, uc⟩ w') => rd_ati hw'.2.h (rng_at (fun j => (F.h j 0, F.h j 1)) hkl3)
       have hd0 := hof (F.h k3 0) (hQ2 k3 0)
       have hd1 := hof (F.h k3 1) (hQ2 k3 1)
       have ht := htH k3 hkl3
       have hlen3 : (TH.take k3).length ≤ k3 := List.length_take_le _ _
       generalize TH.take k3 = L at *
       generalize F.h k3 0 = X0 at *
       generalize F.h k3 1 = X1 at *
       generalize ed X0 false = D0 at *
       generalize ed X0 true = D1 at *
       generalize ed X1 false = D2 at *
       generalize ed X1 true = D3 at *
       cases L with
       | nil =>
        repeat'
         conv => whnf
         first
          | refine zA ?_ | refine zB ?_ | refine zC ?_ | refine zD ?_ | refine zE ?_ | refine zF ?_ | refine zG ?_ | refine zH ?_ | refine zI ?_ | refine splT ?_ | refine splF ?_ | refine splNot ?_
          | ((first | refine splIn ?_ ?_ | refine splD ?_ ?_ | refine splE ?_ ?_ | refine splNE ?_ ?_) <;> intro hc <;> first | (exfalso; omega) | (exfalso; dsimp only at hc; omega) | skip)
          | refine Exists.intro (α := List Value) (hgV (X0, X1)) ⟨⟨rfl, fun w' hw' => e0 w' hw'⟩, ?_⟩
          | ((with_reducible show CallEv _ _ 54 [_, .agg (.v (iv (X0 0)) :: _)] _ _ _ _); refine callE (k := 54) (fun β w' hbw => hd0 _ hbw) ?_)
          | ((with_reducible show CallEv _ _ 54 [_, .agg (.v (iv (X1 0)) :: _)] _ _ _ _); refine callE (k := 54) (fun β w' hbw => hd1 _ hbw) ?_)
        all_goals first | (exfalso; omega) | exact ⟨k3 + 1, by omega, by omega, Ent.ren (rho [(3, 7), (4, 8)]) rfl (by rw [ht]; rfl) ⟨rfl, by rw [ht]; rfl, rfl, rfl, rfl, rfl, trivial⟩ (by rw [ht]; exact ⟨rfl, rfl, trivial⟩) fun _ h => h⟩
       | cons a L =>
        simp only [List.length_cons] at hlen3
        repeat'
         conv => whnf
         first
          | refine zA ?_ | refine zB ?_ | refine zC ?_ | refine zD ?_ | refine zE ?_ | refine zF ?_ | refine zG ?_ | refine zH ?_ | refine zI ?_ | refine splT ?_ | refine splF ?_ | refine splNot ?_
          | ((first | refine splIn ?_ ?_ | refine splD ?_ ?_ | refine splE ?_ ?_ | refine splNE ?_ ?_) <;> intro hc <;> first | (exfalso; omega) | (exfalso; dsimp only at hc; omega) | skip)
          | refine Exists.intro (α := List Value) (hgV (X0, X1)) ⟨⟨rfl, fun w' hw' => e0 w' hw'⟩, ?_⟩
          | ((with_reducible show CallEv _ _ 54 [_, .agg (.v (iv (X0 0)) :: _)] _ _ _ _); refine callE (k := 54) (fun β w' hbw => hd0 _ hbw) ?_)
          | ((with_reducible show CallEv _ _ 54 [_, .agg (.v (iv (X1 0)) :: _)] _ _ _ _); refine callE (k := 54) (fun β w' hbw => hd1 _ hbw) ?_)
        all_goals first | (exfalso; omega) | exact ⟨k3 + 1, by omega, by omega, Ent.ren (rho [(3, 7), (4, 8)]) rfl (by rw [ht]; rfl) ⟨rfl, by rw [ht]; simp [oSV]; rfl, rfl, rfl, rfl, rfl, trivial⟩ (by rw [ht]; exact ⟨rfl, by simp [oM]; rfl, trivial⟩) fun _ h => h⟩
     · rw [List.take_of_length_le (show TH.length ≤ k3 by omega)]
       cases TH with
       | nil =>
        repeat'
         conv => whnf
         first
          | refine zA ?_ | refine zB ?_ | refine zC ?_ | refine zD ?_ | refine zE ?_ | refine zF ?_ | refine zG ?_ | refine zH ?_ | refine zI ?_ | refine splT ?_ | refine splF ?_ | refine splNot ?_
          | ((first | refine splIn ?_ ?_ | refine splD ?_ ?_ | refine splE ?_ ?_ | refine splNE ?_ ?_) <;> intro hc <;> first | (exfalso; omega) | (exfalso; dsimp only at hc; omega) | skip)
        all_goals first | (exfalso; omega) | exact ⟨fun w' h => h.1, fun β w' hB hblk => ⟨((some ⟨β 1, 0, none⟩, β 2), (none, 0)), rfl, (hblk 1 _ rfl rfl).imp fun _ q => ⟨Rd.of_owns (sz := 2) (f := gF) (fun _ => rfl) rfl rfl q, .inl ⟨rfl, rfl⟩⟩⟩⟩
       | cons b0 B =>
        repeat'
         conv => whnf
         first
          | refine zA ?_ | refine zB ?_ | refine zC ?_ | refine zD ?_ | refine zE ?_ | refine zF ?_ | refine zG ?_ | refine zH ?_ | refine zI ?_ | refine splT ?_ | refine splF ?_ | refine splNot ?_
          | ((first | refine splIn ?_ ?_ | refine splD ?_ ?_ | refine splE ?_ ?_ | refine splNE ?_ ?_) <;> intro hc <;> first | (exfalso; omega) | (exfalso; dsimp only at hc; omega) | skip)
        all_goals first | (exfalso; omega) | exact ⟨fun w' h => h.1, fun β w' hB hblk => ⟨((some ⟨β 1, 0, none⟩, β 2), (some ⟨β 3, 0, none⟩, β 4)), rfl, ((hblk 1 _ rfl rfl).and (hblk 3 _ rfl rfl)).imp fun _ q => ⟨Rd.of_owns (sz := 2) (f := gF) (fun _ => rfl) rfl rfl q.1, Rd.of_owns (sz := 4) (f := f4) (fun _ => rfl) rfl rfl q.2⟩⟩⟩
end Go.Proofs.Ytfbokllafdnglaa
namespace Go.Proofs.Ytfbokllafdnglaa
open Go Tx Go.RowKit
set_option linter.unusedSimpArgs false
set_option linter.unusedVariables false
theorem endD_fac {r r' : Rig} (h : ∀ k, r.fac k = r'.fac k) (LL : List Ld) (x : Row) (most : Bool) : endD r LL x most = endD r' LL x most := by
 have h1 : hiP r = hiP r' := funext fun l => by unfold hiP; rw [h]
 have h2 : endL r x most LL = endL r' x most LL := by unfold endL endV; rw [h1]
 unfold endD
 rw [h2]
theorem Ranges_nr (PP : List Int) (BB : List Bm) (LL : List Ld) (f0 f1 f2 : Int) (r : Rig) (hr : rigOk f0 f1 f2 PP BB LL = true) (hf : r.f0 = f0 ∧ r.f1 = f1 ∧ r.f2 = f2) (y : (Option Addr × Nat) × (Option Addr × Nat) × (Option Addr × Nat)) (w : World)
 (h : nrH PP BB LL y w) (h1 : PP.length ≤ 1000000) (h2 : BB.length ≤ 1000000) (h3 : LL.length ≤ 1000000) :
 Calls Try.prog 23 #[nrV PP BB LL f0 f1 f2 y] w fun e w' => ∃ z : YS (rgPt r LL (frF BB LL) PP.length) × YS (rgHg r LL (frF BB LL) BB.length), e = .returned (.tuple #[sV PP.length z.1.1, sV BB.length z.2.1, iv 0]) ∧ Below w.heap.size w w' ∧
  St w.heap.size (fun w2 => Rd 2 gF (sV PP.length z.1.1) (rgPt r LL (frF BB LL) PP.length) w2 ∧ Rd 4 f4 (sV BB.length z.2.1) (rgHg r LL (frF BB LL) BB.length) w2) w' := by
 obtain ⟨e0, e1, e2⟩ := hf
 have hfa := fac_eq (r := nrR PP BB LL f0 f1 f2 y) (r' := r) e0.symm e1.symm e2.symm
 refine (Ranges_ok (nrR PP BB LL f0 f1 f2 y) PP BB LL w (h.rin h1 h2 h3)).mono fun e w' ⟨z, h1, h2, h3⟩ => ?_
 have q1 : rgP (nrR PP BB LL f0 f1 f2 y) PP BB LL = rgPt r LL (frF BB LL) PP.length := (if_pos hr).trans (List.map_congr_left fun j _ => by unfold rgW; rw [endD_fac hfa, endD_fac hfa])
 have q2 : rgH (nrR PP BB LL f0 f1 f2 y) PP BB LL = rgHg r LL (frF BB LL) BB.length := (if_pos hr).trans (List.map_congr_left fun j _ => by unfold rgW; rw [endD_fac hfa, endD_fac hfa, endD_fac hfa, endD_fac hfa])
 have q3 : rgE (nrR PP BB LL f0 f1 f2 y) PP BB LL = 0 := if_pos hr
 have l1 : (rgPt r LL (frF BB LL) PP.length).length = PP.length := by simp [rgPt]
 have l2 : (rgHg r LL (frF BB LL) BB.length).length = BB.length := by simp [rgHg]
 rw [q1, q2, q3] at h1
 rw [q1, q2] at h3
 have s1 := rd_ys h3.now.1
 have s2 := rd_ys h3.now.2
 rw [l1, l2] at h1 h3
 exact ⟨(⟨z.1, s1⟩, ⟨z.2, s2⟩), h1, h2, h3⟩
end Go.Proofs.Ytfbokllafdnglaa
namespace Go.Proofs.Ytfbokllafdnglaa
open Go Tx Go.RowKit
set_option linter.unusedSimpArgs false
set_option linter.unusedVariables false
def limP (PP : List Int) (BB : List Bm) (b a : Int) : Int := if b = -1 then PP.getD a.toNat 0 else capN BB b.toNat
theorem find_rng (p : Int × Int → Bool) (f : Nat → Int × Int) : ∀ n k, ((List.range' k n).map f).find? p = if fstN (fun j => p (f j)) n k < k + n then some (f (fstN (fun j => p (f j)) n k)) else none
 | 0, k => by simp [fstN]
 | n + 1, k => by
  rw [List.range'_succ, List.map_cons, List.find?_cons]
  unfold fstN
  cases h : p (f k)
  · simp only [Bool.false_eq_true, if_false]
    rw [find_rng p f n (k + 1), show k + 1 + n = k + (n + 1) from by omega]
  · simp only [if_true]
    rw [if_pos (by omega)]
theorem find_hgs (p : Int × Int → Bool) : ∀ n i, ((List.range' i n).flatMap fun i : Nat => [((i : Int), (0 : Int)), ((i : Int), 1)]).find? p = (hgS (fun i k => p ((i : Int), (k : Int))) n i).map fun q => ((q.1 : Int), (q.2 : Int))
 | 0, i => rfl
 | n + 1, i => by
  rw [List.range'_succ, List.flatMap_cons, hgS]
  simp only [List.cons_append, List.nil_append, List.find?_cons]
  rw [find_hgs p n (i + 1)]
  show (match p ((i : Int), 0) with | true => _ | false => _) = _
  cases h0 : p ((i : Int), 0)
  · rw [if_neg (by simp)]
    dsimp only
    cases h1 : p ((i : Int), 1)
    · rw [if_neg (by simp)]
    · rw [if_pos rfl]; rfl
  · rw [if_pos rfl]; rfl
theorem find_prL (p : Int × Int → Bool) (n m : Nat) : (prL n m).find? p = if fstN (fun j => p (-1, (j : Int))) n 0 < n then some (-1, (fstN (fun j => p (-1, (j : Int))) n 0 : Int)) else (hgO (fun i k => p ((i : Int), (k : Int))) m).map fun q => ((q.1 : Int), (q.2 : Int)) := by
 have h1 := find_rng p (fun j => (-1, (j : Int))) n 0
 have h2 := find_hgs p m 0
 rw [← List.range_eq_range'] at h1 h2
 unfold prL prP prH
 rw [List.find?_append, h1, h2, Nat.zero_add]
 split
 · rfl
 · rfl
theorem hgS_congr {is is' : Nat → Nat → Bool} (h : ∀ i k, is i k = is' i k) : ∀ n i, hgS is n i = hgS is' n i
 | 0, _ => rfl
 | n + 1, i => by rw [hgS, hgS, h, h, hgS_congr h n (i + 1)]
theorem rowP_p' (F : Fr) (j : Nat) : rowP F (-1) j = F.p j := funext fun c => ob_p F c j
theorem rowP_h' (F : Fr) (j k : Nat) : rowP F j k = F.h j k := funext fun c => ob_h F c j k
def ovQ (r : Rig) (PP : List Int) (BB : List Bm) (LL : List Ld) (F : Fr) (q : Int × Int) : Bool := decide (endD r LL (rowP F q.1 q.2) true > limP PP BB q.1 q.2 * 216000)
def slQ (r : Rig) (LL : List Ld) (F : Fr) (q : Int × Int) : Bool := decide (q.1 ≥ 0) && decide (endD r LL (rowP F q.1 q.2) false < 0)
def wkP (F : Fr) (o : Option (Int × Int)) : Wk := o.map fun q => (q.1, q.2, rowP F q.1 q.2)
theorem ovO_find (r : Rig) (PP : List Int) (BB : List Bm) (LL : List Ld) (F : Fr) : ovO r PP BB LL F = wkP F ((prL PP.length BB.length).find? (ovQ r PP BB LL F)) := by
 have e1 : (fun j : Nat => ovQ r PP BB LL F (-1, (j : Int))) = fun j => decide (endD r LL (F.p j) true > PP.getD j 0 * 216000) := funext fun j => by
  unfold ovQ limP
  rw [if_pos rfl, rowP_p', Int.toNat_natCast]
 have e2 : ∀ i k : Nat, ovQ r PP BB LL F ((i : Int), (k : Int)) = decide (endD r LL (F.h i k) true > capN BB i * 216000) := fun i k => by
  unfold ovQ limP
  rw [if_neg (by show ¬ (i : Int) = -1; omega), rowP_h', Int.toNat_natCast]
 rw [find_prL, e1]
 unfold ovO hgO
 rw [hgS_congr e2 BB.length 0]
 show (if ovF r PP LL F < PP.length then _ else _) = wkP F (if ovF r PP LL F < PP.length then some (-1, (ovF r PP LL F : Int)) else _)
 split
 · show _ = some (-1, (ovF r PP LL F : Int), rowP F (-1) (ovF r PP LL F)); rw [rowP_p']
 · unfold hgW wkP
   rw [Option.map_map]
   refine congrArg (fun f => Option.map f _) (funext fun q => ?_)
   show _ = ((q.1 : Int), (q.2 : Int), rowP F q.1 q.2)
   rw [rowP_h']
theorem slO_find (r : Rig) (PP : List Int) (BB : List Bm) (LL : List Ld) (F : Fr) : slO r BB LL F = wkP F ((prL PP.length BB.length).find? (slQ r LL F)) := by
 have e2 : ∀ i k : Nat, slQ r LL F ((i : Int), (k : Int)) = decide (endD r LL (F.h i k) false < 0) := fun i k => by
  unfold slQ
  rw [rowP_h', decide_eq_true (show (i : Int) ≥ 0 by omega), Bool.true_and]
 have e3 : ¬ fstN (fun j : Nat => slQ r LL F (-1, (j : Int))) PP.length 0 < PP.length := fun h => by
  have := (fstN_spec (p := fun j : Nat => slQ r LL F (-1, (j : Int))) PP.length 0).2.2.2 (by omega)
  simp [slQ] at this
 rw [find_prL, if_neg e3]
 unfold slO hgO
 rw [hgS_congr e2 BB.length 0]
 unfold hgW wkP
 rw [Option.map_map]
 refine congrArg (fun f => Option.map f _) (funext fun q => ?_)
 show _ = ((q.1 : Int), (q.2 : Int), rowP F q.1 q.2)
 rw [rowP_h']
end Go.Proofs.Ytfbokllafdnglaa
namespace Go.Proofs.Ytfbokllafdnglaa
open Go Tx Go.RowKit
set_option linter.unusedSimpArgs false
set_option linter.unusedVariables false
theorem endL_fac' {r r' : Rig} (h : ∀ k, r.fac k = r'.fac k) (x : Row) (most : Bool) (LL : List Ld) : endL r x most LL = endL r' x most LL := by
 have h1 : hiP r = hiP r' := funext fun l => by unfold hiP; rw [h]
 unfold endL endV
 rw [h1]
theorem endD_fac' {r r' : Rig} (h : ∀ k, r.fac k = r'.fac k) (LL : List Ld) : endD r LL = endD r' LL := funext fun x => funext fun most => by
 unfold endD
 rw [endL_fac' h]
theorem pl_fac {r r' : Rig} (h : ∀ k, r.fac k = r'.fac k) (LL : List Ld) (most : Bool) (W : Wk) : W.pl r LL most = W.pl r' LL most := by
 rcases W with _ | ⟨b, a, x⟩
 · rfl
 · exact endL_fac' h x most LL
theorem ovO_fac {r r' : Rig} (h : ∀ k, r.fac k = r'.fac k) (PP : List Int) (BB : List Bm) (LL : List Ld) (F : Fr) : ovO r PP BB LL F = ovO r' PP BB LL F := by
 unfold ovO ovF
 rw [endD_fac' h]
theorem slO_fac {r r' : Rig} (h : ∀ k, r.fac k = r'.fac k) (BB : List Bm) (LL : List Ld) (F : Fr) : slO r BB LL F = slO r' BB LL F := by
 unfold slO
 rw [endD_fac' h]
theorem Over_nr (PP : List Int) (BB : List Bm) (LL : List Ld) (f0 f1 f2 : Int) (r : Rig) (W : Wk) (hW : W = if rigOk f0 f1 f2 PP BB LL = true then ovO r PP BB LL (frF BB LL) else none) (hf : r.f0 = f0 ∧ r.f1 = f1 ∧ r.f2 = f2) (y : (Option Addr × Nat) × (Option Addr × Nat) × (Option Addr × Nat)) (w : World)
 (h : nrH PP BB LL y w) (h1 : PP.length ≤ 1000000) (h2 : BB.length ≤ 1000000) (h3 : LL.length ≤ 1000000) :
 Calls Try.prog 11 #[nrV PP BB LL f0 f1 f2 y] w fun e w' => ∃ z : Option Addr × Nat, e = .returned (.tuple #[.agg #[iv W.b, iv W.a], sV (W.pl r LL true).length z, iv (W.e (rigOk f0 f1 f2 PP BB LL))]) ∧ Below w.heap.size w w' ∧
  St w.heap.size (Rd 1 iF (sV (W.pl r LL true).length z) (W.pl r LL true)) w' := by
 obtain ⟨e0, e1, e2⟩ := hf
 have hfa := fac_eq (r := nrR PP BB LL f0 f1 f2 y) (r' := r) e0.symm e1.symm e2.symm
 have q : ovR (nrR PP BB LL f0 f1 f2 y) PP BB LL = W := by rw [hW]; unfold ovR; rw [ovO_fac hfa]
 have := Over_ok (nrR PP BB LL f0 f1 f2 y) PP BB LL w (h.rin h1 h2 h3)
 rw [q, pl_fac hfa] at this
 exact this
theorem Slack_nr (PP : List Int) (BB : List Bm) (LL : List Ld) (f0 f1 f2 : Int) (r : Rig) (W : Wk) (hW : W = if rigOk f0 f1 f2 PP BB LL = true then slO r BB LL (frF BB LL) else none) (hf : r.f0 = f0 ∧ r.f1 = f1 ∧ r.f2 = f2) (y : (Option Addr × Nat) × (Option Addr × Nat) × (Option Addr × Nat)) (w : World)
 (h : nrH PP BB LL y w) (h1 : PP.length ≤ 1000000) (h2 : BB.length ≤ 1000000) (h3 : LL.length ≤ 1000000) :
 Calls Try.prog 18 #[nrV PP BB LL f0 f1 f2 y] w fun e w' => ∃ z : Option Addr × Nat, e = .returned (.tuple #[.agg #[iv W.b, iv W.a], sV (W.pl r LL false).length z, iv (W.e (rigOk f0 f1 f2 PP BB LL))]) ∧ Below w.heap.size w w' ∧
  St w.heap.size (Rd 1 iF (sV (W.pl r LL false).length z) (W.pl r LL false)) w' := by
 obtain ⟨e0, e1, e2⟩ := hf
 have hfa := fac_eq (r := nrR PP BB LL f0 f1 f2 y) (r' := r) e0.symm e1.symm e2.symm
 have q : slR (nrR PP BB LL f0 f1 f2 y) PP BB LL = W := by rw [hW]; unfold slR; rw [slO_fac hfa]
 have := Slack_ok (nrR PP BB LL f0 f1 f2 y) PP BB LL w (h.rin h1 h2 h3)
 rw [q, pl_fac hfa] at this
 exact this
end Go.Proofs.Ytfbokllafdnglaa
namespace Go.Proofs.Ytfbokllafdnglaa
open Go Tx Go.RowKit
set_option linter.unusedSimpArgs false
set_option linter.unusedVariables false
abbrev rigS (nb n : Nat) (BB : List Bm) (LL : List Ld) (f0 f1 f2 : Int) : SV := .agg [.os nb (nb + 1) n, oSV (nb + 2) (nb + 3) BB, .v (iv f0), .v (iv f1), .v (iv f2), oSV (nb + 4) (nb + 5) LL]
abbrev rigM (nb : Nat) (PP : List Int) (BB : List Bm) (LL : List Ld) : List (Nat × Blk) := (nb, .own (nb + 1) PP.length 1 (PP.flatMap iF) 3) :: (oM (nb + 2) (nb + 3) 8 Bm.cs 134 BB ++ oM (nb + 4) (nb + 5) 5 Ld.cs 47 LL)
set_option maxHeartbeats 8000000 in
set_option maxRecDepth 100000 in
theorem Rig_own (r : Rig) (p0 : Int) (PP : List Int) (BB : List Bm) (LL : List Ld) (w : World) (h : RigIn r (p0 :: PP) BB LL w) (hbm : BB.length ≤ 1000) (hlm : LL.length ≤ 1000) :
 Calls Try.prog 15 #[r.v] w fun e w' => ∃ γ : Nat → Nat, e = .returned ((rigS 0 (PP.length + 1) BB LL r.f0 r.f1 r.f2).c γ) ∧ Below w.heap.size w w' ∧ (∀ i b, (i, b) ∈ rigM 0 (p0 :: PP) BB LL → w.heap.size ≤ γ i ∧ b.ok γ w' (γ i)) ∧ ∀ i b j b', (i, b) ∈ rigM 0 (p0 :: PP) BB LL → (j, b') ∈ rigM 0 (p0 :: PP) BB LL → i ≠ j → γ i ≠ γ j := by
 obtain ⟨po, pn, pc, bo, bn, bc, f0, f1, f2, lo, ln, lc⟩ := r
 obtain ⟨hP, hB, hL, rfl, rfl, rfl, l1, l2, l3⟩ := h
 dsimp only at hP hB hL l1 l2 l3 ⊢
 refine calls_fam3 env mixed Try.func15 has15 Try.ntmps15 [.agg #[.slice po (p0 :: PP).length pc, .slice bo BB.length bc, iv f0, iv f1, iv f2, .slice lo LL.length lc]] (by simp) ?_
 · skip
   have hlo := fun (w' : World) (hb : Below w.heap.size w w') => list_own (p0 :: PP) po pc w' (hP.below hb) (by simp) l1
   repeat'
    conv => whnf
    first
     | refine zA ?_ | refine zB ?_ | refine zC ?_ | refine zD ?_ | refine zE ?_ | refine zF ?_ | refine zG ?_ | refine zH ?_ | refine zI ?_ | refine splT ?_ | refine splF ?_ | refine splNot ?_
     | ((first | refine splIn ?_ ?_ | refine splD ?_ ?_ | refine splE ?_ ?_ | refine splNE ?_ ?_) <;> intro hc <;> first | (exfalso; omega) | (exfalso; dsimp only at hc; omega) | skip)
     | ((with_reducible show CallEv _ _ 43 _ _ _ _ _); refine callO 2 [] (.os 2 3 (PP.length + 1)) (PP.length + 1) 1 ((p0 :: PP).flatMap iF) 3 rfl (fun β w' _ hbw => (hlo w' hbw).mono fun _ _ ⟨b, c, h1, h2, h3, h4⟩ => ⟨b, c, h1, h2, h3, h4⟩) ?_)
   refine loopN 7 (fun k : Nat => [(1, .ptr 0 0), (2, .ptr 1 0), (3, .ptr 4 0), (4, .v (iv k))]) (fun k => (0, .cells [.v (.slice po (p0 :: PP).length pc), .v (.slice bo BB.length bc), .v (iv f0), .v (iv f1), .v (iv f2), .v (.slice lo LL.length lc)] 54) :: (1, .cells [.v (.slice none 0 0), .v (.slice none 0 0), .v (iv 0), .v (iv 0), .v (iv 0), .v (.slice none 0 0)] 41) :: (2, .own 3 (PP.length + 1) 1 ((p0 :: PP).flatMap iF) 3) :: (4, .cells [.os 2 3 (PP.length + 1), oSV 5 6 (BB.take k), .v (iv f0), .v (iv f1), .v (iv f2), .v (.slice none 0 0)] 41) :: oM 5 6 8 Bm.cs 134 (BB.take k))
    (fun k => k ≤ BB.length) (fun k => BB.length - k) 0 (Nat.zero_le _) ⟨rfl, rfl, rfl, rfl, trivial⟩ ⟨rfl, rfl, rfl, rfl, trivial⟩ (fun k _ => by cases BB.take k <;> exact ⟨rfl, rfl⟩) ?_
   intro k hk
   rcases Nat.lt_or_ge k BB.length with hkl | hkl
   · obtain ⟨b, hb⟩ : ∃ b, BB[k]? = some b := ⟨_, List.getElem?_eq_getElem hkl⟩
     obtain ⟨_, ad, rfl, _⟩ := hB.ptr (by omega)
     have e0 := fun (w' : World) hw' => rd_ati (hB.below (w' := w') hw') hb
     have ht : BB.take (k + 1) = BB.take k ++ [b] := by rw [List.take_add_one, hb]; rfl
     have hlen : (BB.take k).length ≤ k := List.length_take_le _ _
     generalize BB.take k = T at *
     obtain ⟨b1, b2, b3, b4, b5, b6, b7, b8⟩ := b
     cases T with
     | nil =>
      repeat'
       conv => whnf
       first
        | refine zA ?_ | refine zB ?_ | refine zC ?_ | refine zD ?_ | refine zE ?_ | refine zF ?_ | refine zG ?_ | refine zH ?_ | refine zI ?_ | refine splT ?_ | refine splF ?_ | refine splNot ?_
        | ((first | refine splIn ?_ ?_ | refine splD ?_ ?_ | refine splE ?_ ?_ | refine splNE ?_ ?_) <;> intro hc <;> first | (exfalso; omega) | (exfalso; dsimp only at hc; omega) | skip)
        | refine Exists.intro (α := List Value) [iv b1, iv b2, iv b3, iv b4, iv b5, iv b6, iv b7, iv b8] ⟨⟨rfl, fun w' hw' => e0 w' hw'⟩, ?_⟩
        | ((with_reducible show CallEv _ _ 44 _ _ _ _ _); refine callE (k := 44) (fun β w' hbw => place_ok _ _ _) ?_)
      all_goals first | (exfalso; omega) | exact ⟨k + 1, by omega, by omega, Ent.ren (rho [(5, 9), (6, 10)]) rfl (by rw [ht]; rfl) ⟨rfl, rfl, rfl, rfl, trivial⟩ (by rw [ht]; exact ⟨rfl, rfl, rfl, rfl, rfl, trivial⟩) fun _ h => h⟩
     | cons a T =>
      simp only [List.length_cons] at hlen
      repeat'
       conv => whnf
       first
        | refine zA ?_ | refine zB ?_ | refine zC ?_ | refine zD ?_ | refine zE ?_ | refine zF ?_ | refine zG ?_ | refine zH ?_ | refine zI ?_ | refine splT ?_ | refine splF ?_ | refine splNot ?_
        | ((first | refine splIn ?_ ?_ | refine splD ?_ ?_ | refine splE ?_ ?_ | refine splNE ?_ ?_) <;> intro hc <;> first | (exfalso; omega) | (exfalso; dsimp only at hc; omega) | skip)
        | refine Exists.intro (α := List Value) [iv b1, iv b2, iv b3, iv b4, iv b5, iv b6, iv b7, iv b8] ⟨⟨rfl, fun w' hw' => e0 w' hw'⟩, ?_⟩
        | ((with_reducible show CallEv _ _ 44 _ _ _ _ _); refine callE (k := 44) (fun β w' hbw => place_ok _ _ _) ?_)
      all_goals first | (exfalso; omega) | exact ⟨k + 1, by omega, by omega, Ent.ren (rho [(5, 9), (6, 10)]) rfl (by rw [ht]; rfl) ⟨rfl, rfl, rfl, rfl, trivial⟩ (by rw [ht]; exact ⟨rfl, rfl, rfl, by simp [oSV]; rfl, by simp [oM]; rfl, trivial⟩) fun _ h => h⟩
   rw [List.take_of_length_le hkl]
   cases BB with
   | nil =>
    repeat'
     conv => whnf
     first
      | refine zA ?_ | refine zB ?_ | refine zC ?_ | refine zD ?_ | refine zE ?_ | refine zF ?_ | refine zG ?_ | refine zH ?_ | refine zI ?_ | refine splT ?_ | refine splF ?_ | refine splNot ?_
      | ((first | refine splIn ?_ ?_ | refine splD ?_ ?_ | refine splE ?_ ?_ | refine splNE ?_ ?_) <;> intro hc <;> first | (exfalso; omega) | (exfalso; dsimp only at hc; omega) | skip)
    all_goals first | (exfalso; omega) | skip
    refine loopN 9 (fun k : Nat => [(1, .ptr 0 0), (2, .ptr 1 0), (3, .ptr 4 0), (6, .v (iv k))]) (fun k => (0, .cells [.v (.slice po (p0 :: PP).length pc), .v (.slice bo ([] : List Bm).length bc), .v (iv f0), .v (iv f1), .v (iv f2), .v (.slice lo LL.length lc)] 54) :: (1, .cells [.v (.slice none 0 0), .v (.slice none 0 0), .v (iv 0), .v (iv 0), .v (iv 0), .v (.slice none 0 0)] 41) :: (2, .own 3 (PP.length + 1) 1 ((p0 :: PP).flatMap iF) 3) :: (4, .cells [.os 2 3 (PP.length + 1), .v (.slice none 0 0), .v (iv f0), .v (iv f1), .v (iv f2), oSV 7 8 (LL.take k)] 41) :: oM 7 8 5 Ld.cs 47 (LL.take k))
     (fun k => k ≤ LL.length) (fun k => LL.length - k) 0 (Nat.zero_le _) ⟨rfl, rfl, rfl, rfl, trivial⟩ ⟨rfl, rfl, rfl, rfl, trivial⟩ (fun k _ => by cases LL.take k <;> exact ⟨rfl, rfl⟩) ?_
    clear hk hkl
    intro k hk
    rcases Nat.lt_or_ge k LL.length with hkl | hkl
    · obtain ⟨l, hb⟩ : ∃ b, LL[k]? = some b := ⟨_, List.getElem?_eq_getElem hkl⟩
      obtain ⟨_, ad, rfl, _⟩ := hL.ptr (by omega)
      have e0 := fun (w' : World) hw' => rd_ati (hL.below (w' := w') hw') hb
      have ht : LL.take (k + 1) = LL.take k ++ [l] := by rw [List.take_add_one, hb]; rfl
      have hlen : (LL.take k).length ≤ k := List.length_take_le _ _
      generalize LL.take k = T at *
      obtain ⟨b1, b2, b3, b4, b5⟩ := l
      cases T with
      | nil =>
       repeat'
        conv => whnf
        first
         | refine zA ?_ | refine zB ?_ | refine zC ?_ | refine zD ?_ | refine zE ?_ | refine zF ?_ | refine zG ?_ | refine zH ?_ | refine zI ?_ | refine splT ?_ | refine splF ?_ | refine splNot ?_
         | ((first | refine splIn ?_ ?_ | refine splD ?_ ?_ | refine splE ?_ ?_ | refine splNE ?_ ?_) <;> intro hc <;> first | (exfalso; omega) | (exfalso; dsimp only at hc; omega) | skip)
         | refine Exists.intro (α := List Value) [iv b1, iv b2, .int .u8 b3, iv b4, iv b5] ⟨⟨rfl, fun w' hw' => e0 w' hw'⟩, ?_⟩
         | ((with_reducible show CallEv _ _ 44 _ _ _ _ _); refine callE (k := 44) (fun β w' hbw => place_ok _ _ _) ?_)
       all_goals first | (exfalso; omega) | exact ⟨k + 1, by omega, by omega, Ent.ren (rho [(7, 11), (8, 12)]) rfl (by rw [ht]; rfl) ⟨rfl, rfl, rfl, rfl, trivial⟩ (by rw [ht]; exact ⟨rfl, rfl, rfl, rfl, rfl, trivial⟩) fun _ h => h⟩
      | cons a T =>
       simp only [List.length_cons] at hlen
       repeat'
        conv => whnf
        first
         | refine zA ?_ | refine zB ?_ | refine zC ?_ | refine zD ?_ | refine zE ?_ | refine zF ?_ | refine zG ?_ | refine zH ?_ | refine zI ?_ | refine splT ?_ | refine splF ?_ | refine splNot ?_
         | ((first | refine splIn ?_ ?_ | refine splD ?_ ?_ | refine splE ?_ ?_ | refine splNE ?_ ?_) <;> intro hc <;> first | (exfalso; omega) | (exfalso; dsimp only at hc; omega) | skip)
         | refine Exists.intro (α := List Value) [iv b1, iv b2, .int .u8 b3, iv b4, iv b5] ⟨⟨rfl, fun w' hw' => e0 w' hw'⟩, ?_⟩
         | ((with_reducible show CallEv _ _ 44 _ _ _ _ _); refine callE (k := 44) (fun β w' hbw => place_ok _ _ _) ?_)
       all_goals first | (exfalso; omega) | exact ⟨k + 1, by omega, by omega, Ent.ren (rho [(7, 11), (8, 12)]) rfl (by rw [ht]; rfl) ⟨rfl, rfl, rfl, rfl, trivial⟩ (by rw [ht]; exact ⟨rfl, rfl, rfl, by simp [oSV]; rfl, by simp [oM]; rfl, trivial⟩) fun _ h => h⟩
    rw [List.take_of_length_le hkl]
    cases LL with
    | nil =>
     repeat'
      conv => whnf
      first
       | refine zA ?_ | refine zB ?_ | refine zC ?_ | refine zD ?_ | refine zE ?_ | refine zF ?_ | refine zG ?_ | refine zH ?_ | refine zI ?_ | refine splT ?_ | refine splF ?_ | refine splNot ?_
       | ((first | refine splIn ?_ ?_ | refine splD ?_ ?_ | refine splE ?_ ?_ | refine splNE ?_ ?_) <;> intro hc <;> first | (exfalso; omega) | (exfalso; dsimp only at hc; omega) | skip)
     all_goals first | (exfalso; omega) | skip
     refine ⟨fun w' h => h, fun β w' hBB hB2 hblk hinj => ⟨(fun k => match k with | 0 => β 2 | 1 => β 3 | 2 => β 5 | 3 => β 6 | 4 => β 7 | _ => β 8), rfl, hB2, fun i b hm => ?_, fun i b j b' hm hm' hne => ?_⟩⟩
     · simp only [rigM, oM, List.mem_cons, List.mem_append, List.nil_append, List.append_nil, List.cons_append, Prod.mk.injEq, List.not_mem_nil, or_false] at hm
       obtain ⟨rfl, rfl⟩ := hm
       exact ⟨(hblk 2 _ rfl rfl).1, (hblk 2 _ rfl rfl).2⟩
     · simp only [rigM, oM, List.mem_cons, List.mem_append, List.nil_append, List.append_nil, List.cons_append, Prod.mk.injEq, List.not_mem_nil, or_false] at hm hm'
       exact absurd (hm.1.trans hm'.1.symm) hne
    | cons l0 LL =>
     repeat'
      conv => whnf
      first
       | refine zA ?_ | refine zB ?_ | refine zC ?_ | refine zD ?_ | refine zE ?_ | refine zF ?_ | refine zG ?_ | refine zH ?_ | refine zI ?_ | refine splT ?_ | refine splF ?_ | refine splNot ?_
       | ((first | refine splIn ?_ ?_ | refine splD ?_ ?_ | refine splE ?_ ?_ | refine splNE ?_ ?_) <;> intro hc <;> first | (exfalso; omega) | (exfalso; dsimp only at hc; omega) | skip)
     all_goals first | (exfalso; omega) | skip
     refine ⟨fun w' h => h, fun β w' hBB hB2 hblk hinj => ⟨(fun k => match k with | 0 => β 2 | 1 => β 3 | 2 => β 5 | 3 => β 6 | 4 => β 7 | _ => β 8), rfl, hB2, fun i b hm => ?_, fun i b j b' hm hm' hne => ?_⟩⟩
     · simp only [rigM, oM, List.mem_cons, List.mem_append, List.nil_append, List.append_nil, List.cons_append, Prod.mk.injEq, List.not_mem_nil, or_false] at hm
       rcases hm with ⟨rfl, rfl⟩ | ⟨rfl, rfl⟩
       · exact ⟨(hblk 2 _ rfl rfl).1, (hblk 2 _ rfl rfl).2⟩
       · exact ⟨(hblk 7 _ rfl rfl).1, (hblk 7 _ rfl rfl).2⟩
     · simp only [rigM, oM, List.mem_cons, List.mem_append, List.nil_append, List.append_nil, List.cons_append, Prod.mk.injEq, List.not_mem_nil, or_false] at hm hm'
       rcases hm with ⟨rfl, rfl⟩ | ⟨rfl, rfl⟩ <;> rcases hm' with ⟨rfl, rfl⟩ | ⟨rfl, rfl⟩ <;> first | exact absurd rfl hne | exact hinj _ _ _ _ rfl rfl rfl rfl (by decide)
   | cons b0 BB =>
    repeat'
     conv => whnf
     first
      | refine zA ?_ | refine zB ?_ | refine zC ?_ | refine zD ?_ | refine zE ?_ | refine zF ?_ | refine zG ?_ | refine zH ?_ | refine zI ?_ | refine splT ?_ | refine splF ?_ | refine splNot ?_
      | ((first | refine splIn ?_ ?_ | refine splD ?_ ?_ | refine splE ?_ ?_ | refine splNE ?_ ?_) <;> intro hc <;> first | (exfalso; omega) | (exfalso; dsimp only at hc; omega) | skip)
    all_goals first | (exfalso; omega) | skip
    refine loopN 9 (fun k : Nat => [(1, .ptr 0 0), (2, .ptr 1 0), (3, .ptr 4 0), (6, .v (iv k))]) (fun k => (0, .cells [.v (.slice po (p0 :: PP).length pc), .v (.slice bo (b0 :: BB).length bc), .v (iv f0), .v (iv f1), .v (iv f2), .v (.slice lo LL.length lc)] 54) :: (1, .cells [.v (.slice none 0 0), .v (.slice none 0 0), .v (iv 0), .v (iv 0), .v (iv 0), .v (.slice none 0 0)] 41) :: (2, .own 3 (PP.length + 1) 1 ((p0 :: PP).flatMap iF) 3) :: (5, .own 6 (BB.length + 1) 8 ((b0 :: BB).flatMap Bm.cs) 134) :: (4, .cells [.os 2 3 (PP.length + 1), .os 5 6 (BB.length + 1), .v (iv f0), .v (iv f1), .v (iv f2), oSV 7 8 (LL.take k)] 41) :: oM 7 8 5 Ld.cs 47 (LL.take k))
     (fun k => k ≤ LL.length) (fun k => LL.length - k) 0 (Nat.zero_le _) ⟨rfl, rfl, rfl, rfl, trivial⟩ ⟨rfl, rfl, rfl, rfl, rfl, trivial⟩ (fun k _ => by cases LL.take k <;> exact ⟨rfl, rfl⟩) ?_
    clear hk hkl
    intro k hk
    rcases Nat.lt_or_ge k LL.length with hkl | hkl
    · obtain ⟨l, hb⟩ : ∃ b, LL[k]? = some b := ⟨_, List.getElem?_eq_getElem hkl⟩
      obtain ⟨_, ad, rfl, _⟩ := hL.ptr (by omega)
      have e0 := fun (w' : World) hw' => rd_ati (hL.below (w' := w') hw') hb
      have ht : LL.take (k + 1) = LL.take k ++ [l] := by rw [List.take_add_one, hb]; rfl
      have hlen : (LL.take k).length ≤ k := List.length_take_le _ _
      generalize LL.take k = T at *
      obtain ⟨b1, b2, b3, b4, b5⟩ := l
      cases T with
      | nil =>
       repeat'
        conv => whnf
        first
         | refine zA ?_ | refine zB ?_ | refine zC ?_ | refine zD ?_ | refine zE ?_ | refine zF ?_ | refine zG ?_ | refine zH ?_ | refine zI ?_ | refine splT ?_ | refine splF ?_ | refine splNot ?_
         | ((first | refine splIn ?_ ?_ | refine splD ?_ ?_ | refine splE ?_ ?_ | refine splNE ?_ ?_) <;> intro hc <;> first | (exfalso; omega) | (exfalso; dsimp only at hc; omega) | skip)
         | refine Exists.intro (α := List Value) [iv b1, iv b2, .int .u8 b3, iv b4, iv b5] ⟨⟨rfl, fun w' hw' => e0 w' hw'⟩, ?_⟩
         | ((with_reducible show CallEv _ _ 44 _ _ _ _ _); refine callE (k := 44) (fun β w' hbw => place_ok _ _ _) ?_)
       all_goals first | (exfalso; omega) | exact ⟨k + 1, by omega, by omega, Ent.ren (rho [(7, 11), (8, 12)]) rfl (by rw [ht]; rfl) ⟨rfl, rfl, rfl, rfl, trivial⟩ (by rw [ht]; exact ⟨rfl, rfl, rfl, rfl, rfl, rfl, trivial⟩) fun _ h => h⟩
      | cons a T =>
       simp only [List.length_cons] at hlen
       repeat'
        conv => whnf
        first
         | refine zA ?_ | refine zB ?_ | refine zC ?_ | refine zD ?_ | refine zE ?_ | refine zF ?_ | refine zG ?_ | refine zH ?_ | refine zI ?_ | refine splT ?_ | refine splF ?_ | refine splNot ?_
         | ((first | refine splIn ?_ ?_ | refine splD ?_ ?_ | refine splE ?_ ?_ | refine splNE ?_ ?_) <;> intro hc <;> first | (exfalso; omega) | (exfalso; dsimp only at hc; omega) | skip)
         | refine Exists.intro (α := List Value) [iv b1, iv b2, .int .u8 b3, iv b4, iv b5] ⟨⟨rfl, fun w' hw' => e0 w' hw'⟩, ?_⟩
         | ((with_reducible show CallEv _ _ 44 _ _ _ _ _); refine callE (k := 44) (fun β w' hbw => place_ok _ _ _) ?_)
       all_goals first | (exfalso; omega) | exact ⟨k + 1, by omega, by omega, Ent.ren (rho [(7, 11), (8, 12)]) rfl (by rw [ht]; rfl) ⟨rfl, rfl, rfl, rfl, trivial⟩ (by rw [ht]; exact ⟨rfl, rfl, rfl, rfl, by simp [oSV]; rfl, by simp [oM]; rfl, trivial⟩) fun _ h => h⟩
    rw [List.take_of_length_le hkl]
    cases LL with
    | nil =>
     repeat'
      conv => whnf
      first
       | refine zA ?_ | refine zB ?_ | refine zC ?_ | refine zD ?_ | refine zE ?_ | refine zF ?_ | refine zG ?_ | refine zH ?_ | refine zI ?_ | refine splT ?_ | refine splF ?_ | refine splNot ?_
       | ((first | refine splIn ?_ ?_ | refine splD ?_ ?_ | refine splE ?_ ?_ | refine splNE ?_ ?_) <;> intro hc <;> first | (exfalso; omega) | (exfalso; dsimp only at hc; omega) | skip)
     all_goals first | (exfalso; omega) | skip
     refine ⟨fun w' h => h, fun β w' hBB hB2 hblk hinj => ⟨(fun k => match k with | 0 => β 2 | 1 => β 3 | 2 => β 5 | 3 => β 6 | 4 => β 7 | _ => β 8), rfl, hB2, fun i b hm => ?_, fun i b j b' hm hm' hne => ?_⟩⟩
     · simp only [rigM, oM, List.mem_cons, List.mem_append, List.nil_append, List.append_nil, List.cons_append, Prod.mk.injEq, List.not_mem_nil, or_false] at hm
       rcases hm with ⟨rfl, rfl⟩ | ⟨rfl, rfl⟩
       · exact ⟨(hblk 2 _ rfl rfl).1, (hblk 2 _ rfl rfl).2⟩
       · exact ⟨(hblk 5 _ rfl rfl).1, (hblk 5 _ rfl rfl).2⟩
     · simp only [rigM, oM, List.mem_cons, List.mem_append, List.nil_append, List.append_nil, List.cons_append, Prod.mk.injEq, List.not_mem_nil, or_false] at hm hm'
       rcases hm with ⟨rfl, rfl⟩ | ⟨rfl, rfl⟩ <;> rcases hm' with ⟨rfl, rfl⟩ | ⟨rfl, rfl⟩ <;> first | exact absurd rfl hne | exact hinj _ _ _ _ rfl rfl rfl rfl (by decide)
    | cons l0 LL =>
     repeat'
      conv => whnf
      first
       | refine zA ?_ | refine zB ?_ | refine zC ?_ | refine zD ?_ | refine zE ?_ | refine zF ?_ | refine zG ?_ | refine zH ?_ | refine zI ?_ | refine splT ?_ | refine splF ?_ | refine splNot ?_
       | ((first | refine splIn ?_ ?_ | refine splD ?_ ?_ | refine splE ?_ ?_ | refine splNE ?_ ?_) <;> intro hc <;> first | (exfalso; omega) | (exfalso; dsimp only at hc; omega) | skip)
     all_goals first | (exfalso; omega) | skip
     refine ⟨fun w' h => h, fun β w' hBB hB2 hblk hinj => ⟨(fun k => match k with | 0 => β 2 | 1 => β 3 | 2 => β 5 | 3 => β 6 | 4 => β 7 | _ => β 8), rfl, hB2, fun i b hm => ?_, fun i b j b' hm hm' hne => ?_⟩⟩
     · simp only [rigM, oM, List.mem_cons, List.mem_append, List.nil_append, List.append_nil, List.cons_append, Prod.mk.injEq, List.not_mem_nil, or_false] at hm
       rcases hm with ⟨rfl, rfl⟩ | ⟨rfl, rfl⟩ | ⟨rfl, rfl⟩
       · exact ⟨(hblk 2 _ rfl rfl).1, (hblk 2 _ rfl rfl).2⟩
       · exact ⟨(hblk 5 _ rfl rfl).1, (hblk 5 _ rfl rfl).2⟩
       · exact ⟨(hblk 7 _ rfl rfl).1, (hblk 7 _ rfl rfl).2⟩
     · simp only [rigM, oM, List.mem_cons, List.mem_append, List.nil_append, List.append_nil, List.cons_append, Prod.mk.injEq, List.not_mem_nil, or_false] at hm hm'
       rcases hm with ⟨rfl, rfl⟩ | ⟨rfl, rfl⟩ | ⟨rfl, rfl⟩ <;> rcases hm' with ⟨rfl, rfl⟩ | ⟨rfl, rfl⟩ | ⟨rfl, rfl⟩ <;> first | exact absurd rfl hne | exact hinj _ _ _ _ rfl rfl rfl rfl (by decide)
end Go.Proofs.Ytfbokllafdnglaa
namespace Go.Proofs.Ytfbokllafdnglaa
open Go Tx Go.RowKit
set_option linter.unusedSimpArgs false
set_option linter.unusedVariables false
theorem rigM_of (nb : Nat) {p0 : Int} {PP : List Int} {BB : List Bm} {LL : List Ld} :
 (nb, Blk.own (nb + 1) (p0 :: PP).length 1 ((p0 :: PP).flatMap iF) 3) ∈ rigM nb (p0 :: PP) BB LL ∧ (BB ≠ [] → (nb + 2, Blk.own (nb + 3) BB.length 8 (BB.flatMap Bm.cs) 134) ∈ rigM nb (p0 :: PP) BB LL) ∧ (LL ≠ [] → (nb + 4, Blk.own (nb + 5) LL.length 5 (LL.flatMap Ld.cs) 47) ∈ rigM nb (p0 :: PP) BB LL) := by
 refine ⟨List.mem_cons_self, fun h => ?_, fun h => ?_⟩
 · cases BB with
   | nil => exact absurd rfl h
   | cons b0 BB => exact List.mem_cons_of_mem _ (List.mem_append_left _ List.mem_cons_self)
 · cases LL with
   | nil => exact absurd rfl h
   | cons l0 LL => exact List.mem_cons_of_mem _ (List.mem_append_right _ List.mem_cons_self)
end Go.Proofs.Ytfbokllafdnglaa
