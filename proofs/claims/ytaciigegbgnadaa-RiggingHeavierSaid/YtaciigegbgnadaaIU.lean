/- RiggingRanges answers true. -/
import Derived.Test.YtaciigegbgnadaaIR
import Derived.Test.YtaciigegbgnadaaIS
import Derived.Test.YtaciigegbgnadaaIT
import Derived.Test.YtaciigegbgnadaaIE
import Derived.Test.YtaciigegbgnadaaID
import Derived.Test.YtaciigegbgnadaaHF
namespace Go.Proofs.Ytaciigegbgnadaa
open Go Tx Go.RowKit
set_option linter.unusedSimpArgs false
set_option linter.unusedVariables false

theorem endD_fac {r r' : Rig} (h : ∀ k, r.fac k = r'.fac k) (LL : List Ld) (x : Row) (most : Bool) : endD r LL x most = endD r' LL x most := by
  have h1 : hiP r = hiP r' := funext fun l => by unfold hiP; rw [h]
  have h2 : endL r x most LL = endL r' x most LL := by unfold endL endV; rw [h1]
  unfold endD
  rw [h2]
theorem rowP_p (F : Fr) (j : Nat) : rowP F (-1) j = F.p j := funext fun c => ob_p F c j
theorem rowP_h (F : Fr) (j k : Nat) : rowP F j k = F.h j k := funext fun c => ob_h F c j k
theorem Ranges_nr (PP : List Int) (BB : List Bm) (LL : List Ld) (f0 f1 f2 : Int) (r : Rig) (hr : rigOk f0 f1 f2 PP BB LL = true) (hf : r.f0 = f0 ∧ r.f1 = f1 ∧ r.f2 = f2) (y : (Option Addr × Nat) × (Option Addr × Nat) × (Option Addr × Nat)) (w : World)
    (h : nrH PP BB LL y w) (h1 : PP.length ≤ 1000000) (h2 : BB.length ≤ 1000000) (h3 : LL.length ≤ 1000000) :
    Calls Try.prog 38 #[nrV PP BB LL f0 f1 f2 y] w fun e w' => ∃ z : YS (rgPt r LL (frF BB LL) PP.length) × YS (rgHg r LL (frF BB LL) BB.length), e = .returned (.tuple #[sV PP.length z.1.1, sV BB.length z.2.1, iv 0]) ∧ Below w.heap.size w w' ∧
      St w.heap.size (fun w2 => Rd 2 gF (sV PP.length z.1.1) (rgPt r LL (frF BB LL) PP.length) w2 ∧ Rd 4 f4 (sV BB.length z.2.1) (rgHg r LL (frF BB LL) BB.length) w2) w' := by
  obtain ⟨e0, e1, e2⟩ := hf
  have hfa := fac_eq (r := nrR PP BB LL f0 f1 f2 y) (r' := r) e0.symm e1.symm e2.symm
  refine (Ranges_ok (nrR PP BB LL f0 f1 f2 y) PP BB LL w (h.rin h1 h2 h3)).mono fun e w' ⟨z, h1, h2, h3⟩ => ?_
  have q1 : rgP (nrR PP BB LL f0 f1 f2 y) PP BB LL = rgPt r LL (frF BB LL) PP.length := (if_pos hr).trans (List.map_congr_left fun j _ => by unfold rgW; rw [endD_fac hfa, endD_fac hfa])
  have q2 : rgH (nrR PP BB LL f0 f1 f2 y) PP BB LL = rgHg r LL (frF BB LL) BB.length := (if_pos hr).trans (List.map_congr_left fun j _ => by unfold rgW; rw [endD_fac hfa, endD_fac hfa, endD_fac hfa, endD_fac hfa])
  have q3 : rgE (nrR PP BB LL f0 f1 f2 y) PP BB LL = 0 := if_pos hr
  have l1 : (rgPt r LL (frF BB LL) PP.length).length = PP.length := by simp [rgPt]
  have l2 : (rgHg r LL (frF BB LL) BB.length).length = BB.length := by simp [rgHg]
  rw [q1, q2, q3] at h1
  rw [q1, q2] at h3
  have s1 := rd_ys h3.now.1
  have s2 := rd_ys h3.now.2
  rw [l1, l2] at h1 h3
  exact ⟨(⟨z.1, s1⟩, ⟨z.2, s2⟩), h1, h2, h3⟩
theorem Ranges_bad (PP : List Int) (BB : List Bm) (LL : List Ld) (f0 f1 f2 : Int) (hr : rigOk f0 f1 f2 PP BB LL = false) (y : (Option Addr × Nat) × (Option Addr × Nat) × (Option Addr × Nat)) (w : World)
    (h : nrH PP BB LL y w) (h1 : PP.length ≤ 1000000) (h2 : BB.length ≤ 1000000) (h3 : LL.length ≤ 1000000) :
    Calls Try.prog 38 #[nrV PP BB LL f0 f1 f2 y] w fun e w' => ∃ z : (Option Addr × Nat) × (Option Addr × Nat), e = .returned (.tuple #[sV 0 z.1, sV 0 z.2, iv 1]) ∧ Below w.heap.size w w' ∧ St w.heap.size (fun _ => True) w' := by
  refine (Ranges_ok (nrR PP BB LL f0 f1 f2 y) PP BB LL w (h.rin h1 h2 h3)).mono fun e w' ⟨z, h1, h2, h3⟩ => ⟨z, ?_, h2, fun _ _ => trivial⟩
  have q : ¬ (rigOk f0 f1 f2 PP BB LL = true) := by rw [hr]; simp
  have q1 : rgP (nrR PP BB LL f0 f1 f2 y) PP BB LL = [] := if_neg q
  have q2 : rgH (nrR PP BB LL f0 f1 f2 y) PP BB LL = [] := if_neg q
  have q3 : rgE (nrR PP BB LL f0 f1 f2 y) PP BB LL = 1 := if_neg q
  rw [q1, q2, q3] at h1
  exact h1

set_option maxHeartbeats 16000000 in
set_option maxRecDepth 100000 in
theorem RiggingRanges_ok (r : Rig) (PP : List Int) (BB : List Bm) (LL : List Ld) (w : World) (hX : RigX r PP BB LL w) :
    Calls Try.prog 8 #[r.v] w fun e w' => e = .returned (.bool true) ∧ Below w.heap.size w w' := by
  have hpn := hX.pn
  have hbn := hX.bn
  have hln := hX.ln
  have pl := hX.pl
  have bl := hX.bl
  have ll := hX.ll
  have h33 := fun (w' : World) => Thin_ok r w' (by omega) (by omega) (by omega)
  have h27 := fun (w' : World) (hb : Below w.heap.size w w') => Right_ok r PP BB LL w' (hX.below hb)
  rw [hpn, hbn, hln] at h33
  cases ht : thB PP.length BB.length LL.length with
  | false =>
    rw [ht] at h33
    obtain ⟨po, pn, pc, bo, bn, bc, f0, f1, f2, lo, ln, lc⟩ := r
    dsimp only at h33 hpn hbn hln
    refine calls_val env mixed Try.func8 has8 Try.ntmps8 [.agg #[.slice po pn pc, .slice bo bn bc, iv f0, iv f1, iv f2, .slice lo ln lc]] (by simp) ?_
    repeat'
     conv => whnf
     first
      | refine zA ?_ | refine zB ?_ | refine zC ?_ | refine zD ?_ | refine zE ?_ | refine zF ?_ | refine zG ?_ | refine zH ?_ | refine zI ?_ | refine splT ?_ | refine splF ?_ | refine splNot ?_
      | ((first | refine splIn (fun hc => ?_) (fun hc => ?_) | refine splD (fun hc => ?_) (fun hc => ?_) | refine splE (fun hc => ?_) (fun hc => ?_) | refine splNE (fun hc => ?_) (fun hc => ?_)) <;> first | (exfalso; omega) | (exfalso; dsimp only at hc; omega) | skip)
      | ((with_reducible show CallEv _ _ 33 _ _ _ _ _); refine callE (k := 33) (fun β w' hbw => h33 _) ?_)
      | ((with_reducible show CallEv _ _ 16 _ _ _ _ _); refine callE (k := 16) (fun β w' hbw => awake_ok _) ?_)
    all_goals first | (exfalso; omega) | exact ⟨fun β => rfl, fun w' h => h⟩
  | true =>
    rw [ht] at h33
    have hth : PP.length ≤ 16 ∧ BB.length ≤ 16 ∧ LL.length ≤ 24 := by simp [thB] at ht; omega
    clear ht
    have h30 := fun (w' : World) (hb : Below w.heap.size w w') => Rig_ok r PP BB LL w' ((hX.rin (by omega) (by omega) (by omega)).below hb) (by omega) (by omega)
    cases hr : rigOk r.f0 r.f1 r.f2 PP BB LL with
    | false =>
      rw [hr] at h27
      have h38 := fun (y : (Option Addr × Nat) × (Option Addr × Nat) × (Option Addr × Nat)) (w' : World) (h : nrH PP BB LL y w') => Ranges_bad PP BB LL r.f0 r.f1 r.f2 hr y w' h (by omega) (by omega) (by omega)
      obtain ⟨po, pn, pc, bo, bn, bc, f0, f1, f2, lo, ln, lc⟩ := r
      dsimp only at h33 h30 h38 hpn hbn hln
      refine calls_val env mixed Try.func8 has8 Try.ntmps8 [.agg #[.slice po pn pc, .slice bo bn bc, iv f0, iv f1, iv f2, .slice lo ln lc]] (by simp) ?_
      repeat'
       conv => whnf
       first
        | refine zA ?_ | refine zB ?_ | refine zC ?_ | refine zD ?_ | refine zE ?_ | refine zF ?_ | refine zG ?_ | refine zH ?_ | refine zI ?_ | refine splT ?_ | refine splF ?_ | refine splNot ?_
        | ((first | refine splIn (fun hc => ?_) (fun hc => ?_) | refine splD (fun hc => ?_) (fun hc => ?_) | refine splE (fun hc => ?_) (fun hc => ?_) | refine splNE (fun hc => ?_) (fun hc => ?_)) <;> first | (exfalso; omega) | (exfalso; dsimp only at hc; omega) | skip)
        | ((with_reducible show CallEv _ _ 33 _ _ _ _ _); refine callE (k := 33) (fun β w' hbw => h33 _) ?_)
        | ((with_reducible show CallEv _ _ 16 _ _ _ _ _); refine callE (k := 16) (fun β w' hbw => awake_ok _) ?_)
        | ((with_reducible show CallEv _ _ 27 _ _ _ _ _); refine callE (k := 27) (fun β w' hbw => h27 _ (by first | exact hbw | exact hbw.1 | exact hbw.1.1 | exact hbw.1.1.1 | exact hbw.1.1.1.1 | exact hbw.1.1.1.1.1 | exact hbw.1.1.1.1.1.1 | exact hbw.1.1.1.1.1.1.1)) ?_)
        | ((with_reducible show CallEv _ _ 30 _ _ _ _ _); refine callF [] (nrV PP BB LL f0 f1 f2) (nrH PP BB LL) (fun β w' _ hbw => h30 w' (by first | exact hbw | exact hbw.1 | exact hbw.1.1 | exact hbw.1.1.1 | exact hbw.1.1.1.1 | exact hbw.1.1.1.1.1 | exact hbw.1.1.1.1.1.1 | exact hbw.1.1.1.1.1.1.1)) ?_; intro y; obtain ⟨⟨v1, v2⟩, ⟨v3, v4⟩, v5, v6⟩ := y; dsimp only)
        | ((with_reducible show CallEv _ _ 38 _ _ _ _ _); refine callF [] (fun z : (Option Addr × Nat) × (Option Addr × Nat) => .tuple #[sV 0 z.1, sV 0 z.2, iv 1]) (fun z w2 => True) (fun β w' _ hbw => h38 ((_, _), (_, _), (_, _)) w' hbw.2) ?_; intro z; obtain ⟨⟨z1, z2⟩, ⟨z3, z4⟩⟩ := z; dsimp only)
      all_goals first | (exfalso; omega) | exact ⟨fun β => rfl, fun w' h => (by first | exact h | exact h.1 | exact h.1.1 | exact h.1.1.1 | exact h.1.1.1.1 | exact h.1.1.1.1.1 | exact h.1.1.1.1.1.1 | exact h.1.1.1.1.1.1.1)⟩
    | true =>
      rw [hr] at h27
      have hri := rigOk_iff.1 hr
      have hP12 : 1 ≤ PP.length ∧ PP.length ≤ 12 := by omega
      have h38 := fun (y : (Option Addr × Nat) × (Option Addr × Nat) × (Option Addr × Nat)) (w' : World) (h : nrH PP BB LL y w') => Ranges_nr PP BB LL r.f0 r.f1 r.f2 r hr ⟨rfl, rfl, rfl⟩ y w' h (by omega) (by omega) (by omega)
      have h39 := fun (w' : World) => Parts_ok r w' (by omega) (by omega)
      rw [hpn, hbn] at h39
      have hQl := prL_len PP.length BB.length
      have hQok := fun (k : Nat) (q : Int × Int) => prL_ok (n := PP.length) (m := BB.length) (k := k) (q := q)
      have hWo := fun (b a : Int) (most : Bool) (w' : World) (hb : Below w.heap.size w w') hp hne => Witness_own r PP BB LL b a most w' (hX.below hb) hr hp hne
      have hWn := fun (b a : Int) (most : Bool) (w' : World) (hb : Below w.heap.size w w') hp hne => Witness_nil r PP BB LL b a most w' (hX.below hb) hr hp hne
      have hPT : ∀ j, j < PP.length → (rgPt r LL (frF BB LL) PP.length)[j]? = some (endD r LL (rowP (frF BB LL) (-1) j) false, endD r LL (rowP (frF BB LL) (-1) j) true) := fun j hj => by rw [rowP_p]; exact rng_at (fun j => rgW r LL ((frF BB LL).p j)) hj
      have hHT : ∀ i, i < BB.length → (rgHg r LL (frF BB LL) BB.length)[i]? = some ((endD r LL (rowP (frF BB LL) i (0 : Nat)) false, endD r LL (rowP (frF BB LL) i (0 : Nat)) true), (endD r LL (rowP (frF BB LL) i (1 : Nat)) false, endD r LL (rowP (frF BB LL) i (1 : Nat)) true)) := fun i hi => by rw [rowP_h, rowP_h]; exact rng_at (fun j => (rgW r LL ((frF BB LL).h j 0), rgW r LL ((frF BB LL).h j 1))) hi
      have l1 : (rgPt r LL (frF BB LL) PP.length).length = PP.length := by simp [rgPt]
      have l2 : (rgHg r LL (frF BB LL) BB.length).length = BB.length := by simp [rgHg]
      generalize rgPt r LL (frF BB LL) PP.length = PT at *
      generalize rgHg r LL (frF BB LL) BB.length = HT at *
      generalize rowP (frF BB LL) = rw_ at *
      generalize prL PP.length BB.length = Q at *
      obtain ⟨po, pn, pc, bo, bn, bc, f0, f1, f2, lo, ln, lc⟩ := r
      dsimp only at h33 h30 h38 hpn hbn hln
      generalize hed : endD ⟨po, pn, pc, bo, bn, bc, f0, f1, f2, lo, ln, lc⟩ LL = ed at *
      refine calls_val env mixed Try.func8 has8 Try.ntmps8 [.agg #[.slice po pn pc, .slice bo bn bc, iv f0, iv f1, iv f2, .slice lo ln lc]] (by simp) ?_
      repeat'
       conv => whnf
       first
        | refine zA ?_ | refine zB ?_ | refine zC ?_ | refine zD ?_ | refine zE ?_ | refine zF ?_ | refine zG ?_ | refine zH ?_ | refine zI ?_ | refine splT ?_ | refine splF ?_ | refine splNot ?_
        | ((first | refine splIn (fun hc => ?_) (fun hc => ?_) | refine splD (fun hc => ?_) (fun hc => ?_) | refine splE (fun hc => ?_) (fun hc => ?_) | refine splNE (fun hc => ?_) (fun hc => ?_)) <;> first | (exfalso; omega) | (exfalso; dsimp only at hc; omega) | skip)
        | ((with_reducible show CallEv _ _ 33 _ _ _ _ _); refine callE (k := 33) (fun β w' hbw => h33 _) ?_)
        | ((with_reducible show CallEv _ _ 16 _ _ _ _ _); refine callE (k := 16) (fun β w' hbw => awake_ok _) ?_)
        | ((with_reducible show CallEv _ _ 27 _ _ _ _ _); refine callE (k := 27) (fun β w' hbw => h27 _ (by first | exact hbw | exact hbw.1 | exact hbw.1.1 | exact hbw.1.1.1 | exact hbw.1.1.1.1 | exact hbw.1.1.1.1.1 | exact hbw.1.1.1.1.1.1 | exact hbw.1.1.1.1.1.1.1)) ?_)
        | ((with_reducible show CallEv _ _ 30 _ _ _ _ _); refine callF [] (nrV PP BB LL f0 f1 f2) (nrH PP BB LL) (fun β w' _ hbw => h30 w' (by first | exact hbw | exact hbw.1 | exact hbw.1.1 | exact hbw.1.1.1 | exact hbw.1.1.1.1 | exact hbw.1.1.1.1.1 | exact hbw.1.1.1.1.1.1 | exact hbw.1.1.1.1.1.1.1)) ?_; intro y; obtain ⟨⟨v1, v2⟩, ⟨v3, v4⟩, v5, v6⟩ := y; dsimp only)
        | ((with_reducible show CallEv _ _ 38 _ _ _ _ _); refine callF [] (fun z : YS PT × YS HT => .tuple #[sV PP.length z.1.1, sV BB.length z.2.1, iv 0]) (fun z w2 => Rd 2 gF (sV PP.length z.1.1) PT w2 ∧ Rd 4 f4 (sV BB.length z.2.1) HT w2) (fun β w' _ hbw => h38 ((_, _), (_, _), (_, _)) w' hbw.2) ?_; intro z; obtain ⟨⟨⟨z1, z2⟩, hz0⟩, ⟨⟨z3, z4⟩, hz'⟩⟩ := z; dsimp only at hz0 hz' ⊢)
        | ((with_reducible show CallEv _ _ 39 _ _ _ _ _); refine callF [] (fun y : YS Q => sV Q.length y.1) (fun y => Rd 2 gF (sV Q.length y.1) Q) (fun β w' _ hbw => h39 w') ?_; intro y; obtain ⟨⟨q1, q2⟩, hq0⟩ := y; dsimp only at hq0 ⊢)
      all_goals first | (exfalso; omega) | skip
      obtain ⟨za, rfl⟩ : ∃ ad, z1 = some ad := hz0.resolve_left fun hc => by rw [hc] at l1; simp at l1; omega
      obtain ⟨qa, rfl⟩ : ∃ ad, q1 = some ad := hq0.resolve_left fun hc => by rw [hc] at hQl; simp at hQl; omega
      refine loopN 1 (fun k : Nat => [(1, .ptr 0 0), (3, .v (sV PP.length (some za, z2))), (4, .v (sV BB.length (z3, z4))), (6, .v (sV Q.length (some qa, q2))), (7, .v (iv k))]) (fun _ => [(0, .cells [.v (.slice po pn pc), .v (.slice bo bn bc), .v (iv f0), .v (iv f1), .v (iv f2), .v (.slice lo ln lc)] 48)])
        (fun k => k ≤ Q.length) (fun k => Q.length - k) 0 (Nat.zero_le _) ⟨rfl, rfl, rfl, rfl, rfl, trivial⟩ ⟨rfl, trivial⟩ (fun _ _ => ⟨rfl, rfl⟩) ?_
      intro k hk
      rcases Nat.lt_or_ge k Q.length with hkl | hkl
      · obtain ⟨⟨b, a⟩, hq⟩ : ∃ q, Q[k]? = some q := ⟨_, List.getElem?_eq_getElem hkl⟩
        have hpo := hQok k _ hq
        dsimp only at hpo
        have hpo' := hpo
        let WH : World → Prop := fun w' => ((((Below w.heap.size w w' ∧ nrH PP BB LL ((v1, v2), (v3, v4), v5, v6) w') ∧ (Rd 2 gF (sV PP.length (some za, z2)) PT w' ∧ Rd 4 f4 (sV BB.length (z3, z4)) HT w'))) ∧ Rd 2 gF (sV Q.length (some qa, q2)) Q w')
        rcases hpo' with ⟨rfl, h1, h2⟩ | ⟨h1, h2, h3, h4⟩
        · obtain ⟨j, rfl⟩ := Int.eq_ofNat_of_zero_le h1
          have hat := hPT j (by omega)
          have eR := fun (w' : World) (hw' : WH w') => rd_ati hw'.1.2.1 hat
          have eQ := fun (w' : World) (hw' : WH w') => rd_ati hw'.2 hq
          have eQ0 := fun (w' : World) (hw' : WH w') => rd_fld hw'.2 hq 0 (iv (-1)) rfl
          have eQ1 := fun (w' : World) (hw' : WH w') => rd_fld hw'.2 hq 1 (iv j) rfl
          have n0 := fun (w' : World) (hb : Below w.heap.size w w') => hWn (-1) j false w' hb hpo
          have n1 := fun (w' : World) (hb : Below w.heap.size w w') => hWn (-1) j true w' hb hpo
          have o0 := fun (w' : World) (hb : Below w.heap.size w w') => hWo (-1) j false w' hb hpo
          have o1 := fun (w' : World) (hb : Below w.heap.size w w') => hWo (-1) j true w' hb hpo
          generalize endL ⟨po, pn, pc, bo, bn, bc, f0, f1, f2, lo, ln, lc⟩ (rw_ (-1) j) false LL = E0 at o0
          generalize endL ⟨po, pn, pc, bo, bn, bc, f0, f1, f2, lo, ln, lc⟩ (rw_ (-1) j) true LL = E1 at o1
          generalize ed (rw_ (-1) j) false = x0 at *
          generalize ed (rw_ (-1) j) true = x1 at *
          by_cases hne : LL = []
          · have n0 := fun w' hb => n0 w' hb hne
            have n1 := fun w' hb => n1 w' hb hne
            clear o0 o1 hWo hWn hPT hHT hQok
            repeat'
             conv => whnf
             first
              | refine zA ?_ | refine zB ?_ | refine zC ?_ | refine zD ?_ | refine zE ?_ | refine zF ?_ | refine zG ?_ | refine zH ?_ | refine zI ?_ | refine splT ?_ | refine splF ?_ | refine splNot ?_
              | ((first | refine splIn (fun hc => ?_) (fun hc => ?_) | refine splD (fun hc => ?_) (fun hc => ?_) | refine splE (fun hc => ?_) (fun hc => ?_) | refine splNE (fun hc => ?_) (fun hc => ?_)) <;> first | (exfalso; omega) | (exfalso; dsimp only at hc; omega) | skip)
              | ((with_reducible show CallEv _ _ 40 [_, _, .v (.bool false)] _ _ _ _); refine callE (k := 40) (fun β w' hbw => n0 w' (by first | exact hbw | exact hbw.1 | exact hbw.1.1 | exact hbw.1.1.1 | exact hbw.1.1.1.1 | exact hbw.1.1.1.1.1 | exact hbw.1.1.1.1.1.1 | exact hbw.1.1.1.1.1.1.1)) ?_)
              | ((with_reducible show CallEv _ _ 40 [_, _, .v (.bool true)] _ _ _ _); refine callE (k := 40) (fun β w' hbw => n1 w' (by first | exact hbw | exact hbw.1 | exact hbw.1.1 | exact hbw.1.1.1 | exact hbw.1.1.1.1 | exact hbw.1.1.1.1.1 | exact hbw.1.1.1.1.1.1 | exact hbw.1.1.1.1.1.1.1)) ?_)
              | refine Exists.intro (α := List Value) [iv (-1), iv j] ⟨⟨rfl, fun w' hw' => eQ w' hw'⟩, ?_⟩
              | refine Exists.intro (α := List Value) [iv (-1)] ⟨⟨rfl, fun w' hw' => eQ0 w' hw'⟩, ?_⟩
              | refine Exists.intro (α := List Value) [iv j] ⟨⟨rfl, fun w' hw' => eQ1 w' hw'⟩, ?_⟩
              | refine idxP env rfl rfl rfl rfl (And.intro (by omega) (by omega)) ?_
              | refine Exists.intro (α := List Value) [iv x0, iv x1] ⟨⟨rfl, fun w' hw' => eR w' hw'⟩, ?_⟩
              | refine neqE93 (q := false) (by simp) ?_
            all_goals first | (exfalso; omega) | exact ⟨k + 1, by omega, by omega, Ent.weak rfl ⟨rfl, rfl, rfl, rfl, rfl, trivial⟩ ⟨rfl, trivial⟩ fun _ h => h⟩
          · have o0 := fun w' hb => o0 w' hb hne
            have o1 := fun w' hb => o1 w' hb hne
            clear n0 n1 hWo hWn hPT hHT hQok
            repeat'
             conv => whnf
             first
              | refine zA ?_ | refine zB ?_ | refine zC ?_ | refine zD ?_ | refine zE ?_ | refine zF ?_ | refine zG ?_ | refine zH ?_ | refine zI ?_ | refine splT ?_ | refine splF ?_ | refine splNot ?_
              | ((first | refine splIn (fun hc => ?_) (fun hc => ?_) | refine splD (fun hc => ?_) (fun hc => ?_) | refine splE (fun hc => ?_) (fun hc => ?_) | refine splNE (fun hc => ?_) (fun hc => ?_)) <;> first | (exfalso; omega) | (exfalso; dsimp only at hc; omega) | skip)
              | ((with_reducible show CallEv _ _ 40 [_, _, .v (.bool false)] _ _ _ _); refine callO 1 [] (.tup [.os 1 2 LL.length, .v (iv x0)]) LL.length 1 (E0.flatMap iF) 3 rfl (fun β w' _ hbw => (o0 w' (by first | exact hbw | exact hbw.1 | exact hbw.1.1 | exact hbw.1.1.1 | exact hbw.1.1.1.1 | exact hbw.1.1.1.1.1 | exact hbw.1.1.1.1.1.1 | exact hbw.1.1.1.1.1.1.1)).mono fun _ _ ⟨b, c, h1, h2, h3, h4⟩ => ⟨b, c, h1, h2, h3, h4⟩) ?_)
              | ((with_reducible show CallEv _ _ 40 [_, _, .v (.bool true)] _ _ _ _); refine callO 3 [] (.tup [.os 3 4 LL.length, .v (iv x1)]) LL.length 1 (E1.flatMap iF) 3 rfl (fun β w' _ hbw => (o1 w' (by first | exact hbw | exact hbw.1 | exact hbw.1.1 | exact hbw.1.1.1 | exact hbw.1.1.1.1 | exact hbw.1.1.1.1.1 | exact hbw.1.1.1.1.1.1 | exact hbw.1.1.1.1.1.1.1)).mono fun _ _ ⟨b, c, h1, h2, h3, h4⟩ => ⟨b, c, h1, h2, h3, h4⟩) ?_)
              | refine Exists.intro (α := List Value) [iv (-1), iv j] ⟨⟨rfl, fun w' hw' => eQ w' hw'⟩, ?_⟩
              | refine Exists.intro (α := List Value) [iv (-1)] ⟨⟨rfl, fun w' hw' => eQ0 w' hw'⟩, ?_⟩
              | refine Exists.intro (α := List Value) [iv j] ⟨⟨rfl, fun w' hw' => eQ1 w' hw'⟩, ?_⟩
              | refine idxP env rfl rfl rfl rfl (And.intro (by omega) (by omega)) ?_
              | refine Exists.intro (α := List Value) [iv x0, iv x1] ⟨⟨rfl, fun w' hw' => eR w' hw'⟩, ?_⟩
              | refine neqE93 (q := false) (by simp) ?_
            all_goals first | (exfalso; omega) | exact ⟨k + 1, by omega, by omega, Ent.weak rfl ⟨rfl, rfl, rfl, rfl, rfl, trivial⟩ ⟨rfl, trivial⟩ fun _ h => h⟩
        · obtain ⟨i, rfl⟩ := Int.eq_ofNat_of_zero_le h1
          have hat := hHT i (by omega)
          obtain ⟨zb, rfl⟩ : ∃ ad, z3 = some ad := hz'.resolve_left fun hc => by rw [hc] at l2; simp at l2; omega
          obtain rfl | rfl : a = 0 ∨ a = 1 := by omega
          · have eR : ∀ w', WH w' → ∀ j v, [iv (ed (rw_ i 0) false), iv (ed (rw_ i 0) true)][j]? = some v → w'.cell? (((zb.add ((i : Int).toNat * 4)).add ((0 : Int).toNat * 2)).add j) = some v := fun w' hw' j v h => by
              rw [Addr.add_add]
              match j, h with
              | 0, h => exact rd_ati hw'.1.2.2 hat 0 _ h
              | 1, h => exact rd_ati hw'.1.2.2 hat 1 _ h
            have eQ := fun (w' : World) (hw' : WH w') => rd_ati hw'.2 hq
            have eQ0 := fun (w' : World) (hw' : WH w') => rd_fld hw'.2 hq 0 (iv i) rfl
            have eQ1 := fun (w' : World) (hw' : WH w') => rd_fld hw'.2 hq 1 (iv 0) rfl
            have n0 := fun (w' : World) (hb : Below w.heap.size w w') => hWn i 0 false w' hb hpo
            have n1 := fun (w' : World) (hb : Below w.heap.size w w') => hWn i 0 true w' hb hpo
            have o0 := fun (w' : World) (hb : Below w.heap.size w w') => hWo i 0 false w' hb hpo
            have o1 := fun (w' : World) (hb : Below w.heap.size w w') => hWo i 0 true w' hb hpo
            generalize endL ⟨po, pn, pc, bo, bn, bc, f0, f1, f2, lo, ln, lc⟩ (rw_ i 0) false LL = E0 at o0
            generalize endL ⟨po, pn, pc, bo, bn, bc, f0, f1, f2, lo, ln, lc⟩ (rw_ i 0) true LL = E1 at o1
            generalize ed (rw_ i 0) false = x0 at *
            generalize ed (rw_ i 0) true = x1 at *
            by_cases hne : LL = []
            · have n0 := fun w' hb => n0 w' hb hne
              have n1 := fun w' hb => n1 w' hb hne
              clear o0 o1 hWo hWn hPT hHT hQok
              repeat'
               conv => whnf
               first
                | refine zA ?_ | refine zB ?_ | refine zC ?_ | refine zD ?_ | refine zE ?_ | refine zF ?_ | refine zG ?_ | refine zH ?_ | refine zI ?_ | refine splT ?_ | refine splF ?_ | refine splNot ?_
                | ((first | refine splIn (fun hc => ?_) (fun hc => ?_) | refine splD (fun hc => ?_) (fun hc => ?_) | refine splE (fun hc => ?_) (fun hc => ?_) | refine splNE (fun hc => ?_) (fun hc => ?_)) <;> first | (exfalso; omega) | (exfalso; dsimp only at hc; omega) | skip)
                | ((with_reducible show CallEv _ _ 40 [_, _, .v (.bool false)] _ _ _ _); refine callE (k := 40) (fun β w' hbw => n0 w' (by first | exact hbw | exact hbw.1 | exact hbw.1.1 | exact hbw.1.1.1 | exact hbw.1.1.1.1 | exact hbw.1.1.1.1.1 | exact hbw.1.1.1.1.1.1 | exact hbw.1.1.1.1.1.1.1)) ?_)
                | ((with_reducible show CallEv _ _ 40 [_, _, .v (.bool true)] _ _ _ _); refine callE (k := 40) (fun β w' hbw => n1 w' (by first | exact hbw | exact hbw.1 | exact hbw.1.1 | exact hbw.1.1.1 | exact hbw.1.1.1.1 | exact hbw.1.1.1.1.1 | exact hbw.1.1.1.1.1.1 | exact hbw.1.1.1.1.1.1.1)) ?_)
                | refine Exists.intro (α := List Value) [iv i, iv 0] ⟨⟨rfl, fun w' hw' => eQ w' hw'⟩, ?_⟩
                | refine Exists.intro (α := List Value) [iv i] ⟨⟨rfl, fun w' hw' => eQ0 w' hw'⟩, ?_⟩
                | refine Exists.intro (α := List Value) [iv 0] ⟨⟨rfl, fun w' hw' => eQ1 w' hw'⟩, ?_⟩
                | refine idxP env rfl rfl rfl rfl (And.intro (by omega) (by omega)) ?_
                | refine Exists.intro (α := List Value) [iv x0, iv x1] ⟨⟨rfl, fun w' hw' => eR w' hw'⟩, ?_⟩
                | refine neqE93 (q := false) (by simp) ?_
              all_goals first | (exfalso; omega) | exact ⟨k + 1, by omega, by omega, Ent.weak rfl ⟨rfl, rfl, rfl, rfl, rfl, trivial⟩ ⟨rfl, trivial⟩ fun _ h => h⟩
            · have o0 := fun w' hb => o0 w' hb hne
              have o1 := fun w' hb => o1 w' hb hne
              clear n0 n1 hWo hWn hPT hHT hQok
              repeat'
               conv => whnf
               first
                | refine zA ?_ | refine zB ?_ | refine zC ?_ | refine zD ?_ | refine zE ?_ | refine zF ?_ | refine zG ?_ | refine zH ?_ | refine zI ?_ | refine splT ?_ | refine splF ?_ | refine splNot ?_
                | ((first | refine splIn (fun hc => ?_) (fun hc => ?_) | refine splD (fun hc => ?_) (fun hc => ?_) | refine splE (fun hc => ?_) (fun hc => ?_) | refine splNE (fun hc => ?_) (fun hc => ?_)) <;> first | (exfalso; omega) | (exfalso; dsimp only at hc; omega) | skip)
                | ((with_reducible show CallEv _ _ 40 [_, _, .v (.bool false)] _ _ _ _); refine callO 1 [] (.tup [.os 1 2 LL.length, .v (iv x0)]) LL.length 1 (E0.flatMap iF) 3 rfl (fun β w' _ hbw => (o0 w' (by first | exact hbw | exact hbw.1 | exact hbw.1.1 | exact hbw.1.1.1 | exact hbw.1.1.1.1 | exact hbw.1.1.1.1.1 | exact hbw.1.1.1.1.1.1 | exact hbw.1.1.1.1.1.1.1)).mono fun _ _ ⟨b, c, h1, h2, h3, h4⟩ => ⟨b, c, h1, h2, h3, h4⟩) ?_)
                | ((with_reducible show CallEv _ _ 40 [_, _, .v (.bool true)] _ _ _ _); refine callO 3 [] (.tup [.os 3 4 LL.length, .v (iv x1)]) LL.length 1 (E1.flatMap iF) 3 rfl (fun β w' _ hbw => (o1 w' (by first | exact hbw | exact hbw.1 | exact hbw.1.1 | exact hbw.1.1.1 | exact hbw.1.1.1.1 | exact hbw.1.1.1.1.1 | exact hbw.1.1.1.1.1.1 | exact hbw.1.1.1.1.1.1.1)).mono fun _ _ ⟨b, c, h1, h2, h3, h4⟩ => ⟨b, c, h1, h2, h3, h4⟩) ?_)
                | refine Exists.intro (α := List Value) [iv i, iv 0] ⟨⟨rfl, fun w' hw' => eQ w' hw'⟩, ?_⟩
                | refine Exists.intro (α := List Value) [iv i] ⟨⟨rfl, fun w' hw' => eQ0 w' hw'⟩, ?_⟩
                | refine Exists.intro (α := List Value) [iv 0] ⟨⟨rfl, fun w' hw' => eQ1 w' hw'⟩, ?_⟩
                | refine idxP env rfl rfl rfl rfl (And.intro (by omega) (by omega)) ?_
                | refine Exists.intro (α := List Value) [iv x0, iv x1] ⟨⟨rfl, fun w' hw' => eR w' hw'⟩, ?_⟩
                | refine neqE93 (q := false) (by simp) ?_
              all_goals first | (exfalso; omega) | exact ⟨k + 1, by omega, by omega, Ent.weak rfl ⟨rfl, rfl, rfl, rfl, rfl, trivial⟩ ⟨rfl, trivial⟩ fun _ h => h⟩
          · have eR : ∀ w', WH w' → ∀ j v, [iv (ed (rw_ i 1) false), iv (ed (rw_ i 1) true)][j]? = some v → w'.cell? (((zb.add ((i : Int).toNat * 4)).add ((1 : Int).toNat * 2)).add j) = some v := fun w' hw' j v h => by
              rw [Addr.add_add]
              match j, h with
              | 0, h => exact rd_ati hw'.1.2.2 hat 2 _ h
              | 1, h => exact rd_ati hw'.1.2.2 hat 3 _ h
            have eQ := fun (w' : World) (hw' : WH w') => rd_ati hw'.2 hq
            have eQ0 := fun (w' : World) (hw' : WH w') => rd_fld hw'.2 hq 0 (iv i) rfl
            have eQ1 := fun (w' : World) (hw' : WH w') => rd_fld hw'.2 hq 1 (iv 1) rfl
            have n0 := fun (w' : World) (hb : Below w.heap.size w w') => hWn i 1 false w' hb hpo
            have n1 := fun (w' : World) (hb : Below w.heap.size w w') => hWn i 1 true w' hb hpo
            have o0 := fun (w' : World) (hb : Below w.heap.size w w') => hWo i 1 false w' hb hpo
            have o1 := fun (w' : World) (hb : Below w.heap.size w w') => hWo i 1 true w' hb hpo
            generalize endL ⟨po, pn, pc, bo, bn, bc, f0, f1, f2, lo, ln, lc⟩ (rw_ i 1) false LL = E0 at o0
            generalize endL ⟨po, pn, pc, bo, bn, bc, f0, f1, f2, lo, ln, lc⟩ (rw_ i 1) true LL = E1 at o1
            generalize ed (rw_ i 1) false = x0 at *
            generalize ed (rw_ i 1) true = x1 at *
            by_cases hne : LL = []
            · have n0 := fun w' hb => n0 w' hb hne
              have n1 := fun w' hb => n1 w' hb hne
              clear o0 o1 hWo hWn hPT hHT hQok
              repeat'
               conv => whnf
               first
                | refine zA ?_ | refine zB ?_ | refine zC ?_ | refine zD ?_ | refine zE ?_ | refine zF ?_ | refine zG ?_ | refine zH ?_ | refine zI ?_ | refine splT ?_ | refine splF ?_ | refine splNot ?_
                | ((first | refine splIn (fun hc => ?_) (fun hc => ?_) | refine splD (fun hc => ?_) (fun hc => ?_) | refine splE (fun hc => ?_) (fun hc => ?_) | refine splNE (fun hc => ?_) (fun hc => ?_)) <;> first | (exfalso; omega) | (exfalso; dsimp only at hc; omega) | skip)
                | ((with_reducible show CallEv _ _ 40 [_, _, .v (.bool false)] _ _ _ _); refine callE (k := 40) (fun β w' hbw => n0 w' (by first | exact hbw | exact hbw.1 | exact hbw.1.1 | exact hbw.1.1.1 | exact hbw.1.1.1.1 | exact hbw.1.1.1.1.1 | exact hbw.1.1.1.1.1.1 | exact hbw.1.1.1.1.1.1.1)) ?_)
                | ((with_reducible show CallEv _ _ 40 [_, _, .v (.bool true)] _ _ _ _); refine callE (k := 40) (fun β w' hbw => n1 w' (by first | exact hbw | exact hbw.1 | exact hbw.1.1 | exact hbw.1.1.1 | exact hbw.1.1.1.1 | exact hbw.1.1.1.1.1 | exact hbw.1.1.1.1.1.1 | exact hbw.1.1.1.1.1.1.1)) ?_)
                | refine Exists.intro (α := List Value) [iv i, iv 1] ⟨⟨rfl, fun w' hw' => eQ w' hw'⟩, ?_⟩
                | refine Exists.intro (α := List Value) [iv i] ⟨⟨rfl, fun w' hw' => eQ0 w' hw'⟩, ?_⟩
                | refine Exists.intro (α := List Value) [iv 1] ⟨⟨rfl, fun w' hw' => eQ1 w' hw'⟩, ?_⟩
                | refine idxP env rfl rfl rfl rfl (And.intro (by omega) (by omega)) ?_
                | refine Exists.intro (α := List Value) [iv x0, iv x1] ⟨⟨rfl, fun w' hw' => eR w' hw'⟩, ?_⟩
                | refine neqE93 (q := false) (by simp) ?_
              all_goals first | (exfalso; omega) | exact ⟨k + 1, by omega, by omega, Ent.weak rfl ⟨rfl, rfl, rfl, rfl, rfl, trivial⟩ ⟨rfl, trivial⟩ fun _ h => h⟩
            · have o0 := fun w' hb => o0 w' hb hne
              have o1 := fun w' hb => o1 w' hb hne
              clear n0 n1 hWo hWn hPT hHT hQok
              repeat'
               conv => whnf
               first
                | refine zA ?_ | refine zB ?_ | refine zC ?_ | refine zD ?_ | refine zE ?_ | refine zF ?_ | refine zG ?_ | refine zH ?_ | refine zI ?_ | refine splT ?_ | refine splF ?_ | refine splNot ?_
                | ((first | refine splIn (fun hc => ?_) (fun hc => ?_) | refine splD (fun hc => ?_) (fun hc => ?_) | refine splE (fun hc => ?_) (fun hc => ?_) | refine splNE (fun hc => ?_) (fun hc => ?_)) <;> first | (exfalso; omega) | (exfalso; dsimp only at hc; omega) | skip)
                | ((with_reducible show CallEv _ _ 40 [_, _, .v (.bool false)] _ _ _ _); refine callO 1 [] (.tup [.os 1 2 LL.length, .v (iv x0)]) LL.length 1 (E0.flatMap iF) 3 rfl (fun β w' _ hbw => (o0 w' (by first | exact hbw | exact hbw.1 | exact hbw.1.1 | exact hbw.1.1.1 | exact hbw.1.1.1.1 | exact hbw.1.1.1.1.1 | exact hbw.1.1.1.1.1.1 | exact hbw.1.1.1.1.1.1.1)).mono fun _ _ ⟨b, c, h1, h2, h3, h4⟩ => ⟨b, c, h1, h2, h3, h4⟩) ?_)
                | ((with_reducible show CallEv _ _ 40 [_, _, .v (.bool true)] _ _ _ _); refine callO 3 [] (.tup [.os 3 4 LL.length, .v (iv x1)]) LL.length 1 (E1.flatMap iF) 3 rfl (fun β w' _ hbw => (o1 w' (by first | exact hbw | exact hbw.1 | exact hbw.1.1 | exact hbw.1.1.1 | exact hbw.1.1.1.1 | exact hbw.1.1.1.1.1 | exact hbw.1.1.1.1.1.1 | exact hbw.1.1.1.1.1.1.1)).mono fun _ _ ⟨b, c, h1, h2, h3, h4⟩ => ⟨b, c, h1, h2, h3, h4⟩) ?_)
                | refine Exists.intro (α := List Value) [iv i, iv 1] ⟨⟨rfl, fun w' hw' => eQ w' hw'⟩, ?_⟩
                | refine Exists.intro (α := List Value) [iv i] ⟨⟨rfl, fun w' hw' => eQ0 w' hw'⟩, ?_⟩
                | refine Exists.intro (α := List Value) [iv 1] ⟨⟨rfl, fun w' hw' => eQ1 w' hw'⟩, ?_⟩
                | refine idxP env rfl rfl rfl rfl (And.intro (by omega) (by omega)) ?_
                | refine Exists.intro (α := List Value) [iv x0, iv x1] ⟨⟨rfl, fun w' hw' => eR w' hw'⟩, ?_⟩
                | refine neqE93 (q := false) (by simp) ?_
              all_goals first | (exfalso; omega) | exact ⟨k + 1, by omega, by omega, Ent.weak rfl ⟨rfl, rfl, rfl, rfl, rfl, trivial⟩ ⟨rfl, trivial⟩ fun _ h => h⟩
      · obtain rfl : k = Q.length := by omega
        repeat'
         conv => whnf
         first
          | refine zA ?_ | refine zB ?_ | refine zC ?_ | refine zD ?_ | refine zE ?_ | refine zF ?_ | refine zG ?_ | refine zH ?_ | refine zI ?_ | refine splT ?_ | refine splF ?_ | refine splNot ?_
          | ((first | refine splIn (fun hc => ?_) (fun hc => ?_) | refine splD (fun hc => ?_) (fun hc => ?_) | refine splE (fun hc => ?_) (fun hc => ?_) | refine splNE (fun hc => ?_) (fun hc => ?_)) <;> first | (exfalso; omega) | (exfalso; dsimp only at hc; omega) | skip)
          | ((with_reducible show CallEv _ _ 16 _ _ _ _ _); refine callE (k := 16) (fun β w' hbw => awake_ok _) ?_)
        all_goals first | (exfalso; omega) | exact ⟨fun β => rfl, fun w' h => (by first | exact h | exact h.1 | exact h.1.1 | exact h.1.1.1 | exact h.1.1.1.1 | exact h.1.1.1.1.1 | exact h.1.1.1.1.1.1 | exact h.1.1.1.1.1.1.1)⟩
end Go.Proofs.Ytaciigegbgnadaa
