/- RiggingWeak answers true. By IX.py. -/
import Derived.Test.YtaciigegbgnadaaIW
import Derived.Test.YtaciigegbgnadaaIE
import Derived.Test.YtaciigegbgnadaaID
import Derived.Test.YtaciigegbgnadaaHF
namespace Go.Proofs.Ytaciigegbgnadaa
open Go Tx Go.RowKit
set_option linter.unusedSimpArgs false
set_option linter.unusedVariables false

theorem endL_fac' {r r' : Rig} (h : ∀ k, r.fac k = r'.fac k) (x : Row) (most : Bool) (LL : List Ld) : endL r x most LL = endL r' x most LL := by
  have h1 : hiP r = hiP r' := funext fun l => by unfold hiP; rw [h]
  unfold endL endV
  rw [h1]
theorem endD_fac' {r r' : Rig} (h : ∀ k, r.fac k = r'.fac k) (LL : List Ld) : endD r LL = endD r' LL := funext fun x => funext fun most => by
  unfold endD
  rw [endL_fac' h]
theorem pl_fac {r r' : Rig} (h : ∀ k, r.fac k = r'.fac k) (LL : List Ld) (most : Bool) (W : Wk) : W.pl r LL most = W.pl r' LL most := by
  rcases W with _ | ⟨b, a, x⟩
  · rfl
  · exact endL_fac' h x most LL
theorem ovO_fac {r r' : Rig} (h : ∀ k, r.fac k = r'.fac k) (PP : List Int) (BB : List Bm) (LL : List Ld) (F : Fr) : ovO r PP BB LL F = ovO r' PP BB LL F := by
  unfold ovO ovF
  rw [endD_fac' h]
theorem slO_fac {r r' : Rig} (h : ∀ k, r.fac k = r'.fac k) (BB : List Bm) (LL : List Ld) (F : Fr) : slO r BB LL F = slO r' BB LL F := by
  unfold slO
  rw [endD_fac' h]
theorem pl_len (r : Rig) (LL : List Ld) (most : Bool) (W : Wk) : (W.pl r LL most).length ≤ LL.length := by
  rcases W with _ | ⟨b, a, x⟩
  · exact Nat.zero_le _
  · exact Nat.le_of_eq (endL_len r x most LL)
theorem Over_nr (PP : List Int) (BB : List Bm) (LL : List Ld) (f0 f1 f2 : Int) (r : Rig) (W : Wk) (hW : W = if rigOk f0 f1 f2 PP BB LL = true then ovO r PP BB LL (frF BB LL) else none) (hf : r.f0 = f0 ∧ r.f1 = f1 ∧ r.f2 = f2) (y : (Option Addr × Nat) × (Option Addr × Nat) × (Option Addr × Nat)) (w : World)
    (h : nrH PP BB LL y w) (h1 : PP.length ≤ 1000000) (h2 : BB.length ≤ 1000000) (h3 : LL.length ≤ 1000000) :
    Calls Try.prog 41 #[nrV PP BB LL f0 f1 f2 y] w fun e w' => ∃ z : Option Addr × Nat, e = .returned (.tuple #[.agg #[iv W.b, iv W.a], sV (W.pl r LL true).length z, iv (W.e (rigOk f0 f1 f2 PP BB LL))]) ∧ Below w.heap.size w w' ∧
      St w.heap.size (Rd 1 iF (sV (W.pl r LL true).length z) (W.pl r LL true)) w' := by
  obtain ⟨e0, e1, e2⟩ := hf
  have hfa := fac_eq (r := nrR PP BB LL f0 f1 f2 y) (r' := r) e0.symm e1.symm e2.symm
  have q : ovR (nrR PP BB LL f0 f1 f2 y) PP BB LL = W := by rw [hW]; unfold ovR; rw [ovO_fac hfa]
  have := Over_ok (nrR PP BB LL f0 f1 f2 y) PP BB LL w (h.rin h1 h2 h3)
  rw [q, pl_fac hfa] at this
  exact this
theorem Slack_nr (PP : List Int) (BB : List Bm) (LL : List Ld) (f0 f1 f2 : Int) (r : Rig) (W : Wk) (hW : W = if rigOk f0 f1 f2 PP BB LL = true then slO r BB LL (frF BB LL) else none) (hf : r.f0 = f0 ∧ r.f1 = f1 ∧ r.f2 = f2) (y : (Option Addr × Nat) × (Option Addr × Nat) × (Option Addr × Nat)) (w : World)
    (h : nrH PP BB LL y w) (h1 : PP.length ≤ 1000000) (h2 : BB.length ≤ 1000000) (h3 : LL.length ≤ 1000000) :
    Calls Try.prog 42 #[nrV PP BB LL f0 f1 f2 y] w fun e w' => ∃ z : Option Addr × Nat, e = .returned (.tuple #[.agg #[iv W.b, iv W.a], sV (W.pl r LL false).length z, iv (W.e (rigOk f0 f1 f2 PP BB LL))]) ∧ Below w.heap.size w w' ∧
      St w.heap.size (Rd 1 iF (sV (W.pl r LL false).length z) (W.pl r LL false)) w' := by
  obtain ⟨e0, e1, e2⟩ := hf
  have hfa := fac_eq (r := nrR PP BB LL f0 f1 f2 y) (r' := r) e0.symm e1.symm e2.symm
  have q : slR (nrR PP BB LL f0 f1 f2 y) PP BB LL = W := by rw [hW]; unfold slR; rw [slO_fac hfa]
  have := Slack_ok (nrR PP BB LL f0 f1 f2 y) PP BB LL w (h.rin h1 h2 h3)
  rw [q, pl_fac hfa] at this
  exact this

set_option maxHeartbeats 16000000 in
set_option maxRecDepth 100000 in
theorem RiggingWeak_ok (r : Rig) (PP : List Int) (BB : List Bm) (LL : List Ld) (w : World) (hX : RigX r PP BB LL w) :
    Calls Try.prog 9 #[r.v] w fun e w' => e = .returned (.bool true) ∧ Below w.heap.size w w' := by
  have hpn := hX.pn
  have hbn := hX.bn
  have hln := hX.ln
  have pl := hX.pl
  have bl := hX.bl
  have ll := hX.ll
  have h33 := fun (w' : World) => Thin_ok r w' (by omega) (by omega) (by omega)
  have h27 := fun (w' : World) (hb : Below w.heap.size w w') => Right_ok r PP BB LL w' (hX.below hb)
  rw [hpn, hbn, hln] at h33
  have h25 := fun (P : List Int) (o p : Option Addr) (c d : Nat) (w' : World) (hl : P.length ≤ 1000000) (hA : Rd 1 iF (.slice o P.length c) P w') (hB : Rd 1 iF (.slice p P.length d) P w') => (ints_ok P P o p c d w' hA hB hl hl)
  have hdt : ∀ P : List Int, decide (P = P) = true := fun P => decide_eq_true rfl
  simp only [hdt] at h25
  cases ht : thB PP.length BB.length LL.length with
  | false =>
    rw [ht] at h33
    obtain ⟨po, pn, pc, bo, bn, bc, f0, f1, f2, lo, ln, lc⟩ := r
    dsimp only at h33 hpn hbn hln
    refine calls_val env mixed Try.func9 has9 Try.ntmps9 [.agg #[.slice po pn pc, .slice bo bn bc, iv f0, iv f1, iv f2, .slice lo ln lc]] (by simp) ?_
    repeat'
      conv => whnf
      first
        | refine And.intro (a := drawB _ = true) (by kernel_rfl) ?_
        | refine And.intro (a := (_ : Bool) = true) rfl ?_
        | refine And.intro (a := (_ : Bool) = true ∧ (_ : Bool) = true) ⟨rfl, rfl⟩ ?_
        | refine And.intro (a := (_ : Bool) = true ∧ (_ : List _) = []) ⟨rfl, rfl⟩ ?_
        | refine And.intro (a := IR _ _) (And.intro (by omega) (by omega)) ?_
        | refine wrapE (And.intro (by omega) (by omega)) ?_
        | refine And.intro (a := (0 : Int) ≤ _ ∧ _ < _) (And.intro (by omega) (by omega)) ?_
        | refine And.intro (a := (_ : Bool) = true) (by simp only [Nat.beq_refl]; rfl) ?_
        | refine And.intro (a := ((_ : Bool) = true → 1 ≤ _) ∧ _ ≤ 9223372036854775807 ∧ _ ≤ 140737488355328) ⟨fun h => (by first | omega | cases h), by omega, by omega⟩ ?_
        | refine splT ?_
        | refine splF ?_
        | refine splNot ?_
        | (refine splIn (fun hc => ?_) (fun hc => ?_) <;> first | (exfalso; omega) | (exfalso; dsimp only at hc; omega) | skip)
        | (refine splD (fun hc => ?_) (fun hc => ?_) <;> first | (exfalso; omega) | (exfalso; dsimp only at hc; omega) | skip)
        | (refine splE (fun hc => ?_) (fun hc => ?_) <;> first | (exfalso; omega) | (exfalso; dsimp only at hc; omega) | skip)
        | (refine splNE (fun hc => ?_) (fun hc => ?_) <;> first | (exfalso; omega) | (exfalso; dsimp only at hc; omega) | skip)
        | ((with_reducible show CallEv _ _ 33 _ _ _ _ _); refine callE (k := 33) (fun β w' hbw => h33 _) ?_)
        | ((with_reducible show CallEv _ _ 16 _ _ _ _ _); refine callE (k := 16) (fun β w' hbw => awake_ok _) ?_)
    all_goals first | (exfalso; omega) | exact ⟨fun β => rfl, fun w' h => h⟩ | (trace_state; sorry)
  | true =>
    rw [ht] at h33
    have hth : PP.length ≤ 16 ∧ BB.length ≤ 16 ∧ LL.length ≤ 24 := by simp [thB] at ht; omega
    clear ht
    have h30 := fun (w' : World) (hb : Below w.heap.size w w') => Rig_ok r PP BB LL w' ((hX.rin (by omega) (by omega) (by omega)).below hb) (by omega) (by omega)
    cases hr : rigOk r.f0 r.f1 r.f2 PP BB LL with
    | false =>
      rw [hr] at h27
      have h41 := fun (y : (Option Addr × Nat) × (Option Addr × Nat) × (Option Addr × Nat)) (w' : World) (h : nrH PP BB LL y w') => Over_nr PP BB LL r.f0 r.f1 r.f2 r none (by rw [hr]; rfl) ⟨rfl, rfl, rfl⟩ y w' h (by omega) (by omega) (by omega)
      have h42 := fun (y : (Option Addr × Nat) × (Option Addr × Nat) × (Option Addr × Nat)) (w' : World) (h : nrH PP BB LL y w') => Slack_nr PP BB LL r.f0 r.f1 r.f2 r none (by rw [hr]; rfl) ⟨rfl, rfl, rfl⟩ y w' h (by omega) (by omega) (by omega)
      rw [hr] at h41 h42
      obtain ⟨po, pn, pc, bo, bn, bc, f0, f1, f2, lo, ln, lc⟩ := r
      dsimp only [Wk.b, Wk.a, Wk.pl, Wk.e] at h33 h30 h41 h42 hpn hbn hln
      refine calls_val env mixed Try.func9 has9 Try.ntmps9 [.agg #[.slice po pn pc, .slice bo bn bc, iv f0, iv f1, iv f2, .slice lo ln lc]] (by simp) ?_
      repeat'
        conv => whnf
        first
          | refine And.intro (a := drawB _ = true) (by kernel_rfl) ?_
          | refine And.intro (a := (_ : Bool) = true) rfl ?_
          | refine And.intro (a := (_ : Bool) = true ∧ (_ : Bool) = true) ⟨rfl, rfl⟩ ?_
          | refine And.intro (a := (_ : Bool) = true ∧ (_ : List _) = []) ⟨rfl, rfl⟩ ?_
          | refine And.intro (a := IR _ _) (And.intro (by omega) (by omega)) ?_
          | refine wrapE (And.intro (by omega) (by omega)) ?_
          | refine And.intro (a := (0 : Int) ≤ _ ∧ _ < _) (And.intro (by omega) (by omega)) ?_
          | refine And.intro (a := (_ : Bool) = true) (by simp only [Nat.beq_refl]; rfl) ?_
          | refine And.intro (a := ((_ : Bool) = true → 1 ≤ _) ∧ _ ≤ 9223372036854775807 ∧ _ ≤ 140737488355328) ⟨fun h => (by first | omega | cases h), by omega, by omega⟩ ?_
          | refine splT ?_
          | refine splF ?_
          | refine splNot ?_
          | (refine splIn (fun hc => ?_) (fun hc => ?_) <;> first | (exfalso; omega) | (exfalso; dsimp only at hc; omega) | skip)
          | (refine splD (fun hc => ?_) (fun hc => ?_) <;> first | (exfalso; omega) | (exfalso; dsimp only at hc; omega) | skip)
          | (refine splE (fun hc => ?_) (fun hc => ?_) <;> first | (exfalso; omega) | (exfalso; dsimp only at hc; omega) | skip)
          | (refine splNE (fun hc => ?_) (fun hc => ?_) <;> first | (exfalso; omega) | (exfalso; dsimp only at hc; omega) | skip)
          | ((with_reducible show CallEv _ _ 33 _ _ _ _ _); refine callE (k := 33) (fun β w' hbw => h33 _) ?_)
          | ((with_reducible show CallEv _ _ 16 _ _ _ _ _); refine callE (k := 16) (fun β w' hbw => awake_ok _) ?_)
          | ((with_reducible show CallEv _ _ 27 _ _ _ _ _); refine callE (k := 27) (fun β w' hbw => h27 _ (by first | exact hbw | exact hbw.1 | exact hbw.1.1 | exact hbw.1.1.1 | exact hbw.1.1.1.1 | exact hbw.1.1.1.1.1 | exact hbw.1.1.1.1.1.1 | exact hbw.1.1.1.1.1.1.1)) ?_)
          | ((with_reducible show CallEv _ _ 30 _ _ _ _ _); refine callF [] (nrV PP BB LL f0 f1 f2) (nrH PP BB LL) (fun β w' _ hbw => h30 w' (by first | exact hbw | exact hbw.1 | exact hbw.1.1 | exact hbw.1.1.1 | exact hbw.1.1.1.1 | exact hbw.1.1.1.1.1 | exact hbw.1.1.1.1.1.1 | exact hbw.1.1.1.1.1.1.1)) ?_; intro y; obtain ⟨⟨v1, v2⟩, ⟨v3, v4⟩, v5, v6⟩ := y; dsimp only)
          | ((with_reducible show CallEv _ _ 41 _ _ _ _ _); refine callF [] (fun z : Option Addr × Nat => .tuple #[.agg #[iv 0, iv 0], sV 0 z, iv 1]) (fun z => Rd 1 iF (sV 0 z) ([] : List Int)) (fun β w' _ hbw => h41 ((_, _), (_, _), (_, _)) w' hbw.2) ?_; intro z; obtain ⟨z1, z2⟩ := z; dsimp only)
          | ((with_reducible show CallEv _ _ 42 _ _ _ _ _); refine callF [] (fun z : Option Addr × Nat => .tuple #[.agg #[iv 0, iv 0], sV 0 z, iv 1]) (fun z => Rd 1 iF (sV 0 z) ([] : List Int)) (fun β w' _ hbw => h42 ((_, _), (_, _), (_, _)) w' hbw.2) ?_; intro z; obtain ⟨x1, x2⟩ := z; dsimp only)
          | refine eqlE95 (q := true) (by simp) ?_
          | refine neqE95 (q := false) (by simp) ?_
      all_goals first | (exfalso; omega) | exact ⟨fun β => rfl, fun w' h => (by first | exact h | exact h.1 | exact h.1.1 | exact h.1.1.1 | exact h.1.1.1.1 | exact h.1.1.1.1.1 | exact h.1.1.1.1.1.1 | exact h.1.1.1.1.1.1.1)⟩ | (trace_state; sorry)
    | true =>
      rw [hr] at h27
      have h43 := fun (w' : World) (hb : Below w.heap.size w w') => OverR_ok r PP BB LL w' (hX.below hb) hr
      have h44 := fun (w' : World) (hb : Below w.heap.size w w') => SlackR_ok r PP BB LL w' (hX.below hb) hr
      have h41 := fun (y : (Option Addr × Nat) × (Option Addr × Nat) × (Option Addr × Nat)) (w' : World) (h : nrH PP BB LL y w') => Over_nr PP BB LL r.f0 r.f1 r.f2 r (ovO r PP BB LL (frF BB LL)) (by rw [hr]; rfl) ⟨rfl, rfl, rfl⟩ y w' h (by omega) (by omega) (by omega)
      have h42 := fun (y : (Option Addr × Nat) × (Option Addr × Nat) × (Option Addr × Nat)) (w' : World) (h : nrH PP BB LL y w') => Slack_nr PP BB LL r.f0 r.f1 r.f2 r (slO r BB LL (frF BB LL)) (by rw [hr]; rfl) ⟨rfl, rfl, rfl⟩ y w' h (by omega) (by omega) (by omega)
      rw [hr] at h41 h42
      generalize ovO r PP BB LL (frF BB LL) = W1 at *
      generalize slO r BB LL (frF BB LL) = W2 at *
      have l1 := pl_len r LL true W1
      have l2 := pl_len r LL false W2
      rcases W1 with _ | ⟨b1, a1, r1⟩ <;> rcases W2 with _ | ⟨b2, a2, r2⟩
      · obtain ⟨po, pn, pc, bo, bn, bc, f0, f1, f2, lo, ln, lc⟩ := r
        dsimp only [Wk.b, Wk.a, Wk.pl, Wk.e, Option.isSome] at h33 h30 h41 h42 h43 h44 hpn hbn hln l1 l2
        refine calls_val env mixed Try.func9 has9 Try.ntmps9 [.agg #[.slice po pn pc, .slice bo bn bc, iv f0, iv f1, iv f2, .slice lo ln lc]] (by simp) ?_
        repeat'
          conv => whnf
          first
            | refine And.intro (a := drawB _ = true) (by kernel_rfl) ?_
            | refine And.intro (a := (_ : Bool) = true) rfl ?_
            | refine And.intro (a := (_ : Bool) = true ∧ (_ : Bool) = true) ⟨rfl, rfl⟩ ?_
            | refine And.intro (a := (_ : Bool) = true ∧ (_ : List _) = []) ⟨rfl, rfl⟩ ?_
            | refine And.intro (a := IR _ _) (And.intro (by omega) (by omega)) ?_
            | refine wrapE (And.intro (by omega) (by omega)) ?_
            | refine And.intro (a := (0 : Int) ≤ _ ∧ _ < _) (And.intro (by omega) (by omega)) ?_
            | refine And.intro (a := (_ : Bool) = true) (by simp only [Nat.beq_refl]; rfl) ?_
            | refine And.intro (a := ((_ : Bool) = true → 1 ≤ _) ∧ _ ≤ 9223372036854775807 ∧ _ ≤ 140737488355328) ⟨fun h => (by first | omega | cases h), by omega, by omega⟩ ?_
            | refine splT ?_
            | refine splF ?_
            | refine splNot ?_
            | (refine splIn (fun hc => ?_) (fun hc => ?_) <;> first | (exfalso; omega) | (exfalso; dsimp only at hc; omega) | skip)
            | (refine splD (fun hc => ?_) (fun hc => ?_) <;> first | (exfalso; omega) | (exfalso; dsimp only at hc; omega) | skip)
            | (refine splE (fun hc => ?_) (fun hc => ?_) <;> first | (exfalso; omega) | (exfalso; dsimp only at hc; omega) | skip)
            | (refine splNE (fun hc => ?_) (fun hc => ?_) <;> first | (exfalso; omega) | (exfalso; dsimp only at hc; omega) | skip)
            | ((with_reducible show CallEv _ _ 33 _ _ _ _ _); refine callE (k := 33) (fun β w' hbw => h33 _) ?_)
            | ((with_reducible show CallEv _ _ 16 _ _ _ _ _); refine callE (k := 16) (fun β w' hbw => awake_ok _) ?_)
            | ((with_reducible show CallEv _ _ 27 _ _ _ _ _); refine callE (k := 27) (fun β w' hbw => h27 _ (by first | exact hbw | exact hbw.1 | exact hbw.1.1 | exact hbw.1.1.1 | exact hbw.1.1.1.1 | exact hbw.1.1.1.1.1 | exact hbw.1.1.1.1.1.1 | exact hbw.1.1.1.1.1.1.1)) ?_)
            | ((with_reducible show CallEv _ _ 30 _ _ _ _ _); refine callF [] (nrV PP BB LL f0 f1 f2) (nrH PP BB LL) (fun β w' _ hbw => h30 w' (by first | exact hbw | exact hbw.1 | exact hbw.1.1 | exact hbw.1.1.1 | exact hbw.1.1.1.1 | exact hbw.1.1.1.1.1 | exact hbw.1.1.1.1.1.1 | exact hbw.1.1.1.1.1.1.1)) ?_; intro y; obtain ⟨⟨v1, v2⟩, ⟨v3, v4⟩, v5, v6⟩ := y; dsimp only)
            | ((with_reducible show CallEv _ _ 41 _ _ _ _ _); refine callF [] (fun z : Option Addr × Nat => .tuple #[.agg #[iv 0, iv 0], sV 0 z, iv 7]) (fun z => Rd 1 iF (sV 0 z) ([] : List Int)) (fun β w' _ hbw => h41 ((_, _), (_, _), (_, _)) w' hbw.2) ?_; intro z; obtain ⟨z1, z2⟩ := z; dsimp only)
            | ((with_reducible show CallEv _ _ 42 _ _ _ _ _); refine callF [] (fun z : Option Addr × Nat => .tuple #[.agg #[iv 0, iv 0], sV 0 z, iv 7]) (fun z => Rd 1 iF (sV 0 z) ([] : List Int)) (fun β w' _ hbw => h42 ((_, _), (_, _), (_, _)) w' hbw.2) ?_; intro z; obtain ⟨x1, x2⟩ := z; dsimp only)
            | ((with_reducible show CallEv _ _ 43 _ _ _ _ _); refine callF [] (fun z : Option Addr × Nat => .tuple #[.agg #[iv 0, iv 0], sV 0 z, .bool false]) (fun z => Rd 1 iF (sV 0 z) ([] : List Int)) (fun β w' _ hbw => h43 w' (by first | exact hbw | exact hbw.1 | exact hbw.1.1 | exact hbw.1.1.1 | exact hbw.1.1.1.1 | exact hbw.1.1.1.1.1 | exact hbw.1.1.1.1.1.1 | exact hbw.1.1.1.1.1.1.1)) ?_; intro z; obtain ⟨u1, u2⟩ := z; dsimp only)
            | ((with_reducible show CallEv _ _ 44 _ _ _ _ _); refine callF [] (fun z : Option Addr × Nat => .tuple #[.agg #[iv 0, iv 0], sV 0 z, .bool false]) (fun z => Rd 1 iF (sV 0 z) ([] : List Int)) (fun β w' _ hbw => h44 w' (by first | exact hbw | exact hbw.1 | exact hbw.1.1 | exact hbw.1.1.1 | exact hbw.1.1.1.1 | exact hbw.1.1.1.1.1 | exact hbw.1.1.1.1.1.1 | exact hbw.1.1.1.1.1.1.1)) ?_; intro z; obtain ⟨w1, w2⟩ := z; dsimp only)
            | ((with_reducible show CallEv _ _ 25 [.v (sV _ (z1, z2)), _] _ _ _ _); refine callE (k := 25) (fun β w' hbw => h25 _ _ _ _ _ w' (by show ([] : List Int).length ≤ 1000000; omega) hbw.1.1.1.1.2 hbw.1.2) ?_)
            | ((with_reducible show CallEv _ _ 25 [.v (sV _ (x1, x2)), _] _ _ _ _); refine callE (k := 25) (fun β w' hbw => h25 _ _ _ _ _ w' (by show ([] : List Int).length ≤ 1000000; omega) hbw.1.1.2 hbw.2) ?_)
            | refine eqlE95 (q := true) (by simp) ?_
            | refine neqE95 (q := false) (by simp) ?_
        all_goals first | (exfalso; omega) | exact ⟨fun β => rfl, fun w' h => (by first | exact h | exact h.1 | exact h.1.1 | exact h.1.1.1 | exact h.1.1.1.1 | exact h.1.1.1.1.1 | exact h.1.1.1.1.1.1 | exact h.1.1.1.1.1.1.1)⟩ | (trace_state; sorry)
      · obtain ⟨po, pn, pc, bo, bn, bc, f0, f1, f2, lo, ln, lc⟩ := r
        dsimp only [Wk.b, Wk.a, Wk.pl, Wk.e, Option.isSome] at h33 h30 h41 h42 h43 h44 hpn hbn hln l1 l2
        generalize endL ⟨po, pn, pc, bo, bn, bc, f0, f1, f2, lo, ln, lc⟩ r2 false LL = P2 at *
        refine calls_val env mixed Try.func9 has9 Try.ntmps9 [.agg #[.slice po pn pc, .slice bo bn bc, iv f0, iv f1, iv f2, .slice lo ln lc]] (by simp) ?_
        repeat'
          conv => whnf
          first
            | refine And.intro (a := drawB _ = true) (by kernel_rfl) ?_
            | refine And.intro (a := (_ : Bool) = true) rfl ?_
            | refine And.intro (a := (_ : Bool) = true ∧ (_ : Bool) = true) ⟨rfl, rfl⟩ ?_
            | refine And.intro (a := (_ : Bool) = true ∧ (_ : List _) = []) ⟨rfl, rfl⟩ ?_
            | refine And.intro (a := IR _ _) (And.intro (by omega) (by omega)) ?_
            | refine wrapE (And.intro (by omega) (by omega)) ?_
            | refine And.intro (a := (0 : Int) ≤ _ ∧ _ < _) (And.intro (by omega) (by omega)) ?_
            | refine And.intro (a := (_ : Bool) = true) (by simp only [Nat.beq_refl]; rfl) ?_
            | refine And.intro (a := ((_ : Bool) = true → 1 ≤ _) ∧ _ ≤ 9223372036854775807 ∧ _ ≤ 140737488355328) ⟨fun h => (by first | omega | cases h), by omega, by omega⟩ ?_
            | refine splT ?_
            | refine splF ?_
            | refine splNot ?_
            | (refine splIn (fun hc => ?_) (fun hc => ?_) <;> first | (exfalso; omega) | (exfalso; dsimp only at hc; omega) | skip)
            | (refine splD (fun hc => ?_) (fun hc => ?_) <;> first | (exfalso; omega) | (exfalso; dsimp only at hc; omega) | skip)
            | (refine splE (fun hc => ?_) (fun hc => ?_) <;> first | (exfalso; omega) | (exfalso; dsimp only at hc; omega) | skip)
            | (refine splNE (fun hc => ?_) (fun hc => ?_) <;> first | (exfalso; omega) | (exfalso; dsimp only at hc; omega) | skip)
            | ((with_reducible show CallEv _ _ 33 _ _ _ _ _); refine callE (k := 33) (fun β w' hbw => h33 _) ?_)
            | ((with_reducible show CallEv _ _ 16 _ _ _ _ _); refine callE (k := 16) (fun β w' hbw => awake_ok _) ?_)
            | ((with_reducible show CallEv _ _ 27 _ _ _ _ _); refine callE (k := 27) (fun β w' hbw => h27 _ (by first | exact hbw | exact hbw.1 | exact hbw.1.1 | exact hbw.1.1.1 | exact hbw.1.1.1.1 | exact hbw.1.1.1.1.1 | exact hbw.1.1.1.1.1.1 | exact hbw.1.1.1.1.1.1.1)) ?_)
            | ((with_reducible show CallEv _ _ 30 _ _ _ _ _); refine callF [] (nrV PP BB LL f0 f1 f2) (nrH PP BB LL) (fun β w' _ hbw => h30 w' (by first | exact hbw | exact hbw.1 | exact hbw.1.1 | exact hbw.1.1.1 | exact hbw.1.1.1.1 | exact hbw.1.1.1.1.1 | exact hbw.1.1.1.1.1.1 | exact hbw.1.1.1.1.1.1.1)) ?_; intro y; obtain ⟨⟨v1, v2⟩, ⟨v3, v4⟩, v5, v6⟩ := y; dsimp only)
            | ((with_reducible show CallEv _ _ 41 _ _ _ _ _); refine callF [] (fun z : Option Addr × Nat => .tuple #[.agg #[iv 0, iv 0], sV 0 z, iv 7]) (fun z => Rd 1 iF (sV 0 z) ([] : List Int)) (fun β w' _ hbw => h41 ((_, _), (_, _), (_, _)) w' hbw.2) ?_; intro z; obtain ⟨z1, z2⟩ := z; dsimp only)
            | ((with_reducible show CallEv _ _ 42 _ _ _ _ _); refine callF [] (fun z : Option Addr × Nat => .tuple #[.agg #[iv b2, iv a2], sV P2.length z, iv 0]) (fun z => Rd 1 iF (sV P2.length z) P2) (fun β w' _ hbw => h42 ((_, _), (_, _), (_, _)) w' hbw.2) ?_; intro z; obtain ⟨x1, x2⟩ := z; dsimp only)
            | ((with_reducible show CallEv _ _ 43 _ _ _ _ _); refine callF [] (fun z : Option Addr × Nat => .tuple #[.agg #[iv 0, iv 0], sV 0 z, .bool false]) (fun z => Rd 1 iF (sV 0 z) ([] : List Int)) (fun β w' _ hbw => h43 w' (by first | exact hbw | exact hbw.1 | exact hbw.1.1 | exact hbw.1.1.1 | exact hbw.1.1.1.1 | exact hbw.1.1.1.1.1 | exact hbw.1.1.1.1.1.1 | exact hbw.1.1.1.1.1.1.1)) ?_; intro z; obtain ⟨u1, u2⟩ := z; dsimp only)
            | ((with_reducible show CallEv _ _ 44 _ _ _ _ _); refine callF [] (fun z : Option Addr × Nat => .tuple #[.agg #[iv b2, iv a2], sV P2.length z, .bool true]) (fun z => Rd 1 iF (sV P2.length z) P2) (fun β w' _ hbw => h44 w' (by first | exact hbw | exact hbw.1 | exact hbw.1.1 | exact hbw.1.1.1 | exact hbw.1.1.1.1 | exact hbw.1.1.1.1.1 | exact hbw.1.1.1.1.1.1 | exact hbw.1.1.1.1.1.1.1)) ?_; intro z; obtain ⟨w1, w2⟩ := z; dsimp only)
            | ((with_reducible show CallEv _ _ 25 [.v (sV _ (z1, z2)), _] _ _ _ _); refine callE (k := 25) (fun β w' hbw => h25 _ _ _ _ _ w' (by show ([] : List Int).length ≤ 1000000; omega) hbw.1.1.1.1.2 hbw.1.2) ?_)
            | ((with_reducible show CallEv _ _ 25 [.v (sV _ (x1, x2)), _] _ _ _ _); refine callE (k := 25) (fun β w' hbw => h25 _ _ _ _ _ w' (by show P2.length ≤ 1000000; omega) hbw.1.1.2 hbw.2) ?_)
            | refine eqlE95 (q := true) (by simp) ?_
            | refine neqE95 (q := false) (by simp) ?_
        all_goals first | (exfalso; omega) | exact ⟨fun β => rfl, fun w' h => (by first | exact h | exact h.1 | exact h.1.1 | exact h.1.1.1 | exact h.1.1.1.1 | exact h.1.1.1.1.1 | exact h.1.1.1.1.1.1 | exact h.1.1.1.1.1.1.1)⟩ | (trace_state; sorry)
      · obtain ⟨po, pn, pc, bo, bn, bc, f0, f1, f2, lo, ln, lc⟩ := r
        dsimp only [Wk.b, Wk.a, Wk.pl, Wk.e, Option.isSome] at h33 h30 h41 h42 h43 h44 hpn hbn hln l1 l2
        generalize endL ⟨po, pn, pc, bo, bn, bc, f0, f1, f2, lo, ln, lc⟩ r1 true LL = P1 at *
        refine calls_val env mixed Try.func9 has9 Try.ntmps9 [.agg #[.slice po pn pc, .slice bo bn bc, iv f0, iv f1, iv f2, .slice lo ln lc]] (by simp) ?_
        repeat'
          conv => whnf
          first
            | refine And.intro (a := drawB _ = true) (by kernel_rfl) ?_
            | refine And.intro (a := (_ : Bool) = true) rfl ?_
            | refine And.intro (a := (_ : Bool) = true ∧ (_ : Bool) = true) ⟨rfl, rfl⟩ ?_
            | refine And.intro (a := (_ : Bool) = true ∧ (_ : List _) = []) ⟨rfl, rfl⟩ ?_
            | refine And.intro (a := IR _ _) (And.intro (by omega) (by omega)) ?_
            | refine wrapE (And.intro (by omega) (by omega)) ?_
            | refine And.intro (a := (0 : Int) ≤ _ ∧ _ < _) (And.intro (by omega) (by omega)) ?_
            | refine And.intro (a := (_ : Bool) = true) (by simp only [Nat.beq_refl]; rfl) ?_
            | refine And.intro (a := ((_ : Bool) = true → 1 ≤ _) ∧ _ ≤ 9223372036854775807 ∧ _ ≤ 140737488355328) ⟨fun h => (by first | omega | cases h), by omega, by omega⟩ ?_
            | refine splT ?_
            | refine splF ?_
            | refine splNot ?_
            | (refine splIn (fun hc => ?_) (fun hc => ?_) <;> first | (exfalso; omega) | (exfalso; dsimp only at hc; omega) | skip)
            | (refine splD (fun hc => ?_) (fun hc => ?_) <;> first | (exfalso; omega) | (exfalso; dsimp only at hc; omega) | skip)
            | (refine splE (fun hc => ?_) (fun hc => ?_) <;> first | (exfalso; omega) | (exfalso; dsimp only at hc; omega) | skip)
            | (refine splNE (fun hc => ?_) (fun hc => ?_) <;> first | (exfalso; omega) | (exfalso; dsimp only at hc; omega) | skip)
            | ((with_reducible show CallEv _ _ 33 _ _ _ _ _); refine callE (k := 33) (fun β w' hbw => h33 _) ?_)
            | ((with_reducible show CallEv _ _ 16 _ _ _ _ _); refine callE (k := 16) (fun β w' hbw => awake_ok _) ?_)
            | ((with_reducible show CallEv _ _ 27 _ _ _ _ _); refine callE (k := 27) (fun β w' hbw => h27 _ (by first | exact hbw | exact hbw.1 | exact hbw.1.1 | exact hbw.1.1.1 | exact hbw.1.1.1.1 | exact hbw.1.1.1.1.1 | exact hbw.1.1.1.1.1.1 | exact hbw.1.1.1.1.1.1.1)) ?_)
            | ((with_reducible show CallEv _ _ 30 _ _ _ _ _); refine callF [] (nrV PP BB LL f0 f1 f2) (nrH PP BB LL) (fun β w' _ hbw => h30 w' (by first | exact hbw | exact hbw.1 | exact hbw.1.1 | exact hbw.1.1.1 | exact hbw.1.1.1.1 | exact hbw.1.1.1.1.1 | exact hbw.1.1.1.1.1.1 | exact hbw.1.1.1.1.1.1.1)) ?_; intro y; obtain ⟨⟨v1, v2⟩, ⟨v3, v4⟩, v5, v6⟩ := y; dsimp only)
            | ((with_reducible show CallEv _ _ 41 _ _ _ _ _); refine callF [] (fun z : Option Addr × Nat => .tuple #[.agg #[iv b1, iv a1], sV P1.length z, iv 0]) (fun z => Rd 1 iF (sV P1.length z) P1) (fun β w' _ hbw => h41 ((_, _), (_, _), (_, _)) w' hbw.2) ?_; intro z; obtain ⟨z1, z2⟩ := z; dsimp only)
            | ((with_reducible show CallEv _ _ 42 _ _ _ _ _); refine callF [] (fun z : Option Addr × Nat => .tuple #[.agg #[iv 0, iv 0], sV 0 z, iv 7]) (fun z => Rd 1 iF (sV 0 z) ([] : List Int)) (fun β w' _ hbw => h42 ((_, _), (_, _), (_, _)) w' hbw.2) ?_; intro z; obtain ⟨x1, x2⟩ := z; dsimp only)
            | ((with_reducible show CallEv _ _ 43 _ _ _ _ _); refine callF [] (fun z : Option Addr × Nat => .tuple #[.agg #[iv b1, iv a1], sV P1.length z, .bool true]) (fun z => Rd 1 iF (sV P1.length z) P1) (fun β w' _ hbw => h43 w' (by first | exact hbw | exact hbw.1 | exact hbw.1.1 | exact hbw.1.1.1 | exact hbw.1.1.1.1 | exact hbw.1.1.1.1.1 | exact hbw.1.1.1.1.1.1 | exact hbw.1.1.1.1.1.1.1)) ?_; intro z; obtain ⟨u1, u2⟩ := z; dsimp only)
            | ((with_reducible show CallEv _ _ 44 _ _ _ _ _); refine callF [] (fun z : Option Addr × Nat => .tuple #[.agg #[iv 0, iv 0], sV 0 z, .bool false]) (fun z => Rd 1 iF (sV 0 z) ([] : List Int)) (fun β w' _ hbw => h44 w' (by first | exact hbw | exact hbw.1 | exact hbw.1.1 | exact hbw.1.1.1 | exact hbw.1.1.1.1 | exact hbw.1.1.1.1.1 | exact hbw.1.1.1.1.1.1 | exact hbw.1.1.1.1.1.1.1)) ?_; intro z; obtain ⟨w1, w2⟩ := z; dsimp only)
            | ((with_reducible show CallEv _ _ 25 [.v (sV _ (z1, z2)), _] _ _ _ _); refine callE (k := 25) (fun β w' hbw => h25 _ _ _ _ _ w' (by show P1.length ≤ 1000000; omega) hbw.1.1.1.1.2 hbw.1.2) ?_)
            | ((with_reducible show CallEv _ _ 25 [.v (sV _ (x1, x2)), _] _ _ _ _); refine callE (k := 25) (fun β w' hbw => h25 _ _ _ _ _ w' (by show ([] : List Int).length ≤ 1000000; omega) hbw.1.1.2 hbw.2) ?_)
            | refine eqlE95 (q := true) (by simp) ?_
            | refine neqE95 (q := false) (by simp) ?_
        all_goals first | (exfalso; omega) | exact ⟨fun β => rfl, fun w' h => (by first | exact h | exact h.1 | exact h.1.1 | exact h.1.1.1 | exact h.1.1.1.1 | exact h.1.1.1.1.1 | exact h.1.1.1.1.1.1 | exact h.1.1.1.1.1.1.1)⟩ | (trace_state; sorry)
      · obtain ⟨po, pn, pc, bo, bn, bc, f0, f1, f2, lo, ln, lc⟩ := r
        dsimp only [Wk.b, Wk.a, Wk.pl, Wk.e, Option.isSome] at h33 h30 h41 h42 h43 h44 hpn hbn hln l1 l2
        generalize endL ⟨po, pn, pc, bo, bn, bc, f0, f1, f2, lo, ln, lc⟩ r1 true LL = P1 at *
        generalize endL ⟨po, pn, pc, bo, bn, bc, f0, f1, f2, lo, ln, lc⟩ r2 false LL = P2 at *
        refine calls_val env mixed Try.func9 has9 Try.ntmps9 [.agg #[.slice po pn pc, .slice bo bn bc, iv f0, iv f1, iv f2, .slice lo ln lc]] (by simp) ?_
        repeat'
          conv => whnf
          first
            | refine And.intro (a := drawB _ = true) (by kernel_rfl) ?_
            | refine And.intro (a := (_ : Bool) = true) rfl ?_
            | refine And.intro (a := (_ : Bool) = true ∧ (_ : Bool) = true) ⟨rfl, rfl⟩ ?_
            | refine And.intro (a := (_ : Bool) = true ∧ (_ : List _) = []) ⟨rfl, rfl⟩ ?_
            | refine And.intro (a := IR _ _) (And.intro (by omega) (by omega)) ?_
            | refine wrapE (And.intro (by omega) (by omega)) ?_
            | refine And.intro (a := (0 : Int) ≤ _ ∧ _ < _) (And.intro (by omega) (by omega)) ?_
            | refine And.intro (a := (_ : Bool) = true) (by simp only [Nat.beq_refl]; rfl) ?_
            | refine And.intro (a := ((_ : Bool) = true → 1 ≤ _) ∧ _ ≤ 9223372036854775807 ∧ _ ≤ 140737488355328) ⟨fun h => (by first | omega | cases h), by omega, by omega⟩ ?_
            | refine splT ?_
            | refine splF ?_
            | refine splNot ?_
            | (refine splIn (fun hc => ?_) (fun hc => ?_) <;> first | (exfalso; omega) | (exfalso; dsimp only at hc; omega) | skip)
            | (refine splD (fun hc => ?_) (fun hc => ?_) <;> first | (exfalso; omega) | (exfalso; dsimp only at hc; omega) | skip)
            | (refine splE (fun hc => ?_) (fun hc => ?_) <;> first | (exfalso; omega) | (exfalso; dsimp only at hc; omega) | skip)
            | (refine splNE (fun hc => ?_) (fun hc => ?_) <;> first | (exfalso; omega) | (exfalso; dsimp only at hc; omega) | skip)
            | ((with_reducible show CallEv _ _ 33 _ _ _ _ _); refine callE (k := 33) (fun β w' hbw => h33 _) ?_)
            | ((with_reducible show CallEv _ _ 16 _ _ _ _ _); refine callE (k := 16) (fun β w' hbw => awake_ok _) ?_)
            | ((with_reducible show CallEv _ _ 27 _ _ _ _ _); refine callE (k := 27) (fun β w' hbw => h27 _ (by first | exact hbw | exact hbw.1 | exact hbw.1.1 | exact hbw.1.1.1 | exact hbw.1.1.1.1 | exact hbw.1.1.1.1.1 | exact hbw.1.1.1.1.1.1 | exact hbw.1.1.1.1.1.1.1)) ?_)
            | ((with_reducible show CallEv _ _ 30 _ _ _ _ _); refine callF [] (nrV PP BB LL f0 f1 f2) (nrH PP BB LL) (fun β w' _ hbw => h30 w' (by first | exact hbw | exact hbw.1 | exact hbw.1.1 | exact hbw.1.1.1 | exact hbw.1.1.1.1 | exact hbw.1.1.1.1.1 | exact hbw.1.1.1.1.1.1 | exact hbw.1.1.1.1.1.1.1)) ?_; intro y; obtain ⟨⟨v1, v2⟩, ⟨v3, v4⟩, v5, v6⟩ := y; dsimp only)
            | ((with_reducible show CallEv _ _ 41 _ _ _ _ _); refine callF [] (fun z : Option Addr × Nat => .tuple #[.agg #[iv b1, iv a1], sV P1.length z, iv 0]) (fun z => Rd 1 iF (sV P1.length z) P1) (fun β w' _ hbw => h41 ((_, _), (_, _), (_, _)) w' hbw.2) ?_; intro z; obtain ⟨z1, z2⟩ := z; dsimp only)
            | ((with_reducible show CallEv _ _ 42 _ _ _ _ _); refine callF [] (fun z : Option Addr × Nat => .tuple #[.agg #[iv b2, iv a2], sV P2.length z, iv 0]) (fun z => Rd 1 iF (sV P2.length z) P2) (fun β w' _ hbw => h42 ((_, _), (_, _), (_, _)) w' hbw.2) ?_; intro z; obtain ⟨x1, x2⟩ := z; dsimp only)
            | ((with_reducible show CallEv _ _ 43 _ _ _ _ _); refine callF [] (fun z : Option Addr × Nat => .tuple #[.agg #[iv b1, iv a1], sV P1.length z, .bool true]) (fun z => Rd 1 iF (sV P1.length z) P1) (fun β w' _ hbw => h43 w' (by first | exact hbw | exact hbw.1 | exact hbw.1.1 | exact hbw.1.1.1 | exact hbw.1.1.1.1 | exact hbw.1.1.1.1.1 | exact hbw.1.1.1.1.1.1 | exact hbw.1.1.1.1.1.1.1)) ?_; intro z; obtain ⟨u1, u2⟩ := z; dsimp only)
            | ((with_reducible show CallEv _ _ 44 _ _ _ _ _); refine callF [] (fun z : Option Addr × Nat => .tuple #[.agg #[iv b2, iv a2], sV P2.length z, .bool true]) (fun z => Rd 1 iF (sV P2.length z) P2) (fun β w' _ hbw => h44 w' (by first | exact hbw | exact hbw.1 | exact hbw.1.1 | exact hbw.1.1.1 | exact hbw.1.1.1.1 | exact hbw.1.1.1.1.1 | exact hbw.1.1.1.1.1.1 | exact hbw.1.1.1.1.1.1.1)) ?_; intro z; obtain ⟨w1, w2⟩ := z; dsimp only)
            | ((with_reducible show CallEv _ _ 25 [.v (sV _ (z1, z2)), _] _ _ _ _); refine callE (k := 25) (fun β w' hbw => h25 _ _ _ _ _ w' (by show P1.length ≤ 1000000; omega) hbw.1.1.1.1.2 hbw.1.2) ?_)
            | ((with_reducible show CallEv _ _ 25 [.v (sV _ (x1, x2)), _] _ _ _ _); refine callE (k := 25) (fun β w' hbw => h25 _ _ _ _ _ w' (by show P2.length ≤ 1000000; omega) hbw.1.1.2 hbw.2) ?_)
            | refine eqlE95 (q := true) (by simp) ?_
            | refine neqE95 (q := false) (by simp) ?_
        all_goals first | (exfalso; omega) | exact ⟨fun β => rfl, fun w' h => (by first | exact h | exact h.1 | exact h.1.1 | exact h.1.1.1 | exact h.1.1.1.1 | exact h.1.1.1.1.1 | exact h.1.1.1.1.1.1 | exact h.1.1.1.1.1.1.1)⟩ | (trace_state; sorry)
end Go.Proofs.Ytaciigegbgnadaa
