/- The reference: Over, Slack. By IW.py. -/
import Derived.Test.YtaciigegbgnadaaIV
namespace Go.Proofs.Ytaciigegbgnadaa
open Go Tx Go.RowKit
set_option linter.unusedSimpArgs false
set_option linter.unusedVariables false

set_option maxHeartbeats 16000000 in
set_option maxRecDepth 100000 in
theorem OverR_ok (r : Rig) (PP : List Int) (BB : List Bm) (LL : List Ld) (w : World) (hX : RigX r PP BB LL w) (hr : rigOk r.f0 r.f1 r.f2 PP BB LL = true) :
    Calls Try.prog 43 #[r.v] w fun e w' => ∃ y : Option Addr × Nat, e = .returned (.tuple #[.agg #[iv (ovO r PP BB LL (frF BB LL)).b, iv (ovO r PP BB LL (frF BB LL)).a], sV ((ovO r PP BB LL (frF BB LL)).pl r LL true).length y, .bool (ovO r PP BB LL (frF BB LL)).isSome]) ∧ Below w.heap.size w w' ∧
      St w.heap.size (Rd 1 iF (sV ((ovO r PP BB LL (frF BB LL)).pl r LL true).length y) ((ovO r PP BB LL (frF BB LL)).pl r LL true)) w' := by
  have hri := rigOk_iff.1 hr
  have hpn := hX.pn
  have hbn := hX.bn
  have hm12 : BB.length ≤ 12 := hri.2.2.1
  have hP12 : 1 ≤ PP.length ∧ PP.length ≤ 12 := by omega
  have h39 := fun (w' : World) => Parts_ok r w' (by omega) (by omega)
  rw [hpn, hbn] at h39
  have hQl := prL_len PP.length BB.length
  have hQok := fun (k : Nat) (q : Int × Int) => prL_ok (n := PP.length) (m := BB.length) (k := k) (q := q)
  have hWo := fun (b a : Int) (w' : World) (hb : Below w.heap.size w w') hp hne => Witness_own r PP BB LL b a true w' (hX.below hb) hr hp hne
  have hWn := fun (b a : Int) (w' : World) (hb : Below w.heap.size w w') hp hne => Witness_nil r PP BB LL b a true w' (hX.below hb) hr hp hne
  have hEl := fun x => endL_len r x true LL
  have hLim := fun (b a : Int) (w' : World) (hb : Below w.heap.size w w') hp => Limit_ok r PP BB LL b a w' (hX.below hb) hr hp
  rw [ovO_find]
  have hfd : ∀ k, k ≤ (prL PP.length BB.length).length → (∀ j q, j < k → (prL PP.length BB.length)[j]? = some q → ovQ r PP BB LL (frF BB LL) q = false) → (prL PP.length BB.length).find? (ovQ r PP BB LL (frF BB LL)) = ((prL PP.length BB.length).drop k).find? (ovQ r PP BB LL (frF BB LL)) := fun k hk hj => by
    conv => lhs; rw [← List.take_append_drop k (prL PP.length BB.length)]
    rw [List.find?_append, List.find?_eq_none.2 fun q hq => ?_]
    · rfl
    · obtain ⟨j, hjq⟩ := List.mem_iff_getElem?.1 hq
      have hjk : j < k := by
        have := (List.getElem?_eq_some_iff.1 hjq).1
        have := List.length_take_le k (prL PP.length BB.length)
        omega
      rw [List.getElem?_take_of_lt hjk] at hjq
      rw [hj j q hjk hjq]; simp
  have hqx : ∀ b a, ovQ r PP BB LL (frF BB LL) (b, a) = decide (endD r LL (rowP (frF BB LL) b a) true > limP PP BB b a * 216000) := fun b a => rfl
  generalize ovQ r PP BB LL (frF BB LL) = pq at *
  generalize prL PP.length BB.length = Q at *
  obtain ⟨po, pn, pc, bo, bn, bc, f0, f1, f2, lo, ln, lc⟩ := r
  dsimp only at hpn hbn
  refine calls_fam env mixed Try.func43 has43 Try.ntmps43 [.agg #[.slice po pn pc, .slice bo bn bc, iv f0, iv f1, iv f2, .slice lo ln lc]] (by simp) ?_
  repeat'
    conv => whnf
    first
      | refine And.intro (a := drawB _ = true) (by kernel_rfl) ?_
      | refine And.intro (a := (_ : Bool) = true) rfl ?_
      | refine And.intro (a := (_ : Bool) = true ∧ (_ : Bool) = true) ⟨rfl, rfl⟩ ?_
      | refine And.intro (a := (_ : Bool) = true ∧ (_ : List _) = []) ⟨rfl, rfl⟩ ?_
      | refine And.intro (a := IR _ _) (And.intro (by omega) (by omega)) ?_
      | refine wrapE (And.intro (by omega) (by omega)) ?_
      | refine And.intro (a := (0 : Int) ≤ _ ∧ _ < _) (And.intro (by omega) (by omega)) ?_
      | refine And.intro (a := (_ : Bool) = true) (by simp only [Nat.beq_refl]; rfl) ?_
      | refine And.intro (a := ((_ : Bool) = true → 1 ≤ _) ∧ _ ≤ 9223372036854775807 ∧ _ ≤ 140737488355328) ⟨fun h => (by first | omega | cases h), by omega, by omega⟩ ?_
      | refine splT ?_
      | refine splF ?_
      | refine splNot ?_
      | (refine splIn (fun hc => ?_) (fun hc => ?_) <;> first | (exfalso; omega) | (exfalso; dsimp only at hc; omega) | skip)
      | (refine splD (fun hc => ?_) (fun hc => ?_) <;> first | (exfalso; omega) | (exfalso; dsimp only at hc; omega) | skip)
      | (refine splE (fun hc => ?_) (fun hc => ?_) <;> first | (exfalso; omega) | (exfalso; dsimp only at hc; omega) | skip)
      | (refine splNE (fun hc => ?_) (fun hc => ?_) <;> first | (exfalso; omega) | (exfalso; dsimp only at hc; omega) | skip)
      | ((with_reducible show CallEv _ _ 39 _ _ _ _ _); refine callF [] (fun y : YS Q => sV Q.length y.1) (fun y => Rd 2 gF (sV Q.length y.1) Q) (fun β w' _ hbw => h39 w') ?_; intro y; obtain ⟨⟨q1, q2⟩, hq0⟩ := y; dsimp only at hq0 ⊢)
  all_goals first | (exfalso; omega) | skip
  obtain ⟨qa, rfl⟩ : ∃ ad, q1 = some ad := hq0.resolve_left fun hc => by rw [hc] at hQl; simp at hQl; omega
  refine loopN 2 (fun k : Nat => [(1, .ptr 0 0), (2, .ptr 1 0), (5, .v (sV Q.length (some qa, q2))), (6, .v (iv k))]) (fun _ => [(0, .cells [.v (.slice po pn pc), .v (.slice bo bn bc), .v (iv f0), .v (iv f1), .v (iv f2), .v (.slice lo ln lc)] 48), (1, .cells [.v (iv 0), .v (iv 0)] 91)])
    (fun k => k ≤ Q.length ∧ ∀ j q, j < k → Q[j]? = some q → pq q = false) (fun k => Q.length - k) 0 ⟨Nat.zero_le _, fun j q h => absurd h (Nat.not_lt_zero _)⟩ ⟨rfl, rfl, rfl, rfl, trivial⟩ ⟨rfl, rfl, trivial⟩ (fun _ _ => ⟨rfl, rfl⟩) ?_
  intro k ⟨hk, hall⟩
  have hfk := hfd k hk hall
  rcases Nat.lt_or_ge k Q.length with hkl | hkl
  · obtain ⟨⟨b, a⟩, hq⟩ : ∃ q, Q[k]? = some q := ⟨_, List.getElem?_eq_getElem hkl⟩
    have hpo := hQok k _ hq
    dsimp only at hpo
    have hba := hpo
    unfold partOk at hba
    have hdr : Q.drop k = (b, a) :: Q.drop (k + 1) := by
      rw [List.drop_eq_getElem_cons hkl]
      rw [List.getElem?_eq_getElem hkl] at hq
      rw [Option.some.inj hq]
    rw [hdr, List.find?_cons] at hfk
    let WH : World → Prop := fun w' => Below w.heap.size w w' ∧ Rd 2 gF (sV Q.length (some qa, q2)) Q w'
    have eQ := fun (w' : World) (hw' : WH w') => rd_ati hw'.2 hq
    have eQ0 := fun (w' : World) (hw' : WH w') => rd_fld hw'.2 hq 0 (iv b) rfl
    have n0 := fun (w' : World) (hb : Below w.heap.size w w') => hWn b a w' hb hpo
    have o0 := fun (w' : World) (hb : Below w.heap.size w w') => hWo b a w' hb hpo
    have h47 := fun (w' : World) (hb : Below w.heap.size w w') => hLim b a w' hb hpo
    have hqk := hqx b a
    have hnx : pq (b, a) = false → ∀ j q, j < k + 1 → Q[j]? = some q → pq q = false := fun hf j q hj hjq => by
      rcases Nat.lt_succ_iff_lt_or_eq.1 hj with h | rfl
      · exact hall j q h hjq
      · rw [hq] at hjq; rw [← Option.some.inj hjq]; exact hf
    have hE := hEl (rowP (frF BB LL) b a)
    cases hpq : pq (b, a) with
    | true =>
      rw [hpq] at hfk hqk
      have hfk : Q.find? pq = some (b, a) := hfk
      rw [hfk]
      rw [show (wkP (frF BB LL) (some (b, a))).b = b from rfl, show (wkP (frF BB LL) (some (b, a))).a = a from rfl, show (wkP (frF BB LL) (some (b, a))).pl ⟨po, pn, pc, bo, bn, bc, f0, f1, f2, lo, ln, lc⟩ LL true = endL ⟨po, pn, pc, bo, bn, bc, f0, f1, f2, lo, ln, lc⟩ (rowP (frF BB LL) b a) true LL from rfl, show (wkP (frF BB LL) (some (b, a))).isSome = true from rfl]
      generalize endL ⟨po, pn, pc, bo, bn, bc, f0, f1, f2, lo, ln, lc⟩ (rowP (frF BB LL) b a) true LL = E0 at *
      generalize endD ⟨po, pn, pc, bo, bn, bc, f0, f1, f2, lo, ln, lc⟩ LL (rowP (frF BB LL) b a) true = x at *
      generalize limP PP BB b a * 216000 = lim at *
      have hqk := hqk.symm
      simp only [Bool.and_eq_true, decide_eq_true_eq] at hqk
      by_cases hne : LL = []
      · have n0 := fun w' hb => n0 w' hb hne
        clear o0 hWo hWn
        have hE0 : E0 = [] := by rw [hne] at hE; exact List.length_eq_zero_iff.1 hE
        subst hE0
        repeat'
          conv => whnf
          first
            | refine And.intro (a := drawB _ = true) (by kernel_rfl) ?_
            | refine And.intro (a := (_ : Bool) = true) rfl ?_
            | refine And.intro (a := (_ : Bool) = true ∧ (_ : Bool) = true) ⟨rfl, rfl⟩ ?_
            | refine And.intro (a := (_ : Bool) = true ∧ (_ : List _) = []) ⟨rfl, rfl⟩ ?_
            | refine And.intro (a := IR _ _) (And.intro (by omega) (by omega)) ?_
            | refine wrapE (And.intro (by omega) (by omega)) ?_
            | refine And.intro (a := (0 : Int) ≤ _ ∧ _ < _) (And.intro (by omega) (by omega)) ?_
            | refine And.intro (a := (_ : Bool) = true) (by simp only [Nat.beq_refl]; rfl) ?_
            | refine And.intro (a := ((_ : Bool) = true → 1 ≤ _) ∧ _ ≤ 9223372036854775807 ∧ _ ≤ 140737488355328) ⟨fun h => (by first | omega | cases h), by omega, by omega⟩ ?_
            | refine splT ?_
            | refine splF ?_
            | refine splNot ?_
            | (refine splIn (fun hc => ?_) (fun hc => ?_) <;> first | (exfalso; omega) | (exfalso; dsimp only at hc; omega) | skip)
            | (refine splD (fun hc => ?_) (fun hc => ?_) <;> first | (exfalso; omega) | (exfalso; dsimp only at hc; omega) | skip)
            | (refine splE (fun hc => ?_) (fun hc => ?_) <;> first | (exfalso; omega) | (exfalso; dsimp only at hc; omega) | skip)
            | (refine splNE (fun hc => ?_) (fun hc => ?_) <;> first | (exfalso; omega) | (exfalso; dsimp only at hc; omega) | skip)
            | ((with_reducible show CallEv _ _ 40 _ _ _ _ _); refine callE (k := 40) (fun β w' hbw => n0 w' (by first | exact hbw | exact hbw.1 | exact hbw.1.1 | exact hbw.1.1.1 | exact hbw.1.1.1.1 | exact hbw.1.1.1.1.1 | exact hbw.1.1.1.1.1.1 | exact hbw.1.1.1.1.1.1.1)) ?_)
            | refine Exists.intro (α := List Value) [iv b, iv a] ⟨⟨rfl, fun w' hw' => eQ w' hw'⟩, ?_⟩
            | refine Exists.intro (α := List Value) [iv b] ⟨⟨rfl, fun w' hw' => eQ0 w' hw'⟩, ?_⟩
            | ((with_reducible show CallEv _ _ 47 _ _ _ _ _); refine callE (k := 47) (fun β w' hbw => h47 _ (by first | exact hbw | exact hbw.1 | exact hbw.1.1 | exact hbw.1.1.1 | exact hbw.1.1.1.1 | exact hbw.1.1.1.1.1 | exact hbw.1.1.1.1.1.1 | exact hbw.1.1.1.1.1.1.1)) ?_)
        all_goals first | (exfalso; omega) | exact ⟨fun w' h => h.1, fun β w' hB hblk => ⟨(none, 0), rfl, fun _ _ => .inl ⟨rfl, rfl⟩⟩⟩ | (trace_state; sorry)
      · have o0 := fun w' hb => o0 w' hb hne
        clear n0 hWo hWn
        repeat'
          conv => whnf
          first
            | refine And.intro (a := drawB _ = true) (by kernel_rfl) ?_
            | refine And.intro (a := (_ : Bool) = true) rfl ?_
            | refine And.intro (a := (_ : Bool) = true ∧ (_ : Bool) = true) ⟨rfl, rfl⟩ ?_
            | refine And.intro (a := (_ : Bool) = true ∧ (_ : List _) = []) ⟨rfl, rfl⟩ ?_
            | refine And.intro (a := IR _ _) (And.intro (by omega) (by omega)) ?_
            | refine wrapE (And.intro (by omega) (by omega)) ?_
            | refine And.intro (a := (0 : Int) ≤ _ ∧ _ < _) (And.intro (by omega) (by omega)) ?_
            | refine And.intro (a := (_ : Bool) = true) (by simp only [Nat.beq_refl]; rfl) ?_
            | refine And.intro (a := ((_ : Bool) = true → 1 ≤ _) ∧ _ ≤ 9223372036854775807 ∧ _ ≤ 140737488355328) ⟨fun h => (by first | omega | cases h), by omega, by omega⟩ ?_
            | refine splT ?_
            | refine splF ?_
            | refine splNot ?_
            | (refine splIn (fun hc => ?_) (fun hc => ?_) <;> first | (exfalso; omega) | (exfalso; dsimp only at hc; omega) | skip)
            | (refine splD (fun hc => ?_) (fun hc => ?_) <;> first | (exfalso; omega) | (exfalso; dsimp only at hc; omega) | skip)
            | (refine splE (fun hc => ?_) (fun hc => ?_) <;> first | (exfalso; omega) | (exfalso; dsimp only at hc; omega) | skip)
            | (refine splNE (fun hc => ?_) (fun hc => ?_) <;> first | (exfalso; omega) | (exfalso; dsimp only at hc; omega) | skip)
            | ((with_reducible show CallEv _ _ 40 _ _ _ _ _); refine callO 2 [] (.tup [.os 2 3 LL.length, .v (iv x)]) LL.length 1 (E0.flatMap iF) 3 rfl (fun β w' _ hbw => (o0 w' (by first | exact hbw | exact hbw.1 | exact hbw.1.1 | exact hbw.1.1.1 | exact hbw.1.1.1.1 | exact hbw.1.1.1.1.1 | exact hbw.1.1.1.1.1.1 | exact hbw.1.1.1.1.1.1.1)).mono fun _ _ ⟨b, c, h1, h2, h3, h4⟩ => ⟨b, c, h1, h2, h3, h4⟩) ?_)
            | refine Exists.intro (α := List Value) [iv b, iv a] ⟨⟨rfl, fun w' hw' => eQ w' hw'⟩, ?_⟩
            | refine Exists.intro (α := List Value) [iv b] ⟨⟨rfl, fun w' hw' => eQ0 w' hw'⟩, ?_⟩
            | ((with_reducible show CallEv _ _ 47 _ _ _ _ _); refine callE (k := 47) (fun β w' hbw => h47 _ (by first | exact hbw | exact hbw.1 | exact hbw.1.1 | exact hbw.1.1.1 | exact hbw.1.1.1.1 | exact hbw.1.1.1.1.1 | exact hbw.1.1.1.1.1.1 | exact hbw.1.1.1.1.1.1.1)) ?_)
        all_goals first | (exfalso; omega) | exact ⟨fun w' h => h.1, fun β w' hB hblk => ⟨(some ⟨β 2, 0, none⟩, β 3), by rw [hE]; rfl, (hblk 2 _ rfl rfl).imp fun _ q => Rd.of_owns (sz := 1) (f := iF) (bs := E0) (fun _ => rfl) rfl rfl (by rw [hE]; exact q)⟩⟩ | (trace_state; sorry)
    | false =>
      have hnx := hnx hpq
      rw [hpq] at hfk hqk
      generalize endL ⟨po, pn, pc, bo, bn, bc, f0, f1, f2, lo, ln, lc⟩ (rowP (frF BB LL) b a) true LL = E0 at o0
      generalize endD ⟨po, pn, pc, bo, bn, bc, f0, f1, f2, lo, ln, lc⟩ LL (rowP (frF BB LL) b a) true = x at *
      generalize limP PP BB b a * 216000 = lim at *
      have hqk := hqk.symm
      simp only [Bool.and_eq_false_iff, decide_eq_false_iff_not] at hqk
      by_cases hne : LL = []
      · have n0 := fun w' hb => n0 w' hb hne
        clear o0 hWo hWn
        repeat'
          conv => whnf
          first
            | refine And.intro (a := drawB _ = true) (by kernel_rfl) ?_
            | refine And.intro (a := (_ : Bool) = true) rfl ?_
            | refine And.intro (a := (_ : Bool) = true ∧ (_ : Bool) = true) ⟨rfl, rfl⟩ ?_
            | refine And.intro (a := (_ : Bool) = true ∧ (_ : List _) = []) ⟨rfl, rfl⟩ ?_
            | refine And.intro (a := IR _ _) (And.intro (by omega) (by omega)) ?_
            | refine wrapE (And.intro (by omega) (by omega)) ?_
            | refine And.intro (a := (0 : Int) ≤ _ ∧ _ < _) (And.intro (by omega) (by omega)) ?_
            | refine And.intro (a := (_ : Bool) = true) (by simp only [Nat.beq_refl]; rfl) ?_
            | refine And.intro (a := ((_ : Bool) = true → 1 ≤ _) ∧ _ ≤ 9223372036854775807 ∧ _ ≤ 140737488355328) ⟨fun h => (by first | omega | cases h), by omega, by omega⟩ ?_
            | refine splT ?_
            | refine splF ?_
            | refine splNot ?_
            | (refine splIn (fun hc => ?_) (fun hc => ?_) <;> first | (exfalso; omega) | (exfalso; dsimp only at hc; omega) | skip)
            | (refine splD (fun hc => ?_) (fun hc => ?_) <;> first | (exfalso; omega) | (exfalso; dsimp only at hc; omega) | skip)
            | (refine splE (fun hc => ?_) (fun hc => ?_) <;> first | (exfalso; omega) | (exfalso; dsimp only at hc; omega) | skip)
            | (refine splNE (fun hc => ?_) (fun hc => ?_) <;> first | (exfalso; omega) | (exfalso; dsimp only at hc; omega) | skip)
            | ((with_reducible show CallEv _ _ 40 _ _ _ _ _); refine callE (k := 40) (fun β w' hbw => n0 w' (by first | exact hbw | exact hbw.1 | exact hbw.1.1 | exact hbw.1.1.1 | exact hbw.1.1.1.1 | exact hbw.1.1.1.1.1 | exact hbw.1.1.1.1.1.1 | exact hbw.1.1.1.1.1.1.1)) ?_)
            | refine Exists.intro (α := List Value) [iv b, iv a] ⟨⟨rfl, fun w' hw' => eQ w' hw'⟩, ?_⟩
            | refine Exists.intro (α := List Value) [iv b] ⟨⟨rfl, fun w' hw' => eQ0 w' hw'⟩, ?_⟩
            | ((with_reducible show CallEv _ _ 47 _ _ _ _ _); refine callE (k := 47) (fun β w' hbw => h47 _ (by first | exact hbw | exact hbw.1 | exact hbw.1.1 | exact hbw.1.1.1 | exact hbw.1.1.1.1 | exact hbw.1.1.1.1.1 | exact hbw.1.1.1.1.1.1 | exact hbw.1.1.1.1.1.1.1)) ?_)
        all_goals first | (exfalso; omega) | exact ⟨k + 1, ⟨by omega, hnx⟩, by omega, Ent.weak rfl ⟨rfl, rfl, rfl, rfl, trivial⟩ ⟨rfl, rfl, trivial⟩ fun _ h => h⟩ | (trace_state; sorry)
      · have o0 := fun w' hb => o0 w' hb hne
        clear n0 hWo hWn
        repeat'
          conv => whnf
          first
            | refine And.intro (a := drawB _ = true) (by kernel_rfl) ?_
            | refine And.intro (a := (_ : Bool) = true) rfl ?_
            | refine And.intro (a := (_ : Bool) = true ∧ (_ : Bool) = true) ⟨rfl, rfl⟩ ?_
            | refine And.intro (a := (_ : Bool) = true ∧ (_ : List _) = []) ⟨rfl, rfl⟩ ?_
            | refine And.intro (a := IR _ _) (And.intro (by omega) (by omega)) ?_
            | refine wrapE (And.intro (by omega) (by omega)) ?_
            | refine And.intro (a := (0 : Int) ≤ _ ∧ _ < _) (And.intro (by omega) (by omega)) ?_
            | refine And.intro (a := (_ : Bool) = true) (by simp only [Nat.beq_refl]; rfl) ?_
            | refine And.intro (a := ((_ : Bool) = true → 1 ≤ _) ∧ _ ≤ 9223372036854775807 ∧ _ ≤ 140737488355328) ⟨fun h => (by first | omega | cases h), by omega, by omega⟩ ?_
            | refine splT ?_
            | refine splF ?_
            | refine splNot ?_
            | (refine splIn (fun hc => ?_) (fun hc => ?_) <;> first | (exfalso; omega) | (exfalso; dsimp only at hc; omega) | skip)
            | (refine splD (fun hc => ?_) (fun hc => ?_) <;> first | (exfalso; omega) | (exfalso; dsimp only at hc; omega) | skip)
            | (refine splE (fun hc => ?_) (fun hc => ?_) <;> first | (exfalso; omega) | (exfalso; dsimp only at hc; omega) | skip)
            | (refine splNE (fun hc => ?_) (fun hc => ?_) <;> first | (exfalso; omega) | (exfalso; dsimp only at hc; omega) | skip)
            | ((with_reducible show CallEv _ _ 40 _ _ _ _ _); refine callO 2 [] (.tup [.os 2 3 LL.length, .v (iv x)]) LL.length 1 (E0.flatMap iF) 3 rfl (fun β w' _ hbw => (o0 w' (by first | exact hbw | exact hbw.1 | exact hbw.1.1 | exact hbw.1.1.1 | exact hbw.1.1.1.1 | exact hbw.1.1.1.1.1 | exact hbw.1.1.1.1.1.1 | exact hbw.1.1.1.1.1.1.1)).mono fun _ _ ⟨b, c, h1, h2, h3, h4⟩ => ⟨b, c, h1, h2, h3, h4⟩) ?_)
            | refine Exists.intro (α := List Value) [iv b, iv a] ⟨⟨rfl, fun w' hw' => eQ w' hw'⟩, ?_⟩
            | refine Exists.intro (α := List Value) [iv b] ⟨⟨rfl, fun w' hw' => eQ0 w' hw'⟩, ?_⟩
            | ((with_reducible show CallEv _ _ 47 _ _ _ _ _); refine callE (k := 47) (fun β w' hbw => h47 _ (by first | exact hbw | exact hbw.1 | exact hbw.1.1 | exact hbw.1.1.1 | exact hbw.1.1.1.1 | exact hbw.1.1.1.1.1 | exact hbw.1.1.1.1.1.1 | exact hbw.1.1.1.1.1.1.1)) ?_)
        all_goals first | (exfalso; omega) | exact ⟨k + 1, ⟨by omega, hnx⟩, by omega, Ent.weak rfl ⟨rfl, rfl, rfl, rfl, trivial⟩ ⟨rfl, rfl, trivial⟩ fun _ h => h⟩ | (trace_state; sorry)
  · rw [List.drop_eq_nil_of_le hkl] at hfk
    have hfk : Q.find? pq = none := hfk
    rw [hfk]
    repeat'
      conv => whnf
      first
        | refine And.intro (a := drawB _ = true) (by kernel_rfl) ?_
        | refine And.intro (a := (_ : Bool) = true) rfl ?_
        | refine And.intro (a := (_ : Bool) = true ∧ (_ : Bool) = true) ⟨rfl, rfl⟩ ?_
        | refine And.intro (a := (_ : Bool) = true ∧ (_ : List _) = []) ⟨rfl, rfl⟩ ?_
        | refine And.intro (a := IR _ _) (And.intro (by omega) (by omega)) ?_
        | refine wrapE (And.intro (by omega) (by omega)) ?_
        | refine And.intro (a := (0 : Int) ≤ _ ∧ _ < _) (And.intro (by omega) (by omega)) ?_
        | refine And.intro (a := (_ : Bool) = true) (by simp only [Nat.beq_refl]; rfl) ?_
        | refine And.intro (a := ((_ : Bool) = true → 1 ≤ _) ∧ _ ≤ 9223372036854775807 ∧ _ ≤ 140737488355328) ⟨fun h => (by first | omega | cases h), by omega, by omega⟩ ?_
        | refine splT ?_
        | refine splF ?_
        | refine splNot ?_
        | (refine splIn (fun hc => ?_) (fun hc => ?_) <;> first | (exfalso; omega) | (exfalso; dsimp only at hc; omega) | skip)
        | (refine splD (fun hc => ?_) (fun hc => ?_) <;> first | (exfalso; omega) | (exfalso; dsimp only at hc; omega) | skip)
        | (refine splE (fun hc => ?_) (fun hc => ?_) <;> first | (exfalso; omega) | (exfalso; dsimp only at hc; omega) | skip)
        | (refine splNE (fun hc => ?_) (fun hc => ?_) <;> first | (exfalso; omega) | (exfalso; dsimp only at hc; omega) | skip)
    all_goals first | (exfalso; omega) | exact ⟨fun w' h => h.1, fun β w' hB hblk => ⟨(none, 0), rfl, fun _ _ => .inl ⟨rfl, rfl⟩⟩⟩ | (trace_state; sorry)

set_option maxHeartbeats 16000000 in
set_option maxRecDepth 100000 in
theorem SlackR_ok (r : Rig) (PP : List Int) (BB : List Bm) (LL : List Ld) (w : World) (hX : RigX r PP BB LL w) (hr : rigOk r.f0 r.f1 r.f2 PP BB LL = true) :
    Calls Try.prog 44 #[r.v] w fun e w' => ∃ y : Option Addr × Nat, e = .returned (.tuple #[.agg #[iv (slO r BB LL (frF BB LL)).b, iv (slO r BB LL (frF BB LL)).a], sV ((slO r BB LL (frF BB LL)).pl r LL false).length y, .bool (slO r BB LL (frF BB LL)).isSome]) ∧ Below w.heap.size w w' ∧
      St w.heap.size (Rd 1 iF (sV ((slO r BB LL (frF BB LL)).pl r LL false).length y) ((slO r BB LL (frF BB LL)).pl r LL false)) w' := by
  have hri := rigOk_iff.1 hr
  have hpn := hX.pn
  have hbn := hX.bn
  have hm12 : BB.length ≤ 12 := hri.2.2.1
  have hP12 : 1 ≤ PP.length ∧ PP.length ≤ 12 := by omega
  have h39 := fun (w' : World) => Parts_ok r w' (by omega) (by omega)
  rw [hpn, hbn] at h39
  have hQl := prL_len PP.length BB.length
  have hQok := fun (k : Nat) (q : Int × Int) => prL_ok (n := PP.length) (m := BB.length) (k := k) (q := q)
  have hWo := fun (b a : Int) (w' : World) (hb : Below w.heap.size w w') hp hne => Witness_own r PP BB LL b a false w' (hX.below hb) hr hp hne
  have hWn := fun (b a : Int) (w' : World) (hb : Below w.heap.size w w') hp hne => Witness_nil r PP BB LL b a false w' (hX.below hb) hr hp hne
  have hEl := fun x => endL_len r x false LL
  have hLim := fun (b a : Int) (w' : World) (hb : Below w.heap.size w w') hp => Limit_ok r PP BB LL b a w' (hX.below hb) hr hp
  rw [slO_find r PP]
  have hfd : ∀ k, k ≤ (prL PP.length BB.length).length → (∀ j q, j < k → (prL PP.length BB.length)[j]? = some q → slQ r LL (frF BB LL) q = false) → (prL PP.length BB.length).find? (slQ r LL (frF BB LL)) = ((prL PP.length BB.length).drop k).find? (slQ r LL (frF BB LL)) := fun k hk hj => by
    conv => lhs; rw [← List.take_append_drop k (prL PP.length BB.length)]
    rw [List.find?_append, List.find?_eq_none.2 fun q hq => ?_]
    · rfl
    · obtain ⟨j, hjq⟩ := List.mem_iff_getElem?.1 hq
      have hjk : j < k := by
        have := (List.getElem?_eq_some_iff.1 hjq).1
        have := List.length_take_le k (prL PP.length BB.length)
        omega
      rw [List.getElem?_take_of_lt hjk] at hjq
      rw [hj j q hjk hjq]; simp
  have hqx : ∀ b a, slQ r LL (frF BB LL) (b, a) = (decide (b ≥ 0) && decide (endD r LL (rowP (frF BB LL) b a) false < 0)) := fun b a => rfl
  generalize slQ r LL (frF BB LL) = pq at *
  generalize prL PP.length BB.length = Q at *
  obtain ⟨po, pn, pc, bo, bn, bc, f0, f1, f2, lo, ln, lc⟩ := r
  dsimp only at hpn hbn
  refine calls_fam env mixed Try.func44 has44 Try.ntmps44 [.agg #[.slice po pn pc, .slice bo bn bc, iv f0, iv f1, iv f2, .slice lo ln lc]] (by simp) ?_
  repeat'
    conv => whnf
    first
      | refine And.intro (a := drawB _ = true) (by kernel_rfl) ?_
      | refine And.intro (a := (_ : Bool) = true) rfl ?_
      | refine And.intro (a := (_ : Bool) = true ∧ (_ : Bool) = true) ⟨rfl, rfl⟩ ?_
      | refine And.intro (a := (_ : Bool) = true ∧ (_ : List _) = []) ⟨rfl, rfl⟩ ?_
      | refine And.intro (a := IR _ _) (And.intro (by omega) (by omega)) ?_
      | refine wrapE (And.intro (by omega) (by omega)) ?_
      | refine And.intro (a := (0 : Int) ≤ _ ∧ _ < _) (And.intro (by omega) (by omega)) ?_
      | refine And.intro (a := (_ : Bool) = true) (by simp only [Nat.beq_refl]; rfl) ?_
      | refine And.intro (a := ((_ : Bool) = true → 1 ≤ _) ∧ _ ≤ 9223372036854775807 ∧ _ ≤ 140737488355328) ⟨fun h => (by first | omega | cases h), by omega, by omega⟩ ?_
      | refine splT ?_
      | refine splF ?_
      | refine splNot ?_
      | (refine splIn (fun hc => ?_) (fun hc => ?_) <;> first | (exfalso; omega) | (exfalso; dsimp only at hc; omega) | skip)
      | (refine splD (fun hc => ?_) (fun hc => ?_) <;> first | (exfalso; omega) | (exfalso; dsimp only at hc; omega) | skip)
      | (refine splE (fun hc => ?_) (fun hc => ?_) <;> first | (exfalso; omega) | (exfalso; dsimp only at hc; omega) | skip)
      | (refine splNE (fun hc => ?_) (fun hc => ?_) <;> first | (exfalso; omega) | (exfalso; dsimp only at hc; omega) | skip)
      | ((with_reducible show CallEv _ _ 39 _ _ _ _ _); refine callF [] (fun y : YS Q => sV Q.length y.1) (fun y => Rd 2 gF (sV Q.length y.1) Q) (fun β w' _ hbw => h39 w') ?_; intro y; obtain ⟨⟨q1, q2⟩, hq0⟩ := y; dsimp only at hq0 ⊢)
  all_goals first | (exfalso; omega) | skip
  obtain ⟨qa, rfl⟩ : ∃ ad, q1 = some ad := hq0.resolve_left fun hc => by rw [hc] at hQl; simp at hQl; omega
  refine loopN 2 (fun k : Nat => [(1, .ptr 0 0), (2, .ptr 1 0), (5, .v (sV Q.length (some qa, q2))), (6, .v (iv k))]) (fun _ => [(0, .cells [.v (.slice po pn pc), .v (.slice bo bn bc), .v (iv f0), .v (iv f1), .v (iv f2), .v (.slice lo ln lc)] 48), (1, .cells [.v (iv 0), .v (iv 0)] 91)])
    (fun k => k ≤ Q.length ∧ ∀ j q, j < k → Q[j]? = some q → pq q = false) (fun k => Q.length - k) 0 ⟨Nat.zero_le _, fun j q h => absurd h (Nat.not_lt_zero _)⟩ ⟨rfl, rfl, rfl, rfl, trivial⟩ ⟨rfl, rfl, trivial⟩ (fun _ _ => ⟨rfl, rfl⟩) ?_
  intro k ⟨hk, hall⟩
  have hfk := hfd k hk hall
  rcases Nat.lt_or_ge k Q.length with hkl | hkl
  · obtain ⟨⟨b, a⟩, hq⟩ : ∃ q, Q[k]? = some q := ⟨_, List.getElem?_eq_getElem hkl⟩
    have hpo := hQok k _ hq
    dsimp only at hpo
    have hba := hpo
    unfold partOk at hba
    have hdr : Q.drop k = (b, a) :: Q.drop (k + 1) := by
      rw [List.drop_eq_getElem_cons hkl]
      rw [List.getElem?_eq_getElem hkl] at hq
      rw [Option.some.inj hq]
    rw [hdr, List.find?_cons] at hfk
    let WH : World → Prop := fun w' => Below w.heap.size w w' ∧ Rd 2 gF (sV Q.length (some qa, q2)) Q w'
    have eQ := fun (w' : World) (hw' : WH w') => rd_ati hw'.2 hq
    have eQ0 := fun (w' : World) (hw' : WH w') => rd_fld hw'.2 hq 0 (iv b) rfl
    have n0 := fun (w' : World) (hb : Below w.heap.size w w') => hWn b a w' hb hpo
    have o0 := fun (w' : World) (hb : Below w.heap.size w w') => hWo b a w' hb hpo
    have h47 := fun (w' : World) (hb : Below w.heap.size w w') => hLim b a w' hb hpo
    have hqk := hqx b a
    have hnx : pq (b, a) = false → ∀ j q, j < k + 1 → Q[j]? = some q → pq q = false := fun hf j q hj hjq => by
      rcases Nat.lt_succ_iff_lt_or_eq.1 hj with h | rfl
      · exact hall j q h hjq
      · rw [hq] at hjq; rw [← Option.some.inj hjq]; exact hf
    have hE := hEl (rowP (frF BB LL) b a)
    cases hpq : pq (b, a) with
    | true =>
      rw [hpq] at hfk hqk
      have hfk : Q.find? pq = some (b, a) := hfk
      rw [hfk]
      rw [show (wkP (frF BB LL) (some (b, a))).b = b from rfl, show (wkP (frF BB LL) (some (b, a))).a = a from rfl, show (wkP (frF BB LL) (some (b, a))).pl ⟨po, pn, pc, bo, bn, bc, f0, f1, f2, lo, ln, lc⟩ LL false = endL ⟨po, pn, pc, bo, bn, bc, f0, f1, f2, lo, ln, lc⟩ (rowP (frF BB LL) b a) false LL from rfl, show (wkP (frF BB LL) (some (b, a))).isSome = true from rfl]
      generalize endL ⟨po, pn, pc, bo, bn, bc, f0, f1, f2, lo, ln, lc⟩ (rowP (frF BB LL) b a) false LL = E0 at *
      generalize endD ⟨po, pn, pc, bo, bn, bc, f0, f1, f2, lo, ln, lc⟩ LL (rowP (frF BB LL) b a) false = x at *
      generalize limP PP BB b a * 216000 = lim at *
      have hqk := hqk.symm
      simp only [Bool.and_eq_true, decide_eq_true_eq] at hqk
      by_cases hne : LL = []
      · have n0 := fun w' hb => n0 w' hb hne
        clear o0 hWo hWn
        have hE0 : E0 = [] := by rw [hne] at hE; exact List.length_eq_zero_iff.1 hE
        subst hE0
        repeat'
          conv => whnf
          first
            | refine And.intro (a := drawB _ = true) (by kernel_rfl) ?_
            | refine And.intro (a := (_ : Bool) = true) rfl ?_
            | refine And.intro (a := (_ : Bool) = true ∧ (_ : Bool) = true) ⟨rfl, rfl⟩ ?_
            | refine And.intro (a := (_ : Bool) = true ∧ (_ : List _) = []) ⟨rfl, rfl⟩ ?_
            | refine And.intro (a := IR _ _) (And.intro (by omega) (by omega)) ?_
            | refine wrapE (And.intro (by omega) (by omega)) ?_
            | refine And.intro (a := (0 : Int) ≤ _ ∧ _ < _) (And.intro (by omega) (by omega)) ?_
            | refine And.intro (a := (_ : Bool) = true) (by simp only [Nat.beq_refl]; rfl) ?_
            | refine And.intro (a := ((_ : Bool) = true → 1 ≤ _) ∧ _ ≤ 9223372036854775807 ∧ _ ≤ 140737488355328) ⟨fun h => (by first | omega | cases h), by omega, by omega⟩ ?_
            | refine splT ?_
            | refine splF ?_
            | refine splNot ?_
            | (refine splIn (fun hc => ?_) (fun hc => ?_) <;> first | (exfalso; omega) | (exfalso; dsimp only at hc; omega) | skip)
            | (refine splD (fun hc => ?_) (fun hc => ?_) <;> first | (exfalso; omega) | (exfalso; dsimp only at hc; omega) | skip)
            | (refine splE (fun hc => ?_) (fun hc => ?_) <;> first | (exfalso; omega) | (exfalso; dsimp only at hc; omega) | skip)
            | (refine splNE (fun hc => ?_) (fun hc => ?_) <;> first | (exfalso; omega) | (exfalso; dsimp only at hc; omega) | skip)
            | ((with_reducible show CallEv _ _ 40 _ _ _ _ _); refine callE (k := 40) (fun β w' hbw => n0 w' (by first | exact hbw | exact hbw.1 | exact hbw.1.1 | exact hbw.1.1.1 | exact hbw.1.1.1.1 | exact hbw.1.1.1.1.1 | exact hbw.1.1.1.1.1.1 | exact hbw.1.1.1.1.1.1.1)) ?_)
            | refine Exists.intro (α := List Value) [iv b, iv a] ⟨⟨rfl, fun w' hw' => eQ w' hw'⟩, ?_⟩
            | refine Exists.intro (α := List Value) [iv b] ⟨⟨rfl, fun w' hw' => eQ0 w' hw'⟩, ?_⟩
        all_goals first | (exfalso; omega) | exact ⟨fun w' h => h.1, fun β w' hB hblk => ⟨(none, 0), rfl, fun _ _ => .inl ⟨rfl, rfl⟩⟩⟩ | (trace_state; sorry)
      · have o0 := fun w' hb => o0 w' hb hne
        clear n0 hWo hWn
        repeat'
          conv => whnf
          first
            | refine And.intro (a := drawB _ = true) (by kernel_rfl) ?_
            | refine And.intro (a := (_ : Bool) = true) rfl ?_
            | refine And.intro (a := (_ : Bool) = true ∧ (_ : Bool) = true) ⟨rfl, rfl⟩ ?_
            | refine And.intro (a := (_ : Bool) = true ∧ (_ : List _) = []) ⟨rfl, rfl⟩ ?_
            | refine And.intro (a := IR _ _) (And.intro (by omega) (by omega)) ?_
            | refine wrapE (And.intro (by omega) (by omega)) ?_
            | refine And.intro (a := (0 : Int) ≤ _ ∧ _ < _) (And.intro (by omega) (by omega)) ?_
            | refine And.intro (a := (_ : Bool) = true) (by simp only [Nat.beq_refl]; rfl) ?_
            | refine And.intro (a := ((_ : Bool) = true → 1 ≤ _) ∧ _ ≤ 9223372036854775807 ∧ _ ≤ 140737488355328) ⟨fun h => (by first | omega | cases h), by omega, by omega⟩ ?_
            | refine splT ?_
            | refine splF ?_
            | refine splNot ?_
            | (refine splIn (fun hc => ?_) (fun hc => ?_) <;> first | (exfalso; omega) | (exfalso; dsimp only at hc; omega) | skip)
            | (refine splD (fun hc => ?_) (fun hc => ?_) <;> first | (exfalso; omega) | (exfalso; dsimp only at hc; omega) | skip)
            | (refine splE (fun hc => ?_) (fun hc => ?_) <;> first | (exfalso; omega) | (exfalso; dsimp only at hc; omega) | skip)
            | (refine splNE (fun hc => ?_) (fun hc => ?_) <;> first | (exfalso; omega) | (exfalso; dsimp only at hc; omega) | skip)
            | ((with_reducible show CallEv _ _ 40 _ _ _ _ _); refine callO 2 [] (.tup [.os 2 3 LL.length, .v (iv x)]) LL.length 1 (E0.flatMap iF) 3 rfl (fun β w' _ hbw => (o0 w' (by first | exact hbw | exact hbw.1 | exact hbw.1.1 | exact hbw.1.1.1 | exact hbw.1.1.1.1 | exact hbw.1.1.1.1.1 | exact hbw.1.1.1.1.1.1 | exact hbw.1.1.1.1.1.1.1)).mono fun _ _ ⟨b, c, h1, h2, h3, h4⟩ => ⟨b, c, h1, h2, h3, h4⟩) ?_)
            | refine Exists.intro (α := List Value) [iv b, iv a] ⟨⟨rfl, fun w' hw' => eQ w' hw'⟩, ?_⟩
            | refine Exists.intro (α := List Value) [iv b] ⟨⟨rfl, fun w' hw' => eQ0 w' hw'⟩, ?_⟩
        all_goals first | (exfalso; omega) | exact ⟨fun w' h => h.1, fun β w' hB hblk => ⟨(some ⟨β 2, 0, none⟩, β 3), by rw [hE]; rfl, (hblk 2 _ rfl rfl).imp fun _ q => Rd.of_owns (sz := 1) (f := iF) (bs := E0) (fun _ => rfl) rfl rfl (by rw [hE]; exact q)⟩⟩ | (trace_state; sorry)
    | false =>
      have hnx := hnx hpq
      rw [hpq] at hfk hqk
      generalize endL ⟨po, pn, pc, bo, bn, bc, f0, f1, f2, lo, ln, lc⟩ (rowP (frF BB LL) b a) false LL = E0 at o0
      generalize endD ⟨po, pn, pc, bo, bn, bc, f0, f1, f2, lo, ln, lc⟩ LL (rowP (frF BB LL) b a) false = x at *
      generalize limP PP BB b a * 216000 = lim at *
      have hqk := hqk.symm
      simp only [Bool.and_eq_false_iff, decide_eq_false_iff_not] at hqk
      by_cases hne : LL = []
      · have n0 := fun w' hb => n0 w' hb hne
        clear o0 hWo hWn
        repeat'
          conv => whnf
          first
            | refine And.intro (a := drawB _ = true) (by kernel_rfl) ?_
            | refine And.intro (a := (_ : Bool) = true) rfl ?_
            | refine And.intro (a := (_ : Bool) = true ∧ (_ : Bool) = true) ⟨rfl, rfl⟩ ?_
            | refine And.intro (a := (_ : Bool) = true ∧ (_ : List _) = []) ⟨rfl, rfl⟩ ?_
            | refine And.intro (a := IR _ _) (And.intro (by omega) (by omega)) ?_
            | refine wrapE (And.intro (by omega) (by omega)) ?_
            | refine And.intro (a := (0 : Int) ≤ _ ∧ _ < _) (And.intro (by omega) (by omega)) ?_
            | refine And.intro (a := (_ : Bool) = true) (by simp only [Nat.beq_refl]; rfl) ?_
            | refine And.intro (a := ((_ : Bool) = true → 1 ≤ _) ∧ _ ≤ 9223372036854775807 ∧ _ ≤ 140737488355328) ⟨fun h => (by first | omega | cases h), by omega, by omega⟩ ?_
            | refine splT ?_
            | refine splF ?_
            | refine splNot ?_
            | (refine splIn (fun hc => ?_) (fun hc => ?_) <;> first | (exfalso; omega) | (exfalso; dsimp only at hc; omega) | skip)
            | (refine splD (fun hc => ?_) (fun hc => ?_) <;> first | (exfalso; omega) | (exfalso; dsimp only at hc; omega) | skip)
            | (refine splE (fun hc => ?_) (fun hc => ?_) <;> first | (exfalso; omega) | (exfalso; dsimp only at hc; omega) | skip)
            | (refine splNE (fun hc => ?_) (fun hc => ?_) <;> first | (exfalso; omega) | (exfalso; dsimp only at hc; omega) | skip)
            | ((with_reducible show CallEv _ _ 40 _ _ _ _ _); refine callE (k := 40) (fun β w' hbw => n0 w' (by first | exact hbw | exact hbw.1 | exact hbw.1.1 | exact hbw.1.1.1 | exact hbw.1.1.1.1 | exact hbw.1.1.1.1.1 | exact hbw.1.1.1.1.1.1 | exact hbw.1.1.1.1.1.1.1)) ?_)
            | refine Exists.intro (α := List Value) [iv b, iv a] ⟨⟨rfl, fun w' hw' => eQ w' hw'⟩, ?_⟩
            | refine Exists.intro (α := List Value) [iv b] ⟨⟨rfl, fun w' hw' => eQ0 w' hw'⟩, ?_⟩
        all_goals first | (exfalso; omega) | exact ⟨k + 1, ⟨by omega, hnx⟩, by omega, Ent.weak rfl ⟨rfl, rfl, rfl, rfl, trivial⟩ ⟨rfl, rfl, trivial⟩ fun _ h => h⟩ | (trace_state; sorry)
      · have o0 := fun w' hb => o0 w' hb hne
        clear n0 hWo hWn
        repeat'
          conv => whnf
          first
            | refine And.intro (a := drawB _ = true) (by kernel_rfl) ?_
            | refine And.intro (a := (_ : Bool) = true) rfl ?_
            | refine And.intro (a := (_ : Bool) = true ∧ (_ : Bool) = true) ⟨rfl, rfl⟩ ?_
            | refine And.intro (a := (_ : Bool) = true ∧ (_ : List _) = []) ⟨rfl, rfl⟩ ?_
            | refine And.intro (a := IR _ _) (And.intro (by omega) (by omega)) ?_
            | refine wrapE (And.intro (by omega) (by omega)) ?_
            | refine And.intro (a := (0 : Int) ≤ _ ∧ _ < _) (And.intro (by omega) (by omega)) ?_
            | refine And.intro (a := (_ : Bool) = true) (by simp only [Nat.beq_refl]; rfl) ?_
            | refine And.intro (a := ((_ : Bool) = true → 1 ≤ _) ∧ _ ≤ 9223372036854775807 ∧ _ ≤ 140737488355328) ⟨fun h => (by first | omega | cases h), by omega, by omega⟩ ?_
            | refine splT ?_
            | refine splF ?_
            | refine splNot ?_
            | (refine splIn (fun hc => ?_) (fun hc => ?_) <;> first | (exfalso; omega) | (exfalso; dsimp only at hc; omega) | skip)
            | (refine splD (fun hc => ?_) (fun hc => ?_) <;> first | (exfalso; omega) | (exfalso; dsimp only at hc; omega) | skip)
            | (refine splE (fun hc => ?_) (fun hc => ?_) <;> first | (exfalso; omega) | (exfalso; dsimp only at hc; omega) | skip)
            | (refine splNE (fun hc => ?_) (fun hc => ?_) <;> first | (exfalso; omega) | (exfalso; dsimp only at hc; omega) | skip)
            | ((with_reducible show CallEv _ _ 40 _ _ _ _ _); refine callO 2 [] (.tup [.os 2 3 LL.length, .v (iv x)]) LL.length 1 (E0.flatMap iF) 3 rfl (fun β w' _ hbw => (o0 w' (by first | exact hbw | exact hbw.1 | exact hbw.1.1 | exact hbw.1.1.1 | exact hbw.1.1.1.1 | exact hbw.1.1.1.1.1 | exact hbw.1.1.1.1.1.1 | exact hbw.1.1.1.1.1.1.1)).mono fun _ _ ⟨b, c, h1, h2, h3, h4⟩ => ⟨b, c, h1, h2, h3, h4⟩) ?_)
            | refine Exists.intro (α := List Value) [iv b, iv a] ⟨⟨rfl, fun w' hw' => eQ w' hw'⟩, ?_⟩
            | refine Exists.intro (α := List Value) [iv b] ⟨⟨rfl, fun w' hw' => eQ0 w' hw'⟩, ?_⟩
        all_goals first | (exfalso; omega) | exact ⟨k + 1, ⟨by omega, hnx⟩, by omega, Ent.weak rfl ⟨rfl, rfl, rfl, rfl, trivial⟩ ⟨rfl, rfl, trivial⟩ fun _ h => h⟩ | (trace_state; sorry)
  · rw [List.drop_eq_nil_of_le hkl] at hfk
    have hfk : Q.find? pq = none := hfk
    rw [hfk]
    repeat'
      conv => whnf
      first
        | refine And.intro (a := drawB _ = true) (by kernel_rfl) ?_
        | refine And.intro (a := (_ : Bool) = true) rfl ?_
        | refine And.intro (a := (_ : Bool) = true ∧ (_ : Bool) = true) ⟨rfl, rfl⟩ ?_
        | refine And.intro (a := (_ : Bool) = true ∧ (_ : List _) = []) ⟨rfl, rfl⟩ ?_
        | refine And.intro (a := IR _ _) (And.intro (by omega) (by omega)) ?_
        | refine wrapE (And.intro (by omega) (by omega)) ?_
        | refine And.intro (a := (0 : Int) ≤ _ ∧ _ < _) (And.intro (by omega) (by omega)) ?_
        | refine And.intro (a := (_ : Bool) = true) (by simp only [Nat.beq_refl]; rfl) ?_
        | refine And.intro (a := ((_ : Bool) = true → 1 ≤ _) ∧ _ ≤ 9223372036854775807 ∧ _ ≤ 140737488355328) ⟨fun h => (by first | omega | cases h), by omega, by omega⟩ ?_
        | refine splT ?_
        | refine splF ?_
        | refine splNot ?_
        | (refine splIn (fun hc => ?_) (fun hc => ?_) <;> first | (exfalso; omega) | (exfalso; dsimp only at hc; omega) | skip)
        | (refine splD (fun hc => ?_) (fun hc => ?_) <;> first | (exfalso; omega) | (exfalso; dsimp only at hc; omega) | skip)
        | (refine splE (fun hc => ?_) (fun hc => ?_) <;> first | (exfalso; omega) | (exfalso; dsimp only at hc; omega) | skip)
        | (refine splNE (fun hc => ?_) (fun hc => ?_) <;> first | (exfalso; omega) | (exfalso; dsimp only at hc; omega) | skip)
    all_goals first | (exfalso; omega) | exact ⟨fun w' h => h.1, fun β w' hB hblk => ⟨(none, 0), rfl, fun _ _ => .inl ⟨rfl, rfl⟩⟩⟩ | (trace_state; sorry)
end Go.Proofs.Ytaciigegbgnadaa
